/- What awake's disk is, plain. -/
import Derived.Test.YtcbefilcdelplaaRtU
namespace Go.Proofs.Ytcbefilcdelplaa
open Go.RowKit
open Proot (Rt)
set_option linter.unusedVariables false
set_option linter.unusedSimpArgs false

def r5 : Rt := ⟨0, 0, -1, 0, 5, 0⟩
def r5' : Rt := ⟨1, 0, -1, 0, 5, 0⟩
theorem make_found : (Dk.make 2).found 2 = Found.start := by kernel_rfl
theorem make_down : (Dk.make 2).down = false := rfl
theorem r5_valid : r5.validB = true := by kernel_rfl
theorem pub5_e : ((Dk.make 2).pub 0 r5'.text).2 = 0 := by kernel_rfl
theorem pub5_down : ((Dk.make 2).pub 0 r5'.text).1.down = false := by kernel_rfl
theorem pub5_out : (((Dk.make 2).pub 0 r5'.text).1.found 2).out = r5' := by kernel_rfl
theorem pub5_now : (((Dk.make 2).pub 0 r5'.text).1.found 2).now = 0 := by kernel_rfl
end Go.Proofs.Ytcbefilcdelplaa
