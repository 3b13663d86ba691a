/- Closed facts on the program that every row of this seat asks. -/
import Derived.Test.YtendgmblgdkiaaaGreatGInternFull0
import Derived.Test.YtendgmblgdkiaaaGreatRows
import Derived.JoinedOf
import Derived.KernelRfl
namespace Go.Proofs.YtendgmblgdkiaaaGreat.Facts
theorem laid : laidOutB Tryz.prog = true := by kernel_rfl
theorem rowed : mapsRowed Tryz.prog = true := by kernel_rfl
theorem heard : Tryz.prog.stopsHeard = true := by kernel_rfl
end Go.Proofs.YtendgmblgdkiaaaGreat.Facts
