/- dowserref02.Four, plain. -/
import Derived.Test.YtogngmbjkdffaaaLV
import Derived.Test.YtogngmbjkdffaaaPKeysAllx8
namespace Go.Proofs.Ytogngmbjkdffaaa.PKeysAll
open Go.RowKit Go.Proofs.YtogngmbjkdffaaaW.PrintWords Go.Proofs.YtogngmbjkdffaaaW.PrintLast Go.Proofs.YtogngmbjkdffaaaW.PrintMore
set_option linter.unusedVariables false
set_option linter.unusedSimpArgs false

theorem refFour_f (x : Int) (h0 : 0 ≤ x) (h1 : x < 4294967296) : dowserref02_Four.f x = some (four x) := by
  rw [dowserref02_Four.f]
  have e1 : (Int.tdiv x 16777216 % 4294967296) % 256 = (x / 16777216) % 256 := by rw [Int.tdiv_eq_ediv_of_nonneg h0]; omega
  have e2 : (Int.tdiv x 65536 % 4294967296) % 256 = (x / 65536) % 256 := by rw [Int.tdiv_eq_ediv_of_nonneg h0]; omega
  have e3 : (Int.tdiv x 256 % 4294967296) % 256 = (x / 256) % 256 := by rw [Int.tdiv_eq_ediv_of_nonneg h0]; omega
  have e4 : Int.tmod x 256 % 256 = x % 256 := by rw [Int.tmod_eq_emod_of_nonneg h0]; omega
  rw [e1, e2, e3, e4]
  rfl
end Go.Proofs.Ytogngmbjkdffaaa.PKeysAll
