/- Contracts of library functions, in the forms in which the walks meet them. -/
import Derived.Test.YtendgmblgdkiaaaGreatGInternFull0
import Derived.Test.YtendgmblgdkiaaaGreatGInternFull11
import Derived.Test.YtendgmblgdkiaaaGreatGInternFull3
import Derived.IntWalk
namespace Go.Proofs.YtendgmblgdkiaaaGreat
open Go.RowKit
set_option linter.unusedVariables false
set_option linter.unusedSimpArgs false

theorem repeatL_one (b : UInt8) : ∀ n, Lib.repeatL [b] n = List.replicate n b
 | 0 => rfl
 | n + 1 => by simp [Lib.repeatL, repeatL_one b n, List.replicate_succ]

/-- strings.Repeat of one zero byte. -/
theorem rep_zero (n : Int) (w : World) (h0 : 0 ≤ n) (h : n ≤ 1000000) :
  Calls Tryz.prog 138 #[.string ⟨#[0]⟩, .int .i64 n] w fun e w' => e = .returned (.string (zeros n.toNat)) ∧ Below w.heap.size w w' := by
 obtain ⟨m, rfl⟩ := Int.eq_ofNat_of_zero_le h0
 have hs : (⟨#[0]⟩ : ByteArray).size = 1 := rfl
 refine (Tryz.strings_Repeat ⟨#[0]⟩ m w om_ (by rw [hs]; omega)).mono ?_
 rintro e w' ⟨rfl, hb⟩
 refine ⟨?_, hb⟩
 congr 2
 show (⟨(Lib.repeatL [0] m).toArray⟩ : ByteArray) = _
 rw [repeatL_one]
 simp [zeros]

end Go.Proofs.YtendgmblgdkiaaaGreat
