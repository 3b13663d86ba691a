/- keys.Facts and Key.Bytes, plain. -/
import Derived.Test.YtogngmbjkdffaaaLH
namespace Go.Proofs.Ytogngmbjkdffaaa.PKeysAll
open Go.RowKit Go.Proofs.YtogngmbjkdffaaaW.PrintWords Go.Proofs.YtogngmbjkdffaaaW.PrintLast Go.Proofs.YtogngmbjkdffaaaW.PrintMore
set_option linter.unusedVariables false
set_option linter.unusedSimpArgs false

theorem facts_B (rev : Int) (h0 : 0 ≤ rev) (h1 : rev ≤ 2147483647) : keys_Facts.f rev = some (⟨#[102]⟩ ++ four rev) := by
  rw [keys_Facts.f, Int.emod_eq_of_lt h0 (by omega), four_f, Option.bind_some, if_pos (by rw [four_size]; decide)]

/-- What Bytes says of a key that may be. -/
theorem kbytes_f (kind rev fact a b sum n : Int) (hg : good kind rev fact a b sum n = true) : keys_Key_Bytes.f kind rev fact a b sum n = some (keyBytes kind rev fact a b sum n) := by
  have hg' := hg
  simp only [good, rangeOk, Bool.and_eq_true, decide_eq_true_eq] at hg'
  obtain ⟨⟨hr, hf, ha, hb, hn⟩, hk⟩ := hg'
  rw [keyBytes, if_pos hg, keys_Key_Bytes.f]
  by_cases k2 : kind = 2
  · rw [if_pos k2, if_neg (by omega), if_pos k2, Int.emod_eq_of_lt hr.1 (by omega), four_f, Option.bind_some, if_pos (by rw [four_size]; decide), p_app]
  · rw [if_neg k2]
    by_cases k3 : kind = 3
    · rw [if_pos k3, if_neg (by omega), if_neg k2, if_pos k3, facts_B rev hr.1 hr.2, Option.bind_some, Option.bind_some, if_pos (by rw [f_size]; decide), f_app]; rfl
    · rw [if_neg k3]
      by_cases k4 : kind = 4
      · rw [if_pos k4, if_neg (by omega), if_neg k2, if_neg k3, refkey_f, Option.bind_some]; rfl
      · rw [if_neg k4, if_pos (by omega)]; rfl

end Go.Proofs.Ytogngmbjkdffaaa.PKeysAll
