/- keys.Check and keys.Parse, plain. -/
import Derived.Test.YtogngmbjkdffaaaLV
namespace Go.Proofs.Ytogngmbjkdffaaa.PKeysAll
open Go.RowKit Go.Proofs.YtogngmbjkdffaaaW.PrintWords Go.Proofs.YtogngmbjkdffaaaW.PrintLast Go.Proofs.YtogngmbjkdffaaaW.PrintMore
set_option linter.unusedVariables false
set_option linter.unusedSimpArgs false

theorem within_f (x m : Int) : keys_within.f x m = some (decide (0 ≤ x ∧ x ≤ m)) := by
  rw [keys_within.f]
  by_cases h : x ≥ 0
  · rw [if_pos h]; simp [h]
  · rw [if_neg h]
    have : ¬ (0 ≤ x ∧ x ≤ m) := by omega
    simp [this]

def rangeOk (rev fact a b n : Int) : Bool := decide ((0 ≤ rev ∧ rev ≤ 2147483647) ∧ (0 ≤ fact ∧ fact ≤ 255) ∧ (0 ≤ a ∧ a ≤ 65535) ∧ (0 ≤ b ∧ b ≤ 255) ∧ (0 ≤ n ∧ n ≤ 255))

theorem check_j0 (k : Nat) (kind rev fact a b sum n : Int) : keys_Key_Check.f k kind rev fact a b sum n = keys_Key_Check.j0 k (rangeOk rev fact a b n) kind rev fact a b sum n := by
  simp only [keys_Key_Check.f, within_f, Option.bind_some]
  by_cases h1 : 0 ≤ rev ∧ rev ≤ 2147483647
  · by_cases h2 : 0 ≤ fact ∧ fact ≤ 255
    · by_cases h3 : 0 ≤ a ∧ a ≤ 65535
      · by_cases h4 : 0 ≤ b ∧ b ≤ 255
        · have e : rangeOk rev fact a b n = decide (0 ≤ n ∧ n ≤ 255) := by simp [rangeOk, h1, h2, h3, h4]
          simp [h1, h2, h3, h4, e]
        · have e : rangeOk rev fact a b n = false := by simp only [rangeOk, decide_eq_false_iff_not]; omega
          rw [e]; simp [h1, h2, h3, h4]
      · have e : rangeOk rev fact a b n = false := by simp only [rangeOk, decide_eq_false_iff_not]; omega
        rw [e]; simp [h1, h2, h3]
    · have e : rangeOk rev fact a b n = false := by simp only [rangeOk, decide_eq_false_iff_not]; omega
      rw [e]; simp [h1, h2]
  · have e : rangeOk rev fact a b n = false := by simp only [rangeOk, decide_eq_false_iff_not]; omega
    rw [e]; simp [h1]

/-- May a key be? -/
def good (kind rev fact a b sum n : Int) : Bool :=
  rangeOk rev fact a b n && decide ((kind = 1 ∧ rev = 0 ∧ fact = 0 ∧ a = 0 ∧ b = 0 ∧ sum = 0 ∧ n = 0) ∨ (kind = 2 ∧ fact = 0 ∧ a = 0 ∧ b = 0 ∧ sum = 0 ∧ n = 0) ∨ (kind = 3 ∧ sum = 0 ∧ n = 0) ∨ (kind = 4 ∧ rev = 0 ∧ fact = 0 ∧ a = 0 ∧ b = 0))

theorem bor {p q : Bool} : (p || q) = true ↔ p = true ∨ q = true := by simp

theorem check_f (k : Nat) (kind rev fact a b sum n : Int) : keys_Key_Check.f (k + 1) kind rev fact a b sum n = some (if good kind rev fact a b sum n = true then 0 else 1) := by
  rw [check_j0, keys_Key_Check.j0]
  cases hr : rangeOk rev fact a b n with
  | false => simp [good, hr]
  | true =>
    simp only [good, hr, Bool.true_and, decide_eq_true_eq, if_true]
    by_cases k1 : kind = 1
    · subst k1
      rw [if_pos rfl]
      by_cases hx : rev = 0 ∧ fact = 0 ∧ a = 0 ∧ b = 0 ∧ sum = 0 ∧ n = 0
      · obtain ⟨rfl, rfl, rfl, rfl, rfl, rfl⟩ := hx
        simp
      · rw [if_pos, if_neg (by omega)]
        simp only [bor, Bool.not_eq_true', beq_eq_false_iff_ne]
        omega
    · by_cases k2 : kind = 2
      · subst k2
        rw [if_neg k1, if_pos rfl]
        by_cases hx : fact = 0 ∧ a = 0 ∧ b = 0 ∧ sum = 0 ∧ n = 0
        · obtain ⟨rfl, rfl, rfl, rfl, rfl⟩ := hx
          simp
        · rw [if_pos, if_neg (by omega)]
          simp only [bor, Bool.not_eq_true', beq_eq_false_iff_ne]
          omega
      · by_cases k3 : kind = 3
        · subst k3
          rw [if_neg k1, if_neg k2, if_pos rfl]
          by_cases hx : sum = 0 ∧ n = 0
          · obtain ⟨rfl, rfl⟩ := hx
            simp
          · rw [if_pos, if_neg (by omega)]
            simp only [bor, Bool.not_eq_true', beq_eq_false_iff_ne]
            omega
        · by_cases k4 : kind = 4
          · subst k4
            rw [if_neg k1, if_neg k2, if_neg k3, if_pos rfl]
            by_cases hx : rev = 0 ∧ fact = 0 ∧ a = 0 ∧ b = 0
            · obtain ⟨rfl, rfl, rfl, rfl⟩ := hx
              simp
            · rw [if_pos, if_neg (by omega)]
              simp only [bor, Bool.not_eq_true', beq_eq_false_iff_ne]
              omega
          · rw [if_neg k1, if_neg k2, if_neg k3, if_neg k4, if_neg (by omega)]
end Go.Proofs.Ytogngmbjkdffaaa.PKeysAll
