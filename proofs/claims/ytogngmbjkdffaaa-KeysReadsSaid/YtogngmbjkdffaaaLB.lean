/- dowserlaw21.bytes, plain. -/
import Derived.Test.YtogngmbjkdffaaaLU
import Derived.Test.YtogngmbjkdffaaaLS
import Derived.Test.YtogngmbjkdffaaaPKeysAllx9
namespace Go.Proofs.Ytogngmbjkdffaaa.PKeysAll
open Go.RowKit Go.Proofs.YtogngmbjkdffaaaW.PrintWords Go.Proofs.YtogngmbjkdffaaaW.PrintLast Go.Proofs.YtogngmbjkdffaaaW.PrintMore
set_option linter.unusedVariables false
set_option linter.unusedSimpArgs false

theorem lam_f (x m : Int) : dowserlaw21_bytesLam1.f x m = some (decide (0 ≤ x ∧ x ≤ m)) := by
  rw [dowserlaw21_bytesLam1.f]
  by_cases h : x ≥ 0
  · rw [if_pos h]; simp [h]
  · rw [if_neg h]
    have : ¬ (0 ≤ x ∧ x ≤ m) := by omega
    simp [this]

def keyN : ByteArray := ⟨#[110]⟩
def keyP (rev : Int) : ByteArray := ⟨#[112, u8 ((rev / 16777216) % 256), u8 ((rev / 65536) % 256), u8 ((rev / 256) % 256), u8 (rev % 256)]⟩
def keyF (rev fact a b : Int) : ByteArray := ⟨#[102, u8 ((rev / 16777216) % 256), u8 ((rev / 65536) % 256), u8 ((rev / 256) % 256), u8 (rev % 256), u8 (fact % 256), u8 ((a / 256) % 256), u8 (a % 256), u8 (b % 256)]⟩
def keyS (sum n : Int) : ByteArray := ⟨#[115, u8 ((sum / 16777216) % 256), u8 ((sum / 65536) % 256), u8 ((sum / 256) % 256), u8 (sum % 256), u8 (n % 256)]⟩

theorem j0_B (k : Nat) (B : Bool) (kind rev fact a b sum n : Int) : dowserlaw21_bytes.j0 (k + 1) B kind rev fact a b sum n = dowserlaw21_bytes.j1 k B (sum == 0 && n == 0) (!rangeOk rev fact a b n) kind rev fact a b sum n := by
  simp only [dowserlaw21_bytes.j0, lam_f, Option.bind_some]
  by_cases h1 : 0 ≤ rev ∧ rev ≤ 2147483647
  · by_cases h2 : 0 ≤ fact ∧ fact ≤ 255
    · by_cases h3 : 0 ≤ a ∧ a ≤ 65535
      · by_cases h4 : 0 ≤ b ∧ b ≤ 255
        · have e : rangeOk rev fact a b n = decide (0 ≤ n ∧ n ≤ 255) := by simp [rangeOk, h1, h2, h3, h4]
          simp [h1, h2, h3, h4, e]
        · have e : rangeOk rev fact a b n = false := by simp only [rangeOk, decide_eq_false_iff_not]; omega
          rw [e]; simp [h1, h2, h3, h4]
      · have e : rangeOk rev fact a b n = false := by simp only [rangeOk, decide_eq_false_iff_not]; omega
        rw [e]; simp [h1, h2, h3]
    · have e : rangeOk rev fact a b n = false := by simp only [rangeOk, decide_eq_false_iff_not]; omega
      rw [e]; simp [h1, h2]
  · have e : rangeOk rev fact a b n = false := by simp only [rangeOk, decide_eq_false_iff_not]; omega
    rw [e]; simp [h1]

theorem f_B (k : Nat) (kind rev fact a b sum n : Int) : dowserlaw21_bytes.f (k + 1) kind rev fact a b sum n = dowserlaw21_bytes.j1 k (decide (fact = 0 ∧ a = 0 ∧ b = 0)) (sum == 0 && n == 0) (!rangeOk rev fact a b n) kind rev fact a b sum n := by
  rw [dowserlaw21_bytes.f]
  by_cases h1 : fact = 0
  · by_cases h2 : a = 0
    · have e : decide (fact = 0 ∧ a = 0 ∧ b = 0) = (b == 0) := by simp [h1, h2]; rfl
      rw [if_pos h1, if_pos h2, j0_B, e]
    · have e : decide (fact = 0 ∧ a = 0 ∧ b = 0) = false := by simp [h2]
      rw [if_pos h1, if_neg h2, j0_B, e]
  · have e : decide (fact = 0 ∧ a = 0 ∧ b = 0) = false := by simp [h1]
    rw [if_neg h1, j0_B, e]

theorem four_mod (x : Int) (h0 : 0 ≤ x) (h1 : x ≤ 2147483647) : dowserref02_Four.f (x % 4294967296) = some (four x) := by
  rw [Int.emod_eq_of_lt h0 (by omega)]
  exact refFour_f x h0 (by omega)
theorem p_app (rev : Int) : (⟨#[112]⟩ : ByteArray) ++ four rev = keyP rev := rfl
theorem f_app (rev x y z v : Int) : ((⟨#[102]⟩ : ByteArray) ++ four rev) ++ strOfNums [x, y, z, v] = ⟨#[102, u8 ((rev / 16777216) % 256), u8 ((rev / 65536) % 256), u8 ((rev / 256) % 256), u8 (rev % 256), u8 x, u8 y, u8 z, u8 v]⟩ := rfl
theorem s_app (sum n : Int) : ((⟨#[115]⟩ : ByteArray) ++ four sum) ++ strOfNums [n] = ⟨#[115, u8 ((sum / 16777216) % 256), u8 ((sum / 65536) % 256), u8 ((sum / 256) % 256), u8 (sum % 256), u8 n]⟩ := rfl
theorem f_size (rev x y z v : Int) : ((⟨#[102]⟩ : ByteArray) ++ four rev).size + (strOfNums [x, y, z, v]).size = 9 := rfl
theorem s_size (sum n : Int) : ((⟨#[115]⟩ : ByteArray) ++ four sum).size + (strOfNums [n]).size = 6 := rfl

/-- Where the numbers are in their bounds. -/
theorem j1_B (k : Nat) (B R : Bool) (kind rev fact a b sum n : Int) (h0 : 0 ≤ rev) (h1 : rev ≤ 2147483647) (ha0 : 0 ≤ a) (ha1 : a ≤ 65535) (hs0 : 0 ≤ sum) (hs1 : sum < 4294967296) :
    dowserlaw21_bytes.j1 (k + 4) B R false kind rev fact a b sum n = some (if kind = 1 ∧ rev = 0 ∧ B = true ∧ R = true then keyN else if kind = 2 ∧ B = true ∧ R = true then keyP rev else if kind = 3 ∧ R = true then keyF rev fact a b else if kind = 4 ∧ rev = 0 ∧ B = true then keyS sum n else ⟨#[]⟩) := by
  have hq : wrap64 (Int.tdiv a 256) = a / 256 := by rw [Int.tdiv_eq_ediv_of_nonneg ha0]; exact IntWalk.wrap64_in _ (by omega)
  have hr : Int.tmod a 256 = a % 256 := by rw [Int.tmod_eq_emod_of_nonneg ha0]
  have hr2 : a % 256 % 256 = a % 256 := by omega
  rw [dowserlaw21_bytes.j1, if_neg (by decide)]
  have J4 : ∀ C : Bool, (kind = 1 → rev = 0 → B = true → R = false) → (kind = 2 → B = true → R = false) → (C = true ↔ (kind = 3 ∧ R = true)) → dowserlaw21_bytes.j4 (k + 1) B C kind rev fact a b sum n = some (if kind = 1 ∧ rev = 0 ∧ B = true ∧ R = true then keyN else if kind = 2 ∧ B = true ∧ R = true then keyP rev else if kind = 3 ∧ R = true then keyF rev fact a b else if kind = 4 ∧ rev = 0 ∧ B = true then keyS sum n else ⟨#[]⟩) := by
    intro C n1 n2 hC
    rw [if_neg (by rintro ⟨x, y, z, v⟩; rw [n1 x y z] at v; cases v), if_neg (by rintro ⟨x, y, z⟩; rw [n2 x y] at z; cases z), dowserlaw21_bytes.j4]
    by_cases hc : C = true
    · rw [if_pos hc, if_pos (hC.1 hc), four_mod rev h0 h1, Option.bind_some, if_pos (by rw [four_size]; decide), Option.bind_some, hq, hr, hr2, if_pos (by rw [f_size]; decide), f_app]; rfl
    · rw [if_neg hc, if_neg (fun x => hc (hC.2 x))]
      by_cases k4 : kind = 4
      · rw [if_pos k4]
        by_cases r0 : rev = 0
        · rw [if_pos r0]
          by_cases hB : B = true
          · rw [if_pos hB, if_pos ⟨k4, r0, hB⟩, refFour_f sum hs0 hs1, Option.bind_some, if_pos (by rw [four_size]; decide), Option.bind_some, if_pos (by rw [s_size]; decide), s_app]; rfl
          · rw [if_neg hB, if_neg (fun x => hB x.2.2)]
        · rw [if_neg r0, if_neg (fun x => r0 x.2.1)]
      · rw [if_neg k4, if_neg (fun x => k4 x.1)]
  have J3 : ∀ C : Bool, (kind = 1 → rev = 0 → B = true → R = false) → (C = true ↔ (kind = 2 ∧ B = true ∧ R = true)) → dowserlaw21_bytes.j3 (k + 2) B R C kind rev fact a b sum n = some (if kind = 1 ∧ rev = 0 ∧ B = true ∧ R = true then keyN else if kind = 2 ∧ B = true ∧ R = true then keyP rev else if kind = 3 ∧ R = true then keyF rev fact a b else if kind = 4 ∧ rev = 0 ∧ B = true then keyS sum n else ⟨#[]⟩) := by
    intro C n1 hC
    rw [dowserlaw21_bytes.j3]
    by_cases hc : C = true
    · rw [if_pos hc, if_neg (by rintro ⟨x, y, z, v⟩; rw [n1 x y z] at v; cases v), if_pos (hC.1 hc), four_mod rev h0 h1, Option.bind_some, if_pos (by rw [four_size]; decide), p_app]
    · rw [if_neg hc]
      have n2 : kind = 2 → B = true → R = false := by
        intro x y
        cases hR : R with
        | false => rfl
        | true => exact absurd (hC.2 ⟨x, y, hR⟩) hc
      by_cases k3 : kind = 3
      · rw [if_pos k3]; exact J4 R n1 n2 ⟨fun h => ⟨k3, h⟩, fun h => h.2⟩
      · rw [if_neg k3]; exact J4 false n1 n2 ⟨fun h => (by cases h), fun h => absurd h.1 k3⟩
  have J2 : ∀ C : Bool, (C = true ↔ (kind = 1 ∧ rev = 0 ∧ B = true ∧ R = true)) → dowserlaw21_bytes.j2 (k + 3) B R C kind rev fact a b sum n = some (if kind = 1 ∧ rev = 0 ∧ B = true ∧ R = true then keyN else if kind = 2 ∧ B = true ∧ R = true then keyP rev else if kind = 3 ∧ R = true then keyF rev fact a b else if kind = 4 ∧ rev = 0 ∧ B = true then keyS sum n else ⟨#[]⟩) := by
    intro C hC
    rw [dowserlaw21_bytes.j2]
    by_cases hc : C = true
    · rw [if_pos hc, if_pos (hC.1 hc)]; rfl
    · rw [if_neg hc]
      have n1 : kind = 1 → rev = 0 → B = true → R = false := by
        intro x y z
        cases hR : R with
        | false => rfl
        | true => exact absurd (hC.2 ⟨x, y, z, hR⟩) hc
      by_cases k2 : kind = 2
      · rw [if_pos k2]
        by_cases hB : B = true
        · rw [if_pos hB]; exact J3 R n1 ⟨fun h => ⟨k2, hB, h⟩, fun h => h.2.2⟩
        · rw [if_neg hB]; exact J3 false n1 ⟨fun h => (by cases h), fun h => absurd h.2.1 hB⟩
      · rw [if_neg k2]; exact J3 false n1 ⟨fun h => (by cases h), fun h => absurd h.1 k2⟩
  by_cases k1 : kind = 1
  · rw [if_pos k1]
    by_cases r0 : rev = 0
    · rw [if_pos r0]
      by_cases hB : B = true
      · rw [if_pos hB]; exact J2 R ⟨fun h => ⟨k1, r0, hB, h⟩, fun h => h.2.2.2⟩
      · rw [if_neg hB]; exact J2 false ⟨fun h => (by cases h), fun h => absurd h.2.2.1 hB⟩
    · rw [if_neg r0]; exact J2 false ⟨fun h => (by cases h), fun h => absurd h.2.1 r0⟩
  · rw [if_neg k1]; exact J2 false ⟨fun h => (by cases h), fun h => absurd h.1 k1⟩

/-- A key's bytes, as the document says. -/
def keyBytes (kind rev fact a b sum n : Int) : ByteArray :=
  if good kind rev fact a b sum n = true then (if kind = 1 then keyN else if kind = 2 then keyP rev else if kind = 3 then keyF rev fact a b else keyS sum n) else ⟨#[]⟩

theorem bytes_f (k : Nat) (kind rev fact a b sum n : Int) (hs0 : 0 ≤ sum) (hs1 : sum < 4294967296) : dowserlaw21_bytes.f (k + 5) kind rev fact a b sum n = some (keyBytes kind rev fact a b sum n) := by
  rw [f_B]
  cases hr : rangeOk rev fact a b n with
  | false =>
    have hg : good kind rev fact a b sum n = false := by simp [good, hr]
    simp only [Bool.not_false]
    rw [dowserlaw21_bytes.j1, if_pos rfl, keyBytes, if_neg (by rw [hg]; decide)]
  | true =>
    have hr' := hr
    simp only [rangeOk, decide_eq_true_eq] at hr'
    simp only [Bool.not_true]
    rw [j1_B k _ _ kind rev fact a b sum n hr'.1.1 hr'.1.2 hr'.2.2.1.1 hr'.2.2.1.2 hs0 hs1, keyBytes]
    simp only [decide_eq_true_eq, Bool.and_eq_true, beq_iff_eq]
    have hg : (good kind rev fact a b sum n = true) ↔ ((kind = 1 ∧ rev = 0 ∧ fact = 0 ∧ a = 0 ∧ b = 0 ∧ sum = 0 ∧ n = 0) ∨ (kind = 2 ∧ fact = 0 ∧ a = 0 ∧ b = 0 ∧ sum = 0 ∧ n = 0) ∨ (kind = 3 ∧ sum = 0 ∧ n = 0) ∨ (kind = 4 ∧ rev = 0 ∧ fact = 0 ∧ a = 0 ∧ b = 0)) := by simp [good, hr]
    congr 1
    by_cases c1 : kind = 1 ∧ rev = 0 ∧ (fact = 0 ∧ a = 0 ∧ b = 0) ∧ sum = 0 ∧ n = 0
    · rw [if_pos c1, if_pos (hg.2 (by omega)), if_pos c1.1]
    · rw [if_neg c1]
      by_cases c2 : kind = 2 ∧ (fact = 0 ∧ a = 0 ∧ b = 0) ∧ sum = 0 ∧ n = 0
      · rw [if_pos c2, if_pos (hg.2 (by omega)), if_neg (by omega), if_pos c2.1]
      · rw [if_neg c2]
        by_cases c3 : kind = 3 ∧ sum = 0 ∧ n = 0
        · rw [if_pos c3, if_pos (hg.2 (by omega)), if_neg (by omega), if_neg (by omega), if_pos c3.1]
        · rw [if_neg c3]
          by_cases c4 : kind = 4 ∧ rev = 0 ∧ fact = 0 ∧ a = 0 ∧ b = 0
          · rw [if_pos c4, if_pos (hg.2 (by omega)), if_neg (by omega), if_neg (by omega), if_neg (by omega)]
          · rw [if_neg c4, if_neg (fun h => by have := hg.1 h; omega)]
end Go.Proofs.Ytogngmbjkdffaaa.PKeysAll
