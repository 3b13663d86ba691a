/- dowserlaw21.KeysBytes, plain. -/
import Derived.Test.YtogngmbjkdffaaaLB
namespace Go.Proofs.Ytogngmbjkdffaaa.PKeysAll
open Go.RowKit Go.Proofs.YtogngmbjkdffaaaW.PrintWords Go.Proofs.YtogngmbjkdffaaaW.PrintLast Go.Proofs.YtogngmbjkdffaaaW.PrintMore
set_option linter.unusedVariables false
set_option linter.unusedSimpArgs false

theorem num_quad (x : Int) (h0 : 0 ≤ x) (h1 : x < 4294967296) : (numOf [u8 ((x / 16777216) % 256), u8 ((x / 65536) % 256), u8 ((x / 256) % 256), u8 (x % 256)] : Int) = x := num_four x h0 h1

theorem parse_keyP (k : Nat) (hk : 8 < k) (rev : Int) (h0 : 0 ≤ rev) (h1 : rev ≤ 2147483647) : keys_Parse.f (k + 1) (keyP rev) = some (2, rev, 0, 0, 0, 0, 0, true) := by
  have h := u8_nat ((rev / 16777216) % 256) (by omega) (by omega)
  rw [keyP, parse_p k hk, if_pos (by omega), num_quad rev h0 (by omega)]

theorem parse_keyF (k : Nat) (hk : 8 < k) (rev fact a b : Int) (h0 : 0 ≤ rev) (h1 : rev ≤ 2147483647) (f0 : 0 ≤ fact) (f1 : fact ≤ 255) (a0 : 0 ≤ a) (a1 : a ≤ 65535) (b0 : 0 ≤ b) (b1 : b ≤ 255) :
    keys_Parse.f (k + 2) (keyF rev fact a b) = some (3, rev, fact, a, b, 0, 0, true) := by
  have h := u8_nat ((rev / 16777216) % 256) (by omega) (by omega)
  have hf := u8_nat (fact % 256) (by omega) (by omega)
  have hb := u8_nat (b % 256) (by omega) (by omega)
  have ha := u8_nat ((a / 256) % 256) (by omega) (by omega)
  have ha2 := u8_nat (a % 256) (by omega) (by omega)
  rw [keyF, parse_fact k hk, if_pos (by omega), num_quad rev h0 (by omega), num2, hf, hb, ha, ha2]
  have e1 : fact % 256 = fact := by omega
  have e2 : b % 256 = b := by omega
  have e3 : a / 256 % 256 * 256 + a % 256 = a := by omega
  rw [e1, e2, e3]

theorem parse_keyS (k : Nat) (hk : 10 < k) (sum n : Int) (h0 : 0 ≤ sum) (h1 : sum < 4294967296) (n0 : 0 ≤ n) (n1 : n ≤ 255) : keys_Parse.f (k + 2) (keyS sum n) = some (4, 0, 0, 0, 0, sum, n, true) := by
  have hn := u8_nat (n % 256) (by omega) (by omega)
  rw [keyS, parse_text k hk, num_quad sum h0 h1, hn]
  have e1 : n % 256 = n := by omega
  rw [e1]

theorem facts_B (rev : Int) (h0 : 0 ≤ rev) (h1 : rev ≤ 2147483647) : keys_Facts.f rev = some (⟨#[102]⟩ ++ four rev) := by
  rw [keys_Facts.f, Int.emod_eq_of_lt h0 (by omega), four_f, Option.bind_some, if_pos (by rw [four_size]; decide)]

/-- What Bytes says of a key that may be. -/
theorem kbytes_f (kind rev fact a b sum n : Int) (hg : good kind rev fact a b sum n = true) : keys_Key_Bytes.f kind rev fact a b sum n = some (keyBytes kind rev fact a b sum n) := by
  have hg' := hg
  simp only [good, rangeOk, Bool.and_eq_true, decide_eq_true_eq] at hg'
  obtain ⟨⟨hr, hf, ha, hb, hn⟩, hk⟩ := hg'
  rw [keyBytes, if_pos hg, keys_Key_Bytes.f]
  by_cases k2 : kind = 2
  · rw [if_pos k2, if_neg (by omega), if_pos k2, Int.emod_eq_of_lt hr.1 (by omega), four_f, Option.bind_some, if_pos (by rw [four_size]; decide), p_app]
  · rw [if_neg k2]
    by_cases k3 : kind = 3
    · rw [if_pos k3, if_neg (by omega), if_neg k2, if_pos k3, facts_B rev hr.1 hr.2, Option.bind_some, Option.bind_some, if_pos (by rw [f_size]; decide), f_app]; rfl
    · rw [if_neg k3]
      by_cases k4 : kind = 4
      · rw [if_pos k4, if_neg (by omega), if_neg k2, if_neg k3, refkey_f, Option.bind_some]; rfl
      · rw [if_neg k4, if_pos (by omega)]; rfl

/-- What Parse says of the bytes of a key that may be. -/
theorem parse_B (k : Nat) (hk : 20 < k) (kind rev fact a b sum n : Int) (hs0 : 0 ≤ sum) (hs1 : sum < 4294967296) (hg : good kind rev fact a b sum n = true) : keys_Parse.f k (keyBytes kind rev fact a b sum n) = some (kind, rev, fact, a, b, sum, n, true) := by
  have hg' := hg
  simp only [good, rangeOk, Bool.and_eq_true, decide_eq_true_eq] at hg'
  obtain ⟨⟨hr, hf, ha, hb, hn⟩, hk'⟩ := hg'
  obtain ⟨k, rfl⟩ : ∃ j, k = j + 2 := ⟨k - 2, by omega⟩
  rw [keyBytes, if_pos hg]
  by_cases k1 : kind = 1
  · obtain ⟨rfl, rfl, rfl, rfl, rfl, rfl⟩ : rev = 0 ∧ fact = 0 ∧ a = 0 ∧ b = 0 ∧ sum = 0 ∧ n = 0 := by omega
    rw [if_pos k1, keyN, parse_n, k1]
  · rw [if_neg k1]
    by_cases k2 : kind = 2
    · obtain ⟨rfl, rfl, rfl, rfl, rfl⟩ : fact = 0 ∧ a = 0 ∧ b = 0 ∧ sum = 0 ∧ n = 0 := by omega
      rw [if_pos k2, parse_keyP (k + 1) (by omega) rev hr.1 hr.2, k2]
    · rw [if_neg k2]
      by_cases k3 : kind = 3
      · obtain ⟨rfl, rfl⟩ : sum = 0 ∧ n = 0 := by omega
        rw [if_pos k3, parse_keyF k (by omega) rev fact a b hr.1 hr.2 hf.1 hf.2 ha.1 ha.2 hb.1 hb.2, k3]
      · obtain ⟨rfl, rfl, rfl, rfl, rfl⟩ : kind = 4 ∧ rev = 0 ∧ fact = 0 ∧ a = 0 ∧ b = 0 := by omega
        rw [if_neg k3, parse_keyS k (by omega) sum n hs0 hs1 hn.1 hn.2]

theorem size_B (kind rev fact a b sum n : Int) (hg : good kind rev fact a b sum n = true) : 0 < (keyBytes kind rev fact a b sum n).size ∧ (keyBytes kind rev fact a b sum n).size ≤ 16 := by
  rw [keyBytes, if_pos hg]
  by_cases k1 : kind = 1
  · rw [if_pos k1]; exact ⟨by decide, by decide⟩
  · rw [if_neg k1]
    by_cases k2 : kind = 2
    · rw [if_pos k2]; exact ⟨(show 0 < 5 by decide), (show 5 ≤ 16 by decide)⟩
    · rw [if_neg k2]
      by_cases k3 : kind = 3
      · rw [if_pos k3]; exact ⟨(show 0 < 9 by decide), (show 9 ≤ 16 by decide)⟩
      · rw [if_neg k3]; exact ⟨(show 0 < 6 by decide), (show 6 ≤ 16 by decide)⟩

theorem keysbytes_f (kind rev fact a b sum n : Int) (hs0 : 0 ≤ sum) (hs1 : sum < 4294967296) : dowserlaw21_KeysBytes.f 40 kind rev fact a b sum n = some true := by
  have hb := bytes_f 35 kind rev fact a b sum n hs0 hs1
  have hc := check_f 39 kind rev fact a b sum n
  rw [dowserlaw21_KeysBytes.f, awake_f, Option.bind_some, if_pos rfl, hb, Option.bind_some, hc]
  cases hg : good kind rev fact a b sum n with
  | false =>
    have e : keyBytes kind rev fact a b sum n = ⟨#[]⟩ := by rw [keyBytes, if_neg (by rw [hg]; decide)]
    rw [e, if_pos (by rw [ByteArray.toList_eq]), Option.bind_some, if_neg (by decide)]
    rfl
  | true =>
    have hz := size_B kind rev fact a b sum n hg
    have hne : ¬ (keyBytes kind rev fact a b sum n).toList = ([] : List UInt8) := by
      intro h
      rw [ByteArray.toList_eq] at h
      have : (keyBytes kind rev fact a b sum n).data.toList.length = 0 := by rw [h]; rfl
      rw [Array.length_toList] at this
      exact absurd hz.1 (by show ¬ 0 < (keyBytes kind rev fact a b sum n).data.size; omega)
    rw [if_neg hne, parse_B 40 (by decide) kind rev fact a b sum n hs0 hs1 hg, Option.bind_some, if_pos rfl, Option.bind_some, if_pos rfl, kbytes_f kind rev fact a b sum n hg, Option.bind_some, if_pos rfl, if_pos rfl, if_pos (by simp)]
    have : ((keyBytes kind rev fact a b sum n).size : Int) ≤ 16 := by omega
    rw [decide_eq_true this]
end Go.Proofs.Ytogngmbjkdffaaa.PKeysAll
