/- KeysValues, plain: the values of facts and of the counter, there and back. -/
import Derived.Test.YtogngmbjkdffaaaLV
import Derived.Test.YtogngmbjkdffaaaPKeysAllx11
namespace Go.Proofs.Ytogngmbjkdffaaa.PKeysAll
open Go.RowKit Go.Proofs.YtogngmbjkdffaaaW.PrintWords Go.Proofs.YtogngmbjkdffaaaW.PrintLast Go.Proofs.YtogngmbjkdffaaaW.PrintMore
set_option linter.unusedVariables false
set_option linter.unusedSimpArgs false

theorem value_f (x n : Int) : keys_Value.f x n = some ⟨#[115, u8 ((x / 16777216) % 256), u8 ((x / 65536) % 256), u8 ((x / 256) % 256), u8 (x % 256), u8 (n % 256)]⟩ := by
  rw [keys_Value.f, refkey_f]; rfl
theorem value_back (a b c d n : UInt8) : keys_Value.f (numOf [a, b, c, d] : Int) (n.toNat : Int) = some ⟨#[115, a, b, c, d, n]⟩ := by
  have := a.toNat_lt; have := b.toNat_lt; have := c.toNat_lt; have := d.toNat_lt; have := n.toNat_lt
  have h := num4 a b c d
  rw [value_f, u8_of a _ (by omega), u8_of b _ (by omega), u8_of c _ (by omega), u8_of d _ (by omega), u8_of n _ (by omega)]
theorem count_f (x : Int) (h0 : 0 ≤ x) (h1 : x < 4294967296) : keys_Count.f x = some (four x) := by
  rw [keys_Count.f, four_f, Int.emod_eq_of_lt h0 h1]; rfl
theorem ref_six (m a b c d n : UInt8) (k : Nat) (hk : 8 < k) :
    keys_Ref.f k ⟨#[m, a, b, c, d, n]⟩ = if m = 115 then some ((numOf [a, b, c, d] : Int), (n.toNat : Int), true) else some (0, 0, false) := by
  rw [keys_Ref.f, of_six m a b c d n k hk]
  split <;> rfl
theorem ref_other (s : ByteArray) (h : s.size ≠ 6) (k : Nat) (hk : 0 < k) : keys_Ref.f k s = some (0, 0, false) := by
  rw [keys_Ref.f, of_other s h k hk]; rfl
theorem counted_four (a b c d : UInt8) (k : Nat) (hk : 5 < k) :
    keys_Counted.f k ⟨#[a, b, c, d]⟩ = if a.toNat < 128 then some ((numOf [a, b, c, d] : Int), true) else some (0, false) := by
  have hs : ((⟨#[a, b, c, d]⟩ : ByteArray).size : Int) = 4 := rfl
  have hn : keys_number.f k ⟨#[a, b, c, d]⟩ = some (numOf [a, b, c, d] : Int) := number_f ⟨#[a, b, c, d]⟩ (show 4 ≤ 5 by decide) k hk
  have := a.toNat_lt; have := b.toNat_lt; have := c.toNat_lt; have := d.toNat_lt
  have h := num4 a b c d
  rw [keys_Counted.f, if_pos hs, hn, Option.bind_some, Option.bind_some]
  by_cases ha : a.toNat < 128
  · rw [if_pos ha, if_neg (by omega)]
  · rw [if_neg ha, if_pos (by omega)]
theorem counted_other (s : ByteArray) (h : s.size ≠ 4) (k : Nat) : keys_Counted.f k s = some (0, false) := by
  rw [keys_Counted.f, if_neg (by omega)]
theorem cut_f (s : ByteArray) : ∃ t, dowserlaw01_Cut.f s 8 = some t := by
  rw [dowserlaw01_Cut.f]
  by_cases h : (s.size : Int) > 8
  · rw [if_pos h, if_pos (by decide), if_pos (by omega)]; exact ⟨_, rfl⟩
  · rw [if_neg h]; exact ⟨_, rfl⟩
theorem refFour_f (x : Int) (h0 : 0 ≤ x) (h1 : x < 4294967296) : dowserref02_Four.f x = some (four x) := by
  rw [dowserref02_Four.f]
  have e1 : (Int.tdiv x 16777216 % 4294967296) % 256 = (x / 16777216) % 256 := by rw [Int.tdiv_eq_ediv_of_nonneg h0]; omega
  have e2 : (Int.tdiv x 65536 % 4294967296) % 256 = (x / 65536) % 256 := by rw [Int.tdiv_eq_ediv_of_nonneg h0]; omega
  have e3 : (Int.tdiv x 256 % 4294967296) % 256 = (x / 256) % 256 := by rw [Int.tdiv_eq_ediv_of_nonneg h0]; omega
  have e4 : Int.tmod x 256 % 256 = x % 256 := by rw [Int.tmod_eq_emod_of_nonneg h0]; omega
  rw [e1, e2, e3, e4]
  rfl

theorem j1_f (k : Nat) (hk : 8 < k) (t : ByteArray) : dowserlaw21_KeysValues.j1 (k + 1) t false = some true := by
  rw [dowserlaw21_KeysValues.j1, if_neg (by decide)]
  by_cases h6 : t.size = 6
  · obtain ⟨m, a, b, c, d, n, rfl⟩ := size6 h6
    have hs : ((⟨#[m, a, b, c, d, n]⟩ : ByteArray).size : Int) = 6 := rfl
    have hb : bt ⟨#[m, a, b, c, d, n]⟩ 0 = (m.toNat : Int) := bt_nat ⟨#[m, a, b, c, d, n]⟩ 0 (show 0 < 6 by decide)
    rw [ref_six m a b c d n k hk, hb]
    by_cases hm : m = 115
    · subst hm
      rw [if_pos rfl, Option.bind_some, if_pos hs, if_pos (by rw [hs]; decide), if_pos (show ((true : Bool) == (((115 : UInt8).toNat : Int) == 115)) = true by decide), if_pos rfl, value_back, Option.bind_some]
      simp
    · have hm2 : ((m.toNat : Int) == 115) = false := by
        simp only [beq_eq_false_iff_ne, ne_eq]
        intro h
        exact hm (UInt8.toNat_inj.1 (by show m.toNat = 115; omega))
      rw [if_neg hm, Option.bind_some, if_pos hs, if_pos (by rw [hs]; decide), hm2, if_pos (by decide), if_neg (by decide)]
  · rw [ref_other t h6 k (by omega), Option.bind_some, if_neg (by omega), if_pos (by decide), if_neg (by decide)]

theorem j0_f (k : Nat) (hk : 9 < k) (s : ByteArray) : dowserlaw21_KeysValues.j0 (k + 1) s false = some true := by
  obtain ⟨k, rfl⟩ : ∃ k', k = k' + 1 := ⟨k - 1, by omega⟩
  obtain ⟨t, ht⟩ := cut_f s
  rw [dowserlaw21_KeysValues.j0, if_neg (by decide), ht, Option.bind_some]
  by_cases h4 : t.size = 4
  · obtain ⟨a, b, c, d, rfl⟩ := size4 h4
    have hs : ((⟨#[a, b, c, d]⟩ : ByteArray).size : Int) = 4 := rfl
    have hb : bt ⟨#[a, b, c, d]⟩ 0 = (a.toNat : Int) := bt_nat ⟨#[a, b, c, d]⟩ 0 (show 0 < 4 by decide)
    rw [counted_four a b c d (k + 1) (by omega), hb]
    by_cases ha : a.toNat < 128
    · have hd : decide ((a.toNat : Int) < 128) = true := by simp; omega
      have hl := num4_lt a b c d
      rw [if_pos ha, Option.bind_some, if_pos hs, if_pos (by rw [hs]; decide), hd, if_neg (by simp), if_pos rfl, count_f _ (by omega) hl, Option.bind_some, four_num, if_pos rfl]
      exact j1_f k (by omega) _
    · have hd : decide ((a.toNat : Int) < 128) = false := by simp; omega
      rw [if_neg ha, Option.bind_some, if_pos hs, if_pos (by rw [hs]; decide), hd, if_neg (by simp), if_neg (by simp)]
      exact j1_f k (by omega) _
  · rw [counted_other t h4 (k + 1), Option.bind_some, if_neg (by omega), if_neg (by simp), if_neg (by simp)]
    exact j1_f k (by omega) _

theorem values_f (x n a1 : Int) (s : ByteArray) (h0 : 0 ≤ x) (h1 : x < 4294967296) : dowserlaw21_KeysValues.f 40 x n a1 s = some true := by
  obtain ⟨c, hc⟩ : ∃ c, mx 0 (mn a1 2147483647) = c := ⟨_, rfl⟩
  have hcr : 0 ≤ c ∧ c ≤ 2147483647 := by
    rw [← hc]; unfold mx mn; (repeat' split) <;> omega
  obtain ⟨m, hm⟩ : ∃ m, Go.bits .and .i64 n 255 = m := ⟨_, rfl⟩
  have hmr : 0 ≤ m ∧ m < 256 := by rw [← hm, and255']; omega
  rw [dowserlaw21_KeysValues.f, awake_f, Option.bind_some, if_pos rfl, hm, hc, value_f, Option.bind_some, ref_six _ _ _ _ _ _ 40 (by decide), if_pos rfl, Option.bind_some,
    count_f c hcr.1 (by omega), Option.bind_some]
  have e1 : (numOf [u8 ((x / 16777216) % 256), u8 ((x / 65536) % 256), u8 ((x / 256) % 256), u8 (x % 256)] : Int) = x := num_four x h0 h1
  have e2 : ((u8 (m % 256)).toNat : Int) = m := by rw [u8_nat _ (by omega) (by omega)]; omega
  have e3 : keys_Counted.f 40 (four c) = some (c, true) := by
    have := counted_four (u8 ((c / 16777216) % 256)) (u8 ((c / 65536) % 256)) (u8 ((c / 256) % 256)) (u8 (c % 256)) 40 (by decide)
    have e4 : (numOf [u8 ((c / 16777216) % 256), u8 ((c / 65536) % 256), u8 ((c / 256) % 256), u8 (c % 256)] : Int) = c := num_four c hcr.1 (by omega)
    have e5 := u8_nat ((c / 16777216) % 256) (by omega) (by omega)
    rw [if_pos (by omega), e4] at this
    exact this
  rw [e1, e2, e3, Option.bind_some, if_pos rfl, if_neg (by simp), if_pos rfl, if_pos rfl, Option.bind_some, refFour_f c hcr.1 (by omega), Option.bind_some]
  have e6 : ((four c).toList != (four c).toList) = false := by simp
  rw [e6]
  exact j0_f 39 (by decide) s
end Go.Proofs.Ytogngmbjkdffaaa.PKeysAll
