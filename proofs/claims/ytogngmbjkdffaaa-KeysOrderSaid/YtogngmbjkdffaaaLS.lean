/- keys.Parse, plain. -/
import Derived.Test.YtogngmbjkdffaaaLR
namespace Go.Proofs.Ytogngmbjkdffaaa.PKeysAll
open Go.RowKit Go.Proofs.YtogngmbjkdffaaaW.PrintWords Go.Proofs.YtogngmbjkdffaaaW.PrintLast Go.Proofs.YtogngmbjkdffaaaW.PrintMore
set_option linter.unusedVariables false
set_option linter.unusedSimpArgs false

/-- Does it begin with a byte? -/
def headIs (s : ByteArray) (c : UInt8) : Bool := s.data.toList.head? == some c

theorem prefix_f (s : ByteArray) (c : UInt8) : strings_HasPrefix.f s ⟨#[c]⟩ = some (headIs s c) := by
  have hc : ((⟨#[c]⟩ : ByteArray).size : Int) = 1 := rfl
  have e : stringslite_HasPrefix.f s ⟨#[c]⟩ = some (headIs s c) := by
    rw [stringslite_HasPrefix.f, hc]
    by_cases h : (s.size : Int) ≥ 1
    · rw [if_pos h, if_pos (by decide), if_pos h]
      have h1 : (s.extract 0 (1 : Int).toNat).toList = s.data.toList.take 1 := by
        rw [ByteArray.toList_eq, ByteArray.data_extract, Array.toList_extract]
        simp
      have h2 : (⟨#[c]⟩ : ByteArray).toList = [c] := by rw [ByteArray.toList_eq]
      rw [h1, h2, headIs]
      have hl : s.data.toList.length ≠ 0 := by show s.size ≠ 0; omega
      cases hd : s.data.toList with
      | nil => rw [hd] at hl; simp at hl
      | cons x l => simp
    · rw [if_neg h, headIs]
      have hl : s.data.toList.length = 0 := by show s.size = 0; omega
      rw [List.eq_nil_of_length_eq_zero hl]
      rfl
  rw [strings_HasPrefix.f, e]; rfl

def zerosK : Int × Int × Int × Int × Int × Int × Int × Bool := (0, 0, 0, 0, 0, 0, 0, false)

theorem parse_n (k : Nat) : keys_Parse.f (k + 1) ⟨#[110]⟩ = some (1, 0, 0, 0, 0, 0, 0, true) := by
  have h : (⟨#[110]⟩ : ByteArray).toList = ([110] : List UInt8) := by rw [ByteArray.toList_eq]
  rw [keys_Parse.f, if_pos h, check_f]
  rfl

theorem mn5 (x : Int) (h : 5 ≤ x) : mn x 5 = 5 := by unfold mn; split <;> omega

theorem parse_p (k : Nat) (hk : 8 < k) (a b c d : UInt8) : keys_Parse.f (k + 1) ⟨#[112, a, b, c, d]⟩ = some (if a.toNat < 128 then (2, (numOf [a, b, c, d] : Int), 0, 0, 0, 0, 0, true) else zerosK) := by
  obtain ⟨k, rfl⟩ : ∃ k', k = k' + 1 := ⟨k - 1, by omega⟩
  have hs : ((⟨#[112, a, b, c, d]⟩ : ByteArray).size : Int) = 5 := rfl
  have h : ¬ (⟨#[112, a, b, c, d]⟩ : ByteArray).toList = ([110] : List UInt8) := by rw [ByteArray.toList_eq]; simp
  have hp : headIs ⟨#[112, a, b, c, d]⟩ 112 = true := rfl
  have hx : (⟨#[112, a, b, c, d]⟩ : ByteArray).extract 1 5 = ⟨#[a, b, c, d]⟩ := by apply ByteArray.ext; rfl
  have hn : keys_number.f (k + 1) ⟨#[a, b, c, d]⟩ = some (numOf [a, b, c, d] : Int) := number_f ⟨#[a, b, c, d]⟩ (show 4 ≤ 5 by decide) (k + 1) (by omega)
  have := a.toNat_lt; have := b.toNat_lt; have := c.toNat_lt; have := d.toNat_lt
  have h4 := num4 a b c d
  rw [keys_Parse.f, if_neg h, prefix_f, hp, Option.bind_some, if_pos rfl, hs, keys_Parse.j0, if_pos (by decide), if_pos (by rw [hs]; decide)]
  have e : (⟨#[112, a, b, c, d]⟩ : ByteArray).extract 1 (⟨#[112, a, b, c, d]⟩ : ByteArray).size = ⟨#[a, b, c, d]⟩ := hx
  rw [e, hn, Option.bind_some, check_f, Option.bind_some]
  by_cases ha : a.toNat < 128
  · have hg : good 2 (numOf [a, b, c, d] : Int) 0 0 0 0 0 = true := by
      simp [good, rangeOk]; omega
    rw [hg, if_pos rfl, if_pos rfl, if_pos ha]
  · have hg : good 2 (numOf [a, b, c, d] : Int) 0 0 0 0 0 = false := by
      simp [good, rangeOk]; omega
    rw [hg, if_neg ha]
    rfl

theorem num2 (a b : UInt8) : (numOf [a, b] : Int) = (a.toNat : Int) * 256 + (b.toNat : Int) := by
  simp only [numOf, List.foldl_cons, List.foldl_nil]
  omega

theorem parse_fact (k : Nat) (hk : 8 < k) (a b c d x y z v : UInt8) : keys_Parse.f (k + 2) ⟨#[102, a, b, c, d, x, y, z, v]⟩ =
    some (if a.toNat < 128 then (3, (numOf [a, b, c, d] : Int), (x.toNat : Int), (numOf [y, z] : Int), (v.toNat : Int), 0, 0, true) else zerosK) := by
  have hs : ((⟨#[102, a, b, c, d, x, y, z, v]⟩ : ByteArray).size : Int) = 9 := rfl
  have h : ¬ (⟨#[102, a, b, c, d, x, y, z, v]⟩ : ByteArray).toList = ([110] : List UInt8) := by rw [ByteArray.toList_eq]; simp
  have hp : headIs ⟨#[102, a, b, c, d, x, y, z, v]⟩ 112 = false := rfl
  have hf : headIs ⟨#[102, a, b, c, d, x, y, z, v]⟩ 102 = true := rfl
  have h1 : (⟨#[102, a, b, c, d, x, y, z, v]⟩ : ByteArray).extract 1 (5 : Int).toNat = ⟨#[a, b, c, d]⟩ := by apply ByteArray.ext; rfl
  have h2 : (⟨#[102, a, b, c, d, x, y, z, v]⟩ : ByteArray).extract (5 : Int).toNat (⟨#[102, a, b, c, d, x, y, z, v]⟩ : ByteArray).size = ⟨#[x, y, z, v]⟩ := by apply ByteArray.ext; rfl
  have h3 : (⟨#[x, y, z, v]⟩ : ByteArray).extract 1 3 = ⟨#[y, z]⟩ := by apply ByteArray.ext; rfl
  have hs4 : ((⟨#[x, y, z, v]⟩ : ByteArray).size : Int) = 4 := rfl
  have b0 : bt ⟨#[x, y, z, v]⟩ 0 = (x.toNat : Int) := bt_nat ⟨#[x, y, z, v]⟩ 0 (show 0 < 4 by decide)
  have b3 : bt ⟨#[x, y, z, v]⟩ 3 = (v.toNat : Int) := bt_nat ⟨#[x, y, z, v]⟩ 3 (show 3 < 4 by decide)
  have hn : keys_number.f k ⟨#[a, b, c, d]⟩ = some (numOf [a, b, c, d] : Int) := number_f ⟨#[a, b, c, d]⟩ (show 4 ≤ 5 by decide) k (by omega)
  have hn2 : keys_number.f k ⟨#[y, z]⟩ = some (numOf [y, z] : Int) := number_f ⟨#[y, z]⟩ (show 2 ≤ 5 by decide) k (by omega)
  have := a.toNat_lt; have := b.toNat_lt; have := c.toNat_lt; have := d.toNat_lt
  have := x.toNat_lt; have := y.toNat_lt; have := z.toNat_lt; have := v.toNat_lt
  have h4 := num4 a b c d
  have h5 := num2 y z
  obtain ⟨k, rfl⟩ : ∃ k', k = k' + 1 := ⟨k - 1, by omega⟩
  rw [keys_Parse.f, if_neg h, prefix_f, hp, Option.bind_some, if_neg (by decide), hs, keys_Parse.j0, if_neg (by decide), prefix_f, hf, Option.bind_some, if_pos rfl, hs, keys_Parse.j1, if_pos (by decide)]
  have e5 : mn 9 5 = 5 := by decide
  rw [e5, if_pos (by decide), if_pos (by rw [hs]; decide), if_pos (by decide), h1, hn, Option.bind_some, h2, hs4, if_pos (by decide), if_pos (by decide), if_pos (by decide), h3, hn2, Option.bind_some, if_pos (by decide), b0, b3,
    IntWalk.wrap64_in _ (by omega), IntWalk.wrap64_in _ (by omega), check_f, Option.bind_some]
  by_cases ha : a.toNat < 128
  · have hg : good 3 (numOf [a, b, c, d] : Int) (x.toNat : Int) (numOf [y, z] : Int) (v.toNat : Int) 0 0 = true := by
      simp [good, rangeOk]; omega
    rw [hg, if_pos rfl, if_pos rfl, if_pos ha]
  · have hg : good 3 (numOf [a, b, c, d] : Int) (x.toNat : Int) (numOf [y, z] : Int) (v.toNat : Int) 0 0 = false := by
      simp [good, rangeOk]; omega
    rw [hg, if_neg ha]
    rfl

theorem parse_text (k : Nat) (hk : 10 < k) (a b c d n : UInt8) : keys_Parse.f (k + 2) ⟨#[115, a, b, c, d, n]⟩ = some (4, 0, 0, 0, 0, (numOf [a, b, c, d] : Int), (n.toNat : Int), true) := by
  have hs : ((⟨#[115, a, b, c, d, n]⟩ : ByteArray).size : Int) = 6 := rfl
  have h : ¬ (⟨#[115, a, b, c, d, n]⟩ : ByteArray).toList = ([110] : List UInt8) := by rw [ByteArray.toList_eq]; simp
  have hp : headIs ⟨#[115, a, b, c, d, n]⟩ 112 = false := rfl
  have hf : headIs ⟨#[115, a, b, c, d, n]⟩ 102 = false := rfl
  have := n.toNat_lt
  obtain ⟨k, rfl⟩ : ∃ k', k = k' + 1 := ⟨k - 1, by omega⟩
  have hg : good 4 0 0 0 0 (numOf [a, b, c, d] : Int) (n.toNat : Int) = true := by
    simp [good, rangeOk]; omega
  rw [keys_Parse.f, if_neg h, prefix_f, hp, Option.bind_some, if_neg (by decide), keys_Parse.j0, if_neg (by decide), prefix_f, hf, Option.bind_some, if_neg (by decide), keys_Parse.j1, if_neg (by decide),
    of_six _ _ _ _ _ _ _ (by omega), if_pos rfl, Option.bind_some, if_pos rfl, check_f, hg, if_pos rfl, Option.bind_some, if_pos rfl]

theorem parse_other (k : Nat) (hk : 10 < k) (s : ByteArray) (h0 : s ≠ ⟨#[110]⟩) (hp : ¬ (s.size = 5 ∧ headIs s 112 = true)) (hf : ¬ (s.size = 9 ∧ headIs s 102 = true)) (ht : ¬ (s.size = 6 ∧ headIs s 115 = true)) :
    keys_Parse.f (k + 2) s = some zerosK := by
  obtain ⟨k, rfl⟩ : ∃ k', k = k' + 1 := ⟨k - 1, by omega⟩
  have h : ¬ s.toList = ([110] : List UInt8) := by
    intro h
    rw [ByteArray.toList_eq] at h
    exact h0 (ByteArray.ext (Array.toList_inj.1 h))
  have hof : intern_Of.f (k + 1) s = some (0, 0, false) := by
    by_cases h6 : s.size = 6
    · obtain ⟨m, a, b, c, d, n, rfl⟩ := size6 h6
      have hm : m ≠ 115 := by
        rintro rfl
        exact ht ⟨h6, rfl⟩
      rw [of_six m a b c d n (k + 1) (by omega), if_neg hm]
    · exact of_other s h6 (k + 1) (by omega)
  have hj1 : ∀ m, keys_Parse.j1 (k + 2) s m false = some zerosK := by
    intro m
    rw [keys_Parse.j1, if_neg (by decide), hof]
    rfl
  have hj0 : ∀ m, keys_Parse.j0 (k + 3) s m false = some zerosK := by
    intro m
    rw [keys_Parse.j0, if_neg (by decide), prefix_f, Option.bind_some]
    cases hx : headIs s 102 with
    | false => rw [if_neg (by decide)]; exact hj1 m
    | true =>
      have e : ((s.size : Int) == 9) = false := by
        simp only [beq_eq_false_iff_ne]
        intro e; exact hf ⟨by omega, hx⟩
      rw [if_pos rfl, e]; exact hj1 m
  rw [keys_Parse.f, if_neg h, prefix_f, Option.bind_some]
  cases hx : headIs s 112 with
  | false => rw [if_neg (by decide)]; exact hj0 _
  | true =>
    have e : ((s.size : Int) == 5) = false := by
      simp only [beq_eq_false_iff_ne]
      intro e; exact hp ⟨by omega, hx⟩
    rw [if_pos rfl, e]; exact hj0 _
end Go.Proofs.Ytogngmbjkdffaaa.PKeysAll
