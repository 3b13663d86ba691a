/- dowserlaw21.KeysReads, plain. -/
import Derived.Test.YtogngmbjkdffaaaLB
import Derived.Test.YtogngmbjkdffaaaPKeysAlly1
namespace Go.Proofs.Ytogngmbjkdffaaa.PKeysAll
open Go.RowKit Go.Proofs.YtogngmbjkdffaaaW.PrintWords Go.Proofs.YtogngmbjkdffaaaW.PrintLast Go.Proofs.YtogngmbjkdffaaaW.PrintMore
set_option linter.unusedVariables false
set_option linter.unusedSimpArgs false

theorem cut20_f (s : ByteArray) : ∃ t, dowserlaw01_Cut.f s 20 = some t := by
  rw [dowserlaw01_Cut.f]
  by_cases h : (s.size : Int) > 20
  · exact ⟨_, by rw [if_pos h, if_pos (by decide), if_pos (by omega)]⟩
  · exact ⟨_, by rw [if_neg h]⟩

theorem list1 {α : Type} {l : List α} (h : l.length = 1) : ∃ a, l = [a] := by
  match l, h with
  | [a], _ => exact ⟨a, rfl⟩
theorem list5 {α : Type} {l : List α} (h : l.length = 5) : ∃ a b c d e, l = [a, b, c, d, e] := by
  match l, h with
  | [a, b, c, d, e], _ => exact ⟨a, b, c, d, e, rfl⟩
theorem list9 {α : Type} {l : List α} (h : l.length = 9) : ∃ a b c d e f g i j, l = [a, b, c, d, e, f, g, i, j] := by
  match l, h with
  | [a, b, c, d, e, f, g, i, j], _ => exact ⟨a, b, c, d, e, f, g, i, j, rfl⟩
theorem of_toList {s : ByteArray} {l : List UInt8} (h : s.data.toList = l) : s = ⟨l.toArray⟩ := by
  apply ByteArray.ext
  rw [← h]
theorem len_size (s : ByteArray) : s.data.toList.length = s.size := by rw [Array.length_toList]; rfl
theorem size1 {s : ByteArray} (h : s.size = 1) : ∃ a, s = ⟨#[a]⟩ := by
  obtain ⟨a, e⟩ := list1 ((len_size s).trans h)
  exact ⟨a, of_toList e⟩
theorem size5 {s : ByteArray} (h : s.size = 5) : ∃ a b c d e, s = ⟨#[a, b, c, d, e]⟩ := by
  obtain ⟨a, b, c, d, e, q⟩ := list5 ((len_size s).trans h)
  exact ⟨a, b, c, d, e, of_toList q⟩
theorem size9 {s : ByteArray} (h : s.size = 9) : ∃ a b c d e f g i j, s = ⟨#[a, b, c, d, e, f, g, i, j]⟩ := by
  obtain ⟨a, b, c, d, e, f, g, i, j, q⟩ := list9 ((len_size s).trans h)
  exact ⟨a, b, c, d, e, f, g, i, j, of_toList q⟩

/-- Where no key has these bytes, by sight. -/
theorem not_a_key (t : ByteArray) (hp : keys_Parse.f 40 t = some zerosK) (s : ByteArray) (hc : dowserlaw01_Cut.f s 20 = some t)
    (h0 : ∀ c, t = ⟨#[c]⟩ → c ≠ 110) (h1 : t.size = 5 → headIs t 112 = true → ∃ a b c d, t = ⟨#[112, a, b, c, d]⟩ ∧ 128 ≤ a.toNat) (h2 : t.size = 9 → headIs t 102 = true → ∃ a b c d x y z v, t = ⟨#[102, a, b, c, d, x, y, z, v]⟩ ∧ 128 ≤ a.toNat) (h3 : ¬ (t.size = 6 ∧ headIs t 115 = true)) :
    dowserlaw21_KeysReads.f 40 s = some true := by
  rw [dowserlaw21_KeysReads.f, awake_f, Option.bind_some, if_pos rfl, hc, Option.bind_some, hp, Option.bind_some, if_neg (by decide)]
  by_cases e : t.toList = ([] : List UInt8)
  · rw [if_pos e]; rfl
  · rw [if_neg e]
    have hpos : 0 < t.size := by
      rw [ByteArray.toList_eq] at e
      rcases Nat.eq_zero_or_pos t.size with h | h
      · exact absurd (List.length_eq_zero_iff.1 ((len_size t).trans h)) e
      · exact h
    have hl : 0 < t.data.toList.length := by rw [len_size]; exact hpos
    have hb : bt t 0 = ((t.data.toList[0]'hl).toNat : Int) := bt_nat t 0 hl
    have hh : ∀ c : UInt8, bt t 0 = (c.toNat : Int) → headIs t c = true := by
      intro c hc
      rw [hb] at hc
      have : t.data.toList[0] = c := UInt8.toNat_inj.1 (by omega)
      rw [headIs, List.head?_eq_getElem?, List.getElem?_eq_getElem hl, this]
      exact beq_self_eq_true _
    rw [if_pos (by omega)]
    by_cases b0 : bt t 0 = 110
    · have hs : ¬ (t.size : Int) = 1 := by
        intro h
        obtain ⟨a, rfl⟩ := size1 (s := t) (by omega)
        refine h0 a rfl ?_
        have : bt ⟨#[a]⟩ 0 = (a.toNat : Int) := hb
        exact UInt8.toNat_inj.1 (by show a.toNat = 110; omega)
      rw [if_pos b0, if_neg hs]; rfl
    · rw [if_neg b0]
      by_cases b1 : bt t 0 = 112
      · rw [if_pos b1]
        by_cases hs : (t.size : Int) = 5
        · obtain ⟨a, b, c, d, rfl, ha⟩ := h1 (by omega) (hh 112 b1)
          have hq : bt ⟨#[112, a, b, c, d]⟩ 1 = (a.toNat : Int) := bt_nat ⟨#[112, a, b, c, d]⟩ 1 (show 1 < 5 by decide)
          rw [if_pos hs, if_neg (by rw [b1]; decide), if_neg (by rw [b1]; decide), if_pos (by decide), if_pos (by rw [hs]; decide), hq, decide_eq_true (by omega)]
        · rw [if_neg hs]; rfl
      · rw [if_neg b1]
        by_cases b2 : bt t 0 = 102
        · rw [if_pos b2]
          by_cases hs : (t.size : Int) = 9
          · obtain ⟨a, b, c, d, x, y, z, v, rfl, ha⟩ := h2 (by omega) (hh 102 b2)
            have hq : bt ⟨#[102, a, b, c, d, x, y, z, v]⟩ 1 = (a.toNat : Int) := bt_nat ⟨#[102, a, b, c, d, x, y, z, v]⟩ 1 (show 1 < 9 by decide)
            rw [if_pos hs, if_neg (by rw [b2]; decide), if_pos (by decide), if_pos (by rw [hs]; decide), hq, decide_eq_true (by omega)]
          · rw [if_neg hs]; rfl
        · rw [if_neg b2]
          by_cases b3 : bt t 0 = 115
          · have hs : ¬ (t.size : Int) = 6 := fun h => h3 ⟨by omega, hh 115 b3⟩
            rw [if_pos b3, if_pos (by decide), if_neg hs]
          · rw [if_neg b3]; rfl

/-- Where a key has these bytes. -/
theorem is_a_key (t : ByteArray) (kind rev fact a b sum n : Int) (hs0 : 0 ≤ sum) (hs1 : sum < 4294967296) (hp : keys_Parse.f 40 t = some (kind, rev, fact, a, b, sum, n, true)) (s : ByteArray) (hc : dowserlaw01_Cut.f s 20 = some t) (hk : keyBytes kind rev fact a b sum n = t) : dowserlaw21_KeysReads.f 40 s = some true := by
  rw [dowserlaw21_KeysReads.f, awake_f, Option.bind_some, if_pos rfl, hc, Option.bind_some, hp, Option.bind_some, if_pos rfl]
  have hb := bytes_f 35 kind rev fact a b sum n hs0 hs1
  rw [hk] at hb
  show (dowserlaw21_bytes.f 40 kind rev fact a b sum n).bind _ = _
  rw [hb, Option.bind_some, beq_self_eq_true]

theorem head_is {t : ByteArray} {c : UInt8} {l : List UInt8} (h : t = ⟨(c :: l).toArray⟩) : headIs t c = true := by
  subst h
  rw [headIs]; exact beq_self_eq_true _
theorem is_head {a c : UInt8} {l : List UInt8} (h : headIs ⟨(a :: l).toArray⟩ c = true) : a = c := by
  rw [headIs] at h
  simpa using h

theorem keyP_num (a b c d : UInt8) : keyP (numOf [a, b, c, d] : Int) = ⟨#[112, a, b, c, d]⟩ := by
  rw [← p_app, four_num]; rfl
theorem keyS_num (a b c d n : UInt8) : keyS (numOf [a, b, c, d] : Int) (n.toNat : Int) = ⟨#[115, a, b, c, d, n]⟩ := by
  have h := s_app (numOf [a, b, c, d] : Int) ((n.toNat : Int) % 256)
  have hn := n.toNat_lt
  have e : u8 ((n.toNat : Int) % 256) = n := u8_of n _ (by omega)
  rw [keyS, ← h, four_num]
  show (⟨#[115, a, b, c, d, u8 ((n.toNat : Int) % 256)]⟩ : ByteArray) = _
  rw [e]
theorem keyF_num (a b c d x y z v : UInt8) : keyF (numOf [a, b, c, d] : Int) (x.toNat : Int) (numOf [y, z] : Int) (v.toNat : Int) = ⟨#[102, a, b, c, d, x, y, z, v]⟩ := by
  have h := f_app (numOf [a, b, c, d] : Int) ((x.toNat : Int) % 256) (((numOf [y, z] : Int) / 256) % 256) ((numOf [y, z] : Int) % 256) ((v.toNat : Int) % 256)
  have hx := x.toNat_lt
  have hy := y.toNat_lt
  have hz := z.toNat_lt
  have hv := v.toNat_lt
  have e1 : u8 ((x.toNat : Int) % 256) = x := u8_of x _ (by omega)
  have e2 : u8 (((numOf [y, z] : Int) / 256) % 256) = y := u8_of y _ (by rw [num2]; omega)
  have e3 : u8 ((numOf [y, z] : Int) % 256) = z := u8_of z _ (by rw [num2]; omega)
  have e4 : u8 ((v.toNat : Int) % 256) = v := u8_of v _ (by omega)
  rw [keyF, ← h, four_num]
  show (⟨#[102, a, b, c, d, u8 ((x.toNat : Int) % 256), u8 (((numOf [y, z] : Int) / 256) % 256), u8 ((numOf [y, z] : Int) % 256), u8 ((v.toNat : Int) % 256)]⟩ : ByteArray) = _
  rw [e1, e2, e3, e4]

theorem keysreads_f (s : ByteArray) : dowserlaw21_KeysReads.f 40 s = some true := by
  obtain ⟨t, hc⟩ := cut20_f s
  by_cases hn : t = ⟨#[110]⟩
  · subst hn
    exact is_a_key _ 1 0 0 0 0 0 0 (by decide) (by decide) (parse_n 39) s hc rfl
  · by_cases hp : t.size = 5 ∧ headIs t 112 = true
    · obtain ⟨m, a, b, c, d, rfl⟩ := size5 hp.1
      obtain rfl := is_head (l := [a, b, c, d]) hp.2
      have hq := parse_p 39 (by decide) a b c d
      by_cases ha : a.toNat < 128
      · rw [if_pos ha] at hq
        have hnum := num4 a b c d
        have hb := b.toNat_lt
        have hc' := c.toNat_lt
        have hd := d.toNat_lt
        refine is_a_key _ 2 (numOf [a, b, c, d] : Int) 0 0 0 0 0 (by decide) (by decide) hq s hc ?_
        have hg : good 2 (numOf [a, b, c, d] : Int) 0 0 0 0 0 = true := by
          simp [good, rangeOk]; omega
        rw [keyBytes, if_pos hg, if_neg (by decide), if_pos rfl, keyP_num]
      · rw [if_neg ha] at hq
        exact not_a_key _ hq s hc (fun c h => absurd (congrArg ByteArray.size h) (show ¬ 5 = 1 by decide)) (fun _ _ => ⟨a, b, c, d, rfl, by omega⟩) (fun h => absurd h (show ¬ 5 = 9 by decide)) (fun h => absurd h.1 (show ¬ 5 = 6 by decide))
    · by_cases hf : t.size = 9 ∧ headIs t 102 = true
      · obtain ⟨m, a, b, c, d, x, y, z, v, rfl⟩ := size9 hf.1
        obtain rfl := is_head (l := [a, b, c, d, x, y, z, v]) hf.2
        have hq := parse_fact 38 (by decide) a b c d x y z v
        by_cases ha : a.toNat < 128
        · rw [if_pos ha] at hq
          have hnum := num4 a b c d
          have hb := b.toNat_lt
          have hc' := c.toNat_lt
          have hd := d.toNat_lt
          have hx := x.toNat_lt
          have hy := y.toNat_lt
          have hz := z.toNat_lt
          have hv := v.toNat_lt
          have hnum2 := num2 y z
          refine is_a_key _ 3 (numOf [a, b, c, d] : Int) (x.toNat : Int) (numOf [y, z] : Int) (v.toNat : Int) 0 0 (by decide) (by decide) hq s hc ?_
          have hg : good 3 (numOf [a, b, c, d] : Int) (x.toNat : Int) (numOf [y, z] : Int) (v.toNat : Int) 0 0 = true := by
            simp [good, rangeOk]; omega
          rw [keyBytes, if_pos hg, if_neg (by decide), if_neg (by decide), if_pos rfl, keyF_num]
        · rw [if_neg ha] at hq
          exact not_a_key _ hq s hc (fun c h => absurd (congrArg ByteArray.size h) (show ¬ 9 = 1 by decide)) (fun h => absurd h (show ¬ 9 = 5 by decide)) (fun _ _ => ⟨a, b, c, d, x, y, z, v, rfl, by omega⟩) (fun h => absurd h.1 (show ¬ 9 = 6 by decide))
      · by_cases ht : t.size = 6 ∧ headIs t 115 = true
        · obtain ⟨m, a, b, c, d, n, rfl⟩ := size6 ht.1
          obtain rfl := is_head (l := [a, b, c, d, n]) ht.2
          have hq := parse_text 38 (by decide) a b c d n
          have hnum := num4_lt a b c d
          have hn := n.toNat_lt
          refine is_a_key _ 4 0 0 0 0 (numOf [a, b, c, d] : Int) (n.toNat : Int) (by omega) hnum hq s hc ?_
          have hg : good 4 0 0 0 0 (numOf [a, b, c, d] : Int) (n.toNat : Int) = true := by
            simp [good, rangeOk]; omega
          rw [keyBytes, if_pos hg, if_neg (by decide), if_neg (by decide), if_neg (by decide), keyS_num]
        · exact not_a_key t (parse_other 38 (by decide) t hn hp hf ht) s hc (fun c h e => hn (by rw [h, e])) (fun h1 h2 => absurd ⟨h1, h2⟩ hp) (fun h1 h2 => absurd ⟨h1, h2⟩ hf) ht
end Go.Proofs.Ytogngmbjkdffaaa.PKeysAll
