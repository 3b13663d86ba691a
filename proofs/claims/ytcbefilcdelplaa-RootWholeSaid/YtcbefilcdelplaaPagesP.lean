/- What pages answer, as plain laws: a page that was appended is read back; a sector with another byte is none. No walks. -/
import Derived.Test.YtcbefilcdelplaaPagesS
namespace Go.Proofs.Ytcbefilcdelplaa
open Go.RowKit
set_option linter.unusedVariables false
set_option linter.unusedSimpArgs false

/-! ### The sum tells two texts apart that differ in one byte -/
theorem crcStep_bit0 (v : BitVec 32) : (crcStep v).getLsbD 0 = v.msb := by
  unfold crcStep
  cases h : v.msb <;> simp [BitVec.getLsbD_shiftLeft]
theorem shl1_inj {v u : BitVec 32} (hm : v.msb = u.msb) (h : v <<< 1 = u <<< 1) : v = u := by
  apply BitVec.eq_of_getLsbD_eq
  intro i hi
  by_cases h31 : i = 31
  · subst h31
    rw [BitVec.msb_eq_getLsbD_last, BitVec.msb_eq_getLsbD_last] at hm
    exact hm
  · have := congrArg (fun x => BitVec.getLsbD x (i + 1)) h
    simp only [BitVec.getLsbD_shiftLeft, show i + 1 < 32 by omega, show ¬ (i + 1 < 1) by omega, Nat.add_sub_cancel, decide_true, decide_false, Bool.not_false, Bool.true_and] at this
    exact this
theorem crcStep_inj {v u : BitVec 32} (h : crcStep v = crcStep u) : v = u := by
  have hm : v.msb = u.msb := by rw [← crcStep_bit0, ← crcStep_bit0, h]
  refine shl1_inj hm ?_
  unfold crcStep at h
  rw [hm] at h
  cases hu : u.msb with
  | false => rw [hu] at h; simpa using h
  | true =>
    rw [hu] at h
    simp only [if_true] at h
    have := congrArg (fun x => x ^^^ 0x04C11DB7#32) h
    simpa [BitVec.xor_assoc] using this
theorem crcSteps_inj {v u : BitVec 32} : ∀ n, crcSteps n v = crcSteps n u → v = u
  | 0, h => h
  | n + 1, h => crcSteps_inj n (crcStep_inj h)
theorem xor_inj_right {a b c : BitVec 32} (h : a ^^^ c = b ^^^ c) : a = b := by
  have := congrArg (fun x => x ^^^ c) h
  simpa [BitVec.xor_assoc] using this
theorem crcByte_inj {v u : BitVec 32} {b : UInt8} (h : crcByte v b = crcByte u b) : v = u := xor_inj_right (crcSteps_inj 8 h)
theorem crcByte_ne {v : BitVec 32} {b c : UInt8} (h : crcByte v b = crcByte v c) : b = c := by
  have h1 := crcSteps_inj 8 h
  rw [BitVec.xor_comm v, BitVec.xor_comm v] at h1
  have h2 := xor_inj_right h1
  have h3 : b.toBitVec = c.toBitVec := by
    apply BitVec.eq_of_getLsbD_eq
    intro i hi
    have := congrArg (fun x => BitVec.getLsbD x (i + 24)) h2
    simp only [BitVec.getLsbD_shiftLeft, show i + 24 < 32 by omega, show ¬ (i + 24 < 24) by omega, Nat.add_sub_cancel, decide_true, decide_false, Bool.not_false, Bool.true_and, BitVec.getLsbD_setWidth, show i < 32 by omega] at this
    exact this
  exact UInt8.toBitVec_inj.1 h3
theorem crcOn_inj {l : List UInt8} : ∀ {v u : BitVec 32}, crcOn v l = crcOn u l → v = u := by
  induction l with
  | nil => intro v u h; exact h
  | cons b l ih => intro v u h; exact crcByte_inj (ih (v := crcByte v b) (u := crcByte u b) h)
theorem crcOf_set {l : List UInt8} {i : Nat} (hi : i < l.length) {b : UInt8} (hb : l[i] ≠ b) : crcOf (l.set i b) ≠ crcOf l := by
  intro h
  have e1 : l.set i b = l.take i ++ b :: l.drop (i + 1) := by rw [List.set_eq_take_append_cons_drop, if_pos hi]
  have e2 : l = l.take i ++ l[i] :: l.drop (i + 1) := by
    conv => lhs; rw [← List.take_append_drop i l, List.drop_eq_getElem_cons hi]
  rw [e1] at h
  conv at h => rhs; rw [e2]
  simp only [crcOf, crcOn, List.foldl_append, List.foldl_cons] at h
  exact hb (crcByte_ne (crcOn_inj (l := l.drop (i + 1)) h)).symm

theorem ofNat_toNat_u8 (n : Nat) (h : n < 256) : (UInt8.ofNat n).toNat = n := by simp [UInt8.toNat_ofNat', Nat.mod_eq_of_lt h]
theorem four_inj {v u : BitVec 32} (h : four (v.toNat : Int) = four (u.toNat : Int)) : v = u := by
  have h1 := congrArg (fun s : ByteArray => s.data.toList) h
  simp only [four, strOfNums_data, List.map_cons, List.map_nil, List.cons.injEq, and_true] at h1
  obtain ⟨a, b, c, d⟩ := h1
  have hv := v.isLt
  have hu := u.isLt
  have key : ∀ x y : Int, 0 ≤ x → x < 256 → 0 ≤ y → y < 256 → UInt8.ofNat x.toNat = UInt8.ofNat y.toNat → x = y := by
    intro x y hx hx2 hy hy2 he
    have := congrArg UInt8.toNat he
    rw [ofNat_toNat_u8 _ (by omega), ofNat_toNat_u8 _ (by omega)] at this
    omega
  have a' := key _ _ (by omega) (by omega) (by omega) (by omega) a
  have b' := key _ _ (by omega) (by omega) (by omega) (by omega) b
  have c' := key _ _ (by omega) (by omega) (by omega) (by omega) c
  have d' := key _ _ (by omega) (by omega) (by omega) (by omega) d
  exact BitVec.eq_of_toNat_eq (by omega)

/-! ### Bytes by their places -/
theorem getD_app_r {α : Type} (l r : List α) (i : Nat) (d : α) (h : l.length ≤ i) : (l ++ r).getD i d = r.getD (i - l.length) d := by
  rw [List.getD_eq_getElem?_getD, List.getD_eq_getElem?_getD, List.getElem?_append_right h]
theorem getD_app_l {α : Type} (l r : List α) (i : Nat) (d : α) (h : i < l.length) : (l ++ r).getD i d = l.getD i d := by
  rw [List.getD_eq_getElem?_getD, List.getD_eq_getElem?_getD, List.getElem?_append_left h]
theorem getB (s : ByteArray) (i : Nat) : s.get! i = s.data.toList.getD i 0 := by
  show s.data[i]! = _
  rw [List.getD_eq_getElem?_getD, Array.getElem!_eq_getD, Array.getD_eq_getD_getElem?]
  simp
  rfl
theorem app_data (a b : ByteArray) : (a ++ b).data.toList = a.data.toList ++ b.data.toList := by rw [ByteArray.data_append, Array.toList_append]
theorem size_len (s : ByteArray) : s.data.toList.length = s.size := rfl
theorem ba_ext {a b : ByteArray} (h : a.data.toList = b.data.toList) : a = b := ByteArray.ext (Array.toList_inj.1 h)
theorem extract_list (s : ByteArray) (i j : Nat) : (s.extract i j).data.toList = (s.data.toList.take j).drop i := by
  rw [ByteArray.data_extract, Array.toList_extract, List.extract_eq_take_drop, List.drop_take]

theorem zeros_list (n : Nat) : (zeros n).data.toList = List.replicate n 0 := by simp [zeros]
theorem sector_list (kind : Int) (s : ByteArray) : (sectorOf kind s).data.toList =
    (four ((crcOf (pageText kind s).data.toList).toNat : Int)).data.toList ++ ((pageHead kind s.size).data.toList ++ (s.data.toList ++ List.replicate (252 - (2 + s.size)) 0)) := by
  rw [sectorOf, app_data]
  congr 1
  rw [pageText, fillTo, app_data, app_data, zeros_list, ByteArray.size_append, pageHead_size, List.append_assoc]

theorem four_len (x : Int) : (four x).data.toList.length = 4 := four_size x
theorem pageHead_list (kind : Int) (n : Nat) : (pageHead kind n).data.toList = [UInt8.ofNat (kind % 256).toNat, UInt8.ofNat ((n : Int) % 256).toNat] := rfl

/-- What was made a sector is parsed as it was. -/
theorem parse_sector (kind : Int) (s : ByteArray) (h0 : 0 ≤ kind) (h1 : kind ≤ 255) (hs : s.size ≤ 240) : pgParse (sectorOf kind s) = (kind, s, 0) := by
  have hl := sector_list kind s
  have h4 := four_len ((crcOf (pageText kind s).data.toList).toNat : Int)
  have g4 : (sectorOf kind s).get! 4 = UInt8.ofNat (kind % 256).toNat := by
    rw [getB, hl, getD_app_r _ _ _ _ (by omega), h4, pageHead_list]; rfl
  have g5 : (sectorOf kind s).get! 5 = UInt8.ofNat ((s.size : Int) % 256).toNat := by
    rw [getB, hl, getD_app_r _ _ _ _ (by omega), h4, pageHead_list]; rfl
  have n4 : (((sectorOf kind s).get! 4).toNat : Int) = kind := by rw [g4, ofNat_toNat_u8 _ (by omega)]; omega
  have n5 : ((sectorOf kind s).get! 5).toNat = s.size := by rw [g5, ofNat_toNat_u8 _ (by omega)]; omega
  have hx : (sectorOf kind s).extract 6 (6 + s.size) = s := by
    apply ba_ext
    rw [extract_list, hl, List.drop_take]
    rw [← List.append_assoc, List.drop_append_of_le_length (by simp [h4, pageHead_list])]
    have : ((four ((crcOf (pageText kind s).data.toList).toNat : Int)).data.toList ++ (pageHead kind s.size).data.toList).drop 6 = [] := List.drop_eq_nil_of_le (by simp [h4, pageHead_list])
    rw [this, List.nil_append, List.take_append_of_le_length (by rw [size_len]; omega), List.take_of_length_le (by rw [size_len]; omega)]
  unfold pgParse
  simp only [n5, n4, hx]
  rw [if_neg (by omega)]
  simp

/-- A sector with one other byte is none. -/
theorem parse_spoilt (kind : Int) (s t : ByteArray) (hs : s.size ≤ 240) (i : Nat) (hi : i < 256) (b : UInt8) (hb : (sectorOf kind s).data.toList.getD i 0 ≠ b)
    (ht : t.data.toList = (sectorOf kind s).data.toList.set i b) : pgParse t = (0, ByteArray.empty, 8) := by
  unfold pgParse
  dsimp only
  split
  · rfl
  · rename_i hk
    split
    · rename_i he
      exfalso
      have hlen : (sectorOf kind s).data.toList.length = 256 := sectorOf_size kind s (by omega)
      generalize hK : (t.get! 4).toNat = K at he
      generalize hp : t.extract 6 (6 + (t.get! 5).toNat) = pl at he
      have hpl : pl.size ≤ 240 := by rw [← hp, ByteArray.size_extract]; omega
      have e1 : t.data.toList = (four ((crcOf (pageText (K : Int) pl).data.toList).toNat : Int)).data.toList ++ (pageText (K : Int) pl).data.toList := by
        conv => lhs; rw [he]
        rw [sectorOf, app_data]
      have e2 : (sectorOf kind s).data.toList = (four ((crcOf (pageText kind s).data.toList).toNat : Int)).data.toList ++ (pageText kind s).data.toList := by rw [sectorOf, app_data]
      rw [e2] at ht
      rw [e1] at ht
      have l1 := four_len ((crcOf (pageText kind s).data.toList).toNat : Int)
      have l2 := four_len ((crcOf (pageText (K : Int) pl).data.toList).toNat : Int)
      by_cases h4 : i < 4
      · rw [List.set_append_left _ _ (by omega)] at ht
        obtain ⟨q1, q2⟩ := List.append_inj ht (by rw [List.length_set, l1, l2])
        rw [q2] at q1
        have := congrArg (fun l => l.getD i 0) q1
        simp only [List.getD_eq_getElem?_getD, List.getElem?_set] at this
        rw [if_pos trivial, if_pos (by omega)] at this
        apply hb
        rw [e2, getD_app_l _ _ _ _ (by omega), List.getD_eq_getElem?_getD]
        exact this
      · rw [List.set_append_right _ _ (by omega)] at ht
        obtain ⟨q1, q2⟩ := List.append_inj ht (by rw [l1, l2])
        have hc := four_inj (ba_ext q1)
        rw [q2] at hc
        have lt : (pageText kind s).data.toList.length = 252 := pageText_size kind s (by omega)
        refine crcOf_set (l := (pageText kind s).data.toList) (i := i - 4) (by omega) (b := b) ?_ (by rw [l1] at hc; exact hc)
        intro hx
        apply hb
        rw [e2, getD_app_r _ _ _ _ (by omega), l1, List.getD_eq_getElem?_getD, List.getElem?_eq_getElem (by omega)]
        exact hx
    · rfl

end Go.Proofs.Ytcbefilcdelplaa
