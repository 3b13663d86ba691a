/- The references' functions on sums and sectors, walked. -/
import Derived.Test.YtcbefilcdelplaaCrc
import Derived.Test.YtcbefilcdelplaaStd
namespace Go.Proofs.Ytcbefilcdelplaa
open Go.RowKit
set_option linter.unusedVariables false
set_option linter.unusedSimpArgs false

/-- A sum and a bit: as the reference does it. -/
def refBit (v : BitVec 32) (bit : Bool) : BitVec 32 := if bit != v.msb then (v <<< 1) ^^^ 0x04C11DB7#32 else v <<< 1
def refBits (b : UInt8) : Nat → BitVec 32 → BitVec 32
  | 0, v => v
  | n + 1, v => refBit (refBits b n v) (b.toBitVec.getLsbD (7 - n))

theorem xor_lc (a b c : BitVec 32) : a ^^^ (b ^^^ c) = b ^^^ (a ^^^ c) := by rw [← BitVec.xor_assoc, BitVec.xor_comm a b, BitVec.xor_assoc]
theorem steps_ref (v : BitVec 32) (b : UInt8) : ∀ j, j ≤ 8 → crcSteps j (v ^^^ (b.toBitVec.zeroExtend 32 <<< 24)) = refBits b j v ^^^ (b.toBitVec.zeroExtend 32 <<< (24 + j))
  | 0, _ => rfl
  | j + 1, h => by
    have ih := steps_ref v b j (by omega)
    have hm : (b.toBitVec.zeroExtend 32 <<< (24 + j)).msb = b.toBitVec.getLsbD (7 - j) := by
      rw [BitVec.msb_eq_getLsbD_last, BitVec.getLsbD_shiftLeft]
      have h1 : ¬ (31 < 24 + j) := by omega
      have h2 : 31 - (24 + j) = 7 - j := by omega
      simp [h1, h2, BitVec.getLsbD_setWidth]
      omega
    have hs : ∀ x y : BitVec 32, (x ^^^ y) <<< 1 = x <<< 1 ^^^ y <<< 1 := fun x y => BitVec.shiftLeft_xor_distrib ..
    have hs2 : (b.toBitVec.zeroExtend 32 <<< (24 + j)) <<< 1 = b.toBitVec.zeroExtend 32 <<< (24 + (j + 1)) := by
      rw [← BitVec.shiftLeft_add]; rfl
    show crcStep (crcSteps j _) = refBit _ _ ^^^ _
    rw [ih, crcStep, refBit, BitVec.msb_xor, hm, hs, hs2]
    cases (refBits b j v).msb <;> cases b.toBitVec.getLsbD (7 - j) <;> simp [BitVec.xor_assoc, BitVec.xor_comm, xor_lc]

theorem byte_ref (v : BitVec 32) (b : UInt8) : crcByte v b = refBits b 8 v := by
  rw [crcByte, crcEight, steps_ref v b 8 (by omega)]
  have : b.toBitVec.zeroExtend 32 <<< (24 + 8) = 0#32 := by
    apply BitVec.eq_of_getLsbD_eq
    intro i hi
    rw [BitVec.getLsbD_shiftLeft]
    simp
  rw [this, BitVec.xor_zero]

set_option maxRecDepth 100000 in
theorem ref02_Four (x : Int) (w : World) (h0 : 0 ≤ x) (h1 : x < 4294967296) :
    Calls Try.prog 56 #[.int .u32 x] w fun e w' => e = .returned (.string (four x)) ∧ Below w.heap.size w w' := by
  have hcv := lit4
  go_enter Try.func56, Try.ntmps56
  go_wp2
  go_ret
  refine ⟨ret_str ?_, (Below.refl _ _).alloc (Nat.le_refl _) _⟩
  unfold four
  rw [show x / 16777216 % 256 = x / 16777216 from by omega]

theorem refOn_bit (b : UInt8) (j : Nat) (hj : j < 8) : ((b.toNat / (128 / 2 ^ j) % 2 == 1) : Bool) = b.toBitVec.getLsbD (7 - j) := by
  have : 128 / 2 ^ j = 2 ^ (7 - j) := by
    match j, hj with
    | 0, _ => rfl | 1, _ => rfl | 2, _ => rfl | 3, _ => rfl | 4, _ => rfl | 5, _ => rfl | 6, _ => rfl | 7, _ => rfl
  rw [this]
  show _ = b.toNat.testBit (7 - j)
  rw [Nat.testBit_eq_decide_div_mod_eq]
  rfl

theorem geq_top (v : BitVec 32) : decide (2147483648 ≤ v.toNat) = v.msb := by
  rw [BitVec.msb_eq_decide]

theorem refBit_add (v : BitVec 32) : ((v.toNat : Int) + (v.toNat : Int)) % (4294967296 : Int) = ((v <<< 1).toNat : Int) := by
  rw [← shl1_u32]; congr 1; omega

theorem ref_test (t : BitVec 32) (n K : Nat) (bit : Bool) (hbit : (n / K % 2 == 1) = bit) (r : Bool) (h : (!(((n : Int) / (K : Int) % (2 : Int) == 1) == decide (2147483648 ≤ (t.toNat : Int)))) = r) : (bit != t.msb) = r := by
  rw [← h, ← hbit, ← geq_top]
  have h1 : ((n : Int) / (K : Int) % (2 : Int) == 1) = (n / K % 2 == 1) := by
    rw [← Int.natCast_ediv, Bool.eq_iff_iff]
    simp
    omega
  have h2 : decide (2147483648 ≤ (t.toNat : Int)) = decide (2147483648 ≤ t.toNat) := by
    rw [Bool.eq_iff_iff]
    simp
    omega
  rw [h1, h2]
  rfl
theorem ref_one (t : BitVec 32) (n K : Nat) (bit : Bool) (hbit : (n / K % 2 == 1) = bit) (h : (!(((n : Int) / (K : Int) % (2 : Int) == 1) == decide (2147483648 ≤ (t.toNat : Int)))) = true) :
    bits .xor .u32 (((t.toNat : Int) + (t.toNat : Int)) % (4294967296 : Int)) 79764919 = ((refBit t bit).toNat : Int) := by
  have hb := ref_test t n K bit hbit true h
  rw [refBit, hb, if_pos rfl, refBit_add, ← bits_xor_u32]
  rfl
theorem ref_none (t : BitVec 32) (n K : Nat) (bit : Bool) (hbit : (n / K % 2 == 1) = bit) (h : (!(((n : Int) / (K : Int) % (2 : Int) == 1) == decide (2147483648 ≤ (t.toNat : Int)))) = false) :
    ((t.toNat : Int) + (t.toNat : Int)) % (4294967296 : Int) = ((refBit t bit).toNat : Int) := by
  have hb := ref_test t n K bit hbit false h
  rw [refBit, hb, refBit_add]
  rfl

set_option maxHeartbeats 1000000 in
theorem ref02_On (v : BitVec 32) (s : ByteArray) (w : World) (hs : s.size ≤ maxLen) :
    Calls Try.prog 78 #[.int .u32 (v.toNat : Int), .string s] w fun e w' => e = .returned (.int .u32 ((crcOn v s.data.toList).toNat : Int)) ∧ w = w' := by
  unfold maxLen at hs
  go_enter Try.func78, Try.ntmps78
  go_wp2
  go_loop [0, 5] (fun x c => ∃ k : Nat, k ≤ s.size ∧ c = .int .i64 k ∧ x = .int .u32 ((crcOn v (s.data.toList.take k)).toNat : Int)) (fun _ c => s.size - (intOf c).toNat)
  case atStart => exact ⟨0, by omega, rfl, rfl⟩
  case round =>
    obtain ⟨k, hk, rfl, rfl⟩ := hrel
    by_cases hlt : k < s.size
    · obtain ⟨u, hu⟩ : ∃ u, u = crcOn v (s.data.toList.take k) := ⟨_, rfl⟩
      have hst : crcOn v (s.data.toList.take (k + 1)) = refBits s[k] 8 u := by
        rw [take_snoc_bytes s k hlt, crcOn_snoc, ← hu, byte_ref]
      rw [← hu]
      have HS := Lib.hid hst
      have hbl : (s[k].toNat : Int) < 256 := by have := s[k].toNat_lt; omega
      clear hu hst
      go_wp2
      generalize s[k] = b at *
      go_loop [0, 7] (fun x c => ∃ j : Nat, j ≤ 8 ∧ c = .int .i64 ((128 / 2 ^ j : Nat) : Int) ∧ x = .int .u32 ((refBits b j u).toNat : Int)) (fun _ c => (intOf c).toNat)
      case atStart => exact ⟨0, by omega, rfl, rfl⟩
      case round =>
        obtain ⟨j, hj, rfl, rfl⟩ := hrel
        by_cases hjl : j < 8
        · obtain ⟨t, ht⟩ : ∃ t, t = refBits b j u := ⟨_, rfl⟩
          have hnx : refBits b (j + 1) u = refBit t (b.toBitVec.getLsbD (7 - j)) := by rw [ht]; rfl
          have hbit := refOn_bit b j hjl
          obtain ⟨K, hK⟩ : ∃ K, K = 128 / 2 ^ j := ⟨_, rfl⟩
          have hK2 : K / 2 = 128 / 2 ^ (j + 1) := by rw [hK, Nat.div_div_eq_div_mul, Nat.pow_succ]
          have hK1 : 1 ≤ K := by
            rw [hK]
            match j, hjl with
            | 0, _ => decide | 1, _ => decide | 2, _ => decide | 3, _ => decide | 4, _ => decide | 5, _ => decide | 6, _ => decide | 7, _ => decide
          have hK3 : K ≤ 128 := by rw [hK]; exact Nat.div_le_self _ _
          rw [← hK] at hbit
          rw [← ht, ← hK]
          have HN := Lib.hid hnx
          have HB := Lib.hid hbit
          have HK2 := Lib.hid hK2
          have hq0 : 0 ≤ (b.toNat : Int) / (K : Int) := Int.ediv_nonneg (by omega) (by omega)
          have hq1 : (b.toNat : Int) / (K : Int) ≤ 255 := Int.le_trans (Int.ediv_le_self _ (by omega)) (by omega)
          clear ht hnx hbit hK2 hK
          set_option maxRecDepth 20000 in
          go_wp2_with fail
          · have ht : (!(((b.toNat : Int) / (K : Int) % (2 : Int) == 1) == decide (2147483648 ≤ (t.toNat : Int)))) = true := by assumption
            go_round
            case rel => exact ⟨j + 1, by omega, by rw [← HK2.out]; rfl, by rw [HN.out, ref_one t _ K _ HB.out ht]⟩
            case measure => simp [intOf]; omega
          · have ht : (!(((b.toNat : Int) / (K : Int) % (2 : Int) == 1) == decide (2147483648 ≤ (t.toNat : Int)))) = false := by assumption
            go_round
            case rel => exact ⟨j + 1, by omega, by rw [← HK2.out]; rfl, by rw [HN.out, ref_none t _ K _ HB.out ht]⟩
            case measure => simp [intOf]; omega
        · obtain rfl : j = 8 := by omega
          go_wp2
          go_round
          case rel => exact ⟨k + 1, by omega, by go_num, by rw [HS.out]⟩
          case measure => simp [intOf]; omega
    · obtain rfl : k = s.size := by omega
      go_wp2
      go_ret
      exact ⟨ret_int (by rw [List.take_of_length_le (by simp)]), rfl⟩

theorem ref02_Of (s : ByteArray) (w : World) (hs : s.size ≤ maxLen) :
    Calls Try.prog 57 #[.string s] w fun e w' => e = .returned (.int .u32 ((crcOf s.data.toList).toNat : Int)) ∧ w = w' := by
  have C := Lib.hid (ref02_On 0xFFFFFFFF#32 s w hs)
  go_enter Try.func57, Try.ntmps57
  go_wp2_with fail
  refine (show Calls Try.prog 78 #[.int .u32 4294967295, .string s] w _ from C.out).mono ?_
  rintro e w' ⟨rfl, rfl⟩
  go_wp2
  go_ret
  exact ⟨rfl, rfl⟩

/-- A text of at most so many bytes: the first ones. -/
def cutTo (s : ByteArray) (n : Nat) : ByteArray := if n < s.size then s.extract 0 n else s

theorem law01_Cut (s : ByteArray) (n : Nat) (w : World) (hn : n ≤ 1000000) :
    Calls Try.prog 16 #[.string s, .int .i64 (n : Int)] w fun e w' => e = .returned (.string (cutTo s n)) ∧ w = w' := by
  by_cases h : n < s.size
  · have h' : (n : Int) < (s.size : Int) := by omega
    go_enter Try.func16, Try.ntmps16
    go_wp2
    go_ret
    exact ⟨ret_str (by rw [cutTo, if_pos h]), rfl⟩
  · have h' : ¬ (n : Int) < (s.size : Int) := by omega
    go_enter Try.func16, Try.ntmps16
    go_wp2
    go_ret
    exact ⟨ret_str (by rw [cutTo, if_neg h]), rfl⟩

theorem zeros_succ (s : ByteArray) (k : Nat) : s ++ zeros (k + 1) = s ++ zeros k ++ ⟨#[0]⟩ := by
  apply ByteArray.ext
  simp [zeros, ByteArray.data_append, Array.replicate_succ]

theorem zeros_nil (s : ByteArray) : s ++ zeros 0 = s := by
  apply ByteArray.ext
  simp [zeros, ByteArray.data_append]

def fillTo (s : ByteArray) (n : Nat) : ByteArray := s ++ zeros (n - s.size)

theorem ref05_Fill (s : ByteArray) (w : World) (hs : s.size ≤ 1000000) :
    Calls Try.prog 34 #[.string s] w fun e w' => e = .returned (.string (fillTo s 256)) ∧ Below w.heap.size w w' := by
  go_enter Try.func34, Try.ntmps34
  go_wp2
  go_loopw [0] (fun x wr => ∃ k : Nat, (k = 0 ∨ s.size + k ≤ 256) ∧ x = .string (s ++ zeros k) ∧ Below w.heap.size w wr) (fun x _ => match x with | .string t => 256 - t.size | _ => 0)
  case atStart => exact ⟨0, .inl rfl, by rw [zeros_nil], Below.refl _ _⟩
  case round =>
    obtain ⟨k, hk, rfl, hb⟩ := hrel
    obtain ⟨t, ht⟩ : ∃ t, t = s ++ zeros k := ⟨_, rfl⟩
    have hsz : t.size = s.size + k := by rw [ht, ByteArray.size_append, zeros_size]
    rw [← ht]
    by_cases hlt : t.size < 256
    · have hl : (t.size : Int) < 256 := by omega
      have hcv := lit1 wr wr.heap.size rfl 0
      have hone : strOfNums [0] = ⟨#[0]⟩ := rfl
      rw [hone] at hcv
      have hadd : ¬ (9223372036854775807 < t.size + (⟨#[0]⟩ : ByteArray).size) := by have : (⟨#[0]⟩ : ByteArray).size = 1 := rfl; omega
      have hnx : s ++ zeros (k + 1) = t ++ ⟨#[0]⟩ := by rw [zeros_succ, ht]
      have HN := Lib.hid hnx
      have HS := Lib.hid hsz
      have hb2 := hb.alloc hb.size (.cells #[.int .u8 0] 5)
      clear ht hsz hnx hone
      go_wp2
      go_roundw
      case rel => exact ⟨k + 1, .inr (by have := HS.out; omega), by rw [HN.out], hb2⟩
      case measure =>
        have hz : (t ++ (⟨#[0]⟩ : ByteArray)).size = t.size + 1 := by rw [ByteArray.size_append]; rfl
        simp only [Array.getD_eq_getD_getElem?]
        simp [hz]; omega
    · have hl : ¬ (t.size : Int) < 256 := by omega
      have he : fillTo s 256 = t := by
        rw [fillTo, ht]
        congr 2
        omega
      have HE := Lib.hid he
      clear ht hsz he
      go_wp2
      go_ret
      exact ⟨ret_str (by rw [HE.out]), hb⟩

/-- A page's bytes behind its sum; its sector. -/
def pageHead (kind : Int) (n : Nat) : ByteArray := strOfNums [kind % 256, (n : Int) % 256]
def pageText (kind : Int) (s : ByteArray) : ByteArray := fillTo (pageHead kind s.size ++ s) 252
def sectorOf (kind : Int) (s : ByteArray) : ByteArray := four (crcOf (pageText kind s).data.toList).toNat ++ pageText kind s
theorem pageHead_size (kind : Int) (n : Nat) : (pageHead kind n).size = 2 := by rw [pageHead, strOfNums_size]; rfl
theorem fillTo_size (s : ByteArray) (n : Nat) (h : s.size ≤ n) : (fillTo s n).size = n := by rw [fillTo, ByteArray.size_append, zeros_size]; omega
theorem pageText_size (kind : Int) (s : ByteArray) (h : s.size ≤ 250) : (pageText kind s).size = 252 := by
  rw [pageText, fillTo_size]; rw [ByteArray.size_append, pageHead_size]; omega
theorem sectorOf_size (kind : Int) (s : ByteArray) (h : s.size ≤ 250) : (sectorOf kind s).size = 256 := by
  rw [sectorOf, ByteArray.size_append, four_size, pageText_size kind s h]
theorem extract_app_left (a b : ByteArray) (n : Nat) (h : n ≤ a.size) : (a ++ b).extract 0 n = a.extract 0 n := by
  apply ByteArray.ext
  simp only [ByteArray.data_extract, ByteArray.data_append]
  apply Array.toList_inj.1
  have h' : n ≤ a.data.toList.length := h
  simp only [Array.toList_extract, Array.toList_append, List.extract_eq_take_drop, List.drop_zero, Nat.sub_zero]
  rw [List.take_append_of_le_length h']
theorem zeros_add (a b : Nat) : zeros (a + b) = zeros a ++ zeros b := by
  apply ByteArray.ext
  simp only [zeros, ByteArray.data_append, Array.replicate_append_replicate]
theorem fill_cut (s : ByteArray) (n m : Nat) (hn : n ≤ m) (h : s.size ≤ n) : (fillTo s m).extract 0 n = fillTo s n := by
  have e : fillTo s m = fillTo s n ++ zeros (m - n) := by
    rw [fillTo, fillTo, show m - s.size = (n - s.size) + (m - n) from by omega, zeros_add, ByteArray.append_assoc]
  rw [e, extract_app_left _ _ _ (by rw [fillTo_size _ _ h]; omega)]
  have : (fillTo s n).size = n := fillTo_size _ _ h
  conv => rhs; rw [← ByteArray.extract_zero_size (b := fillTo s n)]
  rw [this]

set_option maxHeartbeats 1000000 in
set_option maxRecDepth 20000 in
theorem ref07_Text (kind : Int) (s : ByteArray) (w : World) (hs : s.size ≤ 250) :
    Calls Try.prog 19 #[.agg #[.int .i64 kind, .string s]] w fun e w' => e = .returned (.string (sectorOf kind s)) ∧ Below w.heap.size w w' := by
  obtain ⟨hd, hhd⟩ : ∃ hd, pageHead kind s.size = hd := ⟨_, rfl⟩
  have hhs : hd.size = 2 := by rw [← hhd, pageHead_size]
  obtain ⟨x, hx⟩ : ∃ x, hd ++ s = x := ⟨_, rfl⟩
  have hxs : x.size ≤ 252 := by rw [← hx, ByteArray.size_append]; omega
  have hadd : ¬ (9223372036854775807 < hd.size + s.size) := by omega
  have C1 := fun W => ref05_Fill x W (by omega)
  obtain ⟨f, hf⟩ : ∃ f, fillTo x 256 = f := ⟨_, rfl⟩
  have hfs : f.size = 256 := by rw [← hf, fillTo_size]; omega
  obtain ⟨g, hg⟩ : ∃ g, f.extract 0 252 = g := ⟨_, rfl⟩
  have hgs : g = pageText kind s := by rw [← hg, ← hf, fill_cut _ _ _ (by omega) hxs, ← hx, ← hhd, pageText]
  have hgz : g.size = 252 := by rw [hgs, pageText_size _ _ hs]
  have C2 := Lib.hid (fun W => ref02_Of g W (by unfold maxLen; omega))
  have hfin : sectorOf kind s = four ((crcOf g.data.toList).toNat : Int) ++ g := by rw [sectorOf, hgs]
  have C3 := fun W => ref02_Four ((crcOf g.data.toList).toNat : Int) W (by omega) (u32_lt _)
  obtain ⟨fr, hfr⟩ : ∃ fr, four ((crcOf g.data.toList).toNat : Int) = fr := ⟨_, rfl⟩
  have hadd2 : ¬ (9223372036854775807 < fr.size + g.size) := by rw [← hfr, four_size]; omega
  have hsn : strOfNums [kind % 256, (s.size : Int)] = hd := by rw [← hhd, pageHead]; congr 3; omega
  rw [hf] at C1
  rw [hfr] at C3 hfin
  have C1' := Lib.hid C1
  have C3' := Lib.hid C3
  have HFIN := Lib.hid hfin
  have hcv := lit2
  clear hf hfr hfin hhd hgs hhs hxs hgz C1 C3
  go_enter Try.func19, Try.ntmps19
  go_wp2_with fail
  refine (C1'.out _).mono ?_
  rintro e w1 ⟨rfl, hb1⟩
  clear hcv
  go_wp2_with fail
  refine (C2.out _).mono ?_
  rintro e w' ⟨rfl, rfl⟩
  go_wp2_with fail
  refine (C3'.out _).mono ?_
  rintro e w2 ⟨rfl, hb2⟩
  go_wp2
  go_ret
  exact ⟨ret_str (by rw [HFIN.out]), (((Below.refl _ _).alloc (Nat.le_refl _) _).alloc (by simp) _).trans ((hb1.mono (by simp <;> omega)).trans (hb2.mono (by have := hb1.size; simp at this; omega)))⟩

end Go.Proofs.Ytcbefilcdelplaa
