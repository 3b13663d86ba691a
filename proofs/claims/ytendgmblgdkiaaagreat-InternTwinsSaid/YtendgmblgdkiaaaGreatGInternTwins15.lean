/- The references' functions on sums and sectors, walked. -/
import Derived.Test.YtendgmblgdkiaaaGreatGInternTwins0
import Derived.Test.YtendgmblgdkiaaaGreatGInternTwins10
import Derived.Test.YtendgmblgdkiaaaGreatGInternTwins12
namespace Go.Proofs.YtendgmblgdkiaaaGreat
open Go.RowKit
set_option linter.unusedVariables false
set_option linter.unusedSimpArgs false

/-- A sum and a bit: as the reference does it. -/
def refBit (v : BitVec 32) (bit : Bool) : BitVec 32 := if bit != v.msb then (v <<< 1) ^^^ 0x04C11DB7#32 else v <<< 1
def refBits (b : UInt8) : Nat → BitVec 32 → BitVec 32
 | 0, v => v
 | n + 1, v => refBit (refBits b n v) (b.toBitVec.getLsbD (7 - n))

theorem xor_lc (a b c : BitVec 32) : a ^^^ (b ^^^ c) = b ^^^ (a ^^^ c) := by rw [← BitVec.xor_assoc, BitVec.xor_comm a b, BitVec.xor_assoc]
theorem steps_ref (v : BitVec 32) (b : UInt8) : ∀ j, j ≤ 8 → crcSteps j (v ^^^ (b.toBitVec.zeroExtend 32 <<< 24)) = refBits b j v ^^^ (b.toBitVec.zeroExtend 32 <<< (24 + j))
 | 0, _ => rfl
 | j + 1, h => by
  have ih := steps_ref v b j om_
  have hm : (b.toBitVec.zeroExtend 32 <<< (24 + j)).msb = b.toBitVec.getLsbD (7 - j) := by
   rw [BitVec.msb_eq_getLsbD_last, BitVec.getLsbD_shiftLeft]
   have h1 : ¬ (31 < 24 + j) := by omega
   have h2 : 31 - (24 + j) = 7 - j := by omega
   simp [h1, h2, BitVec.getLsbD_setWidth]
   omega
  have hs : ∀ x y : BitVec 32, (x ^^^ y) <<< 1 = x <<< 1 ^^^ y <<< 1 := fun x y => BitVec.shiftLeft_xor_distrib ..
  have hs2 : (b.toBitVec.zeroExtend 32 <<< (24 + j)) <<< 1 = b.toBitVec.zeroExtend 32 <<< (24 + (j + 1)) := by
   rw [← BitVec.shiftLeft_add]; rfl
  show crcStep (crcSteps j _) = refBit _ _ ^^^ _
  rw [ih, crcStep, refBit, BitVec.msb_xor, hm, hs, hs2]
  cases (refBits b j v).msb <;> cases b.toBitVec.getLsbD (7 - j) <;> simp [BitVec.xor_assoc, BitVec.xor_comm, xor_lc]

theorem byte_ref (v : BitVec 32) (b : UInt8) : crcByte v b = refBits b 8 v := by
 rw [crcByte, crcEight, steps_ref v b 8 (by omega)]
 have : b.toBitVec.zeroExtend 32 <<< (24 + 8) = 0#32 := by
  apply BitVec.eq_of_getLsbD_eq
  intro i hi
  rw [BitVec.getLsbD_shiftLeft]
  simp
 rw [this, BitVec.xor_zero]

set_option maxRecDepth 100000 in
theorem ref02_Four (x : Int) (w : World) (h0 : 0 ≤ x) (h1 : x < 4294967296) :
  Calls Tryz.prog 57 #[.int .u32 x] w fun e w' => e = .returned (.string (four x)) ∧ Below w.heap.size w w' := by
 have hcv := lit4
 go_enter Tryz.func57, Tryz.ntmps57
 go_wp2
 go_ret
 refine ⟨ret_str ?_, (Below.refl _ _).alloc (Nat.le_refl _) _⟩
 unfold four
 rw [show x / 16777216 % 256 = x / 16777216 from by omega]

theorem refOn_bit (b : UInt8) (j : Nat) (hj : j < 8) : ((b.toNat / (128 / 2 ^ j) % 2 == 1) : Bool) = b.toBitVec.getLsbD (7 - j) := by
 have : 128 / 2 ^ j = 2 ^ (7 - j) := by
  match j, hj with
  | 0, _ => rfl | 1, _ => rfl | 2, _ => rfl | 3, _ => rfl | 4, _ => rfl | 5, _ => rfl | 6, _ => rfl | 7, _ => rfl
 rw [this]
 show _ = b.toNat.testBit (7 - j)
 rw [Nat.testBit_eq_decide_div_mod_eq]
 rfl

theorem geq_top (v : BitVec 32) : decide (2147483648 ≤ v.toNat) = v.msb := by
 rw [BitVec.msb_eq_decide]

theorem refBit_add (v : BitVec 32) : ((v.toNat : Int) + (v.toNat : Int)) % (4294967296 : Int) = ((v <<< 1).toNat : Int) := by
 rw [← shl1_u32]; congr 1; omega

theorem ref_test (t : BitVec 32) (n K : Nat) (bit : Bool) (hbit : (n / K % 2 == 1) = bit) (r : Bool) (h : (!(((n : Int) / (K : Int) % (2 : Int) == 1) == decide (2147483648 ≤ (t.toNat : Int)))) = r) : (bit != t.msb) = r := by
 rw [← h, ← hbit, ← geq_top]
 have h1 : ((n : Int) / (K : Int) % (2 : Int) == 1) = (n / K % 2 == 1) := by
  rw [← Int.natCast_ediv, Bool.eq_iff_iff]
  simp
  omega
 have h2 : decide (2147483648 ≤ (t.toNat : Int)) = decide (2147483648 ≤ t.toNat) := by
  rw [Bool.eq_iff_iff]
  simp
  omega
 rw [h1, h2]
 rfl
theorem ref_one (t : BitVec 32) (n K : Nat) (bit : Bool) (hbit : (n / K % 2 == 1) = bit) (h : (!(((n : Int) / (K : Int) % (2 : Int) == 1) == decide (2147483648 ≤ (t.toNat : Int)))) = true) :
  bits .xor .u32 (((t.toNat : Int) + (t.toNat : Int)) % (4294967296 : Int)) 79764919 = ((refBit t bit).toNat : Int) := by
 have hb := ref_test t n K bit hbit true h
 rw [refBit, hb, if_pos rfl, refBit_add, ← bits_xor_u32]
 rfl
theorem ref_none (t : BitVec 32) (n K : Nat) (bit : Bool) (hbit : (n / K % 2 == 1) = bit) (h : (!(((n : Int) / (K : Int) % (2 : Int) == 1) == decide (2147483648 ≤ (t.toNat : Int)))) = false) :
  ((t.toNat : Int) + (t.toNat : Int)) % (4294967296 : Int) = ((refBit t bit).toNat : Int) := by
 have hb := ref_test t n K bit hbit false h
 rw [refBit, hb, refBit_add]
 rfl

set_option maxHeartbeats 1000000 in
theorem ref02_On (v : BitVec 32) (s : ByteArray) (w : World) (hs : s.size ≤ maxLen) :
  Calls Tryz.prog 114 #[.int .u32 (v.toNat : Int), .string s] w fun e w' => e = .returned (.int .u32 ((crcOn v s.data.toList).toNat : Int)) ∧ w = w' := by
 unfold maxLen at hs
 go_enter Tryz.func114, Tryz.ntmps114
 go_wp2
 go_loop [0, 5] (fun x c => ∃ k : Nat, k ≤ s.size ∧ c = .int .i64 k ∧ x = .int .u32 ((crcOn v (s.data.toList.take k)).toNat : Int)) (fun _ c => s.size - (intOf c).toNat)
 case atStart => exact ⟨0, by omega, rfl, rfl⟩
 case round =>
  obtain ⟨k, hk, rfl, rfl⟩ := hrel
  by_cases hlt : k < s.size
  ·obtain ⟨u, hu⟩ : ∃ u, u = crcOn v (s.data.toList.take k) := ⟨_, rfl⟩
   have hst : crcOn v (s.data.toList.take (k + 1)) = refBits s[k] 8 u := by
    rw [take_snoc_bytes s k hlt, crcOn_snoc, ← hu, byte_ref]
   rw [← hu]
   have HS := hi_ hst
   have hbl : (s[k].toNat : Int) < 256 := by have := s[k].toNat_lt; omega
   clear hu hst
   go_wp2
   generalize s[k] = b at *
   go_loop [0, 7] (fun x c => ∃ j : Nat, j ≤ 8 ∧ c = .int .i64 ((128 / 2 ^ j : Nat) : Int) ∧ x = .int .u32 ((refBits b j u).toNat : Int)) (fun _ c => (intOf c).toNat)
   case atStart => exact ⟨0, by omega, rfl, rfl⟩
   case round =>
    obtain ⟨j, hj, rfl, rfl⟩ := hrel
    by_cases hjl : j < 8
    ·obtain ⟨t, ht⟩ : ∃ t, t = refBits b j u := ⟨_, rfl⟩
     have hnx : refBits b (j + 1) u = refBit t (b.toBitVec.getLsbD (7 - j)) := by rw [ht]; rfl
     have hbit := refOn_bit b j hjl
     obtain ⟨K, hK⟩ : ∃ K, K = 128 / 2 ^ j := ⟨_, rfl⟩
     have hK2 : K / 2 = 128 / 2 ^ (j + 1) := by rw [hK, Nat.div_div_eq_div_mul, Nat.pow_succ]
     have hK1 : 1 ≤ K := by
      rw [hK]
      match j, hjl with
      | 0, _ => decide | 1, _ => decide | 2, _ => decide | 3, _ => decide | 4, _ => decide | 5, _ => decide | 6, _ => decide | 7, _ => decide
     have hK3 : K ≤ 128 := by rw [hK]; exact Nat.div_le_self _ _
     rw [← hK] at hbit
     rw [← ht, ← hK]
     have HN := hi_ hnx
     have HB := hi_ hbit
     have HK2 := hi_ hK2
     have hq0 : 0 ≤ (b.toNat : Int) / (K : Int) := Int.ediv_nonneg om_ om_
     have hq1 : (b.toNat : Int) / (K : Int) ≤ 255 := Int.le_trans (Int.ediv_le_self _ om_) om_
     clear ht hnx hbit hK2 hK
     set_option maxRecDepth 20000 in
     go_wp2_with fail
     ·have ht : (!(((b.toNat : Int) / (K : Int) % (2 : Int) == 1) == decide (2147483648 ≤ (t.toNat : Int)))) = true := by assumption
      go_round
      case rel => exact ⟨j + 1, by omega, by rw [← HK2.out]; rfl, by rw [HN.out, ref_one t _ K _ HB.out ht]⟩
      case measure => simp [intOf]; omega
     ·have ht : (!(((b.toNat : Int) / (K : Int) % (2 : Int) == 1) == decide (2147483648 ≤ (t.toNat : Int)))) = false := by assumption
      go_round
      case rel => exact ⟨j + 1, by omega, by rw [← HK2.out]; rfl, by rw [HN.out, ref_none t _ K _ HB.out ht]⟩
      case measure => simp [intOf]; omega
    ·obtain rfl : j = 8 := by omega
     go_wp2
     go_round
     case rel => exact ⟨k + 1, by omega, by go_num, by rw [HS.out]⟩
     case measure => simp [intOf]; omega
  ·obtain rfl : k = s.size := by omega
   go_wp2
   go_ret
   exact ⟨ret_int (by rw [List.take_of_length_le (by simp)]), rfl⟩

theorem ref02_Of (s : ByteArray) (w : World) (hs : s.size ≤ maxLen) :
  Calls Tryz.prog 52 #[.string s] w fun e w' => e = .returned (.int .u32 ((crcOf s.data.toList).toNat : Int)) ∧ w = w' := by
 have C := hi_ (ref02_On 0xFFFFFFFF#32 s w hs)
 go_enter Tryz.func52, Tryz.ntmps52
 go_wp2_with fail
 refine (show Calls Tryz.prog 114 #[.int .u32 4294967295, .string s] w _ from C.out).mono ?_
 rintro e w' ⟨rfl, rfl⟩
 go_wp2
 go_ret
 exact ⟨rfl, rfl⟩

theorem zeros_nil (s : ByteArray) : s ++ zeros 0 = s := by
 apply ByteArray.ext
 simp [zeros, ByteArray.data_append]

def fillTo (s : ByteArray) (n : Nat) : ByteArray := s ++ zeros (n - s.size)

/-- A page's bytes behind its sum; its sector. -/
def pageHead (kind : Int) (n : Nat) : ByteArray := strOfNums [kind % 256, (n : Int) % 256]
def pageText (kind : Int) (s : ByteArray) : ByteArray := fillTo (pageHead kind s.size ++ s) 252
def sectorOf (kind : Int) (s : ByteArray) : ByteArray := four (crcOf (pageText kind s).data.toList).toNat ++ pageText kind s
theorem pageHead_size (kind : Int) (n : Nat) : (pageHead kind n).size = 2 := by rw [pageHead, strOfNums_size]; rfl
theorem fillTo_size (s : ByteArray) (n : Nat) (h : s.size ≤ n) : (fillTo s n).size = n := by rw [fillTo, ByteArray.size_append, zeros_size]; omega
theorem pageText_size (kind : Int) (s : ByteArray) (h : s.size ≤ 250) : (pageText kind s).size = 252 := by
 rw [pageText, fillTo_size]; rw [ByteArray.size_append, pageHead_size]; omega
theorem sectorOf_size (kind : Int) (s : ByteArray) (h : s.size ≤ 250) : (sectorOf kind s).size = 256 := by
 rw [sectorOf, ByteArray.size_append, four_size, pageText_size kind s h]
end Go.Proofs.YtendgmblgdkiaaaGreat
