/- Sums of bytes, as plain functions on bit vectors; how Go's operations on uint32 spell them. -/
import Derived.Test.YtendgmblgdkiaaaGreatGInternFull0
import Derived.Test.YtendgmblgdkiaaaGreatGInternFull3
import Derived.Laws.BitsLemmas
import Derived.Laws.BytesArg
namespace Go.Proofs.YtendgmblgdkiaaaGreat
open Go.RowKit
set_option linter.unusedVariables false
set_option linter.unusedSimpArgs false

def crcStep (v : BitVec 32) : BitVec 32 := if v.msb then (v <<< 1) ^^^ 0x04C11DB7#32 else v <<< 1
def crcSteps : Nat → BitVec 32 → BitVec 32
 | 0, v => v
 | n + 1, v => crcStep (crcSteps n v)
/-- What eight bits do to a sum whose highest byte they are. -/
def crcEight (v : BitVec 32) : BitVec 32 := crcSteps 8 v
def crcByte (v : BitVec 32) (b : UInt8) : BitVec 32 := crcEight (v ^^^ (b.toBitVec.zeroExtend 32 <<< 24))
def crcOn (v : BitVec 32) (l : List UInt8) : BitVec 32 := l.foldl crcByte v
def crcOf (l : List UInt8) : BitVec 32 := crcOn 0xFFFFFFFF#32 l

theorem crcOn_snoc (v : BitVec 32) (l : List UInt8) (b : UInt8) : crcOn v (l ++ [b]) = crcByte (crcOn v l) b := by simp [crcOn]

theorem wrap_u32_nat (n : Nat) (h : n < 4294967296) : IntKind.u32.wrap (n : Int) = n := by rw [IntKind.wrap_u32]; omega
theorem bits_xor_u32 (v u : BitVec 32) : bits .xor .u32 v.toNat u.toNat = (v ^^^ u).toNat := by
 simp only [bits, BitVec.ofInt_natCast]
 have e : ∀ x : BitVec 32, BitVec.ofNat (IntKind.u32.bits) x.toNat = x := fun x => BitVec.ofNat_toNat _ _ |>.trans (by simp [IntKind.bits])
 rw [e, e]
 exact wrap_u32_nat _ (BitVec.isLt _)
theorem bits_and_top (v : BitVec 32) : bits .and .u32 v.toNat 2147483648 = if v.msb then 2147483648 else 0 := by
 have e : ∀ x : BitVec 32, BitVec.ofNat (IntKind.u32.bits) x.toNat = x := fun x => BitVec.ofNat_toNat _ _ |>.trans (by simp [IntKind.bits])
 have h : bits .and .u32 v.toNat ((2147483648#32).toNat : Nat) = (v &&& 2147483648#32).toNat := by
  simp only [bits, BitVec.ofInt_natCast]
  rw [e, e]
  exact wrap_u32_nat _ (BitVec.isLt _)
 have h2 : (((2147483648#32).toNat : Nat) : Int) = 2147483648 := by decide
 rw [h2] at h
 rw [h]
 have h3 : v &&& 2147483648#32 = if v.msb then 2147483648#32 else 0#32 := by
  rw [BitVec.msb_eq_getLsbD_last]
  apply BitVec.eq_of_getLsbD_eq
  intro i hi
  rw [BitVec.getLsbD_and]
  by_cases h31 : i = 31
  ·subst h31
   cases v.getLsbD 31 <;> simp
  ·have : (2147483648#32).getLsbD i = false := by
    have : 2147483648#32 = BitVec.twoPow 32 31 := by decide
    rw [this, BitVec.getLsbD_twoPow]
    simp; omega
   rw [this]
   split <;> simp [this]
 rw [h3]
 split <;> decide
theorem shl1_u32 (v : BitVec 32) : ((v.toNat : Int) * (2 : Int)) % (4294967296 : Int) = ((v <<< 1).toNat : Int) := by
 rw [BitVec.toNat_shiftLeft]
 simp [Nat.shiftLeft_eq]
theorem byte_shl24 (b : UInt8) : ((b.toNat : Int) * (16777216 : Int)) % (4294967296 : Int) = ((b.toBitVec.zeroExtend 32 <<< 24).toNat : Int) := by
 have := b.toNat_lt
 rw [BitVec.toNat_shiftLeft]
 simp [Nat.shiftLeft_eq]

/-- A number's four bytes. -/
def four (x : Int) : ByteArray := strOfNums [(x / 16777216) % 256, (x / 65536) % 256, (x / 256) % 256, x % 256]
theorem four_size (x : Int) : (four x).size = 4 := by rw [four, strOfNums_size]; rfl

end Go.Proofs.YtendgmblgdkiaaaGreat
