/- The references' functions on sums and sectors, walked. -/
import Derived.Test.YtendgmblgdkiaaaGreatGInternFull0
import Derived.Test.YtendgmblgdkiaaaGreatGInternFull10
import Derived.Test.YtendgmblgdkiaaaGreatGInternFull12
namespace Go.Proofs.YtendgmblgdkiaaaGreat
open Go.RowKit
set_option linter.unusedVariables false
set_option linter.unusedSimpArgs false

theorem zeros_nil (s : ByteArray) : s ++ zeros 0 = s := by
 apply ByteArray.ext
 simp [zeros, ByteArray.data_append]

def fillTo (s : ByteArray) (n : Nat) : ByteArray := s ++ zeros (n - s.size)

/-- A page's bytes behind its sum; its sector. -/
def pageHead (kind : Int) (n : Nat) : ByteArray := strOfNums [kind % 256, (n : Int) % 256]
def pageText (kind : Int) (s : ByteArray) : ByteArray := fillTo (pageHead kind s.size ++ s) 252
def sectorOf (kind : Int) (s : ByteArray) : ByteArray := four (crcOf (pageText kind s).data.toList).toNat ++ pageText kind s
theorem pageHead_size (kind : Int) (n : Nat) : (pageHead kind n).size = 2 := by rw [pageHead, strOfNums_size]; rfl
theorem fillTo_size (s : ByteArray) (n : Nat) (h : s.size ≤ n) : (fillTo s n).size = n := by rw [fillTo, ByteArray.size_append, zeros_size]; omega
theorem pageText_size (kind : Int) (s : ByteArray) (h : s.size ≤ 250) : (pageText kind s).size = 252 := by
 rw [pageText, fillTo_size]; rw [ByteArray.size_append, pageHead_size]; omega
theorem sectorOf_size (kind : Int) (s : ByteArray) (h : s.size ≤ 250) : (sectorOf kind s).size = 256 := by
 rw [sectorOf, ByteArray.size_append, four_size, pageText_size kind s h]
end Go.Proofs.YtendgmblgdkiaaaGreat
