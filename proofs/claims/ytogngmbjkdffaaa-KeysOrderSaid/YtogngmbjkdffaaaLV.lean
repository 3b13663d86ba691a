/- The keys' laws, plain: keys of texts, counters, there and back. -/
import Derived.Test.YtogngmbjkdffaaaLP
import Derived.Test.YtogngmbjkdffaaaPKeysAllx7
namespace Go.Proofs.Ytogngmbjkdffaaa.PKeysAll
open Go.RowKit Go.Proofs.YtogngmbjkdffaaaW.PrintWords Go.Proofs.YtogngmbjkdffaaaW.PrintLast Go.Proofs.YtogngmbjkdffaaaW.PrintMore
set_option linter.unusedVariables false
set_option linter.unusedSimpArgs false

def u8 (x : Int) : UInt8 := UInt8.ofNat x.toNat
def four (x : Int) : ByteArray := ⟨#[u8 ((x / 16777216) % 256), u8 ((x / 65536) % 256), u8 ((x / 256) % 256), u8 (x % 256)]⟩
theorem four_f (x : Int) : crc_Four.f x = some (four x) := rfl
theorem four_size (x : Int) : (four x).size = 4 := rfl

theorem u8_nat (x : Int) (h0 : 0 ≤ x) (h1 : x < 256) : ((u8 x).toNat : Int) = x := by
  rw [u8, UInt8.toNat_ofNat', Nat.mod_eq_of_lt (by omega)]
  omega
theorem u8_of (b : UInt8) (x : Int) (h : x = (b.toNat : Int)) : u8 x = b := by
  apply UInt8.toNat_inj.1
  have hb := b.toNat_lt
  have := u8_nat x (by omega) (by omega)
  omega

theorem num4 (a b c d : UInt8) : (numOf [a, b, c, d] : Int) = (a.toNat : Int) * 16777216 + (b.toNat : Int) * 65536 + (c.toNat : Int) * 256 + (d.toNat : Int) := by
  simp only [numOf, List.foldl_cons, List.foldl_nil]
  omega
theorem num4_lt (a b c d : UInt8) : (numOf [a, b, c, d] : Int) < 4294967296 := by
  have := a.toNat_lt; have := b.toNat_lt; have := c.toNat_lt; have := d.toNat_lt
  rw [num4]; omega

/-- A number's four bytes are that number's. -/
theorem num_four (x : Int) (h0 : 0 ≤ x) (h1 : x < 4294967296) : (numOf (four x).data.toList : Int) = x := by
  show (numOf [u8 ((x / 16777216) % 256), u8 ((x / 65536) % 256), u8 ((x / 256) % 256), u8 (x % 256)] : Int) = x
  rw [num4, u8_nat _ (by omega) (by omega), u8_nat _ (by omega) (by omega), u8_nat _ (by omega) (by omega), u8_nat _ (by omega) (by omega)]
  omega
theorem four_num (a b c d : UInt8) : four (numOf [a, b, c, d] : Int) = ⟨#[a, b, c, d]⟩ := by
  have := a.toNat_lt; have := b.toNat_lt; have := c.toNat_lt; have := d.toNat_lt
  have h := num4 a b c d
  rw [four, u8_of a _ (by omega), u8_of b _ (by omega), u8_of c _ (by omega), u8_of d _ (by omega)]

theorem refkey_f (x n : Int) : intern_Ref_Key.f x n = some ⟨#[115, u8 ((x / 16777216) % 256), u8 ((x / 65536) % 256), u8 ((x / 256) % 256), u8 (x % 256), u8 (n % 256)]⟩ := by
  have e : ((⟨#[115]⟩ : ByteArray) ++ four x) ++ strOfNums [n % 256] = ⟨#[115, u8 ((x / 16777216) % 256), u8 ((x / 65536) % 256), u8 ((x / 256) % 256), u8 (x % 256), u8 (n % 256)]⟩ := by
    apply ByteArray.ext
    rw [ByteArray.data_append, ByteArray.data_append]
    rfl
  rw [intern_Ref_Key.f, four_f, Option.bind_some, four_size, if_pos (by decide), Option.bind_some, ByteArray.size_append, four_size, strOfNums_size, if_pos (show (⟨#[115]⟩ : ByteArray).size + 4 + [n % 256].length ≤ 9223372036854775807 from (show 1 + 4 + 1 ≤ 9223372036854775807 by decide)), e]

theorem awake_f : dowserlaw21_awake.f 40 = some true := by kernel_rfl
end Go.Proofs.Ytogngmbjkdffaaa.PKeysAll
