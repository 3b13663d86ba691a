/- A key's bytes. -/
import Derived.Test.YtogngmbjkdffaaaLS
namespace Go.Proofs.Ytogngmbjkdffaaa.PKeysAll
open Go.RowKit Go.Proofs.YtogngmbjkdffaaaW.PrintWords Go.Proofs.YtogngmbjkdffaaaW.PrintLast Go.Proofs.YtogngmbjkdffaaaW.PrintMore
set_option linter.unusedVariables false
set_option linter.unusedSimpArgs false

def keyN : ByteArray := ⟨#[110]⟩
def keyP (rev : Int) : ByteArray := ⟨#[112, u8 ((rev / 16777216) % 256), u8 ((rev / 65536) % 256), u8 ((rev / 256) % 256), u8 (rev % 256)]⟩
def keyF (rev fact a b : Int) : ByteArray := ⟨#[102, u8 ((rev / 16777216) % 256), u8 ((rev / 65536) % 256), u8 ((rev / 256) % 256), u8 (rev % 256), u8 (fact % 256), u8 ((a / 256) % 256), u8 (a % 256), u8 (b % 256)]⟩
def keyS (sum n : Int) : ByteArray := ⟨#[115, u8 ((sum / 16777216) % 256), u8 ((sum / 65536) % 256), u8 ((sum / 256) % 256), u8 (sum % 256), u8 (n % 256)]⟩

theorem p_app (rev : Int) : (⟨#[112]⟩ : ByteArray) ++ four rev = keyP rev := rfl
theorem f_app (rev x y z v : Int) : ((⟨#[102]⟩ : ByteArray) ++ four rev) ++ strOfNums [x, y, z, v] = ⟨#[102, u8 ((rev / 16777216) % 256), u8 ((rev / 65536) % 256), u8 ((rev / 256) % 256), u8 (rev % 256), u8 x, u8 y, u8 z, u8 v]⟩ := rfl
theorem s_app (sum n : Int) : ((⟨#[115]⟩ : ByteArray) ++ four sum) ++ strOfNums [n] = ⟨#[115, u8 ((sum / 16777216) % 256), u8 ((sum / 65536) % 256), u8 ((sum / 256) % 256), u8 (sum % 256), u8 n]⟩ := rfl
theorem f_size (rev x y z v : Int) : ((⟨#[102]⟩ : ByteArray) ++ four rev).size + (strOfNums [x, y, z, v]).size = 9 := rfl
theorem s_size (sum n : Int) : ((⟨#[115]⟩ : ByteArray) ++ four sum).size + (strOfNums [n]).size = 6 := rfl

/-- A key's bytes, as the document says. -/
def keyBytes (kind rev fact a b sum n : Int) : ByteArray :=
  if good kind rev fact a b sum n = true then (if kind = 1 then keyN else if kind = 2 then keyP rev else if kind = 3 then keyF rev fact a b else keyS sum n) else ⟨#[]⟩

end Go.Proofs.Ytogngmbjkdffaaa.PKeysAll
