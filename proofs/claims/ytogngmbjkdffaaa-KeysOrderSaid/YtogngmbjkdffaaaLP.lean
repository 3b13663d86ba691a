/- The keys' laws, plain: numbers of bytes. -/
import Derived.Test.YtogngmbjkdffaaaPKeysAllx7
import Derived.IntWalk
namespace Go.Proofs.Ytogngmbjkdffaaa.PKeysAll
open Go.RowKit Go.Proofs.YtogngmbjkdffaaaW.PrintWords Go.Proofs.YtogngmbjkdffaaaW.PrintLast Go.Proofs.YtogngmbjkdffaaaW.PrintMore
set_option linter.unusedVariables false
set_option linter.unusedSimpArgs false

theorem or_nat (x b : Nat) (hb : b < 256) : (x * 256) ||| b = x * 256 + b := by
  have := Nat.shiftLeft_add_eq_or_of_lt (i := 8) (show b < 2 ^ 8 from hb) x
  rw [Nat.shiftLeft_eq] at this
  exact this.symm

theorem or64 (x b : Nat) (hx : x < 1099511627776) (hb : b < 256) : Go.bits .or .i64 (wrap64 ((x : Int) * 256)) (wrap64 (b : Int)) = ((x * 256 + b : Nat) : Int) := by
  rw [IntWalk.wrap64_in _ (by omega), IntWalk.wrap64_in _ (by omega)]
  simp only [bits]
  have h : (BitVec.ofInt IntKind.i64.bits ((x : Int) * 256) ||| BitVec.ofInt IntKind.i64.bits (b : Int)).toNat = x * 256 + b := by
    rw [BitVec.toNat_or, BitVec.toNat_ofInt, BitVec.toNat_ofInt, ← or_nat x b hb]
    show ((x : Int) * 256 % (2 ^ 64 : Nat)).toNat ||| ((b : Int) % (2 ^ 64 : Nat)).toNat = _
    have e1 : ((x : Int) * 256 % (2 ^ 64 : Nat)).toNat = x * 256 := by omega
    have e2 : ((b : Int) % (2 ^ 64 : Nat)).toNat = b := by omega
    rw [e1, e2]
  rw [h, IntKind.wrap_i64]
  omega

theorem or32 (x b : Nat) (hx : x < 16777216) (hb : b < 256) : Go.bits .or .u32 (((x : Int) * 256) % 4294967296) ((b : Int) % 4294967296) = ((x * 256 + b : Nat) : Int) := by
  have h0 : ((x : Int) * 256) % 4294967296 = (x : Int) * 256 := by omega
  have h1 : (b : Int) % 4294967296 = (b : Int) := by omega
  rw [h0, h1]
  simp only [bits]
  have h : (BitVec.ofInt IntKind.u32.bits ((x : Int) * 256) ||| BitVec.ofInt IntKind.u32.bits (b : Int)).toNat = x * 256 + b := by
    rw [BitVec.toNat_or, BitVec.toNat_ofInt, BitVec.toNat_ofInt, ← or_nat x b hb]
    show ((x : Int) * 256 % (2 ^ 32 : Nat)).toNat ||| ((b : Int) % (2 ^ 32 : Nat)).toNat = _
    have e1 : ((x : Int) * 256 % (2 ^ 32 : Nat)).toNat = x * 256 := by omega
    have e2 : ((b : Int) % (2 ^ 32 : Nat)).toNat = b := by omega
    rw [e1, e2]
  rw [h, IntKind.wrap_u32]
  omega

theorem and255' (x : Int) : Go.bits .and .i64 x 255 = x % 256 := by
  simp only [bits]
  have h : (BitVec.ofInt IntKind.i64.bits x &&& BitVec.ofInt IntKind.i64.bits 255).toNat = (x % 256).toNat := by
    rw [BitVec.toNat_and]
    have e : (BitVec.ofInt IntKind.i64.bits 255).toNat = 2 ^ 8 - 1 := by decide
    rw [e, Nat.and_two_pow_sub_one_eq_mod, BitVec.toNat_ofInt]
    show (x % (2 ^ 64 : Nat)).toNat % 2 ^ 8 = _
    omega
  rw [h, IntKind.wrap_i64]
  omega

theorem num_step (k : Nat) (s : ByteArray) (x n i : Int) (h : i < n) (h0 : 0 ≤ i) (h2 : i < (s.size : Int)) :
    keys_number.l0 (k + 1) s x n i = keys_number.l0 k s (Go.bits .or .i64 (wrap64 (x * 256)) (wrap64 (bt s i))) n (wrap64 (i + 1)) := by
  rw [keys_number.l0, if_pos h, if_pos h0, if_pos h2]
theorem num_end (k : Nat) (s : ByteArray) (x n i : Int) (h : ¬ i < n) : keys_number.l0 (k + 1) s x n i = some x := by
  rw [keys_number.l0, if_neg h]

/-- The number of bytes. -/
def numOf (l : List UInt8) : Nat := l.foldl (fun x b => x * 256 + b.toNat) 0
theorem numOf_snoc (l : List UInt8) (b : UInt8) : numOf (l ++ [b]) = numOf l * 256 + b.toNat := by simp [numOf]
theorem numOf_acc : ∀ (l : List UInt8) (x : Nat), l.foldl (fun x b => x * 256 + b.toNat) x < (x + 1) * 256 ^ l.length
  | [], x => by simp
  | b :: l, x => by
    have h := numOf_acc l (x * 256 + b.toNat)
    have hb := b.toNat_lt
    rw [List.foldl_cons, List.length_cons, Nat.pow_succ, Nat.mul_comm (256 ^ l.length), ← Nat.mul_assoc]
    refine Nat.lt_of_lt_of_le h (Nat.mul_le_mul_right _ (by omega))
theorem numOf_lt (l : List UInt8) : numOf l < 256 ^ l.length := by
  have := numOf_acc l 0
  simpa [numOf] using this

theorem bt_nat (s : ByteArray) (j : Nat) (h : j < s.size) : bt s (j : Int) = ((s.data.toList[j]'h).toNat : Int) := by
  simp only [bt, Int.toNat_natCast, dif_pos h]
  rfl

theorem num_l0 (s : ByteArray) (hs : s.size ≤ 5) : ∀ (d j k : Nat), s.size - j = d → j ≤ s.size → d < k → keys_number.l0 k s (numOf (s.data.toList.take j) : Int) (s.size : Int) (j : Int) = some (numOf s.data.toList : Int)
  | 0, j, k, hd, hj, hk => by
    obtain ⟨k, rfl⟩ : ∃ k', k = k' + 1 := ⟨k - 1, by omega⟩
    rw [num_end _ _ _ _ _ (by omega), List.take_of_length_le (by show s.size ≤ j; omega)]
  | d + 1, j, k, hd, hj, hk => by
    obtain ⟨k, rfl⟩ : ∃ k', k = k' + 1 := ⟨k - 1, by omega⟩
    have hlt : j < s.size := by omega
    have hlt' : j < s.data.toList.length := hlt
    have hn : numOf (s.data.toList.take j) < 1099511627776 := by
      have h1 := numOf_lt (s.data.toList.take j)
      have h2 : (s.data.toList.take j).length ≤ 4 := by rw [List.length_take]; omega
      have h3 := Nat.pow_le_pow_right (n := 256) (by omega) h2
      omega
    rw [num_step _ _ _ _ _ (by omega) (by omega) (by omega), bt_nat s j hlt, or64 _ _ hn (UInt8.toNat_lt _), ← numOf_snoc, ← List.take_succ_eq_append_getElem hlt', IntWalk.wrap64_in _ (by omega), ← Int.natCast_succ]
    exact num_l0 s hs d (j + 1) k (by omega) (by omega) (by omega)

theorem number_f (s : ByteArray) (hs : s.size ≤ 5) (k : Nat) (hk : 5 < k) : keys_number.f k s = some (numOf s.data.toList : Int) := by
  rw [keys_number.f]
  exact num_l0 s hs s.size 0 k (by omega) (by omega) (by omega)


/-! ### Of: a text's key -/
theorem of_step (k : Nat) (s : ByteArray) (x i : Int) (h : i < 5) (h0 : 0 ≤ i) (h2 : i < (s.size : Int)) :
    intern_Of.l0 (k + 1) s x i = intern_Of.l0 k s (Go.bits .or .u32 ((x * 256) % 4294967296) ((bt s i) % 4294967296)) (wrap64 (i + 1)) := by
  rw [intern_Of.l0, if_pos h, if_pos h0, if_pos h2]
theorem of_end (k : Nat) (s : ByteArray) (x i : Int) (h : ¬ i < 5) (h2 : 5 < (s.size : Int)) : intern_Of.l0 (k + 1) s x i = some (x, wrap64 (bt s 5), true) := by
  rw [intern_Of.l0, if_neg h, if_pos h2]

theorem list6 {α : Type} {l : List α} (h : l.length = 6) : ∃ a b c d e f, l = [a, b, c, d, e, f] := by
  match l, h with
  | [a, b, c, d, e, f], _ => exact ⟨a, b, c, d, e, f, rfl⟩
theorem list4 {α : Type} {l : List α} (h : l.length = 4) : ∃ a b c d, l = [a, b, c, d] := by
  match l, h with
  | [a, b, c, d], _ => exact ⟨a, b, c, d, rfl⟩
theorem size6 {s : ByteArray} (h : s.size = 6) : ∃ a b c d e f, s = ⟨#[a, b, c, d, e, f]⟩ := by
  obtain ⟨a, b, c, d, e, f, hl⟩ := list6 (l := s.data.toList) h
  exact ⟨a, b, c, d, e, f, ByteArray.ext (Array.toList_inj.1 hl)⟩
theorem size4 {s : ByteArray} (h : s.size = 4) : ∃ a b c d, s = ⟨#[a, b, c, d]⟩ := by
  obtain ⟨a, b, c, d, hl⟩ := list4 (l := s.data.toList) h
  exact ⟨a, b, c, d, ByteArray.ext (Array.toList_inj.1 hl)⟩

theorem of_six (m a b c d n : UInt8) (k : Nat) (hk : 8 < k) :
    intern_Of.f k ⟨#[m, a, b, c, d, n]⟩ = if m = 115 then some ((numOf [a, b, c, d] : Int), (n.toNat : Int), true) else some (0, 0, false) := by
  obtain ⟨k, rfl⟩ : ∃ k', k = k' + 7 := ⟨k - 7, by omega⟩
  have hs : ((⟨#[m, a, b, c, d, n]⟩ : ByteArray).size : Int) = 6 := rfl
  have hx : ((⟨#[m, a, b, c, d, n]⟩ : ByteArray).extract 0 1).toList = [m] := by
    rw [ByteArray.toList_eq]; rfl
  rw [intern_Of.f, if_pos hs, if_pos (by decide), if_pos (by rw [hs]; decide), hx]
  by_cases hm : m = 115
  · subst hm
    rw [if_pos rfl]
    have e : (([115] : List UInt8) != [115]) = false := by decide
    rw [e, intern_Of.j0, if_neg (by decide)]
    have b1 : bt ⟨#[115, a, b, c, d, n]⟩ 1 = (a.toNat : Int) := bt_nat ⟨#[115, a, b, c, d, n]⟩ 1 (show 1 < 6 by decide)
    have b2 : bt ⟨#[115, a, b, c, d, n]⟩ 2 = (b.toNat : Int) := bt_nat ⟨#[115, a, b, c, d, n]⟩ 2 (show 2 < 6 by decide)
    have b3 : bt ⟨#[115, a, b, c, d, n]⟩ 3 = (c.toNat : Int) := bt_nat ⟨#[115, a, b, c, d, n]⟩ 3 (show 3 < 6 by decide)
    have b4 : bt ⟨#[115, a, b, c, d, n]⟩ 4 = (d.toNat : Int) := bt_nat ⟨#[115, a, b, c, d, n]⟩ 4 (show 4 < 6 by decide)
    have b5 : bt ⟨#[115, a, b, c, d, n]⟩ 5 = (n.toNat : Int) := bt_nat ⟨#[115, a, b, c, d, n]⟩ 5 (show 5 < 6 by decide)
    have ha := a.toNat_lt
    have hb := b.toNat_lt
    have hc := c.toNat_lt
    have hd := d.toNat_lt
    have hn := n.toNat_lt
    have w1 : wrap64 (1 + 1) = 2 := (IntWalk.wrap64_in _ (by decide)).trans rfl
    have w2 : wrap64 (2 + 1) = 3 := (IntWalk.wrap64_in _ (by decide)).trans rfl
    have w3 : wrap64 (3 + 1) = 4 := (IntWalk.wrap64_in _ (by decide)).trans rfl
    have w4 : wrap64 (4 + 1) = 5 := (IntWalk.wrap64_in _ (by decide)).trans rfl
    have o1 : Go.bits .or .u32 ((0 * 256) % 4294967296) ((a.toNat : Int) % 4294967296) = ((0 * 256 + a.toNat : Nat) : Int) := or32 0 a.toNat (by omega) ha
    rw [of_step _ _ _ _ (by decide) (by decide) (by rw [hs]; decide), b1, w1, o1,
      of_step _ _ _ _ (by decide) (by decide) (by rw [hs]; decide), b2, w2, or32 _ _ (by omega) hb,
      of_step _ _ _ _ (by decide) (by decide) (by rw [hs]; decide), b3, w3, or32 _ _ (by omega) hc,
      of_step _ _ _ _ (by decide) (by decide) (by rw [hs]; decide), b4, w4, or32 _ _ (by omega) hd,
      of_end _ _ _ _ (by decide) (by rw [hs]; decide), b5, IntWalk.wrap64_in _ (by omega)]
    rfl
  · rw [if_neg hm]
    have e : (([m] : List UInt8) != [115]) = true := by simp [hm]
    rw [e, intern_Of.j0, if_pos rfl]
theorem of_other (s : ByteArray) (h : s.size ≠ 6) (k : Nat) (hk : 0 < k) : intern_Of.f k s = some (0, 0, false) := by
  obtain ⟨k, rfl⟩ : ∃ k', k = k' + 1 := ⟨k - 1, by omega⟩
  rw [intern_Of.f, if_neg (by omega), intern_Of.j0, if_pos rfl]

end Go.Proofs.Ytogngmbjkdffaaa.PKeysAll
