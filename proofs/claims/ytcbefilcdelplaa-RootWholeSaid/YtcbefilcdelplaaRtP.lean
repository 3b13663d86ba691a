/- Roots, plain: their text, and what is read of any sector. -/
import Derived.Test.YtcbefilcdelplaaProotx3
import Derived.IntWalk
namespace Go.Proofs.Ytcbefilcdelplaa.Proot
open Go.RowKit Go.Proofs.YtcbefilcdelplaaW.PrintWords Go.Proofs.YtcbefilcdelplaaW.PrintLast Go.Proofs.YtcbefilcdelplaaW.PrintMore
set_option linter.unusedVariables false
set_option linter.unusedSimpArgs false

theorem or_nat (x b : Nat) (hb : b < 256) : (x * 256) ||| b = x * 256 + b := by
  have := Nat.shiftLeft_add_eq_or_of_lt (i := 8) (show b < 2 ^ 8 from hb) x
  rw [Nat.shiftLeft_eq] at this
  exact this.symm

theorem orU64 (x b : Nat) (hx : x < 72057594037927936) (hb : b < 256) : Go.bits .or .u64 (IntKind.u64.wrap ((x : Int) * 256)) (IntKind.u64.wrap (b : Int)) = ((x * 256 + b : Nat) : Int) := by
  rw [IntKind.wrap_u64, IntKind.wrap_u64]
  have e0 : ((x : Int) * 256) % 18446744073709551616 = (x : Int) * 256 := by omega
  have e1 : (b : Int) % 18446744073709551616 = (b : Int) := by omega
  rw [e0, e1]
  simp only [bits]
  have h : (BitVec.ofInt IntKind.u64.bits ((x : Int) * 256) ||| BitVec.ofInt IntKind.u64.bits (b : Int)).toNat = x * 256 + b := by
    rw [BitVec.toNat_or, BitVec.toNat_ofInt, BitVec.toNat_ofInt, ← or_nat x b hb]
    show ((x : Int) * 256 % (2 ^ 64 : Nat)).toNat ||| ((b : Int) % (2 ^ 64 : Nat)).toNat = _
    have e1 : ((x : Int) * 256 % (2 ^ 64 : Nat)).toNat = x * 256 := by omega
    have e2 : ((b : Int) % (2 ^ 64 : Nat)).toNat = b := by omega
    rw [e1, e2]
  rw [h, IntKind.wrap_u64]
  omega

/-- The number of bytes. -/
def numOf (l : List UInt8) : Nat := l.foldl (fun x b => x * 256 + b.toNat) 0
theorem numOf_snoc (l : List UInt8) (b : UInt8) : numOf (l ++ [b]) = numOf l * 256 + b.toNat := by simp [numOf]
theorem numOf_acc : ∀ (l : List UInt8) (x : Nat), l.foldl (fun x b => x * 256 + b.toNat) x < (x + 1) * 256 ^ l.length
  | [], x => by simp
  | b :: l, x => by
    have h := numOf_acc l (x * 256 + b.toNat)
    have hb := b.toNat_lt
    rw [List.foldl_cons, List.length_cons, Nat.pow_succ]
    have : (x * 256 + b.toNat + 1) * 256 ^ l.length ≤ (x + 1) * 256 * 256 ^ l.length := Nat.mul_le_mul_right _ (by omega)
    calc _ < _ := h
      _ ≤ _ := this
      _ = _ := by rw [Nat.mul_assoc, Nat.mul_comm 256]
theorem numOf_lt (l : List UInt8) : numOf l < 256 ^ l.length := by
  have := numOf_acc l 0
  simpa [numOf] using this

theorem bt_nat (s : ByteArray) (j : Nat) (h : j < s.size) : bt s (j : Int) = ((s.data.toList[j]'h).toNat : Int) := by
  simp only [bt, Int.toNat_natCast, dif_pos h]
  rfl

theorem long_l0 (s : ByteArray) (hs : s.size ≤ 8) : ∀ (d j k : Nat), s.size - j = d → j ≤ s.size → d < k → root_long.l0 k s (numOf (s.data.toList.take j) : Int) (s.size : Int) (j : Int) = some (numOf s.data.toList : Int)
  | 0, j, k, hd, hj, hk => by
    obtain ⟨k, rfl⟩ : ∃ k', k = k' + 1 := ⟨k - 1, by omega⟩
    rw [root_long.l0, if_neg (by omega), List.take_of_length_le (by show s.size ≤ j; omega)]
  | d + 1, j, k, hd, hj, hk => by
    obtain ⟨k, rfl⟩ : ∃ k', k = k' + 1 := ⟨k - 1, by omega⟩
    have hlt : j < s.size := by omega
    have hlt' : j < s.data.toList.length := hlt
    have hn : numOf (s.data.toList.take j) < 72057594037927936 := by
      have h1 := numOf_lt (s.data.toList.take j)
      have h2 : (s.data.toList.take j).length ≤ 7 := by rw [List.length_take]; omega
      have h3 := Nat.pow_le_pow_right (n := 256) (by omega) h2
      omega
    rw [root_long.l0, if_pos (by omega), if_pos (by omega), if_pos (by omega), bt_nat s j hlt, orU64 _ _ hn (UInt8.toNat_lt _), ← numOf_snoc, ← List.take_succ_eq_append_getElem hlt', IntWalk.wrap64_in _ (by omega), ← Int.natCast_succ]
    exact long_l0 s hs d (j + 1) k (by omega) (by omega) (by omega)

theorem long_f (s : ByteArray) (hs : s.size ≤ 8) (k : Nat) (hk : 8 < k) : root_long.f k s = some (numOf s.data.toList : Int) := by
  rw [root_long.f]
  exact long_l0 s hs s.size 0 k (by omega) (by omega) (by omega)

theorem number_f (s : ByteArray) (hs : s.size ≤ 4) (k : Nat) (hk : 8 < k) : root_number.f k s = some (numOf s.data.toList : Int) := by
  have h1 := numOf_lt s.data.toList
  have h3 := Nat.pow_le_pow_right (n := 256) (by omega) (show s.data.toList.length ≤ 4 from hs)
  rw [root_number.f, long_f s (by omega) k hk, Option.bind_some, IntWalk.wrap64_in _ (by omega)]

/-! ### The sum -/
def crcBit (x : Int) : Int := if (Go.bits .and .u32 x 2147483648) = 0 then (x * 2) % 4294967296 else Go.bits .xor .u32 ((x * 2) % 4294967296) 79764919
def crcN : Nat → Int → Int
  | 0, x => x
  | n + 1, x => crcN n (crcBit x)
def crcL : List UInt8 → Int → Int
  | [], x => x
  | b :: l, x => crcL l (crcN 8 (Go.bits .xor .u32 x (((((b.toNat : Int)) % 4294967296) * 16777216) % 4294967296)))

theorem eight_l0 : ∀ (d i k : Nat) (x : Int), 8 - i = d → i ≤ 8 → d < k → crc_eight.l0 k x (i : Int) = some (crcN d x)
  | 0, i, k, x, hd, hi, hk => by
    obtain ⟨k, rfl⟩ : ∃ k', k = k' + 1 := ⟨k - 1, by omega⟩
    rw [crc_eight.l0, if_neg (by omega), crcN]
  | d + 1, i, k, x, hd, hi, hk => by
    obtain ⟨k, rfl⟩ : ∃ k', k = k' + 1 := ⟨k - 1, by omega⟩
    rw [crc_eight.l0, if_pos (by omega), IntWalk.wrap64_in _ (by omega), ← Int.natCast_succ, crcN, crcBit]
    by_cases h : (Go.bits .and .u32 x 2147483648) = 0
    · rw [if_pos h, if_pos h]; exact eight_l0 d (i + 1) k _ (by omega) (by omega) (by omega)
    · rw [if_neg h, if_neg h]; exact eight_l0 d (i + 1) k _ (by omega) (by omega) (by omega)
theorem eight_c (k : Nat) (hk : 8 < k) (x : Int) : crc_eight.f k x = some (crcN 8 x) := eight_l0 8 0 k x rfl (by omega) hk

theorem on_l0 (s : ByteArray) (hs : s.size ≤ 1000000) : ∀ (d j k : Nat) (x : Int), s.size - j = d → j ≤ s.size → d + 9 < k → crc_On.l0 k x s (s.size : Int) (j : Int) = some (crcL (s.data.toList.drop j) x)
  | 0, j, k, x, hd, hj, hk => by
    obtain ⟨k, rfl⟩ : ∃ k', k = k' + 1 := ⟨k - 1, by omega⟩
    rw [crc_On.l0, if_neg (by omega), List.drop_of_length_le (by show s.size ≤ j; omega), crcL]
  | d + 1, j, k, x, hd, hj, hk => by
    obtain ⟨k, rfl⟩ : ∃ k', k = k' + 1 := ⟨k - 1, by omega⟩
    have hlt : j < s.size := by omega
    have hlt' : j < s.data.toList.length := hlt
    rw [crc_On.l0, if_pos (by omega), if_pos (by omega), if_pos (by omega), eight_c k (by omega), Option.bind_some, IntWalk.wrap64_in _ (by omega), ← Int.natCast_succ, List.drop_eq_getElem_cons hlt', crcL, bt_nat s j hlt]
    exact on_l0 s hs d (j + 1) k _ (by omega) (by omega) (by omega)
theorem on_f (s : ByteArray) (hs : s.size ≤ 1000000) (k : Nat) (hk : s.size + 9 < k) (x : Int) : crc_On.f k x s = some (crcL s.data.toList x) := by
  have h := on_l0 s hs s.size 0 k x rfl (by omega) hk
  rw [crc_On.f]; exact h
theorem of_f (s : ByteArray) (hs : s.size ≤ 1000000) (k : Nat) (hk : s.size + 11 < k) : crc_Of.f k [s] = some (crcL s.data.toList 4294967295) := by
  obtain ⟨k, rfl⟩ : ∃ k', k = k' + 2 := ⟨k - 2, by omega⟩
  have e : rdOf ByteArray.empty [s] 0 = s := rfl
  rw [crc_Of.f, crc_Of.l0, if_pos (by simp), if_pos (by decide), if_pos (by simp), e, on_f s hs (k + 1) (by omega), Option.bind_some, IntWalk.wrap64_in _ (by omega), crc_Of.l0, if_neg (by simp)]

/-! ### A root's text -/
structure Rt where
  epoch : Int
  half : Int
  page : Int
  next : Int
  count : Int
  height : Int
deriving DecidableEq
def Rt.zero : Rt := ⟨0, 0, 0, 0, 0, 0⟩
def cntB (n : Int) : Bool := decide (0 ≤ n ∧ n ≤ 2147483647)
def Rt.validB (r : Rt) : Bool := (decide (r.half = 0) || decide (r.half = 1)) && (decide (r.page = -1) || cntB r.page) && cntB r.next && cntB r.count && cntB r.height

theorem count_f (n : Int) : root_count.f n = some (cntB n) := by
  rw [root_count.f, cntB]
  by_cases h : n ≥ 0
  · rw [if_pos h]; simp [h]
  · rw [if_neg h]
    have : ¬ (0 ≤ n ∧ n ≤ 2147483647) := by omega
    simp [this]

theorem chain3 (a b c : Int) : ((root_count.f a).bind fun t104 => (if t104 = true then ((root_count.f b).bind fun t105 => (if t105 = true then ((root_count.f c).bind fun t106 => (some t106)) else (some false))) else (some false))) = some (cntB a && cntB b && cntB c) := by
  rw [count_f, Option.bind_some]
  cases cntB a with
  | false => rfl
  | true =>
    rw [if_pos rfl, count_f, Option.bind_some]
    cases cntB b with
    | false => rfl
    | true => rw [if_pos rfl, count_f]; rfl

theorem valid_f (r : Rt) : root_Root_valid.f r.epoch r.half r.page r.next r.count r.height = some r.validB := by
  rw [root_Root_valid.f, chain3]
  have k : ((root_count.f r.page).bind fun t107 => (if t107 = true then (some (cntB r.next && cntB r.count && cntB r.height)) else (some false))) = some (cntB r.page && cntB r.next && cntB r.count && cntB r.height) := by
    rw [count_f, Option.bind_some]
    cases cntB r.page with
    | false => rfl
    | true => rw [if_pos rfl]; simp
  rw [k, Rt.validB]
  by_cases h0 : r.half = 0
  · rw [if_pos h0]
    by_cases hp : r.page = -1
    · rw [if_pos hp]; simp [h0, hp]
    · rw [if_neg hp]; simp [h0, hp]
  · rw [if_neg h0]
    by_cases h1 : r.half = 1
    · rw [if_pos h1]
      by_cases hp : r.page = -1
      · rw [if_pos hp]; simp [h1, hp]
      · rw [if_neg hp]; simp [h1, hp]
    · rw [if_neg h1]; simp [h0, h1]

def u8 (x : Int) : UInt8 := UInt8.ofNat x.toNat
def four (x : Int) : ByteArray := ⟨#[u8 ((x / 16777216) % 256), u8 ((x / 65536) % 256), u8 ((x / 256) % 256), u8 (x % 256)]⟩
theorem four_f (x : Int) : crc_Four.f x = some (four x) := rfl
theorem four_size (x : Int) : (four x).size = 4 := rfl
theorem four_mod (x : Int) : four (x % 4294967296) = four x := by
  have e1 : x % 4294967296 / 16777216 % 256 = x / 16777216 % 256 := by omega
  have e2 : x % 4294967296 / 65536 % 256 = x / 65536 % 256 := by omega
  have e3 : x % 4294967296 / 256 % 256 = x / 256 % 256 := by omega
  have e4 : x % 4294967296 % 256 = x % 256 := by omega
  rw [four, e1, e2, e3, e4]; rfl
def eight (x : Int) : ByteArray := four (x / 4294967296) ++ four x
theorem eight_size (x : Int) : (eight x).size = 8 := rfl
theorem eight_f (x : Int) : root_eight.f x = some (eight x) := by
  rw [root_eight.f, four_f, Option.bind_some, four_f, Option.bind_some, if_pos (by rw [four_size, four_size]; decide), four_mod, four_mod]; rfl

def Rt.body (r : Rt) : ByteArray := (eight r.epoch ++ strOfNums [r.half % 256]) ++ four (r.page + 1) ++ four r.next ++ four r.count ++ four r.height
theorem body_size (r : Rt) : r.body.size = 25 := rfl
def Rt.text (r : Rt) : ByteArray := (r.body ++ four (crcL r.body.data.toList 4294967295)) ++ eight r.epoch
theorem text_size (r : Rt) : r.text.size = 37 := rfl

theorem app_size (a b : ByteArray) : (a ++ b).size = a.size + b.size := ByteArray.size_append

theorem text_round (k : Nat) (s : ByteArray) (l : List Int) (i x e h p n c g : Int) (h0 : 0 ≤ i) (h4 : i < 4) (hl : l.length = 4) (hx : rd l i = x) (hs : s.size ≤ 1000) :
    root_Root_text.l0 (k + 1) s l i e h p n c g = root_Root_text.l0 k (s ++ four x) l (i + 1) e h p n c g := by
  rw [root_Root_text.l0, if_pos h4, if_pos h0, if_pos (by omega), four_f, Option.bind_some, if_pos (by rw [four_size]; omega), hx, four_mod, IntWalk.wrap64_in _ (by omega)]

theorem text_f (r : Rt) (k : Nat) (hk : 50 < k) (hp : -1 ≤ r.page ∧ r.page ≤ 2147483647) : root_Root_text.f k r.epoch r.half r.page r.next r.count r.height = some r.text := by
  obtain ⟨k, rfl⟩ : ∃ k', k = k' + 5 := ⟨k - 5, by omega⟩
  have z0 : (eight r.epoch).size + (strOfNums [r.half % 256]).size ≤ 9223372036854775807 := (show 8 + 1 ≤ 9223372036854775807 by decide)
  have z1 : (eight r.epoch ++ strOfNums [r.half % 256]).size ≤ 1000 := (show 9 ≤ 1000 by decide)
  have z2 : (eight r.epoch ++ strOfNums [r.half % 256] ++ four (r.page + 1)).size ≤ 1000 := (show 13 ≤ 1000 by decide)
  have z3 : (eight r.epoch ++ strOfNums [r.half % 256] ++ four (r.page + 1) ++ four r.next).size ≤ 1000 := (show 17 ≤ 1000 by decide)
  have z4 : (eight r.epoch ++ strOfNums [r.half % 256] ++ four (r.page + 1) ++ four r.next ++ four r.count).size ≤ 1000 := (show 21 ≤ 1000 by decide)
  rw [root_Root_text.f, eight_f, Option.bind_some, Option.bind_some, if_pos z0, IntWalk.wrap64_in _ (by omega)]
  rw [text_round (k + 4) _ _ 0 (r.page + 1) _ _ _ _ _ _ (by decide) (by decide) rfl rfl z1]
  rw [show (0 : Int) + 1 = 1 from rfl, text_round (k + 3) _ _ 1 r.next _ _ _ _ _ _ (by decide) (by decide) rfl rfl z2]
  rw [show (1 : Int) + 1 = 2 from rfl, text_round (k + 2) _ _ 2 r.count _ _ _ _ _ _ (by decide) (by decide) rfl rfl z3]
  rw [show (2 : Int) + 1 = 3 from rfl, text_round (k + 1) _ _ 3 r.height _ _ _ _ _ _ (by decide) (by decide) rfl rfl z4]
  rw [show (3 : Int) + 1 = 4 from rfl, root_Root_text.l0, if_neg (by decide)]
  have e : (eight r.epoch ++ strOfNums [r.half % 256]) ++ four (r.page + 1) ++ four r.next ++ four r.count ++ four r.height = r.body := rfl
  have hof := of_f r.body (show 25 ≤ 1000000 by decide) k (show 25 + 11 < k by omega)
  have z5 : r.body.size + (four (crcL r.body.data.toList 4294967295)).size ≤ 9223372036854775807 := (show 25 + 4 ≤ 9223372036854775807 by decide)
  have z6 : (r.body ++ four (crcL r.body.data.toList 4294967295)).size + (eight r.epoch).size ≤ 9223372036854775807 := (show 29 + 8 ≤ 9223372036854775807 by decide)
  rw [e, hof, Option.bind_some, four_f, Option.bind_some, if_pos z5, eight_f, Option.bind_some, if_pos z6]
  rfl

/-! ### What is read of a sector -/
def first (s : ByteArray) : Int := numOf (s.extract 0 8).data.toList
def again (s : ByteArray) : Int := numOf (s.extract 29 37).data.toList
def raw (s : ByteArray) : Rt := ⟨first s, bt s 8, numOf (s.extract 9 13).data.toList - 1, numOf (s.extract 13 17).data.toList, numOf (s.extract 17 21).data.toList, numOf (s.extract 21 25).data.toList⟩
def zer (n : Nat) : ByteArray := ⟨Array.replicate n 0⟩
def pad (t : ByteArray) : ByteArray := t ++ zer (256 - t.size)
def parse (s : ByteArray) : Rt × Bool :=
  if first s = 0 ∨ first s ≠ again s ∨ (raw s).validB = false then (Rt.zero, false) else (raw s, s.toList == (pad (raw s).text).toList)

theorem ext_size (s : ByteArray) (a b : Nat) (h : b ≤ s.size) (h2 : a ≤ b) : (s.extract a b).size = b - a := by
  rw [ByteArray.size_extract]; omega

theorem epochs_f (s : ByteArray) (hs : s.size = 256) (k : Nat) (hk : 8 < k) : root_epochs.f k s = some (first s, again s) := by
  rw [root_epochs.f, if_pos (by decide), if_pos (by omega), long_f _ (by rw [ext_size s 0 8 (by omega) (by omega)]; omega) k hk, Option.bind_some, if_pos (by decide), if_pos (by omega), long_f _ (by rw [ext_size s 29 37 (by omega) (by omega)]; omega) k hk, Option.bind_some]
  rfl

theorem zer_succ (t : ByteArray) (n : Nat) : (t ++ (⟨#[0]⟩ : ByteArray)) ++ zer n = t ++ zer (n + 1) := by
  rw [ByteArray.append_assoc]
  have e : (⟨#[0]⟩ : ByteArray) ++ zer n = zer (n + 1) := by
    apply ByteArray.ext
    simp only [zer, ByteArray.data_append]
    exact Array.replicate_succ'.symm
  rw [e]

theorem fill_l0 (s : ByteArray) (hs : s.size = 256) (r : Rt) : ∀ (d k : Nat) (t : ByteArray), 256 - t.size = d → t.size ≤ 256 → d < k →
    root_parse.l0 k s t r.epoch r.half r.page r.next r.count r.height = some (r.epoch, r.half, r.page, r.next, r.count, r.height, s.toList == (t ++ zer d).toList)
  | 0, k, t, hd, ht, hk => by
    obtain ⟨k, rfl⟩ : ∃ k', k = k' + 1 := ⟨k - 1, by omega⟩
    have e : t ++ zer 0 = t := by apply ByteArray.ext; simp [zer]
    rw [root_parse.l0, if_neg (by omega), e]
  | d + 1, k, t, hd, ht, hk => by
    obtain ⟨k, rfl⟩ : ∃ k', k = k' + 1 := ⟨k - 1, by omega⟩
    have hz : (t ++ (⟨#[0]⟩ : ByteArray)).size = t.size + 1 := by rw [app_size]; rfl
    rw [root_parse.l0, if_pos (by omega), if_pos (by omega), fill_l0 s hs r d k _ (by omega) (by omega) (by omega), zer_succ]

theorem parse_f (s : ByteArray) (hs : s.size = 256) (k : Nat) (hk : 300 < k) :
    root_parse.f k s = some ((parse s).1.epoch, (parse s).1.half, (parse s).1.page, (parse s).1.next, (parse s).1.count, (parse s).1.height, (parse s).2) := by
  obtain ⟨k, rfl⟩ : ∃ k', k = k' + 1 := ⟨k - 1, by omega⟩
  have hb := bt_range s 8
  have q1 := numOf_lt (s.extract 9 13).data.toList
  have l1 : (s.extract 9 13).data.toList.length = 4 := ext_size s 9 13 (by omega) (by omega)
  rw [l1] at q1
  have q2 := numOf_lt (s.extract 13 17).data.toList
  rw [root_parse.f, epochs_f s hs _ (by omega), Option.bind_some, if_pos (by omega), if_pos (by decide), if_pos (by omega), number_f _ (by rw [ext_size s 9 13 (by omega) (by omega)]; omega) _ (by omega), Option.bind_some, if_pos (by decide), if_pos (by omega), number_f _ (by rw [ext_size s 13 17 (by omega) (by omega)]; omega) _ (by omega), Option.bind_some, if_pos (by decide), if_pos (by omega), number_f _ (by rw [ext_size s 17 21 (by omega) (by omega)]; omega) _ (by omega), Option.bind_some, if_pos (by decide), if_pos (by omega), number_f _ (by rw [ext_size s 21 25 (by omega) (by omega)]; omega) _ (by omega), Option.bind_some]
  rw [IntWalk.wrap64_in (bt s 8) (by omega), IntWalk.wrap64_in ((numOf (s.extract 9 13).data.toList : Int) - 1) (by omega)]
  dsimp only
  by_cases h0 : first s = 0
  · rw [if_pos h0, root_parse.j0, if_pos rfl, parse, if_pos (.inl h0)]; rfl
  · rw [if_neg h0]
    by_cases h1 : first s = again s
    · have hv := valid_f (raw s)
      have hv' : root_Root_valid.f (first s) (bt s 8) ((numOf (s.extract 9 13).data.toList : Int) - 1) (numOf (s.extract 13 17).data.toList) (numOf (s.extract 17 21).data.toList) (numOf (s.extract 21 25).data.toList) = some (raw s).validB := hv
      rw [if_pos h1, hv', Option.bind_some, root_parse.j0]
      cases hq : (raw s).validB with
      | false => rw [if_pos (by decide), parse, if_pos (.inr (.inr hq))]; rfl
      | true =>
        have hpage : -1 ≤ (raw s).page ∧ (raw s).page ≤ 2147483647 := by
          have hq' := hq
          simp only [Rt.validB, cntB, Bool.and_eq_true, Bool.or_eq_true, decide_eq_true_eq] at hq'
          omega
        have ht := text_f (raw s) k (by omega) hpage
        have ht' : root_Root_text.f k (first s) (bt s 8) ((numOf (s.extract 9 13).data.toList : Int) - 1) (numOf (s.extract 13 17).data.toList) (numOf (s.extract 17 21).data.toList) (numOf (s.extract 21 25).data.toList) = some (raw s).text := ht
        rw [if_neg (by decide), ht', Option.bind_some, parse, if_neg (by rintro (h | h | h); exact h0 h; exact h h1; rw [hq] at h; cases h)]
        exact fill_l0 s hs (raw s) _ k _ rfl (show 37 ≤ 256 by decide) (show 256 - 37 < k by omega)
    · rw [if_neg h1, root_parse.j0, if_pos rfl, parse, if_pos (.inr (.inl h1))]; rfl
end Go.Proofs.Ytcbefilcdelplaa.Proot
