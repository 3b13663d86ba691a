/- dowserlaw21.KeysOrder, plain. -/
import Derived.Test.YtogngmbjkdffaaaLH
import Derived.Test.YtogngmbjkdffaaaLG
import Derived.Test.YtogngmbjkdffaaaPKeysAlly2
namespace Go.Proofs.Ytogngmbjkdffaaa.PKeysAll
open Go.RowKit Go.Proofs.YtogngmbjkdffaaaW.PrintWords Go.Proofs.YtogngmbjkdffaaaW.PrintLast Go.Proofs.YtogngmbjkdffaaaW.PrintMore
set_option linter.unusedVariables false
set_option linter.unusedSimpArgs false

theorem and31 (x : Int) : Go.bits .and .i64 x 2147483647 = x % 2147483648 := by
  simp only [bits]
  have h : (BitVec.ofInt IntKind.i64.bits x &&& BitVec.ofInt IntKind.i64.bits 2147483647).toNat = (x % 2147483648).toNat := by
    rw [BitVec.toNat_and]
    have e : (BitVec.ofInt IntKind.i64.bits 2147483647).toNat = 2 ^ 31 - 1 := by decide
    rw [e, Nat.and_two_pow_sub_one_eq_mod, BitVec.toNat_ofInt]
    show (x % (2 ^ 64 : Nat)).toNat % 2 ^ 31 = _
    omega
  rw [h, IntKind.wrap_i64]
  omega
theorem and16 (x : Int) : Go.bits .and .i64 x 65535 = x % 65536 := by
  simp only [bits]
  have h : (BitVec.ofInt IntKind.i64.bits x &&& BitVec.ofInt IntKind.i64.bits 65535).toNat = (x % 65536).toNat := by
    rw [BitVec.toNat_and]
    have e : (BitVec.ofInt IntKind.i64.bits 65535).toNat = 2 ^ 16 - 1 := by decide
    rw [e, Nat.and_two_pow_sub_one_eq_mod, BitVec.toNat_ofInt]
    show (x % (2 ^ 64 : Nat)).toNat % 2 ^ 16 = _
    omega
  rw [h, IntKind.wrap_i64]
  omega

theorem in_f (kind rev fact a b sum n : Int) : dowserlaw21_KeysOrderLam1.f kind rev fact a b sum n = some (3, rev % 2147483648, fact % 256, a % 65536, b % 256, 0, 0) := by
  rw [dowserlaw21_KeysOrderLam1.f, and31, and255', and16, and255']

/-- The numbers' order. -/
def lessK (r f a b r' f' a' b' : Int) : Bool := decide (r < r' ∨ (r = r' ∧ (f < f' ∨ (f = f' ∧ (a < a' ∨ (a = a' ∧ b < b'))))))

theorem order_j0 (k0 r0 f0 a0 b0 s0 n0 k1 r1 f1 a1 b1 s1 n1 r f a b r' f' a' b' : Int) (hA : dowserlaw21_KeysOrderLam1.f k0 r0 f0 a0 b0 s0 n0 = some (3, r, f, a, b, 0, 0)) (hB : dowserlaw21_KeysOrderLam1.f k1 r1 f1 a1 b1 s1 n1 = some (3, r', f', a', b', 0, 0)) :
    dowserlaw21_KeysOrder.f 40 k0 r0 f0 a0 b0 s0 n0 k1 r1 f1 a1 b1 s1 n1 = dowserlaw21_KeysOrder.j0 40 (lessK r f a b r' f' a' b') 3 r f a b 0 0 3 r' f' a' b' 0 0 := by
  rw [dowserlaw21_KeysOrder.f, awake_f, Option.bind_some, if_pos rfl, hA, Option.bind_some, hB, Option.bind_some]
  dsimp only
  by_cases h1 : r < r'
  · have e : lessK r f a b r' f' a' b' = true := by simp [lessK, h1]
    rw [if_pos h1, e]
  · rw [if_neg h1]
    by_cases h2 : r = r'
    · rw [if_pos h2]
      by_cases h3 : f < f'
      · have e : lessK r f a b r' f' a' b' = true := by simp [lessK, h2, h3]
        rw [if_pos h3, e]
      · rw [if_neg h3]
        by_cases h4 : f = f'
        · rw [if_pos h4]
          by_cases h5 : a < a'
          · have e : lessK r f a b r' f' a' b' = true := by simp [lessK, h2, h4, h5]
            rw [if_pos h5, e]
          · rw [if_neg h5]
            by_cases h6 : a = a'
            · have e : lessK r f a b r' f' a' b' = decide (b < b') := by simp [lessK, h2, h4, h6]
              rw [if_pos h6, e]
            · have e : lessK r f a b r' f' a' b' = false := by simp only [lessK, decide_eq_false_iff_not]; omega
              rw [if_neg h6, e]
        · have e : lessK r f a b r' f' a' b' = false := by simp only [lessK, decide_eq_false_iff_not]; omega
          rw [if_neg h4, e]
    · have e : lessK r f a b r' f' a' b' = false := by simp only [lessK, decide_eq_false_iff_not]; omega
      rw [if_neg h2, e]

theorem pre_f (s p : ByteArray) (h : p.size ≤ s.size) : strings_HasPrefix.f s p = some (s.data.toList.take p.size == p.data.toList) := by
  rw [strings_HasPrefix.f, stringslite_HasPrefix.f, if_pos (by omega), if_pos (by omega), if_pos (by omega)]
  have h1 : (s.extract 0 ((p.size : Int)).toNat).toList = s.data.toList.take p.size := by
    rw [ByteArray.toList_eq, ByteArray.data_extract, Array.toList_extract]
    simp
  rw [h1, ByteArray.toList_eq]; rfl
theorem pre_short (s p : ByteArray) (h : s.size < p.size) : strings_HasPrefix.f s p = some false := by
  rw [strings_HasPrefix.f, stringslite_HasPrefix.f, if_neg (by omega)]; rfl

theorem lt_u8 (x y : Int) (x0 : 0 ≤ x) (x1 : x < 256) (y0 : 0 ≤ y) (y1 : y < 256) : (u8 x < u8 y) ↔ x < y := by
  have hx := u8_nat x x0 x1
  have hy := u8_nat y y0 y1
  rw [UInt8.lt_iff_toNat_lt]; omega
theorem eq_u8 (x y : Int) (x0 : 0 ≤ x) (x1 : x < 256) (y0 : 0 ≤ y) (y1 : y < 256) : (u8 x = u8 y) ↔ x = y := by
  have hx := u8_nat x x0 x1
  have hy := u8_nat y y0 y1
  rw [← UInt8.toNat_inj]; omega

theorem keyF_list (r f a b : Int) : (keyF r f a b).toList = [102, u8 ((r / 16777216) % 256), u8 ((r / 65536) % 256), u8 ((r / 256) % 256), u8 (r % 256), u8 (f % 256), u8 ((a / 256) % 256), u8 (a % 256), u8 (b % 256)] := by
  rw [ByteArray.toList_eq]; rfl

/-- The keys' order is the numbers'. -/
theorem less_keys (r f a b r' f' a' b' : Int) (hr0 : 0 ≤ r) (hr1 : r < 2147483648) (hf0 : 0 ≤ f) (hf1 : f < 256) (ha0 : 0 ≤ a) (ha1 : a < 65536) (hb0 : 0 ≤ b) (hb1 : b < 256)
    (hr0' : 0 ≤ r') (hr1' : r' < 2147483648) (hf0' : 0 ≤ f') (hf1' : f' < 256) (ha0' : 0 ≤ a') (ha1' : a' < 65536) (hb0' : 0 ≤ b') (hb1' : b' < 256) :
    Op.bytesLess (keyF r f a b).toList (keyF r' f' a' b').toList = lessK r f a b r' f' a' b' := by
  rw [keyF_list, keyF_list, Bool.eq_iff_iff]
  simp only [Op.bytesLess, lessK, Bool.or_eq_true, Bool.and_eq_true, decide_eq_true_eq, beq_iff_eq, Bool.false_eq_true]
  rw [lt_u8 _ _ (by omega) (by omega) (by omega) (by omega), lt_u8 _ _ (by omega) (by omega) (by omega) (by omega), lt_u8 _ _ (by omega) (by omega) (by omega) (by omega), lt_u8 _ _ (by omega) (by omega) (by omega) (by omega), lt_u8 _ _ (by omega) (by omega) (by omega) (by omega), lt_u8 _ _ (by omega) (by omega) (by omega) (by omega), lt_u8 _ _ (by omega) (by omega) (by omega) (by omega), lt_u8 _ _ (by omega) (by omega) (by omega) (by omega),
    eq_u8 _ _ (by omega) (by omega) (by omega) (by omega), eq_u8 _ _ (by omega) (by omega) (by omega) (by omega), eq_u8 _ _ (by omega) (by omega) (by omega) (by omega), eq_u8 _ _ (by omega) (by omega) (by omega) (by omega), eq_u8 _ _ (by omega) (by omega) (by omega) (by omega), eq_u8 _ _ (by omega) (by omega) (by omega) (by omega), eq_u8 _ _ (by omega) (by omega) (by omega) (by omega), eq_u8 _ _ (by omega) (by omega) (by omega) (by omega)]
  have n102 : ¬ ((102 : UInt8) < 102) := by decide
  simp only [n102, false_or, true_and, and_false, or_false]
  have e1 : f % 256 = f := by omega
  have e2 : b % 256 = b := by omega
  have e3 : f' % 256 = f' := by omega
  have e4 : b' % 256 = b' := by omega
  rw [e1, e2, e3, e4]
  have q1 : r / 16777216 % 256 = r / 16777216 := by omega
  have q2 : r' / 16777216 % 256 = r' / 16777216 := by omega
  have q3 : a / 256 % 256 = a / 256 := by omega
  have q4 : a' / 256 % 256 = a' / 256 := by omega
  rw [q1, q2, q3, q4]
  omega

theorem eq_keys (r f a b r' f' a' b' : Int) (hr0 : 0 ≤ r) (hr1 : r < 2147483648) (hf0 : 0 ≤ f) (hf1 : f < 256) (ha0 : 0 ≤ a) (ha1 : a < 65536) (hb0 : 0 ≤ b) (hb1 : b < 256)
    (hr0' : 0 ≤ r') (hr1' : r' < 2147483648) (hf0' : 0 ≤ f') (hf1' : f' < 256) (ha0' : 0 ≤ a') (ha1' : a' < 65536) (hb0' : 0 ≤ b') (hb1' : b' < 256) :
    ((keyF r f a b).toList == (keyF r' f' a' b').toList) = ((3 : Int) == 3 && (r == r' && (f == f' && (a == a' && (b == b' && (((0 : Int) == 0 && ((0 : Int) == 0)))))))) := by
  rw [keyF_list, keyF_list, Bool.eq_iff_iff]
  simp only [beq_iff_eq, Bool.and_eq_true, List.cons.injEq, and_true, true_and]
  rw [eq_u8 _ _ (by omega) (by omega) (by omega) (by omega), eq_u8 _ _ (by omega) (by omega) (by omega) (by omega), eq_u8 _ _ (by omega) (by omega) (by omega) (by omega), eq_u8 _ _ (by omega) (by omega) (by omega) (by omega), eq_u8 _ _ (by omega) (by omega) (by omega) (by omega), eq_u8 _ _ (by omega) (by omega) (by omega) (by omega), eq_u8 _ _ (by omega) (by omega) (by omega) (by omega), eq_u8 _ _ (by omega) (by omega) (by omega) (by omega)]
  omega

theorem pre_facts (r r' f' a' b' : Int) (hr0 : 0 ≤ r) (hr1 : r < 2147483648) (hr0' : 0 ≤ r') (hr1' : r' < 2147483648) : strings_HasPrefix.f (keyF r' f' a' b') (⟨#[102]⟩ ++ four r) = some (r == r') := by
  have h59 : ((⟨#[102]⟩ : ByteArray) ++ four r).size ≤ (keyF r' f' a' b').size := (show 5 ≤ 9 by decide)
  rw [pre_f (keyF r' f' a' b') (⟨#[102]⟩ ++ four r) h59]
  congr 1
  rw [Bool.eq_iff_iff, beq_iff_eq, beq_iff_eq]
  show [102, u8 ((r' / 16777216) % 256), u8 ((r' / 65536) % 256), u8 ((r' / 256) % 256), u8 (r' % 256)] = [102, u8 ((r / 16777216) % 256), u8 ((r / 65536) % 256), u8 ((r / 256) % 256), u8 (r % 256)] ↔ _
  simp only [List.cons.injEq, and_true, true_and]
  rw [eq_u8 _ _ (by omega) (by omega) (by omega) (by omega), eq_u8 _ _ (by omega) (by omega) (by omega) (by omega), eq_u8 _ _ (by omega) (by omega) (by omega) (by omega), eq_u8 _ _ (by omega) (by omega) (by omega) (by omega)]
  omega

theorem pre_no (r : Int) (c : UInt8) (l : List UInt8) (hc : c ≠ 102) : strings_HasPrefix.f ⟨(c :: l).toArray⟩ (⟨#[102]⟩ ++ four r) = some false := by
  by_cases h : (⟨#[102]⟩ ++ four r : ByteArray).size ≤ (⟨(c :: l).toArray⟩ : ByteArray).size
  · rw [pre_f _ _ h]
    congr 1
    rw [beq_eq_false_iff_ne]
    intro e
    have e' : (c :: l).take 5 = [102, u8 ((r / 16777216) % 256), u8 ((r / 65536) % 256), u8 ((r / 256) % 256), u8 (r % 256)] := e
    rw [List.take_succ_cons, List.cons.injEq] at e'
    exact hc e'.1
  · rw [pre_short _ _ (by omega)]

theorem head_c (c d : UInt8) (l : List UInt8) : headIs ⟨(c :: l).toArray⟩ d = (c == d) := rfl

theorem round_f (k : Nat) (x6 : Bool) (s t P S : ByteArray) (y : List ByteArray) (i : Int) (r r' f a b f' a' b' q m : Int) (z : ByteArray) (h0 : 0 ≤ i) (hi : i < 3) (hy : y.length = 3) (hz : rdOf ByteArray.empty y i = z) (hr0 : 0 ≤ r) (hr1 : r < 2147483648)
    (hP : keys_Key_Bytes.f 2 r 0 0 0 0 0 = some P) (hS : keys_Key_Bytes.f 4 0 0 0 0 q m = some S) (hf : strings_HasPrefix.f z (⟨#[102]⟩ ++ four r) = some false) (hp : headIs z 112 = (z.toList == P.toList)) (ht : headIs z 115 = (z.toList == S.toList)) :
    dowserlaw21_KeysOrder.l0 (k + 1) x6 s t y 3 i 3 r f a b 0 0 3 r' f' a' b' 0 0 2 r 0 0 0 0 0 4 0 0 0 0 q m = dowserlaw21_KeysOrder.l0 k x6 s t y 3 (i + 1) 3 r f a b 0 0 3 r' f' a' b' 0 0 2 r 0 0 0 0 0 4 0 0 0 0 q m := by
  rw [dowserlaw21_KeysOrder.l0, if_pos hi, if_pos h0, if_pos (by omega), facts_B r hr0 (by omega), Option.bind_some, hz, hf, Option.bind_some, if_neg (by decide), keys_Programs.f, Option.bind_some, prefix_f, Option.bind_some, hP, Option.bind_some, hp, if_neg (by simp),
    keys_Texts.f, Option.bind_some, prefix_f, Option.bind_some, hS, Option.bind_some, ht, if_neg (by simp), IntWalk.wrap64_in _ (by omega)]

theorem ne_PS (r q m : Int) : ((keyS q m).toList == (keyP r).toList) = false := by
  rw [beq_eq_false_iff_ne, ByteArray.toList_eq, ByteArray.toList_eq]; intro e; have := congrArg List.length e; exact absurd this (show ¬ 6 = 5 by decide)
theorem ne_SP (r q m : Int) : ((keyP r).toList == (keyS q m).toList) = false := by
  rw [beq_eq_false_iff_ne, ByteArray.toList_eq, ByteArray.toList_eq]; intro e; have := congrArg List.length e; exact absurd this (show ¬ 5 = 6 by decide)
theorem ne_NP (r : Int) : (keyN.toList == (keyP r).toList) = false := by
  rw [beq_eq_false_iff_ne, ByteArray.toList_eq, ByteArray.toList_eq]; intro e; have := congrArg List.length e; exact absurd this (show ¬ 1 = 5 by decide)
theorem ne_NS (q m : Int) : (keyN.toList == (keyS q m).toList) = false := by
  rw [beq_eq_false_iff_ne, ByteArray.toList_eq, ByteArray.toList_eq]; intro e; have := congrArg List.length e; exact absurd this (show ¬ 1 = 6 by decide)

theorem keysorder_f (k0 r0 f0 a0 b0 s0 n0 k1 r1 f1 a1 b1 s1 n1 : Int) : dowserlaw21_KeysOrder.f 40 k0 r0 f0 a0 b0 s0 n0 k1 r1 f1 a1 b1 s1 n1 = some true := by
  rw [order_j0 k0 r0 f0 a0 b0 s0 n0 k1 r1 f1 a1 b1 s1 n1 _ _ _ _ _ _ _ _ (in_f k0 r0 f0 a0 b0 s0 n0) (in_f k1 r1 f1 a1 b1 s1 n1)]
  have R0 : 0 ≤ r0 % 2147483648 ∧ r0 % 2147483648 < 2147483648 := by omega
  have F0 : 0 ≤ f0 % 256 ∧ f0 % 256 < 256 := by omega
  have A0 : 0 ≤ a0 % 65536 ∧ a0 % 65536 < 65536 := by omega
  have B0 : 0 ≤ b0 % 256 ∧ b0 % 256 < 256 := by omega
  have R1 : 0 ≤ r1 % 2147483648 ∧ r1 % 2147483648 < 2147483648 := by omega
  have F1 : 0 ≤ f1 % 256 ∧ f1 % 256 < 256 := by omega
  have A1 : 0 ≤ a1 % 65536 ∧ a1 % 65536 < 65536 := by omega
  have B1 : 0 ≤ b1 % 256 ∧ b1 % 256 < 256 := by omega
  generalize r0 % 2147483648 = r at *
  generalize f0 % 256 = f at *
  generalize a0 % 65536 = a at *
  generalize b0 % 256 = b at *
  generalize r1 % 2147483648 = r' at *
  generalize f1 % 256 = f' at *
  generalize a1 % 65536 = a' at *
  generalize b1 % 256 = b' at *
  have hs : keys_Key_Bytes.f 3 r f a b 0 0 = some (keyF r f a b) := by
    have hg : good 3 r f a b 0 0 = true := by simp [good, rangeOk]; omega
    rw [kbytes_f _ _ _ _ _ _ _ hg, keyBytes, if_pos hg, if_neg (by decide), if_neg (by decide), if_pos rfl]
  have ht : keys_Key_Bytes.f 3 r' f' a' b' 0 0 = some (keyF r' f' a' b') := by
    have hg : good 3 r' f' a' b' 0 0 = true := by simp [good, rangeOk]; omega
    rw [kbytes_f _ _ _ _ _ _ _ hg, keyBytes, if_pos hg, if_neg (by decide), if_neg (by decide), if_pos rfl]
  have hP : keys_Key_Bytes.f 2 r 0 0 0 0 0 = some (keyP r) := by
    have hg : good 2 r 0 0 0 0 0 = true := by simp [good, rangeOk]; omega
    rw [kbytes_f _ _ _ _ _ _ _ hg, keyBytes, if_pos hg, if_neg (by decide), if_pos rfl]
  have hm : r' % 4294967296 = r' := by omega
  have hS : keys_Key_Bytes.f 4 0 0 0 0 r' b' = some (keyS r' b') := by
    have hg : good 4 0 0 0 0 r' b' = true := by simp [good, rangeOk]; omega
    rw [kbytes_f _ _ _ _ _ _ _ hg, keyBytes, if_pos hg, if_neg (by decide), if_neg (by decide), if_neg (by decide)]
  rw [dowserlaw21_KeysOrder.j0, hs, Option.bind_some, ht, Option.bind_some, hP, Option.bind_some, hm, hS, Option.bind_some, Option.bind_some]
  show dowserlaw21_KeysOrder.l0 39 _ _ _ _ 3 0 3 r f a b 0 0 3 r' f' a' b' 0 0 2 r 0 0 0 0 0 4 0 0 0 0 r' b' = some true
  rw [round_f 38 _ _ _ (keyP r) (keyS r' b') _ 0 r r' f a b f' a' b' r' b' (keyP r) (by decide) (by decide) rfl rfl R0.1 R0.2 hP hS (pre_no r 112 _ (by decide)) (by rw [beq_self_eq_true]; rfl) (by rw [ne_SP]; rfl)]
  rw [show (0 : Int) + 1 = 1 from rfl, round_f 37 _ _ _ (keyP r) (keyS r' b') _ 1 r r' f a b f' a' b' r' b' (keyS r' b') (by decide) (by decide) rfl rfl R0.1 R0.2 hP hS (pre_no r 115 _ (by decide)) (by rw [ne_PS]; rfl) (by rw [beq_self_eq_true]; rfl)]
  rw [show (1 : Int) + 1 = 2 from rfl, round_f 36 _ _ _ (keyP r) (keyS r' b') _ 2 r r' f a b f' a' b' r' b' keyN (by decide) (by decide) rfl rfl R0.1 R0.2 hP hS (pre_no r 110 _ (by decide)) (by rw [ne_NP]; rfl) (by rw [ne_NS]; rfl)]
  rw [show (2 : Int) + 1 = 3 from rfl, dowserlaw21_KeysOrder.l0, if_neg (by decide), less_keys r f a b r' f' a' b' R0.1 R0.2 F0.1 F0.2 A0.1 A0.2 B0.1 B0.2 R1.1 R1.2 F1.1 F1.2 A1.1 A1.2 B1.1 B1.2, if_pos (by rw [beq_self_eq_true]),
    eq_keys r f a b r' f' a' b' R0.1 R0.2 F0.1 F0.2 A0.1 A0.2 B0.1 B0.2 R1.1 R1.2 F1.1 F1.2 A1.1 A1.2 B1.1 B1.2, if_pos (by rw [beq_self_eq_true]), facts_B r R0.1 (by omega), Option.bind_some, pre_facts r r' f' a' b' R0.1 R0.2 R1.1 R1.2, Option.bind_some, if_pos (by rw [beq_self_eq_true]),
    keys_Programs.f, Option.bind_some, prefix_f, Option.bind_some, show headIs (keyF r f a b) 112 = false from rfl, if_neg (by decide), keys_Texts.f, Option.bind_some, prefix_f, Option.bind_some]
  rfl
end Go.Proofs.Ytogngmbjkdffaaa.PKeysAll
