/- A row of the tree's calls (dowserlaw10.Act) among the arguments, opened; what each says. dowserlaw14.InternBeside, walked. -/
import Derived.Test.YtendgmblgdkiaaaGreatGInternBeside0
import Derived.Test.YtendgmblgdkiaaaGreatGInternBeside36
import Derived.Test.YtendgmblgdkiaaaGreatGInternBeside31
import Derived.ChangeSlices
import Derived.SliceStrings
import Derived.Deep.Strs
import Derived.Deep.Grids
import Derived.Lib.SmallJoins
import Derived.Test.YtendgmblgdkiaaaGreatGInternBeside35
namespace Go.Proofs.YtendgmblgdkiaaaGreat
open Go.RowKit Go.ChangeShapes Go.WideShapes Go.Joins
open Go.Proofs.YtendgmblgdkiaaaGreatW
open PrintWords PrintLast PrintMore
set_option linter.unusedVariables false
set_option linter.unusedSimpArgs false

/-- A call. -/
structure TAct where
 kind : Int
 key : BA
 val : BA
instance : Inhabited TAct := ⟨⟨0, ByteArray.empty, ByteArray.empty⟩⟩
structure TActCells (w : World) (b off : Nat) (A : TAct) : Prop where
 c0 : w.cell? ⟨b, off, none⟩ = some (.int .i64 A.kind)
 c1 : w.cell? ⟨b, off + 1, none⟩ = some (.string A.key)
 c2 : w.cell? ⟨b, off + 2, none⟩ = some (.string A.val)
def TActsAt (w : World) (v : Value) (l : List TAct) : Prop :=
 ∃ a c, v = .slice a l.length c ∧ l.length ≤ 9223372036854775807 ∧ ∀ i (hi : i < l.length), ∃ b off, a = some ⟨b, off, none⟩ ∧ TActCells w b (off + i * 3) l[i]
theorem bel_cells {w w' : World} (h : Below w.heap.size w w') : ∀ p x, w.cell? p = some x → w'.cell? p = some x := by
 intro p x hx
 rw [World.cell?_of_block (w := w) (h.block p.block (World.block_lt_of_cell? w _ hx))]
 exact hx
theorem TActCells.below {w w' : World} {b off : Nat} {A : TAct} (h : TActCells w b off A) (k : Below w.heap.size w w') : TActCells w' b off A :=
 ⟨bel_cells k _ _ h.c0, bel_cells k _ _ h.c1, bel_cells k _ _ h.c2⟩
theorem TActsAt.below {w w' : World} {v : Value} {l : List TAct} (h : TActsAt w v l) (k : Below w.heap.size w w') : TActsAt w' v l := by
 obtain ⟨a, c, hv, hl, hc⟩ := h
 exact ⟨a, c, hv, hl, fun i hi => by obtain ⟨b, off, ha, h⟩ := hc i hi; exact ⟨b, off, ha, h.below k⟩⟩

variable {H : Type} {enc : TypeId × Value → H} {w : World}
theorem law_Cut (s : BA) (n : Nat) (w : World) : Calls Tryz.prog 25 #[.string s, .int .i64 (n : Int)] w fun e w' => e = .returned (.string (cutB s n)) ∧ Below w.heap.size w w' :=
 (PNd.dowserlaw01_Cut.calls s n (cutB s n) w (cut_f1 s n)).mono fun _ _ ⟨he, hd⟩ => ⟨he, hd.below⟩
/-- The key and the value as most laws take them. -/
def TAct.k (A : TAct) : BA := (⟨#[107]⟩ : BA) ++ cutB (cutB A.key 18) 15
def TAct.v (A : TAct) : BA := cutB (cutB A.val 34) 32
end Go.Proofs.YtendgmblgdkiaaaGreat

namespace Go.Proofs.YtendgmblgdkiaaaGreat
open Go.RowKit
open Go.Proofs.YtendgmblgdkiaaaGreatW
open PrintWords PrintLast PrintMore
set_option linter.unusedVariables false
set_option linter.unusedSimpArgs false

theorem hd_num : ∀ (d x i : Nat) (r : List UInt8), x < 128 ^ d → 1 ≤ d → i + d ≤ 10 → x * 128 ^ i < 18446744073709551616 → (0 < i → x ≠ 0) → hd i (vNumL x ++ r) = some (x, (vNumL x).length)
 | 0, _, _, _, _, h, _, _, _ => by omega
 | d + 1, x, i, r, hx, _, hi, hb, h0 => by
  by_cases h : x < 128
  ·have hc : (UInt8.ofNat x).toNat = x := by rw [UInt8.toNat_ofNat']; exact Nat.mod_eq_of_lt om_
   have hbad : ¬ ((i = 9 ∧ 1 < x) ∨ (0 < i ∧ x = 0)) := by
    rintro (⟨rfl, h1⟩ | ⟨h1, h2⟩)
    ·have e9 : (128 : Nat) ^ 9 = 9223372036854775808 := by decide
     omega
    ·exact h0 h1 h2
   rw [vNumL_small h]
   show hd i (UInt8.ofNat x :: r) = _
   unfold hd
   rw [hc, if_neg hbad, if_pos h]
   rfl
  ·have hc : (UInt8.ofNat (x % 128 + 128)).toNat = x % 128 + 128 := by rw [UInt8.toNat_ofNat']; exact Nat.mod_eq_of_lt om_
   have hd1 : 1 ≤ d := by
    rcases Nat.eq_zero_or_pos d with rfl | h
    ·simp at hx; omega
    ·exact h
   have hx2 : x / 128 < 128 ^ d := by rw [Nat.pow_succ] at hx; omega
   have hb2 : x / 128 * 128 ^ (i + 1) < 18446744073709551616 := by
    have h1 : x / 128 * 128 ≤ x := Nat.div_mul_le_self x 128
    have h2 : x / 128 * 128 * 128 ^ i ≤ x * 128 ^ i := Nat.mul_le_mul_right _ h1
    rw [Nat.pow_succ, Nat.mul_comm (128 ^ i) 128, ← Nat.mul_assoc]
    omega
   rw [vNumL_big h]
   show hd i (UInt8.ofNat (x % 128 + 128) :: (vNumL (x / 128) ++ r)) = _
   unfold hd
   rw [hc, if_neg (by omega), if_neg (by omega), hd_num d (x / 128) (i + 1) r hx2 hd1 (by omega) hb2 (by omega)]
   simp only [Option.map_some, List.length_cons, Option.some.injEq, Prod.mk.injEq, and_true]
   omega
theorem pageL_num (p n : Nat) (hp : p ≤ 2147483647) (hn : n ≤ 65536) : pageL (vNum p ++ vNum n).data.toList = some p := by
 have h2 : (128 : Nat) ^ 10 = 1180591620717411303424 := by decide
 have h1 := hd_num 10 p 0 (vNumL n) om_ om_ om_ om_ om_
 have h3 := hd_num 10 n 0 [] om_ om_ om_ om_ om_
 rw [List.append_nil] at h3
 unfold pageL
 rw [bytes_app, vNum_list, vNum_list, h1]
 simp only [if_pos hp, List.drop_left, h3, List.length_append]
 rw [if_pos ⟨hn, trivial⟩]
theorem pre_split {K : BA} {c : UInt8} (h : Lib.hasPrefix K.data.toList [c] = true) : ∃ t, K = (⟨#[c]⟩ : BA) ++ t := by
 obtain ⟨⟨l⟩⟩ := K
 rcases l with _ | ⟨a, r⟩
 ·simp [Lib.hasPrefix] at h
 ·simp [Lib.hasPrefix] at h
  exact ⟨⟨⟨r⟩⟩, by apply bytes_ext; rw [bytes_app]; simp [h]⟩
theorem head_get {K : BA} (h : 0 < K.size) : K.data.toList.head? = some (K[0]'h) := by
 obtain ⟨⟨l⟩⟩ := K
 rcases l with _ | ⟨c, r⟩
 ·exact absurd h (by decide)
 ·rfl
theorem head_none (s : BA) (hs : s.size ≤ 1000) (h : hd 0 s.data.toList = none) (w : World) :
  Calls Tryz.prog 61 #[.string s] w fun e w' => ∃ d : Int, (d = 2 ∨ d = 3) ∧ e = .returned (.tuple #[.int .u64 0, .int .i64 0, .int .i64 d]) ∧ Below w.heap.size w w' :=
 (ref_Head s hs w).mono fun e w' hc => by
  rcases hc with ⟨x, m, hx, -⟩ | ⟨d, hd', -, he, hb⟩
  ·rw [h] at hx; cases hx
  ·exact ⟨d, hd', he, hb⟩
theorem head_some (s : BA) (hs : s.size ≤ 1000) {x m : Nat} (h : hd 0 s.data.toList = some (x, m)) (w : World) :
  Calls Tryz.prog 61 #[.string s] w fun e w' => e = .returned (.tuple #[.int .u64 (x : Int), .int .i64 (m : Int), .int .i64 0]) ∧ Below w.heap.size w w' :=
 (ref_Head s hs w).mono fun e w' hc => by
  rcases hc with ⟨x', m', hx, he, hb⟩ | ⟨d, -, hx, -⟩
  ·rw [h] at hx
   have := Option.some.inj hx
   simp only [Prod.mk.injEq] at this
   rw [this.1, this.2]
   exact ⟨he, hb⟩
  ·rw [h] at hx; cases hx
theorem max2_mx (k k' : IntKind) (x y : Int) : Builtin.max2 (.int k x) (.int k' y) = pure (.int k (mx x y)) := max2_int k k' x y
theorem min2_mn (k k' : IntKind) (x y : Int) : Builtin.min2 (.int k x) (.int k' y) = pure (.int k (mn x y)) := min2_int k k' x y
theorem clamp (x : Int) (m : Nat) : ∃ p : Nat, p ≤ m ∧ mx 0 (mn x m) = p := by
 refine ⟨(mx 0 (mn x m)).toNat, ?_, ?_⟩ <;> unfold mx mn <;> split <;> split <;> omega
attribute [local go_sem] max2_mx min2_mn max_two min_two
set_option maxHeartbeats 1000000 in
set_option maxRecDepth 100000 in
theorem beside_walk (w : World) (page size : Int) (value : BA) :
  Calls Tryz.prog 13 #[.int .i64 page, .int .i64 size, .string value] w fun e w' => e = .returned (.bool true) ∧ Below w.heap.size w w' := by
 go_enter Tryz.func13, Tryz.ntmps13
 go_wp2_with fail
 refine (awake14 w).mono ?_
 rintro e w1 ⟨rfl, hb⟩
 have B1 := hi_ hb
 clear hb
 obtain ⟨p, hp, hpe⟩ := clamp page 2147483647
 obtain ⟨n, hn, hne⟩ := clamp size 65536
 rw [show ((2147483647 : Nat) : Int) = 2147483647 from rfl] at hpe
 rw [show ((65536 : Nat) : Int) = 65536 from rfl] at hne
 have CB := hi_ (fun W => int_Beside p n hp hn W)
 have CN := hi_ (fun W => ref_Num p om_ W)
 have CM := hi_ (fun W => ref_Num n om_ W)
 have e1 : IntKind.u64.wrap (p : Int) = (p : Int) := by rw [IntKind.wrap_u64]; omega
 have e2 : IntKind.u64.wrap (n : Int) = (n : Int) := by rw [IntKind.wrap_u64]; omega
 have HP := hi_ (show p ≤ 2147483647 ∧ n ≤ 65536 from ⟨hp, hn⟩)
 clear hp hn
 go_wp2_with fail
 refine (CB.out w1).mono ?_
 clear CB hpe hne
 rintro e w2 ⟨rfl, hb⟩
 have B2 := hi_ (below_then B1.out B1.out.size hb)
 clear hb B1
 have hz1 : (vNum p ++ vNum n).size ≤ 900 := by have := vNum_le (x := p) (by have := HP.out; omega); have := vNum_le (x := n) (by have := HP.out; omega); rw [ByteArray.size_append]; omega
 have CP := hi_ (fun W => int_Page_b (vNum p ++ vNum n) hz1 W)
 have hbb : besB p n = (⟨#[98]⟩ : BA) ++ (vNum p ++ vNum n) := ByteArray.append_assoc
 rw [← hbb] at CP
 clear hz1 hbb
 go_wp2_with fail
 refine (CP.out w2).mono ?_
 clear CP
 rintro e w3 ⟨hc, hb⟩
 have hpl := pageL_num p n HP.out.1 HP.out.2
 have hc2 : e = .returned (.tuple #[.int .i64 (p : Int), .bool true]) := by
  rcases hc with ⟨p', hp', he⟩ | ⟨hp', -⟩
  ·have hpp := hpl.symm.trans hp'
   rw [he, Option.some.inj hpp]
  ·have hpp := hpl.symm.trans hp'
   cases hpp
 clear hc hpl
 subst hc2
 have B3 := hi_ (below_then B2.out B2.out.size hb)
 clear hb B2
 go_wp2_with fail
 refine (CN.out w3).mono ?_
 rintro e w4 ⟨rfl, hb⟩
 have B4 := hi_ (below_then B3.out B3.out.size hb)
 clear hb B3 CN
 have z1 := vNum_le (x := p) (by have := HP.out; omega)
 have z3 : ((⟨#[98]⟩ : BA) ++ vNum p).size = 1 + (vNum p).size := by rw [ByteArray.size_append]; rfl
 go_wp2_with fail
 refine (CM.out w4).mono ?_
 rintro e w5 ⟨rfl, hb⟩
 have B5 := hi_ (below_then B4.out B4.out.size hb)
 clear hb B4 CM
 have z2 := vNum_le (x := n) (by have := HP.out; omega)
 have hbe : ((⟨#[98]⟩ : BA) ++ vNum p) ++ vNum n = besB p n := rfl
 have hbz : (besB p n).size ≤ 32 := by
  rw [← hbe, ByteArray.size_append, z3]
  omega
 have hbz2 : ((besB p n).size : Int) ≤ 32 := by omega
 go_wp2_with fail
 clear hbe hbz hbz2 z1 z2 z3 e1 e2
 refine (law_Cut value 40 w5).mono ?_
 rintro e w6 ⟨rfl, hb⟩
 have B6 := hi_ (below_then B5.out B5.out.size hb)
 clear hb B5
 have hks := cutB_size value 40
 obtain ⟨K, hK⟩ : ∃ K, K = cutB value 40 := ⟨_, rfl⟩
 rw [← hK] at hks ⊢
 clear hK
 have HKS := hi_ hks
 clear hks
 by_cases hp : Lib.hasPrefix K.data.toList [98] = true
 ·as_aux_lemma =>
  obtain ⟨t, hKt⟩ : ∃ t, K = (⟨#[98]⟩ : BA) ++ t := pre_split hp
  have hz : K.size = 1 + t.size := by rw [hKt, ByteArray.size_append]; rfl
  have hz1 : (1 : Int) ≤ (K.size : Int) := by omega
  have hk0 : ((K[0]'om_).toNat : Int) = 98 := by
   have := head_get (K := K) om_
   have hl : K.data.toList = 98 :: t.data.toList := by rw [hKt, bytes_app]; rfl
   rw [hl] at this
   have h2 := Option.some.inj this
   rw [← h2]
   rfl
  have hne : (K.toList == []) = false := by
   rw [beq_eq_false_iff_ne, ByteArray.toList_eq]
   intro h
   have := congrArg List.length h
   have e : K.data.toList.length = K.size := rfl
   simp only [List.length_nil] at this
   omega
  have hex : K.extract 1 (1 + t.size) = t := by rw [← hz, hKt]; exact cut_app_r (⟨#[98]⟩ : BA) t
  have CP := hi_ (fun W => int_Page_b t (by have := HKS.out; omega) W)
  rw [← hKt] at CP
  have HKT := hi_ hKt
  clear hKt
  go_wp2_with fail
  refine (CP.out w6).mono ?_
  rintro e w7 ⟨hc, hb⟩
  have B7 := hi_ (below_then B6.out B6.out.size hb)
  clear hb B6 CP
  have ht1 : t.size ≤ 1000 := by have := HKS.out; omega
  cases h : hd 0 t.data.toList with
  | none =>
   have CH := hi_ (fun W => head_none t ht1 h W)
   have hc2 : e = .returned (.tuple #[.int .i64 0, .bool false]) := by
    rcases hc with ⟨x, hx, -⟩ | ⟨-, he⟩
    ·unfold pageL at hx
     rw [h] at hx
     cases hx
    ·exact he
   subst hc2
   clear hc h
   go_wp2_with fail
   refine (CH.out w7).mono ?_
   rintro e w8 ⟨d, hd1, rfl, hb⟩
   have hd0 : ¬ d = 0 := by omega
   have B8 := hi_ (below_then B7.out B7.out.size hb)
   clear hb B7 hd1
   go_wp2_with fail
   refine (CH.out w8).mono ?_
   rintro e w9 ⟨d', hd1, rfl, hb⟩
   have B9 := hi_ (below_then B8.out B8.out.size hb)
   clear hb B8 hd1
   go_wp2_with fail
   go_ret
   exact ⟨rfl, B9.out⟩
  | some q =>
   obtain ⟨x, m⟩ := q
   have hlt := hd_lt _ 0 x m om_ h
   have hlen : t.data.toList.length = t.size := rfl
   obtain ⟨u, hu⟩ : ∃ u, u = t.extract m t.size := ⟨_, rfl⟩
   have hul : u.data.toList = t.data.toList.drop m := by rw [hu, cut_list]
   have hu1 : u.size ≤ 1000 := by
    have := congrArg List.length hul
    have e : u.data.toList.length = u.size := rfl
    rw [List.length_drop] at this
    omega
   have hexm : K.extract (1 + m) (1 + t.size) = u := by
    apply bytes_ext
    rw [← hz, cut_list, hul, HKT.out, bytes_app, List.drop_append]
    have e : (⟨#[98]⟩ : BA).data.toList.length = 1 := rfl
    rw [e, List.drop_eq_nil_of_le (by omega), Nat.add_sub_cancel_left]
    rfl
   have CH := hi_ (fun W => head_some t ht1 h W)
   have hm1 : (m : Int) ≤ 10 := by omega
   have hm0 : (0 : Int) ≤ (m : Int) := by omega
   have hm2 : (1 : Int) + (m : Int) ≤ ((K.size : Nat) : Int) := by omega
   have hm3 : m ≤ t.size := by omega
   have hm4 : (m : Int) ≤ (t.size : Int) := by omega
   cases h2 : hd 0 u.data.toList with
   | none =>
    have CU := hi_ (fun W => head_none u hu1 h2 W)
    have hc2 : e = .returned (.tuple #[.int .i64 0, .bool false]) := by
     rcases hc with ⟨x', hx, -⟩ | ⟨-, he⟩
     ·unfold pageL at hx
      rw [hul] at h2
      simp only [h, h2] at hx
      split at hx <;> cases hx
     ·exact he
    subst hc2
    clear hc h h2 hul hlt hlen hu
    go_wp2_with fail
    refine (CH.out w7).mono ?_
    rintro e w8 ⟨rfl, hb⟩
    have B8 := hi_ (below_then B7.out B7.out.size hb)
    clear hb B7
    go_wp2_with fail
    refine (CU.out w8).mono ?_
    rintro e w9 ⟨d, hd1, rfl, hb⟩
    have hd0 : ¬ d = 0 := by omega
    have B9 := hi_ (below_then B8.out B8.out.size hb)
    clear hb B8 hd1
    go_wp2_with fail
    go_ret
    exact ⟨rfl, B9.out⟩
   | some q =>
    obtain ⟨y, j⟩ := q
    have CU := hi_ (fun W => head_some u hu1 h2 W)
    have hlt2 := hd_lt _ 0 y j om_ h2
    have hj1 : (j : Int) ≤ 10 := by omega
    have hj0 : (0 : Int) ≤ (j : Int) := by omega
    rw [hul] at h2
    by_cases hg : x ≤ 2147483647 ∧ y ≤ 65536 ∧ m + j = t.size
    ·obtain ⟨hx, hy, hj⟩ := hg
     have hc2 : e = .returned (.tuple #[.int .i64 (x : Int), .bool true]) := by
      have hpl : pageL t.data.toList = some x := by
       unfold pageL
       simp only [h, h2, if_pos hx]
       rw [if_pos ⟨hy, by omega⟩]
      rcases hc with ⟨x', hx', he⟩ | ⟨hx', -⟩
      ·have := hpl.symm.trans hx'
       rw [he, Option.some.inj this]
      ·have := hpl.symm.trans hx'
       cases this
     subst hc2
     have hx1 : (x : Int) ≤ 2147483647 := by omega
     have hx0 : (0 : Int) ≤ (x : Int) := by omega
     have hy1 : (y : Int) ≤ 65536 := by omega
     have hj3 : 1 + (m : Int) + (j : Int) = 1 + (t.size : Int) := by omega
     have hwx : IntKind.i64.wrap (x : Int) = (x : Int) := by rw [IntKind.wrap_i64]; omega
     clear hc h h2 hul hlt hlt2 hlen hu
     go_wp2_with fail
     refine (CH.out w7).mono ?_
     rintro e w8 ⟨rfl, hb⟩
     have B8 := hi_ (below_then B7.out B7.out.size hb)
     clear hb B7
     go_wp2_with fail
     refine (CU.out w8).mono ?_
     rintro e w9 ⟨rfl, hb⟩
     have B9 := hi_ (below_then B8.out B8.out.size hb)
     clear hb B8
     go_wp2_with fail
     go_ret
     exact ⟨rfl, B9.out⟩
    ·have hc2 : e = .returned (.tuple #[.int .i64 0, .bool false]) := by
      have hpl : pageL t.data.toList = none := by
       unfold pageL
       simp only [h, h2]
       by_cases hx : x ≤ 2147483647
       ·rw [if_pos hx, if_neg (fun h => hg ⟨hx, h.1, by omega⟩)]
       ·rw [if_neg hx]
      rcases hc with ⟨x', hx', -⟩ | ⟨-, he⟩
      ·have := hpl.symm.trans hx'
       cases this
      ·exact he
     subst hc2
     have hx0 : (0 : Int) ≤ (x : Int) := by omega
     have h3 : (¬ (x : Int) ≤ 2147483647) ∨ ((x : Int) ≤ 2147483647 ∧ ¬ (y : Int) ≤ 65536) ∨ ((x : Int) ≤ 2147483647 ∧ (y : Int) ≤ 65536 ∧ (1 + (m : Int) + (j : Int) == 1 + (t.size : Int)) = false) := by
      simp only [beq_eq_false_iff_ne, ne_eq]
      omega
     clear hc h h2 hul hlt hlt2 hlen hu hg
     rcases h3 with hx1 | ⟨hx1, hy1⟩ | ⟨hx1, hy1, hj3⟩
     all_goals
      go_wp2_with fail
      refine (CH.out w7).mono ?_
      rintro e w8 ⟨rfl, hb⟩
      have B8 := hi_ (below_then B7.out B7.out.size hb)
      clear hb B7
      go_wp2_with fail
      refine (CU.out w8).mono ?_
      rintro e w9 ⟨rfl, hb⟩
      have B9 := hi_ (below_then B8.out B8.out.size hb)
      clear hb B8
      go_wp2_with fail
      go_ret
      exact ⟨rfl, B9.out⟩
 ·as_aux_lemma =>
  have hp' : Lib.hasPrefix K.data.toList [98] = false := by simpa using hp
  have CP := hi_ (fun W => int_Page_no K (by have := HKS.out; omega) hp' W)
  by_cases hz0 : K.size = 0
  ·have hne : (K.toList == []) = true := by
    rw [beq_iff_eq, ByteArray.toList_eq]
    exact List.eq_nil_of_length_eq_zero hz0
   clear hp hp' hz0
   go_wp2_with fail
   refine (CP.out w6).mono ?_
   rintro e w7 ⟨rfl, hb⟩
   have B7 := hi_ (below_then B6.out B6.out.size hb)
   clear hb B6
   go_wp2_with fail
   go_ret
   exact ⟨rfl, B7.out⟩
  ·have hz1 : (1 : Int) ≤ (K.size : Int) := by omega
   have hne : (K.toList == []) = false := by
    rw [beq_eq_false_iff_ne, ByteArray.toList_eq]
    intro h
    have := congrArg List.length h
    have e : K.data.toList.length = K.size := rfl
    simp only [List.length_nil] at this
    omega
   have hk0 : (((K[0]'om_).toNat : Int) == 98) = false := by
    rw [beq_eq_false_iff_ne]
    intro h
    have hg := head_get (K := K) om_
    have hb : K[0]'om_ = 98 := by
     apply UInt8.toNat_inj.1
     show _ = 98
     omega
    rw [hb] at hg
    refine hp ?_
    rcases hl : K.data.toList with _ | ⟨c, r⟩
    ·rw [hl] at hg; cases hg
    ·rw [hl] at hg
     simp only [List.head?_cons, Option.some.injEq] at hg
     simp [Lib.hasPrefix, hg]
   clear hp hp' hz0
   go_wp2_with fail
   refine (CP.out w6).mono ?_
   rintro e w7 ⟨rfl, hb⟩
   have B7 := hi_ (below_then B6.out B6.out.size hb)
   clear hb B6
   go_wp2_with fail
   go_ret
   exact ⟨rfl, B7.out⟩
end Go.Proofs.YtendgmblgdkiaaaGreat
