/- dowserlaw10.TreeMany, walked. -/
import Derived.Test.YtendgmblgdkiaaaGreatGTreeMany34
import Derived.StillTailTactics
namespace Go.Proofs.YtendgmblgdkiaaaGreat
open Go.RowKit
open Go.Proofs.YtendgmblgdkiaaaGreatW
open PrintWords PrintLast PrintMore
set_option linter.unusedVariables false
set_option linter.unusedSimpArgs false

theorem and31 (x : Int) : bits .and .i64 x 31 = x % 32 := by
 simp only [bits]
 have h : (BitVec.ofInt IntKind.i64.bits x &&& BitVec.ofInt IntKind.i64.bits 31).toNat = (x % 32).toNat := by
  rw [BitVec.toNat_and]
  have e : (BitVec.ofInt IntKind.i64.bits 31).toNat = 2 ^ 5 - 1 := by decide
  rw [e, Nat.and_two_pow_sub_one_eq_mod, BitVec.toNat_ofInt]
  show (x % (2 ^ 64 : Nat)).toNat % 2 ^ 5 = _
  omega
 rw [h, IntKind.wrap_i64]
 omega
theorem and7 (x : Int) : bits .and .i64 x 7 = x % 8 := by
 simp only [bits]
 have h : (BitVec.ofInt IntKind.i64.bits x &&& BitVec.ofInt IntKind.i64.bits 7).toNat = (x % 8).toNat := by
  rw [BitVec.toNat_and]
  have e : (BitVec.ofInt IntKind.i64.bits 7).toNat = 2 ^ 3 - 1 := by decide
  rw [e, Nat.and_two_pow_sub_one_eq_mod, BitVec.toNat_ofInt]
  show (x % (2 ^ 64 : Nat)).toNat % 2 ^ 3 = _
  omega
 rw [h, IntKind.wrap_i64]
 omega

/-- A tree on pages, and the box of the step. -/
structure Mny (w0 : World) (g st : Nat) (L : Loc) (b t : Nat) (D : Dk) (P : List Pg) (r : Rt) (kvs : List KV) (wr : World) : Prop where
 pg : Pgs wr L b 0 D P
 tr : TreeAt wr t b r
 tc : TreeC P r kvs
 box : wr.heap[g]? = some (.cells #[.int .i64 (st : Int)] 3 (0, 0))
 bel : Below w0.heap.size w0 wr
 hi : ∀ k, (L.foot k ∨ k = b) ∨ k = t → w0.heap.size < k
 hg : g = w0.heap.size
 room : D.room = 3700
theorem Mny.below {w0 : World} {g st : Nat} {L : Loc} {b t : Nat} {D : Dk} {P : List Pg} {r : Rt} {kvs : List KV} {wr wx : World} (H : Mny w0 g st L b t D P r kvs wr) (hb : Below wr.heap.size wr wx) : Mny w0 g st L b t D P r kvs wx :=
 ⟨H.pg.below hb, H.tr.below hb, H.tc, blk_below H.box hb, H.bel.trans (hb.mono H.bel.size), H.hi, H.hg, H.room⟩
theorem below_keep' {F : Nat → Prop} {w wr w' : World} (h : Below w.heap.size w wr) (k : Keep F wr w') (hF : ∀ i, F i → w.heap.size ≤ i) : Below w.heap.size w w' :=
 ((Keep.below (F := fun _ => False) h).andThen k (fun i hi hf => by have := hF i hf; omega)).toBelow
theorem Mny.done {w0 : World} {g st : Nat} {L : Loc} {b t : Nat} {D : Dk} {P : List Pg} {r : Rt} {kvs : List KV} {wr wx : World} {D' : Dk} {P' : List Pg} {r' : Rt} {kv' : List KV} (H : Mny w0 g st L b t D P r kvs wr)
  (Dn : Done wr wx t b L 0 D P r D' P' r' kv') : Mny w0 g st L b t D' P' r' kv' wx :=
 ⟨⟨Dn.st, Dn.live⟩, Dn.tr, Dn.tc, Dn.keep.heap H.box (fun hf => by have := H.hi _ hf; have := H.hg; omega), below_keep' H.bel Dn.keep (fun i hi => Nat.le_of_lt (H.hi i hi)), H.hi, H.hg, Dn.app.wr.room.trans H.room⟩

/-- The value of each key. -/
abbrev valM : BA := ⟨#[97, 32, 118, 97, 108, 117, 101, 32, 111, 102, 32, 115, 111, 109, 101, 32, 98, 121, 116, 101, 115]⟩
theorem valM_ok : valOk valM = true := by decide

/-- The tree's keys: those of the places that S names. -/
def Keys (st : Nat) (S : Nat → Prop) (kvs : List KV) : Prop := ∀ p, p ∈ kvs ↔ ∃ j, j < 120 ∧ S j ∧ p = (keyM st j, valM)

theorem bitLen_pos (x : Nat) (h0 : x ≠ 0) (h : x < 2 ^ 64) : 1 ≤ Lib.bitLen x := by rw [Lib.bitLen_half x h0 h]; omega
theorem bitLen_tall {h n : Nat} (hh : 2 ^ h ≤ n) (hn : n < 2 ^ 64) : h + 1 ≤ Lib.bitLen n := by
 rw [Lib.bitLen_shift h n hh hn]
 have hp : 0 < 2 ^ h := Nat.pow_pos (by omega)
 have h1 : 1 ≤ n / 2 ^ h := (Nat.le_div_iff_mul_le hp).2 (by omega)
 have h2 : n / 2 ^ h ≤ n := Nat.div_le_self _ _
 have := bitLen_pos (n / 2 ^ h) (by omega) (by omega)
 omega
theorem tree_Most (w : World) (n : Nat) (hn : n ≤ 1000000) : Calls Tryz.prog 36 #[.int .i64 (n : Int)] w fun e w' => e = .returned (.int .i64 (Lib.bitLen n : Nat)) ∧ w = w' := by
 have CB := Lib.hid (Tryz.bits_Len (n : Int) w (by omega) (by omega))
 go_enter Tryz.func36, Tryz.ntmps36
 go_wp2_with fail
 refine CB.out.mono ?_
 rintro e w' ⟨rfl, rfl⟩
 go_wp2
 go_ret
 exact ⟨rfl, rfl⟩

/-- What the first loop has put; what the second one has left. -/
structure MPut (st j : Nat) (kvs : List KV) (P : List Pg) : Prop where
 keys : Keys st (· < j) kvs
 len : kvs.length = j
 lp : P.length ≤ 15 * j
structure MDel (st k d j : Nat) (kvs : List KV) (P : List Pg) : Prop where
 keys : Keys st (fun x => x < k ∧ (x < j → x % d ≠ 0)) kvs
 len : kvs.length ≤ k
 lp : P.length ≤ 15 * k + 15 * j
theorem tall7 {P : List Pg} {r : Rt} {kvs : List KV} (h : TreeC P r kvs) (hn : kvs.length ≤ 120) : 0 ≤ r.height ∧ r.height ≤ 7 := h.low (m := 7) (by omega)
theorem MPut.not_at {q j : Nat} {kvs : List KV} {P : List Pg} (h : MPut (1 + 2 * q) j kvs P) (hj : j < 120) : isAt (keyM (1 + 2 * q) j) (kvs.map (·.1)) = false :=
 isAt_not fun v hv => by
  obtain ⟨i, hi, hij, e⟩ := (h.keys _).1 hv
  have := keyM_inj (by omega) (by omega) (congrArg Prod.fst e)
  omega
theorem MPut.step {q j : Nat} {kvs : List KV} {P P' : List Pg} (h : MPut (1 + 2 * q) j kvs P) (hj : j < 120) (hs : Srt kvs) (hP : P'.length ≤ P.length + 15) : MPut (1 + 2 * q) (j + 1) (ed (keyM (1 + 2 * q) j) (some valM) kvs) P' := by
 refine ⟨fun p => ?_, ?_, by have := h.lp; omega⟩
 ·rw [mem_ed, h.keys]
  constructor
  ·rintro (rfl | ⟨⟨i, h1, h2, rfl⟩, -⟩)
   ·exact ⟨j, hj, by omega, rfl⟩
   ·exact ⟨i, h1, by omega, rfl⟩
  ·rintro ⟨i, h1, h2, rfl⟩
   by_cases e : i = j
   ·subst e; exact .inl rfl
   ·exact .inr ⟨⟨i, h1, by omega, rfl⟩, fun e' => e (keyM_inj (by omega) (by omega) e')⟩
 ·have h1 := ed_put_len (key := keyM (1 + 2 * q) j) (x := valM) hs
  rw [h.not_at hj] at h1
  have := h.len
  simp at h1
  omega
theorem MDel.mem {st k d j : Nat} {kvs : List KV} {P : List Pg} (h : MDel st k d j kvs P) (hk : k ≤ 120) (hj : j < k) : (keyM st j, valM) ∈ kvs := (h.keys _).2 ⟨j, by omega, ⟨hj, fun e => by omega⟩, rfl⟩
theorem mem_del {key : BA} {L : List KV} (hS : Srt L) {p : KV} : p ∈ ed key none L ↔ p ∈ L ∧ p.1 ≠ key := by
 rw [← ed_none hS]
 simp
theorem MDel.step {q k d j : Nat} {kvs : List KV} {P P' : List Pg} (h : MDel (1 + 2 * q) k d j kvs P) (hk : k ≤ 120) (hj : j < k) (hd : j % d = 0) (hs : Srt kvs) (hP : P'.length ≤ P.length + 15) : MDel (1 + 2 * q) k d (j + 1) (ed (keyM (1 + 2 * q) j) none kvs) P' := by
 refine ⟨fun p => ?_, ?_, by have := h.lp; omega⟩
 ·rw [mem_del hs, h.keys]
  constructor
  ·rintro ⟨⟨i, h1, ⟨h2, h3⟩, rfl⟩, h4⟩
   refine ⟨i, h1, ⟨h2, fun h5 => ?_⟩, rfl⟩
   rcases Nat.lt_or_ge i j with h6 | h6
   ·exact h3 h6
   ·have : i = j := by omega
    subst this
    exact absurd rfl h4
  ·rintro ⟨i, h1, ⟨h2, h3⟩, rfl⟩
   refine ⟨⟨i, h1, ⟨h2, fun h5 => h3 (by omega)⟩, rfl⟩, fun e => ?_⟩
   have := keyM_inj (by omega) (by omega) e
   subst this
   exact h3 (by omega) hd
 ·have h1 := ed_del_len hs (h.mem hk hj)
  have := h.len
  omega
theorem MDel.skip {st k d j : Nat} {kvs : List KV} {P : List Pg} (h : MDel st k d j kvs P) (hd : j % d ≠ 0) : MDel st k d (j + 1) kvs P := by
 refine ⟨fun p => ?_, h.len, by have := h.lp; omega⟩
 rw [h.keys]
 constructor
 ·rintro ⟨i, h1, ⟨h2, h3⟩, rfl⟩
  refine ⟨i, h1, ⟨h2, fun h5 => ?_⟩, rfl⟩
  rcases Nat.lt_or_ge i j with h6 | h6
  ·exact h3 h6
  ·have : i = j := by omega
   subst this
   exact hd
 ·rintro ⟨i, h1, ⟨h2, h3⟩, rfl⟩
  exact ⟨i, h1, ⟨h2, fun h5 => h3 (by omega)⟩, rfl⟩
theorem MPut.del {st k d : Nat} {kvs : List KV} {P : List Pg} (h : MPut st k kvs P) : MDel st k d 0 kvs P := by
 refine ⟨fun p => ?_, by have := h.len; omega, by have := h.lp; omega⟩
 rw [h.keys]
 constructor
 ·rintro ⟨i, h1, h2, rfl⟩; exact ⟨i, h1, ⟨h2, fun e => by omega⟩, rfl⟩
 ·rintro ⟨i, h1, ⟨h2, -⟩, rfl⟩; exact ⟨i, h1, h2, rfl⟩

attribute [local go_sem] field_root1 field_root2
set_option maxHeartbeats 4000000 in
set_option maxRecDepth 100000 in
theorem many_walk (w : World) (n step drop : Int) :
  Calls Tryz.prog 5 #[.int .i64 n, .int .i64 step, .int .i64 drop] w fun e w' => e = .returned (.bool true) ∧ Below w.heap.size w w' := by
 go_enter Tryz.func5, Tryz.ntmps5
 go_wp2_with fail
 have X1 := Lib.hid (blk_new w (.cells #[.int .i64 step] 3 (0, 0)))
 have B1 := Lib.hid (below_alloc (Below.refl w.heap.size w) (.cells #[.int .i64 step] 3 (0, 0)))
 have S1 : Hid ((w.alloc (.cells #[.int .i64 step] 3 (0, 0))).heap.size = w.heap.size + 1) := Lib.hid (by simp)
 generalize w.alloc (.cells #[.int .i64 step] 3 (0, 0)) = w1 at *
 obtain ⟨g, hg⟩ : ∃ g, g = w.heap.size := ⟨_, rfl⟩
 rw [← hg] at X1 ⊢
 have HG := Lib.hid hg
 clear hg
 refine (awake10 w1).mono ?_
 rintro e w2 ⟨rfl, hb⟩
 have B2 := Lib.hid (below_then B1.out B1.out.size hb)
 have X2 := Lib.hid (blk_below X1.out hb)
 have S2 : Hid (w.heap.size + 1 ≤ w2.heap.size) := Lib.hid (by have := S1.out; have := hb.size; omega)
 clear hb X1 B1 S1
 obtain ⟨k, hk⟩ : ∃ k : Nat, (k : Int) = max 0 (min n 120) := ⟨(max 0 (min n 120)).toNat, by omega⟩
 obtain ⟨q, hq⟩ : ∃ q : Nat, (q : Int) = step % 32 := ⟨(step % 32).toNat, by omega⟩
 have hand : bits .and .i64 step 31 = (q : Int) := (and31 step).trans hq.symm
 have hq1 : (q : Int) ≤ 31 := by omega
 have hk1 : k ≤ 120 := by omega
 have hw1 : IntKind.i64.wrap (2 * (q : Int)) = 2 * (q : Int) := IntWalk.i64_in _ (by omega)
 have hw2 : IntKind.i64.wrap (1 + 2 * (q : Int)) = ((1 + 2 * q : Nat) : Int) := by rw [IntWalk.i64_in _ (by omega)]; omega
 have x0 := blk_cell X2.out 0
 have f0 := blk_frozen X2.out 0
 have HK1 := Lib.hid hk1
 have HK := Lib.hid hk
 have HQ1 := Lib.hid hq1
 clear hq hq1 hk
 go_wp2_with fail
 go_still_tail 8, (by kernel_rfl)
 change wpList _ _ _ _ _ w2.drew
 have X2 := Lib.hid (blk_drew X2.out)
 have B2 := Lib.hid (below_drew1 B2.out)
 have S2 : Hid (w.heap.size + 1 ≤ w2.drew.heap.size) := Lib.hid S2.out
 generalize w2.drew = w3 at X2 B2 S2 ⊢
 have x0 := blk_cell X2.out 0
 have f0 := blk_frozen X2.out 0
 go_wp2_with fail
 have hst : 1 + 2 * (q : Int) = ((1 + 2 * q : Nat) : Int) := by omega
 rw [hst, ← HK.out]
 have HST := Lib.hid (show 1 + 2 * q ≤ 63 by have := HQ1.out; omega)
 clear hst hw1 hw2 hand x0 f0
 have X4 := Lib.hid (blk_put X2.out 0 (.int .i64 ((1 + 2 * q : Nat) : Int)) rfl)
 have B4 := Lib.hid (below_set (g := g) (j := 0) (v := .int .i64 ((1 + 2 * q : Nat) : Int)) B2.out (by have := HG.out; omega))
 have S4 : Hid (w.heap.size + 1 ≤ (w3.setCell ⟨g, 0, none⟩ (.int .i64 ((1 + 2 * q : Nat) : Int))).heap.size) := Lib.hid (by simpa [World.setCell] using S2.out)
 clear X2 B2 S2
 generalize w3.setCell ⟨g, 0, none⟩ (.int .i64 ((1 + 2 * q : Nat) : Int)) = w4 at *
 refine (law_Half w4 3700 (by omega)).mono ?_
 rintro e w5 ⟨L, b, D, rfl, hP, hr, hnew, hb⟩
 have HP := Lib.hid hP
 have HR := Lib.hid hr
 have HN := Lib.hid (show ∀ k, L.foot k ∨ k = b → w.heap.size < k from fun k hk => by have := hnew k hk; have := S4.out; omega)
 have B5 := Lib.hid (below_then B4.out B4.out.size hb)
 have X5 := Lib.hid (blk_below X4.out hb)
 have S5 : Hid (w.heap.size + 1 ≤ w5.heap.size) := Lib.hid (by have := S4.out; have := hb.size; omega)
 clear hP hr hnew hb B4 X4 S4
 go_wp2_with fail
 refine (tree_Empty w5).mono ?_
 rintro e w6 ⟨rfl, hb⟩
 have B6 := Lib.hid (below_then B5.out B5.out.size hb)
 have HP6 := Lib.hid (HP.out.below hb)
 have X6 := Lib.hid (blk_below X5.out hb)
 have S6 : Hid (w.heap.size + 1 ≤ w6.heap.size) := Lib.hid (by have := S5.out; have := hb.size; omega)
 clear hb HP B5 X5 S5
 go_wp2_with fail
 refine (tree_Open w6 b ⟨-1, 0, 0⟩).mono ?_
 rintro e w7 ⟨t, rfl, hT, ht, hb⟩
 have TW := Lib.hid (show Mny w g (1 + 2 * q) L b t D [] ⟨-1, 0, 0⟩ [] w7 from ⟨HP6.out.below hb, hT, rootC_none [], blk_below X6.out hb, below_then B6.out B6.out.size hb, by
  rintro k (h | rfl)
  ·exact HN.out k h
  ·have := S6.out; omega, HG.out, HR.out⟩)
 have ST0 := Lib.hid (show MPut (1 + 2 * q) 0 [] [] from ⟨fun p => ⟨(fun h => by cases h), fun ⟨j, _, h, _⟩ => by omega⟩, rfl, by simp⟩)
 clear hb hT ht B6 HP6 X6 S6 HN HR
 go_wp2_with fail
 go_loopw [42] (fun i wr => ∃ (j : Nat) (D' : Dk) (P' : List Pg) (r' : Rt) (kvs : List KV), j ≤ k ∧ i = .int .i64 (j : Int) ∧ Hid (MPut (1 + 2 * q) j kvs P') ∧ Hid (Mny w g (1 + 2 * q) L b t D' P' r' kvs wr)) (fun i _ => k - (intOf i).toNat)
 case atStart => exact ⟨0, D, [], ⟨-1, 0, 0⟩, [], Nat.zero_le _, rfl, ST0, TW⟩
 case round =>
  clear ST0 TW
  obtain ⟨j, D', P', r', kvs, hj, rfl, ST, TW⟩ := hrel
  have HJ := Lib.hid hj
  clear hj
  by_cases hlt : (j : Int) < (k : Int)
  ·have HLT := Lib.hid (show j < k by omega)
   go_wp2_with fail
   refine (many_key wr g (1 + 2 * q) j ((cell_of_heap TW.out.box 0).trans rfl) HST.out (by have := HK1.out; have := HLT.out; omega)).mono ?_
   rintro e wk ⟨rfl, hb⟩
   replace TW := Lib.hid (TW.out.below hb)
   clear hb
   have hh := Lib.hid (tall7 TW.out.tc (by have := ST.out.len; have := HK1.out; have := HLT.out; omega))
   go_wp2_with fail
   refine (tree_Put wk t b L 0 D' P' r' (keyM (1 + 2 * q) j) valM kvs TW.out.pg.st TW.out.tr TW.out.pg.live TW.out.tc (keyM_ok _ _) valM_ok (by have := ST.out.len; have := HK1.out; have := HLT.out; omega) (by have := hh.out; have := ST.out.lp; have := TW.out.room; have := HK1.out; have := HLT.out; omega)).mono ?_
   rintro e wz ⟨rfl, D2, P2, r2, Dn, -⟩
   have ST2 := Lib.hid (ST.out.step (by have := HK1.out; have := HLT.out; omega) TW.out.tc.good.1 (P' := P2) (by have := Dn.most; have := hh.out; omega))
   replace TW := Lib.hid (TW.out.done Dn)
   clear Dn
   go_wp2_with fail
   go_roundw
   case rel => exact ⟨j + 1, D2, P2, r2, _, by have := HLT.out; omega, by go_num, ST2, TW⟩
   case measure => simp [intOf]; omega
  ·obtain rfl : k = j := by have := HJ.out; omega
   clear hlt HJ
   have HLN := Lib.hid ST.out.len
   have HTL := Lib.hid (show kvs.length ≤ 120 by have := HK1.out; have := HLN.out; omega)
   have hct := TW.out.tc.count
   rw [HLN.out] at hct
   have hh7 := Lib.hid (tall7 TW.out.tc HTL.out)
   have HBL : Hid (r'.height ≤ (Lib.bitLen k : Nat)) := Lib.hid (by
    rcases TW.out.tc.tall with ⟨h0, -, -⟩ | ⟨hn, h1, h2⟩
    ·omega
    ·have := bitLen_tall h2 (by have := HTL.out; omega)
     rw [HLN.out] at this
     omega)
   obtain ⟨pg, ct, ht⟩ := r'
   simp only at hct hh7 HBL
   subst hct
   go_wp2_with fail
   refine (tree_Root wr t b _ TW.out.tr).mono ?_
   rintro e wa1 ⟨rfl, hb⟩
   replace TW := Lib.hid (TW.out.below hb)
   clear hb
   unfold rootV
   go_wp2_with fail
   refine (tree_Root wa1 t b _ TW.out.tr).mono ?_
   rintro e wa2 ⟨rfl, hb⟩
   replace TW := Lib.hid (TW.out.below hb)
   clear hb
   go_wp2_with fail
   refine (law_Formed wa2 b L 0 _ _ _ kvs TW.out.pg.st TW.out.pg.live.1 TW.out.tc (by have := HTL.out; omega)).mono ?_
   rintro e wa3 ⟨rfl, hb⟩
   replace TW := Lib.hid (TW.out.below hb)
   clear hb
   go_wp2_with fail
   refine (tree_Root wa3 t b _ TW.out.tr).mono ?_
   rintro e wa4 ⟨rfl, hb⟩
   replace TW := Lib.hid (TW.out.below hb)
   clear hb
   unfold rootV
   go_wp2_with fail
   refine (tree_Most wa4 k (by have := HK1.out; omega)).mono ?_
   rintro e wa5 ⟨rfl, rfl⟩
   obtain ⟨m7, hm7⟩ : ∃ m7 : Nat, (m7 : Int) = drop % 8 := ⟨(drop % 8).toNat, by omega⟩
   have hand : bits .and .i64 drop 7 = (m7 : Int) := (and7 drop).trans hm7.symm
   have hm8 : m7 ≤ 7 := by omega
   have hgt : ¬ ((Lib.bitLen k : Nat) : Int) < ht := by have := HBL.out; omega
   clear hm7
   go_wp2_with fail
   have ST1 := Lib.hid (ST.out.del (d := 1 + m7))
   clear ST hand hgt HBL hh7
   go_loopw [77, 12] (fun i l wr => ∃ (j : Nat) (D' : Dk) (P' : List Pg) (r' : Rt) (kvs : List KV), j ≤ k ∧ i = .int .i64 (j : Int) ∧ l = .int .i64 (kvs.length : Int) ∧ Hid (MDel (1 + 2 * q) k (1 + m7) j kvs P') ∧ Hid (Mny w g (1 + 2 * q) L b t D' P' r' kvs wr)) (fun i _ _ => k - (intOf i).toNat)
   case atStart => exact ⟨0, _, _, _, _, Nat.zero_le _, rfl, by rw [HLN.out], ST1, TW⟩
   case round =>
    clear ST1 TW HLN HTL
    obtain ⟨j, D', P', r', kv, hj, rfl, rfl, ST, TW⟩ := hrel
    have HJ := Lib.hid hj
    have hlen : (kv.length : Int) ≤ 120 := by have := ST.out.len; omega
    have hh := Lib.hid (tall7 TW.out.tc (by omega))
    clear hj
    by_cases hlt : (j : Int) < (k : Int)
    ·have HLT := Lib.hid (show j < k by omega)
     have HE : Hid ((j : Int) % (1 + (m7 : Int)) = ((j % (1 + m7) : Nat) : Int)) := Lib.hid (by rw [show (1 + (m7 : Int)) = ((1 + m7 : Nat) : Int) by omega]; exact (Int.natCast_emod _ _).symm)
     by_cases hm : j % (1 + m7) = 0
     ·have HM := Lib.hid hm
      have hb0 : ((j : Int) % (1 + (m7 : Int)) == 0) = true := by rw [HE.out, hm]; rfl
      clear hm
      go_wp2_with fail
      refine (many_key wr g (1 + 2 * q) j ((cell_of_heap TW.out.box 0).trans rfl) HST.out (by have := HK1.out; have := HLT.out; omega)).mono ?_
      rintro e wk ⟨rfl, hb⟩
      replace TW := Lib.hid (TW.out.below hb)
      clear hb
      have hat : Hid (isAt (keyM (1 + 2 * q) j) (kv.map (·.1)) = true) := Lib.hid (isAt_mem TW.out.tc.good.1 (ST.out.mem HK1.out HLT.out))
      go_wp2_with fail
      have CD := tree_Delete wk t b L 0 D' P' r' (keyM (1 + 2 * q) j) kv TW.out.pg.st TW.out.tr TW.out.pg.live TW.out.tc (keyM_ok _ _) (by omega) (by have := hh.out; have := ST.out.lp; have := TW.out.room; have := HK1.out; have := HLT.out; omega)
      rw [hat.out] at CD
      refine CD.mono ?_
      clear CD
      rintro e wz ⟨rfl, D2, P2, r2, Dn⟩
      have ST2 := Lib.hid (ST.out.step HK1.out HLT.out HM.out TW.out.tc.good.1 (P' := P2) (by have := Dn.most; have := hh.out; omega))
      have HL2 := Lib.hid (ed_del_len TW.out.tc.good.1 (ST.out.mem HK1.out HLT.out))
      have HL3 := Lib.hid ST2.out.len
      replace TW := Lib.hid (TW.out.done Dn)
      have hpos : (1 : Int) ≤ (kv.length : Int) := by have := List.length_pos_of_mem (ST.out.mem HK1.out HLT.out); omega
      clear Dn hat ST
      by_cases h16 : j % 16 = 0
      ·have hb1 : ((j : Int) % 16 == 0) = true := by simp; omega
       clear h16
       go_wp2_with fail
       refine (tree_Root wz t b _ TW.out.tr).mono ?_
       rintro e wa ⟨rfl, hb⟩
       replace TW := Lib.hid (TW.out.below hb)
       clear hb
       go_wp2_with fail
       refine (law_Formed wa b L 0 _ _ _ _ TW.out.pg.st TW.out.pg.live.1 TW.out.tc (by have := HL3.out; have := HK1.out; omega)).mono ?_
       rintro e wb ⟨rfl, hb⟩
       replace TW := Lib.hid (TW.out.below hb)
       clear hb
       go_wp2_with fail
       go_roundw
       case rel => exact ⟨j + 1, D2, P2, r2, _, by have := HLT.out; omega, by go_num, by rw [HL2.out], ST2, TW⟩
       case measure => simp [intOf]; omega
      ·have hb1 : ((j : Int) % 16 == 0) = false := by simp; omega
       clear h16
       go_wp2_with fail
       go_roundw
       case rel => exact ⟨j + 1, D2, P2, r2, _, by have := HLT.out; omega, by go_num, by rw [HL2.out], ST2, TW⟩
       case measure => simp [intOf]; omega
     ·have hb0 : ((j : Int) % (1 + (m7 : Int)) == 0) = false := by rw [HE.out]; exact beq_eq_false_iff_ne.2 (by omega)
      have ST2 := Lib.hid (ST.out.skip hm)
      clear hm ST
      go_wp2_with fail
      go_roundw
      case rel => exact ⟨j + 1, D', P', r', kv, by have := HLT.out; omega, by go_num, rfl, ST2, TW⟩
      case measure => simp [intOf]; omega
    ·obtain rfl : k = j := by have := HJ.out; omega
     clear hlt HJ
     go_wp2_with fail
     go_loopw [112] (fun i wr => ∃ (j : Nat), j ≤ k ∧ i = .int .i64 (j : Int) ∧ Hid (Mny w g (1 + 2 * q) L b t D' P' r' kv wr)) (fun i _ => k - (intOf i).toNat)
     case atStart => exact ⟨0, Nat.zero_le _, rfl, TW⟩
     case round =>
      clear TW
      obtain ⟨j, hj, rfl, TW⟩ := hrel
      have HJ := Lib.hid hj
      clear hj
      by_cases hlt : (j : Int) < (k : Int)
      ·have HLT := Lib.hid (show j < k by omega)
       have HE : Hid ((j : Int) % (1 + (m7 : Int)) = ((j % (1 + m7) : Nat) : Int)) := Lib.hid (by rw [show (1 + (m7 : Int)) = ((1 + m7 : Nat) : Int) by omega]; exact (Int.natCast_emod _ _).symm)
       have hiff : Hid ((∃ v, (keyM (1 + 2 * q) j, v) ∈ kv) ↔ j % (1 + m7) ≠ 0) := Lib.hid (by
        constructor
        ·rintro ⟨v, hv⟩
         obtain ⟨i, h1, ⟨h2, h3⟩, e⟩ := (ST.out.keys _).1 hv
         have := keyM_inj (by have := HK1.out; have := HLT.out; omega) (by omega) (congrArg Prod.fst e)
         subst this
         exact h3 h2
        ·intro h
         exact ⟨valM, (ST.out.keys _).2 ⟨j, by have := HK1.out; have := HLT.out; omega, ⟨HLT.out, fun _ => h⟩, rfl⟩⟩)
       go_wp2_with fail
       refine (many_key wr g (1 + 2 * q) j ((cell_of_heap TW.out.box 0).trans rfl) HST.out (by have := HK1.out; have := HLT.out; omega)).mono ?_
       rintro e wk ⟨rfl, hb⟩
       replace TW := Lib.hid (TW.out.below hb)
       clear hb
       go_wp2_with fail
       refine (tree_Get wk t b L 0 D' P' r' TW.out.pg.st TW.out.tr TW.out.pg.live.1 (keyM (1 + 2 * q) j) kv TW.out.tc (by have := hh.out; omega)).mono ?_
       rintro e wz ⟨s, is, rfl, hb, hy, hn⟩
       replace TW := Lib.hid (TW.out.below hb)
       clear hb
       cases is with
       | true =>
        have hm := hiff.out.1 ⟨s, hy rfl⟩
        have hb0 : ((j : Int) % (1 + (m7 : Int)) != 0) = true := by rw [HE.out]; exact bne_iff_ne.2 (by omega)
        clear hy hn hm hiff
        go_wp2_with fail
        go_roundw
        case rel => exact ⟨j + 1, by have := HLT.out; omega, by go_num, TW⟩
        case measure => simp [intOf]; omega
       | false =>
        have hm : ¬ j % (1 + m7) ≠ 0 := fun h => by obtain ⟨v, hv⟩ := hiff.out.2 h; exact (hn rfl).2 v hv
        have hb0 : ((j : Int) % (1 + (m7 : Int)) != 0) = false := by rw [HE.out]; exact bne_eq_false_iff_eq.2 (by omega)
        clear hy hn hm hiff
        go_wp2_with fail
        go_roundw
        case rel => exact ⟨j + 1, by have := HLT.out; omega, by go_num, TW⟩
        case measure => simp [intOf]; omega
      ·obtain rfl : k = j := by have := HJ.out; omega
       clear hlt HJ
       have hct := TW.out.tc.count
       obtain ⟨pg2, ct2, ht2⟩ := r'
       simp only at hct
       subst hct
       go_wp2_with fail
       refine (tree_Root wr t b _ TW.out.tr).mono ?_
       rintro e wa ⟨rfl, hb⟩
       replace TW := Lib.hid (TW.out.below hb)
       clear hb
       unfold rootV
       go_wp2_with fail
       refine (tree_Root wa t b _ TW.out.tr).mono ?_
       rintro e wb ⟨rfl, hb⟩
       replace TW := Lib.hid (TW.out.below hb)
       clear hb
       go_wp2_with fail
       refine (law_Formed wb b L 0 _ _ _ kv TW.out.pg.st TW.out.pg.live.1 TW.out.tc (by have := ST.out.len; have := HK1.out; omega)).mono ?_
       rintro e wc ⟨rfl, hb⟩
       replace TW := Lib.hid (TW.out.below hb)
       clear hb
       go_wp2_with fail
       go_ret
       exact ⟨rfl, TW.out.bel⟩
end Go.Proofs.YtendgmblgdkiaaaGreat
