/- (*tree.Tree).read, walked: of a page that holds a packed node. -/
import Derived.Test.YtendgmblgdkiaaaGreatGInternFull0
import Derived.Test.YtendgmblgdkiaaaGreatGInternFull24
import Derived.Test.YtendgmblgdkiaaaGreatGInternFull30
import Derived.Lib.Hide
import Derived.Outline
namespace Go.Proofs.YtendgmblgdkiaaaGreat
open Go.RowKit
open Go.Proofs.YtendgmblgdkiaaaGreatW
open PrintWords
set_option linter.unusedVariables false
set_option linter.unusedSimpArgs false

/-- Pages on a disk, in memory and as a list. -/
structure St (w : World) (L : Loc) (b h : Nat) (D : Dk) (P : List Pg) : Prop where
 d : DiskAt w L D
 p : PagesAt w b L h P.length
 hh : h ≤ 1
 room : P.length ≤ D.room
 holds : PHolds D h P
theorem St.below {w w' : World} {L : Loc} {b h : Nat} {D : Dk} {P : List Pg} (S : St w L b h D P) (k : Below w.heap.size w w') : St w' L b h D P := ⟨S.d.below k, S.p.below k, S.hh, S.room, S.holds⟩

/-- A tree's root. -/
structure Rt where
 page : Int
 count : Int
 height : Int
def TreeAt (w : World) (t b : Nat) (r : Rt) : Prop := w.heap[t]? = some (.cells #[.pointer (some ⟨b, 0, none⟩), .int .i64 r.page, .int .i64 r.count, .int .i64 r.height] 148 (0, 0))
namespace TreeAt
variable {w w' : World} {t b : Nat} {r : Rt}
theorem c0 (T : TreeAt w t b r) : w.cell? ⟨t, 0, none⟩ = some (.pointer (some ⟨b, 0, none⟩)) := (cell_of_heap T 0).trans rfl
theorem c1 (T : TreeAt w t b r) : w.cell? ⟨t, 1, none⟩ = some (.int .i64 r.page) := (cell_of_heap T 1).trans rfl
theorem c2 (T : TreeAt w t b r) : w.cell? ⟨t, 2, none⟩ = some (.int .i64 r.count) := (cell_of_heap T 2).trans rfl
theorem c3 (T : TreeAt w t b r) : w.cell? ⟨t, 3, none⟩ = some (.int .i64 r.height) := (cell_of_heap T 3).trans rfl
theorem frz (T : TreeAt w t b r) (i : Nat) : w.frozen? ⟨t, i, none⟩ = false := frozen_of_heap T i
theorem lt (T : TreeAt w t b r) : t < w.heap.size := lt_of_heap T
theorem below (T : TreeAt w t b r) (k : Below w.heap.size w w') : TreeAt w' t b r := (k.block _ T.lt).trans T
theorem keep {F : Nat → Prop} (T : TreeAt w t b r) (k : Keep F w w') (hf : ¬ F t) : TreeAt w' t b r := k.heap T hf
/-- The tree's block is none of the disk's and the pages'. -/
theorem foot {L : Loc} {h : Nat} {D : Dk} {P : List Pg} (T : TreeAt w t b r) (S : St w L b h D P) : ¬ (L.foot t ∨ t = b) := by
 rintro ((rfl | rfl | rfl) | rfl)
 ·have := S.d.head; rw [T] at this; simp [Dk.head] at this
 ·obtain ⟨x, hx⟩ := S.d.rows; rw [T] at hx; simp at hx
 ·obtain ⟨e, c, hm, _⟩ := S.d.map; rw [T] at hm; simp at hm
 ·have := S.p; unfold PagesAt at this; rw [T] at this; simp at this
end TreeAt

theorem vNum_pos (x : Nat) : 1 ≤ (vNum x).size := by
 unfold vNum
 rw [vNumL]
 split <;> simp [ByteArray.size]
theorem vText_pos (s : ByteArray) : 1 ≤ (vText s).size := by
 unfold vText
 rw [ByteArray.size_append]
 have := vNum_pos s.size
 omega
theorem entryOf_pos (kind : Int) (k v : ByteArray) (c : Int) : 1 ≤ (entryOf kind k v c).size := by
 unfold entryOf
 split <;> (rw [ByteArray.size_append]; have := vText_pos k; omega)
theorem le_entriesOf (kind : Int) (keys vals : List ByteArray) (kids : List Int) : ∀ n, n ≤ (entriesOf kind keys vals kids n).size
 | 0 => Nat.zero_le _
 | n + 1 => by
  rw [entriesOf, ByteArray.size_append]
  have := le_entriesOf kind keys vals kids n
  have := entryOf_pos kind (keys.getD n ByteArray.empty) (vals.getD n ByteArray.empty) (kids.getD n 0)
  omega
theorem le_packOf (kind : Int) (keys vals : List ByteArray) (kids : List Int) : keys.length ≤ (packOf kind keys vals kids).size := by
 unfold packOf
 rw [ByteArray.size_append]
 have := le_entriesOf kind keys vals kids keys.length
 omega
theorem nodeOk_kind {kind : Int} {keys vals : List ByteArray} {kids : List Int} (h : nodeOk kind keys vals kids = true) : kind = 1 ∨ kind = 2 := by
 unfold nodeOk at h
 by_cases h1 : kind = 1
 ·exact .inl h1
 ·by_cases h2 : kind = 2
  ·exact .inr h2
  ·simp [h1, h2] at h
set_option maxHeartbeats 2000000 in
set_option maxRecDepth 100000 in
theorem tree_read (w : World) (t b : Nat) (L : Loc) (h : Nat) (D : Dk) (P : List Pg) (r : Rt) (S : St w L b h D P) (T : TreeAt w t b r) (up : D.down = false) (page : Nat) (level : Int) (kind : Int) (keys vals : List ByteArray) (kids : List Int)
  (hp : P[page]? = some (kind, packOf kind keys vals kids)) (hO : nodeOk kind keys vals kids = true) (h0 : 0 < keys.length) (hk : (kind = 1) = (level = 1)) :
  Calls Tryz.prog 109 #[.pointer (some ⟨t, 0, none⟩), .int .i64 page, .int .i64 level] w fun e w' => ∃ v1 v2 v3 : Value,
   e = .returned (.tuple #[.agg #[.int .i64 kind, v1, v2, v3], .int .i64 0]) ∧ Kd.R Kd.string 9 w' w.heap.size (fun _ => True) v1 keys ∧ Kd.R Kd.string 9 w' w.heap.size (fun _ => True) v2 vals ∧ Kd.R (Kd.int .i64) 3 w' w.heap.size (fun _ => True) v3 kids ∧ Below w.heap.size w w' := by
 have hz : (packOf kind keys vals kids).size ≤ 240 := (S.holds page _ _ hp).2.2.1
 have HZ := hi_ hz
 have HR := hi_ (pgRead_up up S.d.ok.least S.hh S.room S.holds hp)
 have HS := hi_ S
 have HT := hi_ T
 have c0 : ∀ o, (w.alloc o).cell? ⟨t, 0, none⟩ = some (.pointer (some ⟨b, 0, none⟩)) := fun o => (T.below (Below.alloc (Below.refl _ _) (Nat.le_refl _) o)).c0
 have HP := hi_ (fun (k : Nat) (hk : 50 + 2 * keys.length ≤ k) (hn : keys.length ≤ 10000) => parse_pack kind keys vals kids hO om_ hn k hk)
 have H0 := hi_ h0
 have HO := hi_ hO
 have HK := hi_ hk
 clear S T up hp hO h0 hk hz
 go_enter Tryz.func109, Tryz.ntmps109
 go_wp2_with fail
 have hB0 := hi_ (Below.alloc (Below.refl w.heap.size w) (Nat.le_refl _) (.cells #[.int .i64 0, .slice none 0 0, .slice none 0 0, .slice none 0 0] 149 (0, 0)))
 have hX0 := hi_ (heap_alloc_self w (.cells #[.int .i64 0, .slice none 0 0, .slice none 0 0, .slice none 0 0] 149 (0, 0)))
 generalize w.alloc (.cells #[.int .i64 0, .slice none 0 0, .slice none 0 0, .slice none 0 0] 149 (0, 0)) = w0 at *
 have CR := pages_Read w0 b L D h P.length (page : Int) (HS.out.below hB0.out).p (HS.out.below hB0.out).d HS.out.hh HS.out.room
 rw [HR.out] at CR
 refine CR.mono ?_
 clear CR c0
 rintro e w1 ⟨rfl, hb⟩
 have hB1 := hi_ (hB0.out.trans (hb.mono hB0.out.size))
 have hX1 := hi_ ((hb.block _ (lt_of_heap hX0.out)).trans hX0.out)
 clear hb hB0 hX0
 go_wp2_with fail
 have hn : keys.length ≤ 10000 := by
  have := le_packOf kind keys vals kids
  have := HZ.out
  omega
 refine (PNd.node_Parse.calls (50 + 2 * keys.length) kind (packOf kind keys vals kids) kind keys vals kids 0 w1 (HP.out _ (Nat.le_refl _) hn)).mono ?_
 rintro e w2 ⟨v1, v2, v3, rfl, hR1, hR2, hR3, hb⟩
 have hB2 := hi_ (hB1.out.trans (hb.mono hB1.out.size))
 have hX2 := hi_ ((hb.block _ (lt_of_heap hX1.out)).trans hX1.out)
 have hr1 := hi_ (Kd.R_mono (Kd.R_lower hR1 hB1.out.size) (fun _ _ => trivial : ∀ k, _ → (fun _ => True) k))
 have hr2 := hi_ (Kd.R_mono (Kd.R_lower hR2 hB1.out.size) (fun _ _ => trivial : ∀ k, _ → (fun _ => True) k))
 have hr3 := hi_ (Kd.R_lower hR3 hB1.out.size)
 obtain ⟨A1, c1, rfl⟩ := Kd.R_slice hR1
 obtain ⟨A2, c2, rfl⟩ := Kd.R_slice hR2
 obtain ⟨A3, c3, rfl⟩ := Kd.R_slice hR3
 clear hR1 hR2 hR3 hb hB1 hX1
 obtain ⟨-, hc1, hC1⟩ := Kd.R_reads' hr1.out
 obtain ⟨-, hc2, hC2⟩ := Kd.R_reads' hr2.out
 obtain ⟨-, hc3, hC3⟩ := Kd.R_reads' hr3.out
 have hC1 := hi_ hC1
 have hC2 := hi_ hC2
 have hC3 := hi_ hC3
 have hc1 := hi_ hc1
 have hc2 := hi_ hc2
 have hc3 := hi_ hc3
 obtain ⟨kn, hkn⟩ : ∃ kn : Int, kn = (keys.length : Int) := ⟨_, rfl⟩
 have hkn0 : (kn == 0) = false := by have := H0.out; simp; omega
 have hty1 : ∀ q, q ∈ 9 :: Kd.string.E → q ≠ 149 := by intro q hq; simp [Kd.string, Kd.scalar] at hq; rw [hq]; decide
 have hty2 := hty1
 have hty3 : ∀ q, q ∈ 3 :: (Kd.int .i64).E → q ≠ 149 := by intro q hq; simp [Kd.int, Kd.scalar] at hq; rw [hq]; decide
 by_cases hl : level = 1
 ·have hk : kind = 1 := by rw [HK.out]; exact hl
  subst hl
  subst hk
  go_wp2_with fail
  refine (PNd.node_Node_Len.calls 1 A1 c1 keys A2 c2 vals A3 c3 kids kn _ (Kd.C_alloc hC1.out _) hc1.out (Kd.C_alloc hC2.out _) hc2.out (Kd.C_alloc hC3.out _) hc3.out (by rw [hkn]; rfl)).mono ?_
  rintro e w3 ⟨rfl, hb⟩
  have hB3 := hi_ (below_then (below_alloc hB2.out _) (below_alloc hB2.out _).size hb)
  have hX3 := hi_ (blk_below (blk_alloc hX2.out _) hb)
  have hY3 := hi_ (blk_below (blk_new w2 _) hb)
  have hD3 := hi_ (below_then (below_alloc (Below.refl w2.heap.size w2) _) (below_alloc (Below.refl w2.heap.size w2) _).size hb)
  have x0 := blk_cell hX3.out 0
  have x1 := blk_cell hX3.out 1
  have x2 := blk_cell hX3.out 2
  have x3 := blk_cell hX3.out 3
  have f0 := blk_frozen hX3.out 0
  have f1 := blk_frozen hX3.out 1
  have f2 := blk_frozen hX3.out 2
  have f3 := blk_frozen hX3.out 3
  have y0 := blk_cell hY3.out 0
  have y1 := blk_cell hY3.out 1
  have y2 := blk_cell hY3.out 2
  have y3 := blk_cell hY3.out 3
  go_wp2_with fail
  refine bodyPost_ret (results_ct rfl _ _ w.heap.size 149 #[.int .i64 1, .slice A1 keys.length c1, .slice A2 vals.length c2, .slice A3 kids.length c3] (0, 0) _ rfl (blk_put (blk_put (blk_put (blk_put hX3.out 0 _ rfl) 1 _ rfl) 2 _ rfl) 3 _ rfl) rfl rfl rfl) rfl ?_
  exact ⟨_, _, _, rfl, Kd.R_set (Kd.R_set (Kd.R_set (Kd.R_set (Kd.R_below hr1.out hD3.out) hX3.out hty1 0 _) (blk_set hX3.out 0 _) hty1 1 _) (blk_set (blk_set hX3.out 0 _) 1 _) hty1 2 _) (blk_set (blk_set (blk_set hX3.out 0 _) 1 _) 2 _) hty1 3 _, Kd.R_set (Kd.R_set (Kd.R_set (Kd.R_set (Kd.R_below hr2.out hD3.out) hX3.out hty2 0 _) (blk_set hX3.out 0 _) hty2 1 _) (blk_set (blk_set hX3.out 0 _) 1 _) hty2 2 _) (blk_set (blk_set (blk_set hX3.out 0 _) 1 _) 2 _) hty2 3 _, Kd.R_set (Kd.R_set (Kd.R_set (Kd.R_set (Kd.R_below hr3.out hD3.out) hX3.out hty3 0 _) (blk_set hX3.out 0 _) hty3 1 _) (blk_set (blk_set hX3.out 0 _) 1 _) hty3 2 _) (blk_set (blk_set (blk_set hX3.out 0 _) 1 _) 2 _) hty3 3 _, below_set (below_set (below_set (below_set hB3.out (Nat.le_refl _)) (Nat.le_refl _)) (Nat.le_refl _)) (Nat.le_refl _)⟩
 ·have hk1 : ¬ kind = 1 := by rw [HK.out]; exact hl
  have hk : kind = 2 := (nodeOk_kind HO.out).resolve_left hk1
  subst hk
  have hl' : (level == 1) = false := by simpa using hl
  go_wp2_with fail
  refine (PNd.node_Node_Len.calls 2 A1 c1 keys A2 c2 vals A3 c3 kids kn _ (Kd.C_alloc hC1.out _) hc1.out (Kd.C_alloc hC2.out _) hc2.out (Kd.C_alloc hC3.out _) hc3.out (by rw [hkn]; rfl)).mono ?_
  rintro e w3 ⟨rfl, hb⟩
  have hB3 := hi_ (below_then (below_alloc hB2.out _) (below_alloc hB2.out _).size hb)
  have hX3 := hi_ (blk_below (blk_alloc hX2.out _) hb)
  have hY3 := hi_ (blk_below (blk_new w2 _) hb)
  have hD3 := hi_ (below_then (below_alloc (Below.refl w2.heap.size w2) _) (below_alloc (Below.refl w2.heap.size w2) _).size hb)
  have x0 := blk_cell hX3.out 0
  have x1 := blk_cell hX3.out 1
  have x2 := blk_cell hX3.out 2
  have x3 := blk_cell hX3.out 3
  have f0 := blk_frozen hX3.out 0
  have f1 := blk_frozen hX3.out 1
  have f2 := blk_frozen hX3.out 2
  have f3 := blk_frozen hX3.out 3
  have y0 := blk_cell hY3.out 0
  have y1 := blk_cell hY3.out 1
  have y2 := blk_cell hY3.out 2
  have y3 := blk_cell hY3.out 3
  go_wp2_with fail
  refine bodyPost_ret (results_ct rfl _ _ w.heap.size 149 #[.int .i64 2, .slice A1 keys.length c1, .slice A2 vals.length c2, .slice A3 kids.length c3] (0, 0) _ rfl (blk_put (blk_put (blk_put (blk_put hX3.out 0 _ rfl) 1 _ rfl) 2 _ rfl) 3 _ rfl) rfl rfl rfl) rfl ?_
  exact ⟨_, _, _, rfl, Kd.R_set (Kd.R_set (Kd.R_set (Kd.R_set (Kd.R_below hr1.out hD3.out) hX3.out hty1 0 _) (blk_set hX3.out 0 _) hty1 1 _) (blk_set (blk_set hX3.out 0 _) 1 _) hty1 2 _) (blk_set (blk_set (blk_set hX3.out 0 _) 1 _) 2 _) hty1 3 _, Kd.R_set (Kd.R_set (Kd.R_set (Kd.R_set (Kd.R_below hr2.out hD3.out) hX3.out hty2 0 _) (blk_set hX3.out 0 _) hty2 1 _) (blk_set (blk_set hX3.out 0 _) 1 _) hty2 2 _) (blk_set (blk_set (blk_set hX3.out 0 _) 1 _) 2 _) hty2 3 _, Kd.R_set (Kd.R_set (Kd.R_set (Kd.R_set (Kd.R_below hr3.out hD3.out) hX3.out hty3 0 _) (blk_set hX3.out 0 _) hty3 1 _) (blk_set (blk_set hX3.out 0 _) 1 _) hty3 2 _) (blk_set (blk_set (blk_set hX3.out 0 _) 1 _) 2 _) hty3 3 _, below_set (below_set (below_set (below_set hB3.out (Nat.le_refl _)) (Nat.le_refl _)) (Nat.le_refl _)) (Nat.le_refl _)⟩
end Go.Proofs.YtendgmblgdkiaaaGreat
