/- Nodes as values. node.Split, walked by hand: in the nodes' own words. parts, walked. (*tree.Tree).write, walked. Trees in plain words: what nodes and the pages below them hold; no program. Leaves, branches and edits: plain. What a node that has a content is: fine, good, not long; its parts; its chil -/
import Derived.Test.YtendgmblgdkiaaaGreatGInternFull0
import Derived.Test.YtendgmblgdkiaaaGreatGInternFull32
import Derived.Test.YtendgmblgdkiaaaGreatGInternFull31
import Derived.Great.BuildSlice
import Derived.Test.YtendgmblgdkiaaaGreatGInternFull16
import Derived.Deep.RegionHeld3
import Derived.Test.YtendgmblgdkiaaaGreatGInternFull29
import Derived.Deep.DeepCutAuto
import Derived.Test.YtendgmblgdkiaaaGreatGInternFull27
namespace Go.Proofs.YtendgmblgdkiaaaGreat
open Go.RowKit
open Go.Proofs.YtendgmblgdkiaaaGreatW
open PrintWords
set_option linter.unusedVariables false
set_option linter.unusedSimpArgs false

/-- A node whose rows are younger than B. -/
def NodeV (B : Nat) (w : World) (v : Value) (n : Nd) : Prop := ∃ v1 v2 v3 : Value, v = .agg #[.int .i64 n.kind, v1, v2, v3] ∧
 Kd.R Kd.string 9 w B (fun _ => True) v1 n.keys ∧ Kd.R Kd.string 9 w B (fun _ => True) v2 n.vals ∧ Kd.R (Kd.int .i64) 3 w B (fun _ => True) v3 n.kids
namespace NodeV
variable {B : Nat} {w w' : World} {v : Value} {n : Nd}
theorem step (h : NodeV B w v n) (hm : ∀ k, B ≤ k → k < w.heap.size → w'.heap[k]? = w.heap[k]?) : NodeV B w' v n := by
 obtain ⟨v1, v2, v3, e, h1, h2, h3⟩ := h
 exact ⟨v1, v2, v3, e, Kd.R_mono (Kd.R_step (Kd.R_bound h1) (fun k hk hl => hm k hk.2.1 hl)) (fun _ _ => trivial), Kd.R_mono (Kd.R_step (Kd.R_bound h2) (fun k hk hl => hm k hk.2.1 hl)) (fun _ _ => trivial), Kd.R_mono (Kd.R_step (Kd.R_bound h3) (fun k hk hl => hm k hk.2.1 hl)) (fun _ _ => trivial)⟩
theorem below (h : NodeV B w v n) (hb : Below w.heap.size w w') : NodeV B w' v n := h.step fun k _ hk => hb.block k hk
theorem keep {F : Nat → Prop} (h : NodeV B w v n) (hk : Keep F w w') (hF : ∀ k, F k → k < B) : NodeV B w' v n := h.step fun k hB hl => hk.block k hl (fun hf => by have := hF k hf; omega)
theorem lower {B' : Nat} (h : NodeV B w v n) (hB : B' ≤ B) : NodeV B' w v n := by
 obtain ⟨v1, v2, v3, e, h1, h2, h3⟩ := h
 exact ⟨v1, v2, v3, e, Kd.R_lower h1 hB, Kd.R_lower h2 hB, Kd.R_lower h3 hB⟩
/-- A box of nodes, or any block of that type, is none of its rows. -/
theorem set {g : Nat} {cells : Array Value} {t : Nat} (h : NodeV B w v n) (hb : w.heap[g]? = some (.cells cells t (0, 0))) (ht1 : t ≠ 9) (ht2 : t ≠ 3) (j : Nat) (u : Value) : NodeV B (w.setCell ⟨g, j, none⟩ u) v n := by
 obtain ⟨v1, v2, v3, e, h1, h2, h3⟩ := h
 have hs : ∀ q, q ∈ 9 :: Kd.string.E → q ≠ t := by intro q hq; simp [Kd.string, Kd.scalar] at hq; rw [hq]; exact fun e => ht1 e.symm
 have hi : ∀ q, q ∈ 3 :: (Kd.int .i64).E → q ≠ t := by intro q hq; simp [Kd.int, Kd.scalar] at hq; rw [hq]; exact fun e => ht2 e.symm
 exact ⟨v1, v2, v3, e, Kd.R_set h1 hb hs j u, Kd.R_set h2 hb hs j u, Kd.R_set h3 hb hi j u⟩
/-- As a callee takes it. -/
theorem out (h : NodeV B w v n) : ∃ A1 c1 A2 c2 A3 c3, v = .agg #[.int .i64 n.kind, .slice A1 n.keys.length c1, .slice A2 n.vals.length c2, .slice A3 n.kids.length c3] ∧
  Kd.C Kd.string w A1 n.keys.length n.keys ∧ n.keys.length ≤ c1 ∧ Kd.C Kd.string w A2 n.vals.length n.vals ∧ n.vals.length ≤ c2 ∧ Kd.C (Kd.int .i64) w A3 n.kids.length n.kids ∧ n.kids.length ≤ c3 := by
 obtain ⟨v1, v2, v3, e, h1, h2, h3⟩ := h
 obtain ⟨A1, c1, rfl⟩ := Kd.R_slice h1
 obtain ⟨A2, c2, rfl⟩ := Kd.R_slice h2
 obtain ⟨A3, c3, rfl⟩ := Kd.R_slice h3
 obtain ⟨-, a1, b1⟩ := Kd.R_reads' h1
 obtain ⟨-, a2, b2⟩ := Kd.R_reads' h2
 obtain ⟨-, a3, b3⟩ := Kd.R_reads' h3
 exact ⟨A1, c1, A2, c2, A3, c3, e, b1, a1, b2, a2, b3, a3⟩
end NodeV
theorem NodeV.outs {B : Nat} {w : World} {n : Nd} {A1 A2 A3 : Option Addr} {c1 c2 c3 : Nat} (h : NodeV B w (.agg #[.int .i64 n.kind, .slice A1 n.keys.length c1, .slice A2 n.vals.length c2, .slice A3 n.kids.length c3]) n) :
  Kd.C Kd.string w A1 n.keys.length n.keys ∧ n.keys.length ≤ c1 ∧ Kd.C Kd.string w A2 n.vals.length n.vals ∧ n.vals.length ≤ c2 ∧ Kd.C (Kd.int .i64) w A3 n.kids.length n.kids ∧ n.kids.length ≤ c3 := by
 obtain ⟨B1, d1, B2, d2, B3, d3, e, C1, k1, C2, k2, C3, k3⟩ := h.out
 simp only [Value.agg.injEq, Array.mk.injEq, List.cons.injEq, Value.slice.injEq, and_true, true_and] at e
 obtain ⟨⟨rfl, rfl⟩, ⟨rfl, rfl⟩, ⟨rfl, rfl⟩⟩ := e
 exact ⟨C1, k1, C2, k2, C3, k3⟩
/-- A value's cells. -/
def aggOf : Value → Array Value
 | .agg a => a
 | _ => #[]
/-- One or two nodes in a row of their own. -/
def NodesV (B : Nat) (w : World) (v : Value) (l : List Nd) : Prop :=
 (∃ a x g, l = [a] ∧ v = .slice (some ⟨g, 0, none⟩) 1 1 ∧ B ≤ g ∧ w.heap[g]? = some (.cells (aggOf x) 149 (0, 0)) ∧ NodeV B w x a) ∨
 (∃ a b x y g, l = [a, b] ∧ v = .slice (some ⟨g, 0, none⟩) 2 2 ∧ B ≤ g ∧ w.heap[g]? = some (.cells (aggOf x ++ aggOf y) 149 (0, 0)) ∧ NodeV B w x a ∧ NodeV B w y b)
namespace NodesV
variable {B : Nat} {w w' : World} {v : Value} {l : List Nd}
theorem step (h : NodesV B w v l) (hm : ∀ k, B ≤ k → k < w.heap.size → w'.heap[k]? = w.heap[k]?) : NodesV B w' v l := by
 rcases h with ⟨a, x, g, h1, h2, h3, h4, h5⟩ | ⟨a, b, x, y, g, h1, h2, h3, h4, h5, h6⟩
 ·exact .inl ⟨a, x, g, h1, h2, h3, (hm g h3 (lt_of_heap h4)).trans h4, h5.step hm⟩
 ·exact .inr ⟨a, b, x, y, g, h1, h2, h3, (hm g h3 (lt_of_heap h4)).trans h4, h5.step hm, h6.step hm⟩
theorem below (h : NodesV B w v l) (hb : Below w.heap.size w w') : NodesV B w' v l := h.step fun k _ hk => hb.block k hk
theorem keep {F : Nat → Prop} (h : NodesV B w v l) (hk : Keep F w w') (hF : ∀ k, F k → k < B) : NodesV B w' v l := h.step fun k hB hl => hk.block k hl (fun hf => by have := hF k hf; omega)
theorem lower {B' : Nat} (h : NodesV B w v l) (hB : B' ≤ B) : NodesV B' w v l := by
 rcases h with ⟨a, x, g, h1, h2, h3, h4, h5⟩ | ⟨a, b, x, y, g, h1, h2, h3, h4, h5, h6⟩
 ·exact .inl ⟨a, x, g, h1, h2, by omega, h4, h5.lower hB⟩
 ·exact .inr ⟨a, b, x, y, g, h1, h2, by omega, h4, h5.lower hB, h6.lower hB⟩
end NodesV

theorem info_node : (Tryz.prog.info? 149).map (fun i => (i.zero, i.size)) = some (some (.agg #[.int .i64 0, .slice none 0 0, .slice none 0 0, .slice none 0 0]), 4) := by kernel_rfl
theorem buildNodes (w : World) (n : Nat) (parts : Array (Nat × Value)) (cells : Array Value) (h0 : 0 < n) (h2 : n ≤ 2)
  (h : Instr.fill (fun i => some (i * 4, 4)) ((Array.range (n * 4)).map (#[Value.int .i64 0, Value.slice none 0 0, Value.slice none 0 0, Value.slice none 0 0][· % 4]!)) parts.toList = some cells) :
  (Instr.buildSlice 183 n parts).run Tryz.prog w = .ok (.slice (some ⟨w.heap.size, 0, none⟩) n n) (w.alloc (.cells cells 149 (0, 0))) := by
 obtain ⟨ie, hie, hz⟩ := Option.map_eq_some_iff.1 info_node
 simp only [Prod.mk.injEq] at hz
 refine run_buildSlice w 183 149 n _ _ ie _ Tryz.underlying183 hie hz.1 (by rw [hz.2]; omega) (by rw [hz.2]; omega) ?_
 rw [hz.2]
 exact h
theorem nodes1 (w : World) (k : Int) (v1 v2 v3 : Value) :
  (Instr.buildSlice 183 1 #[(0, .agg #[.int .i64 k, v1, v2, v3])]).run Tryz.prog w = .ok (.slice (some ⟨w.heap.size, 0, none⟩) 1 1) (w.alloc (.cells #[.int .i64 k, v1, v2, v3] 149 (0, 0))) :=
 buildNodes w 1 _ _ om_ om_ (by first | kernel_rfl | simp [Instr.fill, Value.cells])
theorem nodes2 (w : World) (k k' : Int) (v1 v2 v3 v1' v2' v3' : Value) :
  (Instr.buildSlice 183 2 #[(0, .agg #[.int .i64 k, v1, v2, v3]), (1, .agg #[.int .i64 k', v1', v2', v3'])]).run Tryz.prog w = .ok (.slice (some ⟨w.heap.size, 0, none⟩) 2 2) (w.alloc (.cells #[.int .i64 k, v1, v2, v3, .int .i64 k', v1', v2', v3'] 149 (0, 0))) :=
 buildNodes w 2 _ _ om_ om_ (by first | kernel_rfl | simp [Instr.fill, Value.cells])
attribute [-go_sem] Instr.buildSlice
attribute [local go_sem] nodes1 nodes2
end Go.Proofs.YtendgmblgdkiaaaGreat

namespace Go.Proofs.YtendgmblgdkiaaaGreat
open Go.RowKit
open Go.Proofs.YtendgmblgdkiaaaGreatW
open PrintWords PrintLast PrintMore
set_option linter.unusedVariables false
set_option linter.unusedSimpArgs false

theorem split_num (n : Nd) (he : ∀ i, i < n.keys.length → n.ent i ≤ 50) (hlo : 239 < n.S n.keys.length) (hhi : n.S n.keys.length ≤ 340) (c : Nat) (h1 : 1 ≤ c) (g2 : c + 1 ≤ n.keys.length) (g3 : c + 1 = n.keys.length ∨ n.S n.keys.length ≤ 2 * n.S c) (g4 : c = 1 ∨ 2 * n.S (c - 1) < n.S n.keys.length) :
  2 ≤ c ∧ c + 2 ≤ n.keys.length ∧ n.S c ≤ 230 ∧ n.S n.keys.length - n.S c ≤ 230 := by
 have hS50 : ∀ i, i ≤ n.keys.length → n.S i ≤ 50 * i := by
  intro i
  induction i with
  | zero => intro _; simp [n.S_zero]
  | succ i ih => intro h; have := ih om_; have := he i om_; have := n.S_succ i; omega
 have hl5 := hS50 n.keys.length (Nat.le_refl _)
 have hc1 : n.S (c - 1) + n.ent (c - 1) = n.S c := by have := n.S_succ (c - 1); rw [show c - 1 + 1 = c by omega] at this; omega
 have hce := he (c - 1) om_
 have hlast : n.S n.keys.length = n.S (n.keys.length - 1) + n.ent (n.keys.length - 1) := by have := n.S_succ (n.keys.length - 1); rwa [show n.keys.length - 1 + 1 = n.keys.length by omega] at this
 have hle := he (n.keys.length - 1) om_
 have hge : n.S n.keys.length ≤ 2 * n.S c := by
  rcases g3 with g3 | g3
  ·have : n.S c = n.S (n.keys.length - 1) := by rw [← g3]; rfl
   omega
  ·exact g3
 have hc0 := hS50 c om_
 have hup : 2 * n.S c < n.S n.keys.length + 100 := by
  rcases g4 with rfl | g4
  ·have := hS50 1 om_; omega
  ·omega
 have hc2 : c + 2 ≤ n.keys.length := by
  rcases Nat.lt_or_ge (c + 1) n.keys.length with h | h
  ·omega
  ·have : n.S c = n.S (n.keys.length - 1) := by rw [show n.keys.length - 1 = c by omega]
   omega
 exact ⟨by omega, hc2, by omega, by omega⟩
theorem S_mono (n : Nd) {i j : Nat} (h : i ≤ j) : n.S i ≤ n.S j := by
 obtain ⟨d, rfl⟩ := Nat.exists_eq_add_of_le h
 exact n.S_le i d

theorem cut_calls (w : World) (n : Nd) (A1 : Option Addr) (a1 : Nat) (A2 : Option Addr) (a2 : Nat) (A3 : Option Addr) (a3 : Nat) (hs : n.Shape) (hn : n.keys.length ≤ 1000) (i j : Nat) (hij : i ≤ j) (hj : j ≤ n.keys.length) (C1 : Kd.C Kd.string w A1 n.keys.length n.keys) (k1 : n.keys.length ≤ a1) (C2 : Kd.C Kd.string w A2 n.vals.length n.vals) (k2 : n.vals.length ≤ a2) (C3 : Kd.C (Kd.int .i64) w A3 n.kids.length n.kids) (k3 : n.kids.length ≤ a3) :
  Calls Tryz.prog 235 #[.agg #[.int .i64 n.kind, .slice A1 n.keys.length a1, .slice A2 n.vals.length a2, .slice A3 n.kids.length a3], .int .i64 (i : Int), .int .i64 (j : Int)] w fun e w' => ∃ U1 k1 U2 k2 U3 k3, e = .returned (.agg #[.int .i64 n.kind, .slice U1 (n.cut i j).keys.length k1, .slice U2 (n.cut i j).vals.length k2, .slice U3 (n.cut i j).kids.length k3]) ∧ Kd.R Kd.string 9 w' w.heap.size (fun _ => True) (.slice U1 (n.cut i j).keys.length k1) (n.cut i j).keys ∧ Kd.R Kd.string 9 w' w.heap.size (fun _ => True) (.slice U2 (n.cut i j).vals.length k2) (n.cut i j).vals ∧ Kd.R (Kd.int .i64) 3 w' w.heap.size (fun _ => True) (.slice U3 (n.cut i j).kids.length k3) (n.cut i j).kids ∧ Below w.heap.size w w' := by
 refine (PNd.node_Node_cut.calls n.kind A1 a1 n.keys A2 a2 n.vals A3 a3 n.kids (i : Int) (j : Int) _ _ _ _ w C1 k1 C2 k2 C3 k3 (cut_f n hs i j hij hj om_)).mono ?_
 rintro e w1 ⟨v1, v2, v3, rfl, g1, g2, g3, hb⟩
 obtain ⟨P1, p1, rfl⟩ := Kd.R_slice g1
 obtain ⟨P2, p2, rfl⟩ := Kd.R_slice g2
 obtain ⟨P3, p3, rfl⟩ := Kd.R_slice g3
 exact ⟨_, _, _, _, _, _, rfl, Kd.R_mono g1 (fun _ _ => trivial), Kd.R_mono g2 (fun _ _ => trivial), Kd.R_mono g3 (fun _ _ => trivial), hb⟩
def node_SplitR.T : Bool × List (List Nat × List Nat) := (true, [([], []), ([], []), ([0, 1], [0, 1]), ([], []), ([], []), ([], []), ([5, 2], [5]), ([3, 4, 6, 6], [3, 4, 6]), ([2, 7, 0, 1, 2], [2]), ([7, 8, 0, 1, 2, 3, 4, 5, 6, 7, 8], [7])])
def node_SplitR.B : List Nat := [0, 0, 3, 0, 0, 0, 39, 127, 255, 511]
theorem node_SplitR.tab : rtab .any (opsOf Tryz.f203 11) = node_SplitR.T := by kernel_rfl
theorem node_SplitR.bits : waitsOk node_SplitR.T.2 node_SplitR.B = true := by kernel_rfl
set_option maxHeartbeats 2000000 in
set_option maxRecDepth 100000 in
theorem node_Split (w : World) (B : Nat) (v : Value) (n_ : Nd) (hB : B ≤ w.heap.size) (N : NodeV B w v n_) (F : n_.fine = true) (hs : n_.Shape) (he : ∀ i, i < n_.keys.length → n_.ent i ≤ 50) (hlo : 239 < n_.S n_.keys.length) (hhi : n_.S n_.keys.length ≤ 340) (hn : n_.keys.length ≤ 1000) :
  Calls Tryz.prog 203 #[v] w fun e w' => ∃ va vb c, e = .returned (.tuple #[va, vb]) ∧ (2 ≤ c ∧ c + 2 ≤ n_.keys.length ∧ n_.S c ≤ 230 ∧ n_.S n_.keys.length - n_.S c ≤ 230) ∧ NodeV B w' va (n_.cut 0 c) ∧ NodeV B w' vb (n_.cut c n_.keys.length) ∧ Below w.heap.size w w' := by
 obtain ⟨A1, a1, A2, a2, A3, a3, rfl, C1, k1, C2, k2, C3, k3⟩ := N.out
 have hpos : 2 ≤ n_.keys.length := by
  rcases Nat.lt_or_ge 0 n_.keys.length with h0 | h0
  ·rcases Nat.lt_or_ge 1 n_.keys.length with h | h
   ·exact h
   ·have e : n_.keys.length = 1 := by omega
    have := he 0 om_
    rw [e, n_.S_succ, n_.S_zero] at hlo; omega
  ·rw [show n_.keys.length = 0 by omega, n_.S_zero] at hlo; omega
 have HN := hi_ N
 have HF := hi_ F
 have HS := hi_ hs
 have HNUM := hi_ (fun c h1 g2 g3 g4 => split_num n_ he hlo hhi c h1 g2 g3 g4)
 have HHI := hi_ hhi
 have HPO := hi_ hpos
 have hnI : (n_.keys.length : Int) ≤ 1000 := by omega
 have HB := hi_ hB
 have HTS : Hid (∀ q, q ∈ 9 :: Kd.string.E → q ≠ 149) := hi_ (by intro q hq; simp [Kd.string, Kd.scalar] at hq; rw [hq]; decide)
 have HTI : Hid (∀ q, q ∈ 3 :: (Kd.int .i64).E → q ≠ 149) := hi_ (by intro q hq; simp [Kd.int, Kd.scalar] at hq; rw [hq]; decide)
 clear N F hs he hlo hhi hn hB hpos C1 k1 C2 k2 C3 k3
 go_enter Tryz.func203, Tryz.ntmps203
 go_upto_region 2 with fail
 have X1 := hi_ (blk_alloc (blk_alloc (blk_new w (.cells #[.int .i64 n_.kind, .slice A1 n_.keys.length a1, .slice A2 n_.vals.length a2, .slice A3 n_.kids.length a3] 149 (0, 0))) (.cells #[.int .i64 0, .slice none 0 0, .slice none 0 0, .slice none 0 0] 149 (0, 0))) (.cells #[.int .i64 0, .slice none 0 0, .slice none 0 0, .slice none 0 0] 149 (0, 0)))
 have X2 := hi_ (blk_alloc (blk_new (w.alloc (.cells #[.int .i64 n_.kind, .slice A1 n_.keys.length a1, .slice A2 n_.vals.length a2, .slice A3 n_.kids.length a3] 149 (0, 0))) (.cells #[.int .i64 0, .slice none 0 0, .slice none 0 0, .slice none 0 0] 149 (0, 0))) (.cells #[.int .i64 0, .slice none 0 0, .slice none 0 0, .slice none 0 0] 149 (0, 0)))
 have X3 := hi_ (blk_new ((w.alloc (.cells #[.int .i64 n_.kind, .slice A1 n_.keys.length a1, .slice A2 n_.vals.length a2, .slice A3 n_.kids.length a3] 149 (0, 0))).alloc (.cells #[.int .i64 0, .slice none 0 0, .slice none 0 0, .slice none 0 0] 149 (0, 0))) (.cells #[.int .i64 0, .slice none 0 0, .slice none 0 0, .slice none 0 0] 149 (0, 0)))
 have B0 := hi_ (below_alloc (below_alloc (below_alloc (Below.refl w.heap.size w) (.cells #[.int .i64 n_.kind, .slice A1 n_.keys.length a1, .slice A2 n_.vals.length a2, .slice A3 n_.kids.length a3] 149 (0, 0))) (.cells #[.int .i64 0, .slice none 0 0, .slice none 0 0, .slice none 0 0] 149 (0, 0))) (.cells #[.int .i64 0, .slice none 0 0, .slice none 0 0, .slice none 0 0] 149 (0, 0)))
 simp only [World.size_alloc] at X1 X2 X3
 generalize ((w.alloc (.cells #[.int .i64 n_.kind, .slice A1 n_.keys.length a1, .slice A2 n_.vals.length a2, .slice A3 n_.kids.length a3] 149 (0, 0))).alloc (.cells #[.int .i64 0, .slice none 0 0, .slice none 0 0, .slice none 0 0] 149 (0, 0))).alloc (.cells #[.int .i64 0, .slice none 0 0, .slice none 0 0, .slice none 0 0] 149 (0, 0)) = w0 at *
 obtain ⟨g1, hg1⟩ : ∃ g, g = w.heap.size := ⟨_, rfl⟩
 obtain ⟨g2, hg2⟩ : ∃ g, g = w.heap.size + 1 := ⟨_, rfl⟩
 obtain ⟨g3, hg3⟩ : ∃ g, g = w.heap.size + 1 + 1 := ⟨_, rfl⟩
 have HG := hi_ (show w.heap.size ≤ g2 ∧ w.heap.size ≤ g3 ∧ g2 ≠ g3 by omega)
 rw [← hg3, ← hg2, ← hg1]
 rw [← hg1] at X1
 rw [← hg2] at X2
 rw [← hg3] at X3
 clear hg1 hg2 hg3
 have x1 := blk_cell X1.out 1
 go_wp2_with fail
 go_loopw [4, 11] (fun s i wr => ∃ k : Nat, k ≤ n_.keys.length ∧ i = .int .i64 (k : Int) ∧ s = .int .i64 (n_.S k : Int) ∧ Hid (Below w0.heap.size w0 wr)) (fun _ i _ => n_.keys.length - (intOf i).toNat)
 case atStart => exact ⟨0, Nat.zero_le _, rfl, rfl, hi_ (Below.refl _ _)⟩
 case round =>
  obtain ⟨k, hk, rfl, rfl, BR⟩ := hrel
  clear x1
  have Y1 := hi_ (blk_below X1.out BR.out)
  have BW := hi_ (B0.out.trans (BR.out.mono B0.out.size))
  have HK := hi_ hk
  clear hk
  have x0 := blk_cell Y1.out 0
  have x1 := blk_cell Y1.out 1
  have x2 := blk_cell Y1.out 2
  have x3 := blk_cell Y1.out 3
  by_cases hlt : (k : Int) < (n_.keys.length : Int)
  ·obtain ⟨s, hs1, hs2⟩ := entry_f HF.out (i := k) om_ 20 om_
   have HS1 := hi_ hs1
   have HS2 := hi_ hs2
   have hb1 : ((n_.S k : Int) + (s.size : Int)) ≤ 1000 := by have h1 := S_mono n_ (show k + 1 ≤ n_.keys.length by omega); have h2 := n_.S_succ k; have h3 := HHI.out; omega
   have hs0 : (0 : Int) ≤ (s.size : Int) := by omega
   have hs00 : (0 : Int) ≤ (n_.S k : Int) := by omega
   clear hs1 hs2
   go_wp2_with fail
   obtain ⟨C1, k1, C2, k2, C3, k3⟩ := (HN.out.below BW.out).outs
   refine (PNd.node_Node_entry.calls 20 n_.kind A1 a1 n_.keys A2 a2 n_.vals A3 a3 n_.kids (k : Int) s wr C1 k1 C2 k2 C3 k3 HS1.out).mono ?_
   clear C1 k1 C2 k2 C3 k3 x0 x1 x2 x3
   rintro e w2 ⟨rfl, hb⟩
   have BR2 := hi_ (BR.out.trans (hb.mono BR.out.size))
   clear hb
   go_wp2_with fail
   go_roundw
   case rel => exact ⟨k + 1, by omega, by go_num, by rw [n_.S_succ, ← HS2.out]; congr 1, BR2⟩
   case measure => simp [intOf]; omega
  ·have hkn : k = n_.keys.length := by have := HK.out; omega
   subst hkn
   clear x0 x1 x2 x3
   have hW0 : (0 : Int) ≤ (n_.S n_.keys.length : Int) := by omega
   have hW1 : (n_.S n_.keys.length : Int) ≤ 340 := by have := HHI.out; omega
   go_wp2_with fail
   go_loopw [6, 7] (fun i s wr2 => ∃ k : Nat, i = .int .i64 (k : Int) ∧ s = .int .i64 (n_.S k : Int) ∧ Hid (k = 0 ∨ (1 ≤ k ∧ k + 1 ≤ n_.keys.length ∧ (k = 1 ∨ 2 * n_.S (k - 1) < n_.S n_.keys.length))) ∧ Hid (Below w0.heap.size w0 wr2)) (fun i _ _ => n_.keys.length - (intOf i).toNat)
   case atStart => exact ⟨0, rfl, by rw [n_.S_zero]; rfl, hi_ (Or.inl rfl), BR⟩
   case round =>
    clear Y1 BW BR HK hlt
    obtain ⟨k, rfl, rfl, HK, BR⟩ := hrel
    have Y1 := hi_ (blk_below X1.out BR.out)
    have BW := hi_ (B0.out.trans (BR.out.mono B0.out.size))
    have x0 := blk_cell Y1.out 0
    have x1 := blk_cell Y1.out 1
    have x2 := blk_cell Y1.out 2
    have x3 := blk_cell Y1.out 3
    have hkl : k + 1 ≤ n_.keys.length := by have := HK.out; have := HPO.out; omega
    have hS0 : (0 : Int) ≤ (n_.S k : Int) := by omega
    have hS1 : (n_.S k : Int) ≤ 340 := by have := S_mono n_ (show k ≤ n_.keys.length by omega); have := HHI.out; omega
    by_cases hgo : k = 0 ∨ (k + 1 < n_.keys.length ∧ 2 * n_.S k < n_.S n_.keys.length)
    ·obtain ⟨s, hs1, hs2⟩ := entry_f HF.out (i := k) om_ 20 om_
     have HS1 := hi_ hs1
     have HS2 := hi_ hs2
     have HK2 := hi_ (show k + 1 = 0 ∨ (1 ≤ k + 1 ∧ k + 1 + 1 ≤ n_.keys.length ∧ (k + 1 = 1 ∨ 2 * n_.S (k + 1 - 1) < n_.S n_.keys.length)) by have := HPO.out; rw [Nat.add_sub_cancel]; omega)
     have hb1 : ((n_.S k : Int) + (s.size : Int)) ≤ 1000 := by have h1 := S_mono n_ (show k + 1 ≤ n_.keys.length by omega); have h2 := n_.S_succ k; have h3 := HHI.out; omega
     have hs0 : (0 : Int) ≤ (s.size : Int) := by omega
     clear hs1 hs2
     rcases Nat.eq_zero_or_pos k with hk0 | hk0
     ·subst hk0
      clear hgo
      go_wp2_with fail
      obtain ⟨C1, k1, C2, k2, C3, k3⟩ := (HN.out.below BW.out).outs
      refine (PNd.node_Node_entry.calls 20 n_.kind A1 a1 n_.keys A2 a2 n_.vals A3 a3 n_.kids 0 s wr C1 k1 C2 k2 C3 k3 HS1.out).mono ?_
      clear C1 k1 C2 k2 C3 k3
      rintro e w2 ⟨rfl, hb⟩
      have BR2 := hi_ (BR.out.trans (hb.mono BR.out.size))
      clear hb x0 x1 x2 x3
      go_wp2_with fail
      go_roundw
      case rel => exact ⟨0 + 1, by go_num, by rw [n_.S_succ, ← HS2.out]; congr 1, hi_ (by have := HPO.out; omega), BR2⟩
      case measure => simp [intOf]; omega
     ·have hgo2 : k + 1 < n_.keys.length ∧ 2 * n_.S k < n_.S n_.keys.length := by omega
      clear hgo
      have hc1 : ¬ ((k : Int) = 0) := by omega
      have hc2 : (k : Int) < (n_.keys.length : Int) - 1 := by omega
      have hc3 : 2 * (n_.S k : Int) < (n_.S n_.keys.length : Int) := by omega
      clear hgo2
      go_wp2_with fail
      obtain ⟨C1, k1, C2, k2, C3, k3⟩ := (HN.out.below BW.out).outs
      refine (PNd.node_Node_Len.calls n_.kind A1 a1 n_.keys A2 a2 n_.vals A3 a3 n_.kids (n_.keys.length : Int) wr C1 k1 C2 k2 C3 k3 rfl).mono ?_
      clear C1 k1 C2 k2 C3 k3
      rintro e w2 ⟨rfl, hb⟩
      have BR1 := hi_ (BR.out.trans (hb.mono BR.out.size))
      clear hb x0 x1 x2 x3
      have Y2 := hi_ (blk_below X1.out BR1.out)
      have BW1 := hi_ (B0.out.trans (BR1.out.mono B0.out.size))
      have x0 := blk_cell Y2.out 0
      have x1 := blk_cell Y2.out 1
      have x2 := blk_cell Y2.out 2
      have x3 := blk_cell Y2.out 3
      go_wp2_with fail
      obtain ⟨C1, k1, C2, k2, C3, k3⟩ := (HN.out.below BW1.out).outs
      refine (PNd.node_Node_entry.calls 20 n_.kind A1 a1 n_.keys A2 a2 n_.vals A3 a3 n_.kids (k : Int) s w2 C1 k1 C2 k2 C3 k3 HS1.out).mono ?_
      clear C1 k1 C2 k2 C3 k3
      rintro e w3 ⟨rfl, hb⟩
      have BR2 := hi_ (BR1.out.trans (hb.mono BR1.out.size))
      clear hb x0 x1 x2 x3
      go_wp2_with fail
      go_roundw
      case rel => exact ⟨k + 1, by go_num, by rw [n_.S_succ, ← HS2.out]; congr 1, HK2, BR2⟩
      case measure => simp [intOf]; omega
    ·have hk1 : 1 ≤ k := by omega
     have HC := hi_ (HNUM.out k hk1 hkl om_ (by have := HK.out; omega))
     have hc1 : ¬ ((k : Int) = 0) := by omega
     obtain ⟨c_, hc_⟩ : ∃ c_, c_ = k := ⟨_, rfl⟩
     have CUTA := am_ (fun (W : World) (hW : Below w.heap.size w W) => (by obtain ⟨C1, k1, C2, k2, C3, k3⟩ := (HN.out.below hW).outs; exact cut_calls W n_ A1 a1 A2 a2 A3 a3 HS.out om_ 0 c_ (Nat.zero_le _) om_ C1 k1 C2 k2 C3 k3 : Calls Tryz.prog 235 _ W _))
     have CUTB := am_ (fun (W : World) (hW : Below w.heap.size w W) => (by obtain ⟨C1, k1, C2, k2, C3, k3⟩ := (HN.out.below hW).outs; exact cut_calls W n_ A1 a1 A2 a2 A3 a3 HS.out om_ c_ n_.keys.length om_ (Nat.le_refl _) C1 k1 C2 k2 C3 k3 : Calls Tryz.prog 235 _ W _))
     obtain ⟨na_, hna⟩ : ∃ x, x = n_.cut 0 c_ := ⟨_, rfl⟩
     obtain ⟨nb_, hnb⟩ : ∃ x, x = n_.cut c_ n_.keys.length := ⟨_, rfl⟩
     rw [← hna] at CUTA
     rw [← hnb] at CUTB
     have HNA := hi_ hna
     have HNB := hi_ hnb
     have HCK := hi_ hc_
     clear hna hnb hc_
     obtain ⟨C1, K1, C2, K2, C3, K3⟩ := HN.out.outs
     replace C1 := am_ C1
     replace K1 := am_ K1
     replace C2 := am_ C2
     replace K2 := am_ K2
     replace C3 := am_ C3
     replace K3 := am_ K3
     by_cases hc2 : (k : Int) < (n_.keys.length : Int) - 1
     have hc3 : ¬ (2 * (n_.S k : Int) < (n_.S n_.keys.length : Int)) := by omega
     all_goals (
      clear hgo
      go_wp2_with fail
      obtain ⟨D1, k1, D2, k2, D3, k3⟩ := (HN.out.below BW.out).outs
      refine (PNd.node_Node_Len.calls n_.kind A1 a1 n_.keys A2 a2 n_.vals A3 a3 n_.kids (n_.keys.length : Int) wr D1 k1 D2 k2 D3 k3 rfl).mono ?_
      clear D1 k1 D2 k2 D3 k3
      rintro e wc ⟨rfl, hb⟩
      have BR1 := hi_ (BR.out.trans (hb.mono BR.out.size))
      clear hb x0 x1 x2 x3
      try have hc5 : (((k : Int) == 0) || decide (2 * (n_.S k : Int) < (n_.S n_.keys.length : Int))) = false := by simp; omega
      go_upto_region 11 with fail
      have k1 := BR1.out
      replace X1 := am_ (blk_below X1.out k1)
      have XP := am_ (blk_below X2.out k1)
      have XQ := am_ (blk_below X3.out k1)
      have BWc := hi_ (B0.out.trans (k1.mono B0.out.size))
      clear k1 Y1 BW BR BR1 X2 X3 B0
      have BWd := am_ BWc.out
      clear BWc
      have HBq := HB
      clear HB
      have HB := BWd
      clear BWd
      have HG2 := am_ HG.out.1
      have HG3 := am_ HG.out.2.1
      have HN23 := am_ HG.out.2.2
      have q1 := am_ HTS.out
      have q2 := am_ HTI.out
      clear HTS HTI
      have HTS := q1
      have HTI := q2
      clear q1 q2
      have ec : Value.int .i64 (k : Int) = .int .i64 (c_ : Int) := by rw [HCK.out]
      rw [ec]
      clear ec
      refine start_ (n := 10) (S := fun w' => True) (ds := []) (bz 10 0) kr_ rfl rfl trivial (fun hHeld => ?_); refine with_tabW node_SplitR.tab node_SplitR.bits (fun HT_ HW_ => ?_)
      have n0 := am_ (below_drew1 HB.out); have n1 := am_ (blk_drew X1.out); have n2 := am_ (blk_drew XP.out); have n3 := am_ (blk_drew XQ.out)
      clear HB X1 XP XQ
      have HB := n0; have X1 := n1; have XP := n2; have XQ := n3
      clear n0 n1 n2 n3
      generalize wc.drew = wc at *
      refine pure_ (i := 1) (N := some 45) (v := ?_) (a' := ?_) (bz 10 2) rfl rfl (any_of HT_.out kr_) (fun _ _ _ h => h) (Or.inl ⟨by rfl, ?_⟩) ?_ ?_
      rotate_left
      ·intro w'
       go_simp
       with_reducible rfl
      rotate_left
      ·simp only [Act.put, List.setIfInBounds_toArray, List.set_cons_zero, List.set_cons_succ, i64_w, i32_w]
       rfl
      refine pure_ (i := 4) (N := some 48) (v := ?_) (a' := ?_) (bz 10 18) rfl rfl (any_of HT_.out kr_) (fun _ _ _ h => h) (Or.inl ⟨by rfl, ?_⟩) ?_ ?_
      rotate_left
      ·intro w'
       go_simp
       with_reducible rfl
      rotate_left
      ·simp only [Act.put, List.setIfInBounds_toArray, List.set_cons_zero, List.set_cons_succ, i64_w, i32_w]
       rfl
      refine inv_at [0, 2, 3, 5, 6, 7, 8, 9] (fun a0_ b a w' => ∃ (Ua1 : Option Addr) (ka1 : Nat) (Ua2 : Option Addr) (ka2 : Nat) (Ua3 : Option Addr) (ka3 : Nat) (Ub1 : Option Addr) (kb1 : Nat) (Ub2 : Option Addr) (kb2 : Nat) (Ub3 : Option Addr) (kb3 : Nat) (m2_ : Value) (m7_ : Value), a = putSel a0_ b [(0, 44, .agg #[.int .i64 n_.kind, .slice A1 n_.keys.length a1, .slice A2 n_.vals.length a2, .slice A3 n_.kids.length a3]), (2, 46, m2_), (3, 47, .agg #[.int .i64 n_.kind, .slice A1 n_.keys.length a1, .slice A2 n_.vals.length a2, .slice A3 n_.kids.length a3]), (5, 49, .agg #[.int .i64 n_.kind, .slice A1 n_.keys.length a1, .slice A2 n_.vals.length a2, .slice A3 n_.kids.length a3]), (6, 50, .int .i64 (n_.keys.length : Int)), (7, 51, m7_)] ∧ (Below w.heap.size w w') ∧ (b 8 = false → w'.heap[g1]? = some (.cells #[.int .i64 n_.kind, .slice A1 n_.keys.length a1, .slice A2 n_.vals.length a2, .slice A3 n_.kids.length a3] 149 (0, 0))) ∧ (b 8 = false → w'.heap[g2]? = some (.cells #[.int .i64 0, .slice none 0 0, .slice none 0 0, .slice none 0 0] 149 (0, 0))) ∧ (b 9 = false → w'.heap[g3]? = some (.cells #[.int .i64 0, .slice none 0 0, .slice none 0 0, .slice none 0 0] 149 (0, 0))) ∧ (b 8 = true → w'.heap[g2]? = some (.cells #[.int .i64 n_.kind, .slice Ua1 na_.keys.length ka1, .slice Ua2 na_.vals.length ka2, .slice Ua3 na_.kids.length ka3] 149 (0, 0))) ∧ (b 9 = true → w'.heap[g3]? = some (.cells #[.int .i64 n_.kind, .slice Ub1 nb_.keys.length kb1, .slice Ub2 nb_.vals.length kb2, .slice Ub3 nb_.kids.length kb3] 149 (0, 0))) ∧ (b 2 = true → Kd.R Kd.string 9 w' w.heap.size (fun _ => True) (.slice Ua1 na_.keys.length ka1) na_.keys) ∧ (b 2 = true → Kd.R Kd.string 9 w' w.heap.size (fun _ => True) (.slice Ua2 na_.vals.length ka2) na_.vals) ∧ (b 2 = true → Kd.R (Kd.int .i64) 3 w' w.heap.size (fun _ => True) (.slice Ua3 na_.kids.length ka3) na_.kids) ∧ (b 7 = true → Kd.R Kd.string 9 w' w.heap.size (fun _ => True) (.slice Ub1 nb_.keys.length kb1) nb_.keys) ∧ (b 7 = true → Kd.R Kd.string 9 w' w.heap.size (fun _ => True) (.slice Ub2 nb_.vals.length kb2) nb_.vals) ∧ (b 7 = true → Kd.R (Kd.int .i64) 3 w' w.heap.size (fun _ => True) (.slice Ub3 nb_.kids.length kb3) nb_.kids) ∧ (b 2 = true → (m2_ : Value) = .agg #[.int .i64 n_.kind, .slice Ua1 na_.keys.length ka1, .slice Ua2 na_.vals.length ka2, .slice Ua3 na_.kids.length ka3]) ∧ (b 7 = true → (m7_ : Value) = .agg #[.int .i64 n_.kind, .slice Ub1 nb_.keys.length kb1, .slice Ub2 nb_.vals.length kb2, .slice Ub3 nb_.kids.length kb3])) HT_.out HW_.out kr_ kr_ ?_ ?_ ?_
      ·exact ⟨none, 0, none, 0, none, 0, none, 0, none, 0, none, 0, .bool false, .bool false, by simp only [putSel, Bool.false_eq_true, if_false], HB.out, fun _ => X1.out, fun _ => XP.out, fun _ => XQ.out, fun h_ => absurd h_ (by decide), fun h_ => absurd h_ (by decide), fun h_ => absurd h_ (by decide), fun h_ => absurd h_ (by decide), fun h_ => absurd h_ (by decide), fun h_ => absurd h_ (by decide), fun h_ => absurd h_ (by decide), fun h_ => absurd h_ (by decide), fun h_ => absurd h_ (by decide), fun h_ => absurd h_ (by decide)⟩
      ·skip
       clear HB X1 XP XQ
       refine steps_cons ?_ ?_
       ·rintro b a w' ⟨Ua1, ka1, Ua2, ka2, Ua3, ka3, Ub1, kb1, Ub2, kb2, Ub3, kb3, m2_, m7_, ha, Q_HB, Q_X1, Q_XP, Q_XQ, Q_YP, Q_YQ, Q_Ra1, Q_Ra2, Q_Ra3, Q_Rb1, Q_Rb2, Q_Rb3, Q_X2_, Q_X7_⟩ hb_ hon hoff
        refine ⟨_, rfl, fun K hK => ?_⟩
        have e1 : a.tmps[1]? = some (.pointer (some ⟨g1, 0, none⟩)) := by rw [ha]; exact (putSel_off rfl).trans rfl
        replace ha := am_ ha
        have HB := am_ Q_HB
        have X1 := am_ (Q_X1 (hoff 8 kr_))
        have XP := am_ (Q_XP (hoff 8 kr_))
        have XQ := am_ (Q_XQ (hoff 9 kr_))
        have x0 := blk_cell X1.out 0
        have x1 := blk_cell X1.out 1
        have x2 := blk_cell X1.out 2
        have x3 := blk_cell X1.out 3
        refine value_ (w1 := w') (v := .agg #[.int .i64 n_.kind, .slice A1 n_.keys.length a1, .slice A2 n_.vals.length a2, .slice A3 n_.kids.length a3]) (by rfl) rfl ?_ ?_
        ·go_simp
         (try simp only [i64_w])
         try rfl
        refine hK.out _ _ ⟨Ua1, ka1, Ua2, ka2, Ua3, ka3, Ub1, kb1, Ub2, kb2, Ub3, kb3, m2_, m7_, (by rw [ha.out]; exact putSel_upk 0 hb_ rfl rfl rfl), Q_HB, Q_X1, Q_XP, Q_XQ, fo_ (hoff 8), fo_ (hoff 9), fo_ (hoff 2), fo_ (hoff 2), fo_ (hoff 2), fo_ (hoff 7), fo_ (hoff 7), fo_ (hoff 7), fo_ (hoff 2), fo_ (hoff 7)⟩
       refine steps_cons ?_ ?_
       ·rintro b a w' ⟨Ua1, ka1, Ua2, ka2, Ua3, ka3, Ub1, kb1, Ub2, kb2, Ub3, kb3, m2_, m7_, ha, Q_HB, Q_X1, Q_XP, Q_XQ, Q_YP, Q_YQ, Q_Ra1, Q_Ra2, Q_Ra3, Q_Rb1, Q_Rb2, Q_Rb3, Q_X2_, Q_X7_⟩ hb_ hon hoff
        refine ⟨_, rfl, fun K hK => ?_⟩
        have e44 : a.tmps[44]? = some (.agg #[.int .i64 n_.kind, .slice A1 n_.keys.length a1, .slice A2 n_.vals.length a2, .slice A3 n_.kids.length a3]) := by rw [ha]; exact putSel_on (e := (0, 44, .agg #[.int .i64 n_.kind, .slice A1 n_.keys.length a1, .slice A2 n_.vals.length a2, .slice A3 n_.kids.length a3])) 0 rfl rfl (hon 0 kr_) rfl
        have e45 : a.tmps[45]? = some (.int .i64 (c_ : Int)) := by rw [ha]; exact (putSel_off rfl).trans rfl
        replace ha := am_ ha
        have HB := am_ Q_HB
        have X1 := am_ (Q_X1 (hoff 8 kr_))
        have XP := am_ (Q_XP (hoff 8 kr_))
        have XQ := am_ (Q_XQ (hoff 9 kr_))
        refine goes_ Tryz.func235 kr_ rfl #[.agg #[.int .i64 n_.kind, .slice A1 n_.keys.length a1, .slice A2 n_.vals.length a2, .slice A3 n_.kids.length a3], .int .i64 0, .int .i64 (c_ : Int)] (by rfl) rfl rfl (by simp only [List.map_toArray, List.map_cons, List.map_nil, Act.eval, Array.getD_eq_getD_getElem?, Option.getD_some, e44, e45]) ?_
        refine (CUTA.out w' HB.out).mono ?_
        rintro e w1 ⟨U1, k1, U2, k2, U3, k3, rfl, r1, r2, r3, hb⟩
        refine ⟨_, rfl, ?_⟩
        refine hK.out _ _ ⟨U1, k1, U2, k2, U3, k3, Ub1, kb1, Ub2, kb2, Ub3, kb3, (.agg #[.int .i64 n_.kind, .slice U1 na_.keys.length k1, .slice U2 na_.vals.length k2, .slice U3 na_.kids.length k3]), m7_, (by rw [ha.out]; exact putSel_upk 1 hb_ rfl rfl rfl), below_then HB.out HB.out.size hb, fun _ => blk_below X1.out hb, fun _ => blk_below XP.out hb, fun _ => blk_below XQ.out hb, fo_ (hoff 8), fo_ (hoff 9), fun _ => Kd.R_lower r1 HB.out.size, fun _ => Kd.R_lower r2 HB.out.size, fun _ => Kd.R_lower r3 HB.out.size, fo_ (hoff 7), fo_ (hoff 7), fo_ (hoff 7), fun _ => rfl, fo_ (hoff 7)⟩
       refine steps_cons ?_ ?_
       ·rintro b a w' ⟨Ua1, ka1, Ua2, ka2, Ua3, ka3, Ub1, kb1, Ub2, kb2, Ub3, kb3, m2_, m7_, ha, Q_HB, Q_X1, Q_XP, Q_XQ, Q_YP, Q_YQ, Q_Ra1, Q_Ra2, Q_Ra3, Q_Rb1, Q_Rb2, Q_Rb3, Q_X2_, Q_X7_⟩ hb_ hon hoff
        refine ⟨_, rfl, fun K hK => ?_⟩
        have e1 : a.tmps[1]? = some (.pointer (some ⟨g1, 0, none⟩)) := by rw [ha]; exact (putSel_off rfl).trans rfl
        replace ha := am_ ha
        have HB := am_ Q_HB
        have X1 := am_ (Q_X1 (hoff 8 kr_))
        have XP := am_ (Q_XP (hoff 8 kr_))
        have XQ := am_ (Q_XQ (hoff 9 kr_))
        have x0 := blk_cell X1.out 0
        have x1 := blk_cell X1.out 1
        have x2 := blk_cell X1.out 2
        have x3 := blk_cell X1.out 3
        refine value_ (w1 := w') (v := .agg #[.int .i64 n_.kind, .slice A1 n_.keys.length a1, .slice A2 n_.vals.length a2, .slice A3 n_.kids.length a3]) (by rfl) rfl ?_ ?_
        ·go_simp
         (try simp only [i64_w])
         try rfl
        refine hK.out _ _ ⟨Ua1, ka1, Ua2, ka2, Ua3, ka3, Ub1, kb1, Ub2, kb2, Ub3, kb3, m2_, m7_, (by rw [ha.out]; exact putSel_upk 2 hb_ rfl rfl rfl), Q_HB, Q_X1, Q_XP, Q_XQ, fo_ (hoff 8), fo_ (hoff 9), Q_Ra1, Q_Ra2, Q_Ra3, fo_ (hoff 7), fo_ (hoff 7), fo_ (hoff 7), Q_X2_, fo_ (hoff 7)⟩
       refine steps_cons ?_ ?_
       ·rintro b a w' ⟨Ua1, ka1, Ua2, ka2, Ua3, ka3, Ub1, kb1, Ub2, kb2, Ub3, kb3, m2_, m7_, ha, Q_HB, Q_X1, Q_XP, Q_XQ, Q_YP, Q_YQ, Q_Ra1, Q_Ra2, Q_Ra3, Q_Rb1, Q_Rb2, Q_Rb3, Q_X2_, Q_X7_⟩ hb_ hon hoff
        refine ⟨_, rfl, fun K hK => ?_⟩
        have e1 : a.tmps[1]? = some (.pointer (some ⟨g1, 0, none⟩)) := by rw [ha]; exact (putSel_off rfl).trans rfl
        replace ha := am_ ha
        have HB := am_ Q_HB
        have X1 := am_ (Q_X1 (hoff 8 kr_))
        have XP := am_ (Q_XP (hoff 8 kr_))
        have XQ := am_ (Q_XQ (hoff 9 kr_))
        have x0 := blk_cell X1.out 0
        have x1 := blk_cell X1.out 1
        have x2 := blk_cell X1.out 2
        have x3 := blk_cell X1.out 3
        refine value_ (w1 := w') (v := .agg #[.int .i64 n_.kind, .slice A1 n_.keys.length a1, .slice A2 n_.vals.length a2, .slice A3 n_.kids.length a3]) (by rfl) rfl ?_ ?_
        ·go_simp
         (try simp only [i64_w])
         try rfl
        refine hK.out _ _ ⟨Ua1, ka1, Ua2, ka2, Ua3, ka3, Ub1, kb1, Ub2, kb2, Ub3, kb3, m2_, m7_, (by rw [ha.out]; exact putSel_upk 3 hb_ rfl rfl rfl), Q_HB, Q_X1, Q_XP, Q_XQ, fo_ (hoff 8), fo_ (hoff 9), Q_Ra1, Q_Ra2, Q_Ra3, fo_ (hoff 7), fo_ (hoff 7), fo_ (hoff 7), Q_X2_, fo_ (hoff 7)⟩
       refine steps_cons ?_ ?_
       ·rintro b a w' ⟨Ua1, ka1, Ua2, ka2, Ua3, ka3, Ub1, kb1, Ub2, kb2, Ub3, kb3, m2_, m7_, ha, Q_HB, Q_X1, Q_XP, Q_XQ, Q_YP, Q_YQ, Q_Ra1, Q_Ra2, Q_Ra3, Q_Rb1, Q_Rb2, Q_Rb3, Q_X2_, Q_X7_⟩ hb_ hon hoff
        refine ⟨_, rfl, fun K hK => ?_⟩
        have e49 : a.tmps[49]? = some (.agg #[.int .i64 n_.kind, .slice A1 n_.keys.length a1, .slice A2 n_.vals.length a2, .slice A3 n_.kids.length a3]) := by rw [ha]; exact putSel_on (e := (5, 49, .agg #[.int .i64 n_.kind, .slice A1 n_.keys.length a1, .slice A2 n_.vals.length a2, .slice A3 n_.kids.length a3])) 3 rfl rfl (hon 5 kr_) rfl
        replace ha := am_ ha
        have HB := am_ Q_HB
        have X1 := am_ (Q_X1 (hoff 8 kr_))
        have XP := am_ (Q_XP (hoff 8 kr_))
        have XQ := am_ (Q_XQ (hoff 9 kr_))
        have Ra1 := am_ (Q_Ra1 (hon 2 kr_))
        have Ra2 := am_ (Q_Ra2 (hon 2 kr_))
        have Ra3 := am_ (Q_Ra3 (hon 2 kr_))
        refine goes_ Tryz.func112 kr_ rfl #[.agg #[.int .i64 n_.kind, .slice A1 n_.keys.length a1, .slice A2 n_.vals.length a2, .slice A3 n_.kids.length a3]] (by rfl) rfl rfl (by simp only [List.map_toArray, List.map_cons, List.map_nil, Act.eval, Array.getD_eq_getD_getElem?, Option.getD_some, e49]) ?_
        refine (PNd.node_Node_Len.calls n_.kind A1 a1 n_.keys A2 a2 n_.vals A3 a3 n_.kids (n_.keys.length : Int) w' (Kd.C_below C1.out HB.out) K1.out (Kd.C_below C2.out HB.out) K2.out (Kd.C_below C3.out HB.out) K3.out rfl).mono ?_
        rintro e w1 ⟨rfl, hb⟩
        refine ⟨_, rfl, ?_⟩
        refine hK.out _ _ ⟨Ua1, ka1, Ua2, ka2, Ua3, ka3, Ub1, kb1, Ub2, kb2, Ub3, kb3, m2_, m7_, (by rw [ha.out]; exact putSel_upk 4 hb_ rfl rfl rfl), below_then HB.out HB.out.size hb, fun _ => blk_below X1.out hb, fun _ => blk_below XP.out hb, fun _ => blk_below XQ.out hb, fo_ (hoff 8), fo_ (hoff 9), fun _ => Kd.R_below Ra1.out hb, fun _ => Kd.R_below Ra2.out hb, fun _ => Kd.R_below Ra3.out hb, fo_ (hoff 7), fo_ (hoff 7), fo_ (hoff 7), Q_X2_, fo_ (hoff 7)⟩
       refine steps_cons ?_ ?_
       ·rintro b a w' ⟨Ua1, ka1, Ua2, ka2, Ua3, ka3, Ub1, kb1, Ub2, kb2, Ub3, kb3, m2_, m7_, ha, Q_HB, Q_X1, Q_XP, Q_XQ, Q_YP, Q_YQ, Q_Ra1, Q_Ra2, Q_Ra3, Q_Rb1, Q_Rb2, Q_Rb3, Q_X2_, Q_X7_⟩ hb_ hon hoff
        refine ⟨_, rfl, fun K hK => ?_⟩
        have e47 : a.tmps[47]? = some (.agg #[.int .i64 n_.kind, .slice A1 n_.keys.length a1, .slice A2 n_.vals.length a2, .slice A3 n_.kids.length a3]) := by rw [ha]; exact putSel_on (e := (3, 47, .agg #[.int .i64 n_.kind, .slice A1 n_.keys.length a1, .slice A2 n_.vals.length a2, .slice A3 n_.kids.length a3])) 2 rfl rfl (hon 3 kr_) rfl
        have e48 : a.tmps[48]? = some (.int .i64 (c_ : Int)) := by rw [ha]; exact (putSel_off rfl).trans rfl
        have e50 : a.tmps[50]? = some (.int .i64 (n_.keys.length : Int)) := by rw [ha]; exact putSel_on (e := (6, 50, .int .i64 (n_.keys.length : Int))) 4 rfl rfl (hon 6 kr_) rfl
        replace ha := am_ ha
        have HB := am_ Q_HB
        have X1 := am_ (Q_X1 (hoff 8 kr_))
        have XP := am_ (Q_XP (hoff 8 kr_))
        have XQ := am_ (Q_XQ (hoff 9 kr_))
        have Ra1 := am_ (Q_Ra1 (hon 2 kr_))
        have Ra2 := am_ (Q_Ra2 (hon 2 kr_))
        have Ra3 := am_ (Q_Ra3 (hon 2 kr_))
        refine goes_ Tryz.func235 kr_ rfl #[.agg #[.int .i64 n_.kind, .slice A1 n_.keys.length a1, .slice A2 n_.vals.length a2, .slice A3 n_.kids.length a3], .int .i64 (c_ : Int), .int .i64 (n_.keys.length : Int)] (by rfl) rfl rfl (by simp only [List.map_toArray, List.map_cons, List.map_nil, Act.eval, Array.getD_eq_getD_getElem?, Option.getD_some, e47, e48, e50]) ?_
        refine (CUTB.out w' HB.out).mono ?_
        rintro e w1 ⟨U1, k1, U2, k2, U3, k3, rfl, r1, r2, r3, hb⟩
        refine ⟨_, rfl, ?_⟩
        refine hK.out _ _ ⟨Ua1, ka1, Ua2, ka2, Ua3, ka3, U1, k1, U2, k2, U3, k3, m2_, (.agg #[.int .i64 n_.kind, .slice U1 nb_.keys.length k1, .slice U2 nb_.vals.length k2, .slice U3 nb_.kids.length k3]), (by rw [ha.out]; exact putSel_upk 5 hb_ rfl rfl rfl), below_then HB.out HB.out.size hb, fun _ => blk_below X1.out hb, fun _ => blk_below XP.out hb, fun _ => blk_below XQ.out hb, fo_ (hoff 8), fo_ (hoff 9), fun _ => Kd.R_below Ra1.out hb, fun _ => Kd.R_below Ra2.out hb, fun _ => Kd.R_below Ra3.out hb, fun _ => Kd.R_lower r1 HB.out.size, fun _ => Kd.R_lower r2 HB.out.size, fun _ => Kd.R_lower r3 HB.out.size, Q_X2_, fun _ => rfl⟩
       refine steps_cons ?_ ?_
       ·rintro b a w' ⟨Ua1, ka1, Ua2, ka2, Ua3, ka3, Ub1, kb1, Ub2, kb2, Ub3, kb3, m2_, m7_, ha, Q_HB, Q_X1, Q_XP, Q_XQ, Q_YP, Q_YQ, Q_Ra1, Q_Ra2, Q_Ra3, Q_Rb1, Q_Rb2, Q_Rb3, Q_X2_, Q_X7_⟩ hb_ hon hoff
        refine ⟨_, rfl, fun K hK => ?_⟩
        have e2 : a.tmps[2]? = some (.pointer (some ⟨g2, 0, none⟩)) := by rw [ha]; exact (putSel_off rfl).trans rfl
        have e46 : a.tmps[46]? = some (m2_) := by rw [ha]; exact putSel_on (e := (2, 46, m2_)) 1 rfl rfl (hon 2 kr_) rfl
        rw [Q_X2_ (hon 2 (by kernel_rfl))] at e46
        replace ha := am_ ha
        have HB := am_ Q_HB
        have X1 := am_ (Q_X1 hb_)
        have XP := am_ (Q_XP hb_)
        have XQ := am_ (Q_XQ (hoff 9 kr_))
        have Ra1 := am_ (Q_Ra1 (hon 2 kr_))
        have Ra2 := am_ (Q_Ra2 (hon 2 kr_))
        have Ra3 := am_ (Q_Ra3 (hon 2 kr_))
        have Rb1 := am_ (Q_Rb1 (hon 7 kr_))
        have Rb2 := am_ (Q_Rb2 (hon 7 kr_))
        have Rb3 := am_ (Q_Rb3 (hon 7 kr_))
        have q0 := blk_cell XP.out 0
        have q1 := blk_cell XP.out 1
        have q2 := blk_cell XP.out 2
        have q3 := blk_cell XP.out 3
        have z0 := blk_frozen XP.out 0
        have z1 := blk_frozen XP.out 1
        have z2 := blk_frozen XP.out 2
        have z3 := blk_frozen XP.out 3
        refine skip_ (w1 := ((((w'.setCell ⟨g2, 0, none⟩ (.int .i64 n_.kind)).setCell ⟨g2, 1, none⟩ (.slice Ua1 na_.keys.length ka1)).setCell ⟨g2, 2, none⟩ (.slice Ua2 na_.vals.length ka2)).setCell ⟨g2, 3, none⟩ (.slice Ua3 na_.kids.length ka3))) (by rfl) rfl ?_ ?_
        ·go_simp
         try rfl
        refine hK.out _ _ ⟨Ua1, ka1, Ua2, ka2, Ua3, ka3, Ub1, kb1, Ub2, kb2, Ub3, kb3, m2_, m7_, (by rw [ha.out]; exact putSel_none (v := undef) rfl), (below_set (below_set (below_set (below_set HB.out HG2.out) HG2.out) HG2.out) HG2.out), fun h0_ => absurd ((up_self b 8).symm.trans h0_) (by decide), fun h0_ => absurd ((up_self b 8).symm.trans h0_) (by decide), fun _ => (blk_far (blk_far (blk_far (blk_far XQ.out (p := ⟨g2, 0, none⟩) (Ne.symm HN23.out) _) (p := ⟨g2, 1, none⟩) (Ne.symm HN23.out) _) (p := ⟨g2, 2, none⟩) (Ne.symm HN23.out) _) (p := ⟨g2, 3, none⟩) (Ne.symm HN23.out) _), fun _ => (blk_put (blk_put (blk_put (blk_put XP.out 0 _ rfl) 1 _ rfl) 2 _ rfl) 3 _ rfl), fo_ (hoff 9), fun _ => (Kd.R_set (Kd.R_set (Kd.R_set (Kd.R_set Ra1.out XP.out HTS.out 0 _) (blk_set XP.out 0 _) HTS.out 1 _) (blk_set (blk_set XP.out 0 _) 1 _) HTS.out 2 _) (blk_set (blk_set (blk_set XP.out 0 _) 1 _) 2 _) HTS.out 3 _), fun _ => (Kd.R_set (Kd.R_set (Kd.R_set (Kd.R_set Ra2.out XP.out HTS.out 0 _) (blk_set XP.out 0 _) HTS.out 1 _) (blk_set (blk_set XP.out 0 _) 1 _) HTS.out 2 _) (blk_set (blk_set (blk_set XP.out 0 _) 1 _) 2 _) HTS.out 3 _), fun _ => (Kd.R_set (Kd.R_set (Kd.R_set (Kd.R_set Ra3.out XP.out HTI.out 0 _) (blk_set XP.out 0 _) HTI.out 1 _) (blk_set (blk_set XP.out 0 _) 1 _) HTI.out 2 _) (blk_set (blk_set (blk_set XP.out 0 _) 1 _) 2 _) HTI.out 3 _), fun _ => (Kd.R_set (Kd.R_set (Kd.R_set (Kd.R_set Rb1.out XP.out HTS.out 0 _) (blk_set XP.out 0 _) HTS.out 1 _) (blk_set (blk_set XP.out 0 _) 1 _) HTS.out 2 _) (blk_set (blk_set (blk_set XP.out 0 _) 1 _) 2 _) HTS.out 3 _), fun _ => (Kd.R_set (Kd.R_set (Kd.R_set (Kd.R_set Rb2.out XP.out HTS.out 0 _) (blk_set XP.out 0 _) HTS.out 1 _) (blk_set (blk_set XP.out 0 _) 1 _) HTS.out 2 _) (blk_set (blk_set (blk_set XP.out 0 _) 1 _) 2 _) HTS.out 3 _), fun _ => (Kd.R_set (Kd.R_set (Kd.R_set (Kd.R_set Rb3.out XP.out HTI.out 0 _) (blk_set XP.out 0 _) HTI.out 1 _) (blk_set (blk_set XP.out 0 _) 1 _) HTI.out 2 _) (blk_set (blk_set (blk_set XP.out 0 _) 1 _) 2 _) HTI.out 3 _), Q_X2_, Q_X7_⟩
       refine steps_cons ?_ ?_
       ·rintro b a w' ⟨Ua1, ka1, Ua2, ka2, Ua3, ka3, Ub1, kb1, Ub2, kb2, Ub3, kb3, m2_, m7_, ha, Q_HB, Q_X1, Q_XP, Q_XQ, Q_YP, Q_YQ, Q_Ra1, Q_Ra2, Q_Ra3, Q_Rb1, Q_Rb2, Q_Rb3, Q_X2_, Q_X7_⟩ hb_ hon hoff
        refine ⟨_, rfl, fun K hK => ?_⟩
        have e3 : a.tmps[3]? = some (.pointer (some ⟨g3, 0, none⟩)) := by rw [ha]; exact (putSel_off rfl).trans rfl
        have e51 : a.tmps[51]? = some (m7_) := by rw [ha]; exact putSel_on (e := (7, 51, m7_)) 5 rfl rfl (hon 7 kr_) rfl
        rw [Q_X7_ (hon 7 (by kernel_rfl))] at e51
        replace ha := am_ ha
        have HB := am_ Q_HB
        have XQ := am_ (Q_XQ hb_)
        have YP := am_ (Q_YP (hon 8 kr_))
        have Ra1 := am_ (Q_Ra1 (hon 2 kr_))
        have Ra2 := am_ (Q_Ra2 (hon 2 kr_))
        have Ra3 := am_ (Q_Ra3 (hon 2 kr_))
        have Rb1 := am_ (Q_Rb1 (hon 7 kr_))
        have Rb2 := am_ (Q_Rb2 (hon 7 kr_))
        have Rb3 := am_ (Q_Rb3 (hon 7 kr_))
        have q0 := blk_cell XQ.out 0
        have q1 := blk_cell XQ.out 1
        have q2 := blk_cell XQ.out 2
        have q3 := blk_cell XQ.out 3
        have z0 := blk_frozen XQ.out 0
        have z1 := blk_frozen XQ.out 1
        have z2 := blk_frozen XQ.out 2
        have z3 := blk_frozen XQ.out 3
        refine skip_ (w1 := ((((w'.setCell ⟨g3, 0, none⟩ (.int .i64 n_.kind)).setCell ⟨g3, 1, none⟩ (.slice Ub1 nb_.keys.length kb1)).setCell ⟨g3, 2, none⟩ (.slice Ub2 nb_.vals.length kb2)).setCell ⟨g3, 3, none⟩ (.slice Ub3 nb_.kids.length kb3))) (by rfl) rfl ?_ ?_
        ·go_simp
         try rfl
        refine hK.out _ _ ⟨Ua1, ka1, Ua2, ka2, Ua3, ka3, Ub1, kb1, Ub2, kb2, Ub3, kb3, m2_, m7_, (by rw [ha.out]; exact putSel_none (v := undef) rfl), (below_set (below_set (below_set (below_set HB.out HG3.out) HG3.out) HG3.out) HG3.out), fo_ (hon 8), fo_ (hon 8), fun h0_ => absurd ((up_self b 9).symm.trans h0_) (by decide), fun _ => (blk_far (blk_far (blk_far (blk_far YP.out (p := ⟨g3, 0, none⟩) HN23.out _) (p := ⟨g3, 1, none⟩) HN23.out _) (p := ⟨g3, 2, none⟩) HN23.out _) (p := ⟨g3, 3, none⟩) HN23.out _), fun _ => (blk_put (blk_put (blk_put (blk_put XQ.out 0 _ rfl) 1 _ rfl) 2 _ rfl) 3 _ rfl), fun _ => (Kd.R_set (Kd.R_set (Kd.R_set (Kd.R_set Ra1.out XQ.out HTS.out 0 _) (blk_set XQ.out 0 _) HTS.out 1 _) (blk_set (blk_set XQ.out 0 _) 1 _) HTS.out 2 _) (blk_set (blk_set (blk_set XQ.out 0 _) 1 _) 2 _) HTS.out 3 _), fun _ => (Kd.R_set (Kd.R_set (Kd.R_set (Kd.R_set Ra2.out XQ.out HTS.out 0 _) (blk_set XQ.out 0 _) HTS.out 1 _) (blk_set (blk_set XQ.out 0 _) 1 _) HTS.out 2 _) (blk_set (blk_set (blk_set XQ.out 0 _) 1 _) 2 _) HTS.out 3 _), fun _ => (Kd.R_set (Kd.R_set (Kd.R_set (Kd.R_set Ra3.out XQ.out HTI.out 0 _) (blk_set XQ.out 0 _) HTI.out 1 _) (blk_set (blk_set XQ.out 0 _) 1 _) HTI.out 2 _) (blk_set (blk_set (blk_set XQ.out 0 _) 1 _) 2 _) HTI.out 3 _), fun _ => (Kd.R_set (Kd.R_set (Kd.R_set (Kd.R_set Rb1.out XQ.out HTS.out 0 _) (blk_set XQ.out 0 _) HTS.out 1 _) (blk_set (blk_set XQ.out 0 _) 1 _) HTS.out 2 _) (blk_set (blk_set (blk_set XQ.out 0 _) 1 _) 2 _) HTS.out 3 _), fun _ => (Kd.R_set (Kd.R_set (Kd.R_set (Kd.R_set Rb2.out XQ.out HTS.out 0 _) (blk_set XQ.out 0 _) HTS.out 1 _) (blk_set (blk_set XQ.out 0 _) 1 _) HTS.out 2 _) (blk_set (blk_set (blk_set XQ.out 0 _) 1 _) 2 _) HTS.out 3 _), fun _ => (Kd.R_set (Kd.R_set (Kd.R_set (Kd.R_set Rb3.out XQ.out HTI.out 0 _) (blk_set XQ.out 0 _) HTI.out 1 _) (blk_set (blk_set XQ.out 0 _) 1 _) HTI.out 2 _) (blk_set (blk_set (blk_set XQ.out 0 _) 1 _) 2 _) HTI.out 3 _), Q_X2_, Q_X7_⟩
       exact steps_nil
      ·rintro b a w' hall ⟨Ua1, ka1, Ua2, ka2, Ua3, ka3, Ub1, kb1, Ub2, kb2, Ub3, kb3, m2_, m7_, ha, Q_HB, Q_X1, Q_XP, Q_XQ, Q_YP, Q_YQ, Q_Ra1, Q_Ra2, Q_Ra3, Q_Rb1, Q_Rb2, Q_Rb3, Q_X2_, Q_X7_⟩
       clear HB X1 XP XQ
       have hb0_ := hall 0 kr_
       have hb2_ := hall 2 kr_
       have hb3_ := hall 3 kr_
       have hb5_ := hall 5 kr_
       have hb6_ := hall 6 kr_
       have hb7_ := hall 7 kr_
       have hb8_ := hall 8 kr_
       have hb9_ := hall 9 kr_
       subst ha
       obtain rfl := Q_X2_ hb2_
       obtain rfl := Q_X7_ hb7_
       simp only [putSel, hb0_, hb2_, hb3_, hb5_, hb6_, hb7_, hb8_, hb9_, if_true, Act.put, List.setIfInBounds_toArray, List.set_cons_zero, List.set_cons_succ]
       have HB := am_ Q_HB
       clear Q_HB
       clear Q_X1
       clear Q_XP
       clear Q_XQ
       have YP := am_ (Q_YP hb8_)
       clear Q_YP
       have YQ := am_ (Q_YQ hb9_)
       clear Q_YQ
       have Ra1 := am_ (Q_Ra1 hb2_)
       clear Q_Ra1
       have Ra2 := am_ (Q_Ra2 hb2_)
       clear Q_Ra2
       have Ra3 := am_ (Q_Ra3 hb2_)
       clear Q_Ra3
       have Rb1 := am_ (Q_Rb1 hb7_)
       clear Q_Rb1
       have Rb2 := am_ (Q_Rb2 hb7_)
       clear Q_Rb2
       have Rb3 := am_ (Q_Rb3 hb7_)
       clear Q_Rb3
       clear hall hb0_ hb2_ hb3_ hb5_ hb6_ hb7_ hb8_ hb9_
       go_wp2_with fail
       refine bodyPost_ret (results_cc rfl _ _ g2 g3 149 149 #[.int .i64 n_.kind, .slice Ua1 na_.keys.length ka1, .slice Ua2 na_.vals.length ka2, .slice Ua3 na_.kids.length ka3] #[.int .i64 n_.kind, .slice Ub1 nb_.keys.length kb1, .slice Ub2 nb_.vals.length kb2, .slice Ub3 nb_.kids.length kb3] (0, 0) (0, 0) _ _ rfl YP.out rfl rfl rfl rfl YQ.out rfl rfl rfl) rfl ?_
       have hBs := HBq.out
       refine ⟨_, _, rfl, c_, by have h1 := HC.out; rw [HCK.out]; omega, ?_⟩
       have ha : n_.kind = na_.kind := by rw [HNA.out]; rfl
       have hb : n_.kind = nb_.kind := by rw [HNB.out]; rfl
       rw [← HNA.out, ← HNB.out]
       exact ⟨⟨_, _, _, by rw [ha], Kd.R_lower Ra1.out hBs, Kd.R_lower Ra2.out hBs, Kd.R_lower Ra3.out hBs⟩, ⟨_, _, _, by rw [hb], Kd.R_lower Rb1.out hBs, Kd.R_lower Rb2.out hBs, Kd.R_lower Rb3.out hBs⟩, HB.out⟩)
end Go.Proofs.YtendgmblgdkiaaaGreat

namespace Go.Proofs.YtendgmblgdkiaaaGreat
open Go.RowKit
open Go.Proofs.YtendgmblgdkiaaaGreatW
open PrintWords
set_option linter.unusedVariables false
set_option linter.unusedSimpArgs false

attribute [-go_sem] Instr.buildSlice
attribute [local go_sem] nodes1 nodes2
/-- What parts makes of a node. -/
def PartsOf (n : Nd) (l : List Nd) : Prop :=
 (n.pack.size ≤ 240 ∧ l = [n]) ∨ (∃ c, 2 ≤ c ∧ c + 2 ≤ n.keys.length ∧ n.S c ≤ 230 ∧ n.S n.keys.length - n.S c ≤ 230 ∧ l = [n.cut 0 c, n.cut c n.keys.length])
/-- Not much too long. -/
structure Nd.Short (n : Nd) : Prop where
 fine : n.fine = true
 shape : n.Shape
 ent : ∀ i, i < n.keys.length → n.ent i ≤ 50
 most : n.S n.keys.length ≤ 340
 few : n.keys.length < 128

set_option maxHeartbeats 2000000 in
set_option maxRecDepth 100000 in
theorem tree_parts (w : World) (B : Nat) (v : Value) (n : Nd) (hB : B ≤ w.heap.size) (N : NodeV B w v n) (hs : n.Short) :
  Calls Tryz.prog 190 #[v] w fun e w' => ∃ v' l, e = .returned v' ∧ PartsOf n l ∧ NodesV B w' v' l ∧ Below w.heap.size w w' := by
 obtain ⟨A1, c1, A2, c2, A3, c3, rfl, C1, k1, C2, k2, C3, k3⟩ := N.out
 have HN := hi_ N
 have C1 := hi_ C1
 have C2 := hi_ C2
 have C3 := hi_ C3
 have k1 := hi_ k1
 have k2 := hi_ k2
 have k3 := hi_ k3
 have HS := hi_ hs
 have HBs := hi_ hB
 clear N hs hB
 go_enter Tryz.func190, Tryz.ntmps190
 go_wp2_with fail
 have hB0 := hi_ (below_alloc (Below.refl w.heap.size w) (.cells #[.int .i64 n.kind, .slice A1 n.keys.length c1, .slice A2 n.vals.length c2, .slice A3 n.kids.length c3] 149 (0, 0)))
 have hX0 := hi_ (blk_new w (.cells #[.int .i64 n.kind, .slice A1 n.keys.length c1, .slice A2 n.vals.length c2, .slice A3 n.kids.length c3] 149 (0, 0)))
 generalize w.alloc (.cells #[.int .i64 n.kind, .slice A1 n.keys.length c1, .slice A2 n.vals.length c2, .slice A3 n.kids.length c3] 149 (0, 0)) = w0 at *
 have HF := hi_ (fits_f n HS.out.fine)
 obtain ⟨q, hq⟩ : ∃ q, q = decide ((n.pack.size : Int) ≤ 240) := ⟨_, rfl⟩
 rw [← hq] at HF
 have hq2 := hi_ hq
 clear hq
 refine (PNd.node_Node_Fits.calls n.kind A1 c1 n.keys A2 c2 n.vals A3 c3 n.kids q w0 (Kd.C_below C1.out hB0.out) k1.out (Kd.C_below C2.out hB0.out) k2.out (Kd.C_below C3.out hB0.out) k3.out HF.out).mono ?_
 rintro e w1 ⟨rfl, hb⟩
 have hB1 := hi_ (below_then hB0.out hB0.out.size hb)
 have hX1 := hi_ (blk_below hX0.out hb)
 have x0 := blk_cell hX1.out 0
 have x1 := blk_cell hX1.out 1
 have x2 := blk_cell hX1.out 2
 have x3 := blk_cell hX1.out 3
 clear hb hB0 hX0
 cases q
 ·have hfit : ¬ n.pack.size ≤ 240 := by have := of_decide_eq_false hq2.out.symm; omega
  have HFit := hi_ hfit
  clear hfit hq2 HF
  go_wp2_with fail
  have hlen : (vNum n.keys.length).size = 1 := vNum_one HS.out.few
  have hpk := n.pack_size
  have h239 : 239 < n.S n.keys.length := by have := HFit.out; omega
  clear hlen hpk x0 x1 x2 x3
  refine (node_Split w1 B _ n (Nat.le_trans HBs.out hB1.out.size) (HN.out.below hB1.out) HS.out.fine HS.out.shape HS.out.ent h239 HS.out.most (by have := HS.out.few; omega)).mono ?_
  rintro e w2 ⟨va, vb, c, rfl, ⟨hc2, hc3, hs1, hs2⟩, N1, N2, hb⟩
  have HP := hi_ (show PartsOf n [n.cut 0 c, n.cut c n.keys.length] from .inr ⟨c, hc2, hc3, hs1, hs2, rfl⟩)
  clear h239 hc2 hc3 hs1 hs2
  generalize n.cut 0 c = a at *
  generalize n.cut c n.keys.length = b at *
  have hB2 := hi_ (below_then hB1.out hB1.out.size hb)
  have hX2 := hi_ (blk_below hX1.out hb)
  obtain ⟨P1, p1, P2, p2, P3, p3, rfl, -⟩ := N1.out
  obtain ⟨P5, p5, P6, p6, P7, p7, rfl, -⟩ := N2.out
  have NA := hi_ N1
  have NB := hi_ N2
  clear N1 N2 hb
  go_wp2_with fail
  go_ret
  have hB3 := below_alloc (below_alloc (below_alloc hB2.out (.cells #[.int .i64 a.kind, .slice P1 a.keys.length p1, .slice P2 a.vals.length p2, .slice P3 a.kids.length p3] 149 (0, 0))) (.cells #[.int .i64 b.kind, .slice P5 b.keys.length p5, .slice P6 b.vals.length p6, .slice P7 b.kids.length p7] 149 (0, 0))) (.cells #[.int .i64 a.kind, .slice P1 a.keys.length p1, .slice P2 a.vals.length p2, .slice P3 a.kids.length p3, .int .i64 b.kind, .slice P5 b.keys.length p5, .slice P6 b.vals.length p6, .slice P7 b.kids.length p7] 149 (0, 0))
  have hB4 := below_alloc (below_alloc (below_alloc (Below.refl w2.heap.size w2) (.cells #[.int .i64 a.kind, .slice P1 a.keys.length p1, .slice P2 a.vals.length p2, .slice P3 a.kids.length p3] 149 (0, 0))) (.cells #[.int .i64 b.kind, .slice P5 b.keys.length p5, .slice P6 b.vals.length p6, .slice P7 b.kids.length p7] 149 (0, 0))) (.cells #[.int .i64 a.kind, .slice P1 a.keys.length p1, .slice P2 a.vals.length p2, .slice P3 a.kids.length p3, .int .i64 b.kind, .slice P5 b.keys.length p5, .slice P6 b.vals.length p6, .slice P7 b.kids.length p7] 149 (0, 0))
  have hle : B ≤ w1.heap.size := Nat.le_trans HBs.out hB1.out.size
  have hle2 : w.heap.size ≤ w2.heap.size := hB2.out.size
  refine ⟨_, _, rfl, HP.out, .inr ⟨a, b, _, _, w2.heap.size + 1 + 1, rfl, rfl, by have := HBs.out; omega, ?_, NA.out.below hB4, NB.out.below hB4⟩, hB3⟩
  have := heap_alloc_self ((w2.alloc (.cells #[.int .i64 a.kind, .slice P1 a.keys.length p1, .slice P2 a.vals.length p2, .slice P3 a.kids.length p3] 149 (0, 0))).alloc (.cells #[.int .i64 b.kind, .slice P5 b.keys.length p5, .slice P6 b.vals.length p6, .slice P7 b.kids.length p7] 149 (0, 0))) (.cells #[.int .i64 a.kind, .slice P1 a.keys.length p1, .slice P2 a.vals.length p2, .slice P3 a.kids.length p3, .int .i64 b.kind, .slice P5 b.keys.length p5, .slice P6 b.vals.length p6, .slice P7 b.kids.length p7] 149 (0, 0))
  rw [World.size_alloc, World.size_alloc] at this
  exact this
 ·have hfit : n.pack.size ≤ 240 := by have := of_decide_eq_true hq2.out.symm; omega
  have HFit := hi_ hfit
  clear hfit hq2 HF
  go_wp2_with fail
  go_ret
  refine ⟨_, [n], rfl, .inl ⟨HFit.out, rfl⟩, .inl ⟨n, _, w1.heap.size, rfl, rfl, by have := HBs.out; have := hB1.out.size; omega, heap_alloc_self w1 _, HN.out.below (below_alloc hB1.out _)⟩, below_alloc hB1.out _⟩
end Go.Proofs.YtendgmblgdkiaaaGreat

namespace Go.Proofs.YtendgmblgdkiaaaGreat
open Go.RowKit
open Go.Proofs.YtendgmblgdkiaaaGreatW
open PrintWords PrintLast PrintMore
set_option linter.unusedVariables false
set_option linter.unusedSimpArgs false

def Nd.page (n : Nd) : Pg := (n.kind, n.pack)
def Nd.least (n : Nd) : BA := n.keys.getD 0 ByteArray.empty
/-- What a page may be written of. -/
structure Nd.Fit (n : Nd) : Prop where
 fine : n.fine = true
 kind : n.kind = 1 ∨ n.kind = 2
 some : 0 < n.keys.length
 size : n.pack.size ≤ 240
/-- So many numbers, from one on. -/
def pagesFrom (n : Nat) : Nat → List Int
 | 0 => []
 | k + 1 => pagesFrom n k ++ [((n + k : Nat) : Int)]
theorem pagesFrom_length (n : Nat) : ∀ k, (pagesFrom n k).length = k
 | 0 => rfl
 | k + 1 => by rw [pagesFrom, List.length_append, pagesFrom_length n k]; rfl
/-- How writing fails. -/
def Bad (D D' : Dk) (P' : List Pg) (er : Int) : Prop := (er = 5 ∧ D'.down = false ∧ P'.length = D'.room) ∨ (er = 6 ∧ D'.down = true ∧ ¬ D.Live)
/-- A tree's state; all its blocks are elder than B. -/
structure TS (B : Nat) (w : World) (t b : Nat) (L : Loc) (h : Nat) (D : Dk) (P : List Pg) (r : Rt) : Prop where
 st : St w L b h D P
 tr : TreeAt w t b r
 lo : ∀ k, L.foot k ∨ k = b → k < B
 tl : t < B
namespace TS
variable {B : Nat} {w w' : World} {t b : Nat} {L : Loc} {h : Nat} {D D' : Dk} {P P' : List Pg} {r : Rt}
theorem below (T : TS B w t b L h D P r) (k : Below w.heap.size w w') : TS B w' t b L h D P r := ⟨T.st.below k, T.tr.below k, T.lo, T.tl⟩
theorem not (T : TS B w t b L h D P r) : ¬ (L.foot t ∨ t = b) := T.tr.foot T.st
end TS

theorem NodesV.at {B : Nat} {w : World} {g m : Nat} {l : List Nd} (h : NodesV B w (.slice (some ⟨g, 0, none⟩) m m) l) {k : Nat} (hk : k < m) : ∃ n A1 c1 A2 c2 A3 c3, l[k]? = some n ∧
  w.cell? ⟨g, k * 4, none⟩ = some (.int .i64 n.kind) ∧ w.cell? ⟨g, k * 4 + 1, none⟩ = some (.slice A1 n.keys.length c1) ∧ w.cell? ⟨g, k * 4 + 2, none⟩ = some (.slice A2 n.vals.length c2) ∧ w.cell? ⟨g, k * 4 + 3, none⟩ = some (.slice A3 n.kids.length c3) ∧
  NodeV B w (.agg #[.int .i64 n.kind, .slice A1 n.keys.length c1, .slice A2 n.vals.length c2, .slice A3 n.kids.length c3]) n := by
 rcases h with ⟨a, x, g', rfl, e, -, hg, ha⟩ | ⟨a, b, x, y, g', rfl, e, -, hg, ha, hb⟩
 ·simp only [Value.slice.injEq, Option.some.injEq, Addr.mk.injEq, and_true] at e
  obtain ⟨rfl, rfl, -⟩ := e
  obtain ⟨A1, c1, A2, c2, A3, c3, rfl, -⟩ := ha.out
  obtain rfl : k = 0 := by omega
  exact ⟨a, A1, c1, A2, c2, A3, c3, rfl, (cell_of_heap hg _).trans rfl, (cell_of_heap hg _).trans rfl, (cell_of_heap hg _).trans rfl, (cell_of_heap hg _).trans rfl, ha⟩
 ·simp only [Value.slice.injEq, Option.some.injEq, Addr.mk.injEq, and_true] at e
  obtain ⟨rfl, rfl, -⟩ := e
  obtain ⟨A1, c1, A2, c2, A3, c3, rfl, -⟩ := ha.out
  obtain ⟨P1, p1, P2, p2, P3, p3, rfl, -⟩ := hb.out
  have h01 : k = 0 ∨ k = 1 := by omega
  rcases h01 with rfl | rfl
  ·exact ⟨a, A1, c1, A2, c2, A3, c3, rfl, (cell_of_heap hg _).trans rfl, (cell_of_heap hg _).trans rfl, (cell_of_heap hg _).trans rfl, (cell_of_heap hg _).trans rfl, ha⟩
  ·exact ⟨b, P1, p1, P2, p2, P3, p3, rfl, (cell_of_heap hg _).trans rfl, (cell_of_heap hg _).trans rfl, (cell_of_heap hg _).trans rfl, (cell_of_heap hg _).trans rfl, hb⟩
theorem R_keepF {α : Type} {d : Kd α} {e base : Nat} {w1 w2 : World} {v : Value} {xs : List α} {F : Nat → Prop} (h : d.R e w1 base (fun _ => True) v xs) (k : Keep F w1 w2) (hF : ∀ k, F k → k < base) : d.R e w2 base (fun _ => True) v xs :=
 Kd.R_mono (Kd.R_step (Kd.R_bound h) (fun i hi hl => k.block i hl (fun hf => by have := hF i hf; have := hi.2.1; omega))) (fun _ _ => trivial)
theorem R_grownKeep {α : Type} {d : Kd α} {e base : Nat} {w w1 : World} {ok : Nat → Prop} {v : Value} {xs : List α} (h : d.R e w base ok v xs) (hg : w.grownBy w1 v.ownBlock) : Keep (fun k => base ≤ k) w w1 := by
 obtain ⟨-, inner, ho, -⟩ := h
 exact (Keep.refl _ w).grown hg (fun k hk => .inl (own_base ho k hk))
theorem R_apart2 {α β : Type} {d1 : Kd α} {d2 : Kd β} {e1 e2 b1 b2 : Nat} {w : World} {ok1 : Nat → Prop} {v1 v2 : Value} {xs : List α} {ys : List β} (h1 : d1.R e1 w b1 ok1 v1 xs) (h2 : d2.R e2 w b2 (fun _ => True) v2 ys) (hne : ∀ q, q ∈ e2 :: d2.E → q ≠ e1) : d2.R e2 w b2 (fun k => some k ≠ v1.ownBlock) v2 ys := by
 obtain ⟨-, inner, ho, -⟩ := h1
 refine Kd.R_mono (Kd.R_bound h2) (fun k hk e => ?_)
 obtain ⟨cells, hc⟩ := own_typed ho k e.symm
 obtain ⟨-, -, -, q, hq, cells', hc'⟩ := hk
 rw [hc] at hc'
 injection hc' with hc'
 injection hc' with _ hc'
 exact hne q hq hc'.symm
theorem TS.hi {B : Nat} {w w' : World} {t b : Nat} {L : Loc} {h : Nat} {D : Dk} {P : List Pg} {r : Rt} (T : TS B w t b L h D P r) (k : Keep (fun k => B ≤ k) w w') : TS B w' t b L h D P r :=
 ⟨⟨T.st.d.keep k (fun i hi hf => by have := T.lo i (.inl hi); omega), T.st.p.keep k (fun hf => by have := T.lo b (.inr rfl); omega), T.st.hh, T.st.room, T.st.holds⟩, T.tr.keep k (fun hf => by have := T.tl; omega), T.lo, T.tl⟩
theorem take_snoc {α : Type} (l : List α) (k : Nat) (n : α) (h : l[k]? = some n) : l.take (k + 1) = l.take k ++ [n] := by
 rw [List.take_add_one, h]; rfl
/-- The cells that a round reads. -/
def Fac (t b g : Nat) (x0 x1 x2 x3 : Value) (W : World) : Prop :=
 W.cell? ⟨t, 0, none⟩ = some (.pointer (some ⟨b, 0, none⟩)) ∧ W.cell? ⟨g, 0, none⟩ = some x0 ∧ W.cell? ⟨g, 1, none⟩ = some x1 ∧ W.cell? ⟨g, 2, none⟩ = some x2 ∧ W.cell? ⟨g, 3, none⟩ = some x3
namespace Fac
variable {t b g : Nat} {x0 x1 x2 x3 : Value} {W : World}
theorem drewN (h : Fac t b g x0 x1 x2 x3 W) (m : Nat) : Fac t b g x0 x1 x2 x3 (W.drewN m) := h
theorem drew (h : Fac t b g x0 x1 x2 x3 W) : Fac t b g x0 x1 x2 x3 W.drew := h
theorem of {r : Rt} (T : TreeAt W t b r) (hg : W.heap[g]? = some (.cells #[x0, x1, x2, x3] 149 (0, 0))) : Fac t b g x0 x1 x2 x3 W :=
 ⟨T.c0, (cell_of_heap hg 0).trans rfl, (cell_of_heap hg 1).trans rfl, (cell_of_heap hg 2).trans rfl, (cell_of_heap hg 3).trans rfl⟩
end Fac
structure WrInv (B : Nat) (w : World) (t b : Nat) (L : Loc) (h : Nat) (D : Dk) (P : List Pg) (r : Rt) (v : Value) (l : List Nd) (k : Nat) (D1 : Dk) (y z : Value) (wr : World) : Prop where
 ts : TS B wr t b L h D1 (P ++ (l.take k).map Nd.page) r
 ap : AppOk h D P D1 (P ++ (l.take k).map Nd.page)
 up : D1.down = false
 kp : Keep (fun k => L.foot k ∨ k = b) w wr
 nv : NodesV B wr v l
 r1 : Kd.R Kd.string 9 wr w.heap.size (fun _ => True) y ((l.take k).map Nd.least)
 r2 : Kd.R (Kd.int .i64) 3 wr w.heap.size (fun _ => True) z (pagesFrom P.length k)

set_option maxHeartbeats 2000000 in
set_option maxRecDepth 100000 in
theorem tree_write (w : World) (B : Nat) (t b : Nat) (L : Loc) (h : Nat) (D : Dk) (P : List Pg) (r : Rt) (v : Value) (l : List Nd) (hB : B ≤ w.heap.size) (T : TS B w t b L h D P r) (up : D.down = false) (N : NodesV B w v l) (hl : ∀ n ∈ l, n.Fit) :
  Calls Tryz.prog 192 #[.pointer (some ⟨t, 0, none⟩), v] w fun e w' => ∃ D' P', TS B w' t b L h D' P' r ∧ AppOk h D P D' P' ∧ Keep (fun k => L.foot k ∨ k = b) w w' ∧
   ((∃ v1 v2, e = .returned (.tuple #[v1, v2, .int .i64 0]) ∧ Kd.R Kd.string 9 w' w.heap.size (fun _ => True) v1 (l.map Nd.least) ∧ Kd.R (Kd.int .i64) 3 w' w.heap.size (fun _ => True) v2 (pagesFrom P.length l.length) ∧ P' = P ++ l.map Nd.page ∧ D'.down = false) ∨
    (∃ er, e = .returned (.tuple #[.slice none 0 0, .slice none 0 0, .int .i64 er]) ∧ Bad D D' P' er ∧ P'.length < P.length + l.length)) := by
 have I0 := hi_ (show WrInv B w t b L h D P r v l 0 D (.slice none 0 0) (.slice none 0 0) w from ⟨by simpa using T, by simpa using AppOk.refl T.st.room T.st.holds, up, Keep.refl _ _, N, Kd.R_nil _ _ _ _ _, Kd.R_nil _ _ _ _ _⟩)
 have HL := hi_ hl
 have HBs := hi_ hB
 clear T up N hl hB
 obtain ⟨g, hv⟩ : ∃ g, v = .slice (some ⟨g, 0, none⟩) l.length l.length := by
  rcases I0.out.nv with ⟨a, x, g, rfl, rfl, -, -, -⟩ | ⟨a, b, x, y, g, rfl, rfl, -, -, -, -⟩
  ·exact ⟨g, rfl⟩
  ·exact ⟨g, rfl⟩
 subst hv
 have hm2 : l.length ≤ 2 := by
  rcases I0.out.nv with ⟨a, x, g, rfl, -, -, -, -⟩ | ⟨a, b, x, y, g, rfl, -, -, -, -, -⟩
  ·simp
  ·simp
 obtain ⟨m, hm⟩ : ∃ m, m = l.length := ⟨_, rfl⟩
 have HM := hi_ hm
 rw [← hm] at hm2 ⊢
 have I0 := (hi_ (by have := I0.out; rw [← hm] at this; exact this) : Hid (WrInv B w t b L h D P r (.slice (some ⟨g, 0, none⟩) m m) l 0 D (.slice none 0 0) (.slice none 0 0) w))
 clear hm
 go_enter Tryz.func192, Tryz.ntmps192
 go_wp2_with fail
 go_loopw [15, 7, 8] (fun x y z wr => ∃ (k : Nat) (D1 : Dk), x = .int .i64 k ∧ k ≤ m ∧ Hid (WrInv B w t b L h D P r (.slice (some ⟨g, 0, none⟩) m m) l k D1 y z wr)) (fun x _ _ _ => m - (intOf x).toNat)
 case atStart => exact ⟨0, D, rfl, by omega, I0⟩
 case round =>
  obtain ⟨k, D1, rfl, hk, IV⟩ := hrel
  clear I0
  by_cases hlt : k < m
  ·have hkI : (k : Int) < (m : Int) := by omega
   have HK0 := hi_ hlt
   clear hlt hk
   obtain ⟨n, A1, c1, A2, c2, A3, c3, hn, x0, x1, x2, x3, NV⟩ := IV.out.nv.at HK0.out
   replace NV := hi_ NV
   replace hn := hi_ hn
   have q0 := IV.out.ts.tr.c0
   go_upto_region 6 with fail
   obtain ⟨rr, hrr⟩ : ∃ rr, rr = D1.pgAppend h (P ++ (l.take k).map Nd.page).length n.kind n.pack := ⟨_, rfl⟩
   have T0 := IV.out.ts.below ((Below.refl wr.heap.size wr).alloc (Nat.le_refl _) (.cells #[.int .i64 n.kind, .slice A1 n.keys.length c1, .slice A2 n.vals.length c2, .slice A3 n.kids.length c3] 149 (0, 0)))
   have N0 := NV.out.below ((Below.refl wr.heap.size wr).alloc (Nat.le_refl _) (.cells #[.int .i64 n.kind, .slice A1 n.keys.length c1, .slice A2 n.vals.length c2, .slice A3 n.kids.length c3] 149 (0, 0)))
   have G0 := heap_alloc_self wr (.cells #[.int .i64 n.kind, .slice A1 n.keys.length c1, .slice A2 n.vals.length c2, .slice A3 n.kids.length c3] 149 (0, 0))
   have K0 := IV.out.kp.alloc (.cells #[.int .i64 n.kind, .slice A1 n.keys.length c1, .slice A2 n.vals.length c2, .slice A3 n.kids.length c3] 149 (0, 0))
   have B0 := (Below.refl wr.heap.size wr).alloc (Nat.le_refl _) (.cells #[.int .i64 n.kind, .slice A1 n.keys.length c1, .slice A2 n.vals.length c2, .slice A3 n.kids.length c3] 149 (0, 0))
   generalize wr.alloc (.cells #[.int .i64 n.kind, .slice A1 n.keys.length c1, .slice A2 n.vals.length c2, .slice A3 n.kids.length c3] 149 (0, 0)) = w0 at *
   obtain ⟨g2, hg2⟩ : ∃ g2, g2 = wr.heap.size := ⟨_, rfl⟩
   rw [← hg2] at G0 ⊢
   have HNF := HL.out n (List.mem_of_getElem? hn.out)
   have F0 := hi_ (Fac.of T0.tr G0)
   have hgB : B ≤ g2 := by rw [hg2]; exact Nat.le_trans HBs.out IV.out.kp.size
   have CP : Hid (∀ W, Below w0.heap.size w0 W → Calls Tryz.prog 132 #[.agg #[.int .i64 n.kind, .slice A1 n.keys.length c1, .slice A2 n.vals.length c2, .slice A3 n.kids.length c3]] W fun e w' => e = .returned (.string n.pack) ∧ Below w0.heap.size w0 w' ∧ Fac t b g2 (.int .i64 n.kind) (.slice A1 n.keys.length c1) (.slice A2 n.vals.length c2) (.slice A3 n.kids.length c3) w') := hi_ (by
    intro W hW
    obtain ⟨C1, k1, C2, k2, C3, k3⟩ := (N0.below hW).outs
    refine (node_Pack n.kind _ _ n.keys _ _ n.vals _ _ n.kids W C1 k1 C2 k2 C3 k3 HNF.fine).mono ?_
    rintro e w' ⟨he, hb⟩
    have hb' := hW.trans (hb.mono hW.size)
    exact ⟨he, hb', Fac.of (T0.below hb').tr (blk_below G0 hb')⟩)
   have CA : Hid (∀ W, Below w0.heap.size w0 W → Calls Tryz.prog 65 #[.pointer (some ⟨b, 0, none⟩), .int .i64 n.kind, .string n.pack] W fun e w' => e = .returned (.tuple #[.int .i64 rr.2.2.1, .int .i64 rr.2.2.2]) ∧ (DiskAt w' L rr.1 ∧ PagesAt w' b L h rr.2.1 ∧ Keep (fun k => L.foot k ∨ k = b) w0 w') ∧ Fac t b g2 (.int .i64 n.kind) (.slice A1 n.keys.length c1) (.slice A2 n.vals.length c2) (.slice A3 n.kids.length c3) w') := hi_ (by
    intro W hW
    have S1 := (T0.below hW).st
    have := pages_Append W b L D1 h (P ++ (l.take k).map Nd.page).length n.kind n.pack S1.p S1.d S1.hh S1.room
    rw [← hrr] at this
    refine this.mono ?_
    rintro e w' ⟨he, hd, hp, hk⟩
    have hk' := (Keep.below (F := fun k => L.foot k ∨ k = b) hW).trans hk
    exact ⟨he, ⟨hd, hp, hk'⟩, Fac.of (T0.tr.keep hk' T0.not) (hk'.heap G0 (fun hf => by have := T0.lo _ hf; omega))⟩)
   have HB0 := hi_ (Below.refl w0.heap.size w0)
   replace T0 := hi_ T0
   replace N0 := hi_ N0
   replace G0 := hi_ G0
   replace K0 := hi_ K0
   replace B0 := hi_ B0
   have HN := hi_ HNF
   have HG := hi_ hg2
   have HR := hi_ hrr
   have HGB := hi_ hgB
   clear x0 x1 x2 x3 q0 hrr hg2 hgB HNF
   go_region_held3 (fun w' => w'.cell? ⟨t, 0, none⟩ = some (.pointer (some ⟨b, 0, none⟩)) ∧ w'.cell? ⟨g2, 0, none⟩ = some (.int .i64 n.kind) ∧ w'.cell? ⟨g2, 1, none⟩ = some (.slice A1 n.keys.length c1) ∧ w'.cell? ⟨g2, 2, none⟩ = some (.slice A2 n.vals.length c2) ∧ w'.cell? ⟨g2, 3, none⟩ = some (.slice A3 n.kids.length c3))
    (first | exact F0.out | (with_reducible assumption) | (show Fac _ _ _ _ _ _ _ _; repeat (first | (with_reducible assumption) | exact F0.out | refine Fac.drewN ?_ _ | refine Fac.drew ?_)))
    (first
     | (go_at_call 132; (with_reducible refine (CP.out _ ?_).mono ?_); (repeat (first | (with_reducible assumption) | exact HB0.out | refine bel_drewN ?_ _ | refine bel_drew ?_)); rintro e w1 ⟨rfl, hb1, f1⟩)
     | (go_at_call 65; (with_reducible refine (CA.out _ ?_).mono ?_); (repeat (first | (with_reducible assumption) | exact HB0.out | refine bel_drewN ?_ _ | refine bel_drew ?_)); rintro e w2 ⟨rfl, k2, f2⟩))
   have K2 := hi_ k2
   clear k2 f2 w1 hb1 f1
   have hkd : 0 ≤ n.kind ∧ n.kind ≤ 255 := by have := HN.out.kind; omega
   have Kp := hi_ (K0.out.andThen K2.out.2.2 (fun _ _ hf => hf))
   have hlen : (P ++ (l.take k).map Nd.page).length = P.length + k := by
    have := HM.out
    have := HK0.out
    rw [List.length_append, List.length_map, List.length_take]
    omega
   have hst := IV.out.ts.st
   rcases append_step hst.d.ok IV.out.up hst.hh hst.room hst.holds n.kind n.pack hkd.1 hkd.2 HN.out.size with ⟨hr, D2, e, hup, ha⟩ | ⟨hr, e⟩ | ⟨D2, e, hdn, hlv, ha⟩
   ·obtain ⟨pn, hpn⟩ : ∃ pn, pn = (P ++ (l.take k).map Nd.page).length := ⟨_, rfl⟩
    rw [← hpn] at e
    have HPN := hi_ (hpn.trans hlen)
    obtain rfl : rr = (D2, pn + 1, (pn : Int), 0) := HR.out.trans (by rw [← hpn]; exact e)
    clear hst e
    have T2 := hi_ (show TS B w2 t b L h D2 (P ++ (l.take k).map Nd.page ++ [(n.kind, n.pack)]) r from ⟨⟨K2.out.1, (by have := K2.out.2.1; rw [List.length_append, ← hpn]; exact this), IV.out.ts.st.hh, ha.room, ha.holds⟩, T0.out.tr.keep K2.out.2.2 T0.out.not, IV.out.ts.lo, IV.out.ts.tl⟩)
    have U2 := hi_ hup
    have AP := hi_ (IV.out.ap.trans ha)
    have hgf : ¬ (L.foot g2 ∨ g2 = b) := fun hf => by have := IV.out.ts.lo _ hf; have := HGB.out; omega
    have G2 := hi_ (K2.out.2.2.heap G0.out hgf)
    have N2 := hi_ (N0.out.keep K2.out.2.2 IV.out.ts.lo)
    have R1 := hi_ (R_keepF (Kd.R_below IV.out.r1 B0.out) K2.out.2.2 (fun k hk => Nat.lt_of_lt_of_le (IV.out.ts.lo k hk) HBs.out))
    have R2 := hi_ (R_keepF (Kd.R_below IV.out.r2 B0.out) K2.out.2.2 (fun k hk => Nat.lt_of_lt_of_le (IV.out.ts.lo k hk) HBs.out))
    have NV2 := hi_ ((IV.out.nv.below B0.out).keep K2.out.2.2 IV.out.ts.lo)
    have hsz := hi_ Kp.out.size
    clear hup ha hgf hpn hlen hkd hr
    obtain ⟨ad, c, rfl, hcl, hcK, hcc⟩ := Kd.C_get N2.out.outs.1 ByteArray.empty 0 om_ (by have := HN.out.some; omega)
    have hk1 := N2.out.outs.2.1
    have hkp : (0 : Int) < (n.keys.length : Int) := by have := HN.out.some; omega
    have HLk := hi_ (show (((l.take k).map Nd.least).length + 1) * 16 ≤ 140737488355328 by rw [List.length_map, List.length_take]; omega)
    have c0 := hcc 0 (.string n.least) (by simp [Kd.string, Kd.scalar] at hcK; rw [hcK]; rfl)
    replace c0 : w2.cell? ad = some (.string n.least) := by simpa [Addr.add] using c0
    clear hcc hcK hcl
    have z1 : w2.cell? ⟨g2, 1, none⟩ = some (.slice (some ad) n.keys.length c1) := (cell_of_heap G2.out 1).trans rfl
    have hts : Hid (∀ q, q ∈ 9 :: Kd.string.E → q ≠ 3) := hi_ (by intro q hq; simp [Kd.string, Kd.scalar] at hq; rw [hq]; decide)
    have hti : Hid (∀ q, q ∈ 3 :: (Kd.int .i64).E → q ≠ 9) := hi_ (by intro q hq; simp [Kd.int, Kd.scalar] at hq; rw [hq]; decide)
    have HLp := hi_ (show ((pagesFrom P.length k).length + 1) * 8 ≤ 140737488355328 by rw [pagesFrom_length]; have := HK0.out; omega)
    go_wp2_with (first
     | ((with_reducible refine gate_builtin (b := .append) (xs := #[.tmp 34, .tmp 39]) rfl ?_); at_builtin; refine Kd.R_append Kd.string (w0 := w2) w.heap.size rfl (.tmp 34) (.tmp 39) 22 9 (.string ⟨#[]⟩) 16 rfl Tryz.underlying22 PNd.info9 rfl (by decide) om_ u7 _ n.least [.string n.least] (fun _ => True) (fun _ => False) rfl rfl rfl (fun _ hk => hk.elim) (fun _ _ => trivial) R1.out ((Below.refl w2.heap.size w2).mono hsz.out) hsz.out HLk.out ?_; intro y1 w3 ho1 hb1 hg1 hat1; have R3 := hi_ ho1; have K3 := hi_ (R_grownKeep R1.out hg1); have Q3 := hi_ (Kd.R_mono (Kd.R_grown (R_apart2 R1.out R2.out hti.out) hg1 (fun k hk => hk)) (fun _ _ => trivial : ∀ k, _ → (fun _ => True) k)); have hs3 := hi_ (Nat.le_trans hsz.out K3.out.size); clear ho1 hb1 hg1 hat1)
     | ((with_reducible refine gate_builtin (b := .append) (xs := #[.tmp 41, .tmp 43]) rfl ?_); at_builtin; refine Kd.R_append (Kd.int .i64) (w0 := w3) w.heap.size rfl (.tmp 41) (.tmp 43) 84 3 (.int .i64 0) 8 rfl Tryz.underlying84 PNd.info3 rfl (by decide) om_ u8 _ (pn : Int) [.int .i64 (pn : Int)] (fun _ => True) (fun _ => False) rfl rfl rfl (fun _ hk => hk.elim) (fun _ _ => trivial) Q3.out ((Below.refl w3.heap.size w3).mono hs3.out) hs3.out HLp.out ?_; intro y2 w4 ho2 hb2 hg2 hat2; have Q4 := hi_ ho2; have K4 := hi_ (R_grownKeep Q3.out hg2); have R4 := hi_ (Kd.R_mono (Kd.R_grown (R_apart2 Q3.out R3.out hts.out) hg2 (fun k hk => hk)) (fun _ _ => trivial : ∀ k, _ → (fun _ => True) k)); clear ho2 hb2 hg2 hat2))
    have hk4 := (Kp.out.andThen K3.out (fun i hi hg => by omega)).andThen K4.out (fun i hi hg => by omega)
    have hT := (T2.out.hi (K3.out.mono (fun i _ hi => Nat.le_trans HBs.out hi))).hi (K4.out.mono (fun i _ hi => Nat.le_trans HBs.out hi))
    have hA := AP.out
    have h1 := R4.out
    have h2 := Q4.out
    have hpn := HPN.out
    have htk := take_snoc l k n hn.out
    refine ⟨⟨k + 1, D2, by simp, HK0.out, hi_ ⟨?_, ?_, U2.out, hk4, (by have := I0.out.nv.keep hk4 IV.out.ts.lo; rw [← HM.out] at this; exact this), ?_, ?_⟩⟩, ?_⟩
    ·rw [htk, List.map_append, ← List.append_assoc]; exact hT
    ·rw [htk, List.map_append, ← List.append_assoc]; exact hA
    ·rw [htk, List.map_append]; exact h1
    ·rw [pagesFrom, ← hpn]; exact h2
    ·have := HK0.out; simp [intOf]; omega
   ·obtain ⟨pn, hpn⟩ : ∃ pn, pn = (P ++ (l.take k).map Nd.page).length := ⟨_, rfl⟩
    rw [← hpn] at e
    obtain rfl : rr = (D1, pn, (-1 : Int), 5) := HR.out.trans (by rw [← hpn]; exact e)
    have hT := hi_ (show TS B w2 t b L h D1 (P ++ (l.take k).map Nd.page) r from ⟨⟨K2.out.1, (by have := K2.out.2.1; rw [← hpn]; exact this), IV.out.ts.st.hh, IV.out.ts.st.room, IV.out.ts.st.holds⟩, T0.out.tr.keep K2.out.2.2 T0.out.not, IV.out.ts.lo, IV.out.ts.tl⟩)
    have hr := hi_ hr
    have hlen := hi_ hlen
    clear hst e hpn
    go_wp2_with fail
    go_ret3
    exact ⟨D1, _, hT.out, IV.out.ap, Kp.out, .inr ⟨5, rfl, .inl ⟨rfl, IV.out.up, hr.out⟩, by rw [hlen.out]; have := HK0.out; omega⟩⟩
   ·obtain ⟨pn, hpn⟩ : ∃ pn, pn = (P ++ (l.take k).map Nd.page).length := ⟨_, rfl⟩
    rw [← hpn] at e
    obtain rfl : rr = (D2, pn, (-1 : Int), 6) := HR.out.trans (by rw [← hpn]; exact e)
    have hT := hi_ (show TS B w2 t b L h D2 (P ++ (l.take k).map Nd.page) r from ⟨⟨K2.out.1, (by have := K2.out.2.1; rw [← hpn]; exact this), IV.out.ts.st.hh, ha.room, ha.holds⟩, T0.out.tr.keep K2.out.2.2 T0.out.not, IV.out.ts.lo, IV.out.ts.tl⟩)
    have hlen := hi_ hlen
    have AP := hi_ (IV.out.ap.trans ha)
    have hdn := hi_ hdn
    have hlv := hi_ (fun l0 => hlv (IV.out.ap.wr.live l0))
    clear hst e hpn
    go_wp2_with fail
    go_ret3
    exact ⟨D2, _, hT.out, AP.out, Kp.out, .inr ⟨6, rfl, .inr ⟨rfl, hdn.out, hlv.out⟩, by rw [hlen.out]; have := HK0.out; omega⟩⟩
  ·have hkI : ¬ (k : Int) < (m : Int) := by omega
   obtain rfl : k = m := by omega
   go_wp2_with fail
   go_ret3
   have htk : l.take k = l := by rw [HM.out]; exact List.take_length
   have IO := IV.out
   refine ⟨D1, _, IO.ts, IO.ap, IO.kp, .inl ⟨_, _, rfl, ?_, IO.r2, ?_, IO.up⟩⟩
   ·have := IO.r1; rw [htk] at this; exact this
   ·rw [htk]
end Go.Proofs.YtendgmblgdkiaaaGreat

namespace Go.Proofs.YtendgmblgdkiaaaGreat
open Go.RowKit
open Go.Proofs.YtendgmblgdkiaaaGreatW
set_option linter.unusedVariables false
set_option linter.unusedSimpArgs false

abbrev KV := BA × BA
def headK : List KV → BA
 | [] => ByteArray.empty
 | a :: _ => a.1
/-- By rising keys. -/
def Srt (l : List KV) : Prop := l.Pairwise fun a b => blt a.1 b.1 = true
def Good (l : List KV) : Prop := Srt l ∧ ∀ p ∈ l, keyOk p.1 = true ∧ valOk p.2 = true
/-- A key has a value, or none. -/
def ed (key : BA) (ov : Option BA) (l : List KV) : List KV :=
 l.filter (fun p => blt p.1 key) ++ (ov.toList.map fun v => (key, v)) ++ l.filter (fun p => blt key p.1)

theorem filter_all {α : Type} {p : α → Bool} : ∀ {l : List α}, (∀ a ∈ l, p a = true) → l.filter p = l := fun h => List.filter_eq_self.2 h
theorem filter_none {α : Type} {p : α → Bool} {l : List α} (h : ∀ a ∈ l, p a = false) : l.filter p = [] := List.filter_eq_nil_iff.2 (fun a ha => by simp [h a ha])
theorem ed_mid {key : BA} {ov : Option BA} {A M C : List KV} (hA : ∀ a ∈ A, blt a.1 key = true) (hC : ∀ c ∈ C, blt key c.1 = true) : ed key ov (A ++ M ++ C) = A ++ ed key ov M ++ C := by
 unfold ed
 have hA' : A.filter (fun p => blt key p.1) = [] := filter_none fun a ha => blt_asymm (hA a ha)
 have hC' : C.filter (fun p => blt p.1 key) = [] := filter_none fun a ha => blt_asymm (hC a ha)
 have hA2 : A.filter (fun p => blt p.1 key) = A := filter_all hA
 have hC2 : C.filter (fun p => blt key p.1) = C := filter_all hC
 simp only [List.filter_append, hA', hC', hA2, hC2, List.append_nil, List.nil_append]
 simp only [List.append_assoc]
theorem ed_mem {key : BA} {ov : Option BA} {l : List KV} {p : KV} (h : p ∈ ed key ov l) : p ∈ l ∨ ∃ v, ov = some v ∧ p = (key, v) := by
 unfold ed at h
 simp only [List.mem_append, List.mem_filter, List.mem_map, Option.mem_toList] at h
 rcases h with (h | ⟨v, hv, rfl⟩) | h
 ·exact .inl h.1
 ·exact .inr ⟨v, hv, rfl⟩
 ·exact .inl h.1
theorem ed_srt {key : BA} {ov : Option BA} {l : List KV} (h : Srt l) : Srt (ed key ov l) := by
 unfold Srt ed at *
 refine List.pairwise_append.2 ⟨List.pairwise_append.2 ⟨h.filter _, ?_, ?_⟩, h.filter _, ?_⟩
 ·cases ov <;> simp
 ·intro a ha b hb
  simp only [List.mem_filter, List.mem_map, Option.mem_toList] at ha hb
  obtain ⟨v, hv, rfl⟩ := hb
  exact ha.2
 ·intro a ha b hb
  simp only [List.mem_append, List.mem_filter, List.mem_map, Option.mem_toList] at ha hb
  rcases ha with ha | ⟨v, hv, rfl⟩
  ·exact blt_trans ha.2 hb.2
  ·exact hb.2
theorem ed_good {key : BA} {ov : Option BA} {l : List KV} (h : Good l) (hk : keyOk key = true) (hv : ∀ v, ov = some v → valOk v = true) : Good (ed key ov l) :=
 ⟨ed_srt h.1, fun p hp => by
  rcases ed_mem hp with h1 | ⟨v, e, rfl⟩
  ·exact h.2 p h1
  ·exact ⟨hk, hv v e⟩⟩
theorem good_app {A B : List KV} (h : Good (A ++ B)) : Good A ∧ Good B ∧ ∀ a ∈ A, ∀ b ∈ B, blt a.1 b.1 = true := by
 obtain ⟨h1, h2⟩ := h
 obtain ⟨hA, hB, hAB⟩ := List.pairwise_append.1 h1
 exact ⟨⟨hA, fun p hp => h2 p (List.mem_append_left _ hp)⟩, ⟨hB, fun p hp => h2 p (List.mem_append_right _ hp)⟩, hAB⟩

/-- A child: its least key, its page, what it has. -/
structure Pt where
 k : BA
 c : Nat
 kv : List KV
def leafOf (l : List KV) : Nd := ⟨1, l.map (·.1), l.map (·.2), []⟩
def branchOf (ps : List Pt) : Nd := ⟨2, ps.map Pt.k, [], ps.map fun p => (p.c : Int)⟩
def kvsOf (ps : List Pt) : List KV := (ps.map Pt.kv).flatten
/-- A node of a level has this. -/
def Cn (P : List Pg) : Nat → Nd → List KV → Prop
 | 0, _, _ => False
 | 1, n, kvs => n = leafOf kvs
 | l + 2, n, kvs => ∃ ps : List Pt, n = branchOf ps ∧ kvs = kvsOf ps ∧ ps ≠ [] ∧ ∀ p ∈ ps, p.kv ≠ [] ∧ headK p.kv = p.k ∧ ∃ m : Nd, P[p.c]? = some m.page ∧ m.Fit ∧ 2 ≤ m.keys.length ∧ Cn P (l + 1) m p.kv
/-- A page of a level has this. -/
def On (P : List Pg) (l : Nat) (p : Pt) : Prop := p.kv ≠ [] ∧ headK p.kv = p.k ∧ ∃ m : Nd, P[p.c]? = some m.page ∧ m.Fit ∧ 2 ≤ m.keys.length ∧ Cn P l m p.kv
theorem cn_branch {P : List Pg} {l : Nat} {n : Nd} {kvs : List KV} : Cn P (l + 2) n kvs ↔ ∃ ps : List Pt, n = branchOf ps ∧ kvs = kvsOf ps ∧ ps ≠ [] ∧ ∀ p ∈ ps, On P (l + 1) p := Iff.rfl
theorem Cn.pre {P X : List Pg} : ∀ {l : Nat} {n : Nd} {kvs : List KV}, Cn P l n kvs → Cn (P ++ X) l n kvs
 | 0, _, _, h => h
 | 1, _, _, h => h
 | l + 2, n, kvs, ⟨ps, h1, h2, h3, h4⟩ => ⟨ps, h1, h2, h3, fun p hp => by
  obtain ⟨a, b, m, c, d, e, f⟩ := h4 p hp
  exact ⟨a, b, m, by rw [List.getElem?_append_left (List.getElem?_eq_some_iff.1 c).1]; exact c, d, e, Cn.pre f⟩⟩
theorem On.pre {P X : List Pg} {l : Nat} {p : Pt} (h : On P l p) : On (P ++ X) l p := by
 obtain ⟨a, b, m, c, d, e, f⟩ := h
 exact ⟨a, b, m, by rw [List.getElem?_append_left (List.getElem?_eq_some_iff.1 c).1]; exact c, d, e, f.pre⟩
theorem kvsOf_app (a b : List Pt) : kvsOf (a ++ b) = kvsOf a ++ kvsOf b := by simp [kvsOf]
theorem kvsOf_cons (a : Pt) (b : List Pt) : kvsOf (a :: b) = a.kv ++ kvsOf b := by simp [kvsOf]
theorem kvsOf_mem {p : Pt} {ps : List Pt} {x : KV} (hp : p ∈ ps) (hx : x ∈ p.kv) : x ∈ kvsOf ps := List.mem_flatten.2 ⟨p.kv, List.mem_map.2 ⟨p, hp, rfl⟩, hx⟩

/-- Entries' sizes. -/
def e1 (p : KV) : Nat := (vText p.1).size + (vText p.2).size
def e2 (p : Pt) : Nat := (vText p.k).size + (vNum p.c).size
theorem leaf_S (l : List KV) (i : Nat) (hi : i ≤ l.length) : (leafOf l).S i = ((l.take i).map e1).sum := by
 induction i with
 | zero => rfl
 | succ i ih =>
  rw [Nd.S_succ, ih (by omega), List.take_succ_eq_append_getElem (show i < l.length by omega), List.map_append, List.sum_append]
  congr 1
  have h1 : (l.map (·.1)).getD i ByteArray.empty = (l[i]'om_).1 := by simp [List.getD_eq_getElem?_getD, List.getElem?_eq_getElem (show i < l.length by omega)]
  have h2 : (l.map (·.2)).getD i ByteArray.empty = (l[i]'om_).2 := by simp [List.getD_eq_getElem?_getD, List.getElem?_eq_getElem (show i < l.length by omega)]
  simp only [Nd.ent, leafOf, entryOf, if_true, h1, h2, ByteArray.size_append, e1, List.map_cons, List.map_nil, List.sum_cons, List.sum_nil, Nat.add_zero]
theorem branch_S (l : List Pt) (i : Nat) (hi : i ≤ l.length) : (branchOf l).S i = ((l.take i).map e2).sum := by
 induction i with
 | zero => rfl
 | succ i ih =>
  rw [Nd.S_succ, ih (by omega), List.take_succ_eq_append_getElem (show i < l.length by omega), List.map_append, List.sum_append]
  congr 1
  have h1 : (l.map Pt.k).getD i ByteArray.empty = (l[i]'om_).k := by simp [List.getD_eq_getElem?_getD, List.getElem?_eq_getElem (show i < l.length by omega)]
  have h2 : (l.map fun p => (p.c : Int)).getD i 0 = ((l[i]'om_).c : Int) := by simp [List.getD_eq_getElem?_getD, List.getElem?_eq_getElem (show i < l.length by omega)]
  simp only [Nd.ent, branchOf, entryOf, if_neg (show ¬ (2 : Int) = 1 by decide), h1, h2, ByteArray.size_append, e2, List.map_cons, List.map_nil, List.sum_cons, List.sum_nil, Nat.add_zero, Int.toNat_natCast]
end Go.Proofs.YtendgmblgdkiaaaGreat

namespace Go.Proofs.YtendgmblgdkiaaaGreat
open Go.RowKit
open Go.Proofs.YtendgmblgdkiaaaGreatW
set_option linter.unusedVariables false
set_option linter.unusedSimpArgs false

theorem isAt_eq (key : BA) (l : List BA) (h : lb key l < l.length) : isAt key l = true ↔ l.getD (lb key l) ByteArray.empty = key := by
 unfold isAt
 rw [Bool.and_eq_true, decide_eq_true_eq, beq_iff_eq]
 exact ⟨fun h => ba_inj h.2, fun e => ⟨h, by rw [e]⟩⟩
theorem isAt_cons {a key : BA} {l : List BA} (h : blt a key = true) : isAt key (a :: l) = isAt key l := by
 unfold isAt
 simp only [lb, h, if_true, List.length_cons, List.getD_cons_succ, Nat.add_lt_add_iff_right]
/-- What is less is taken, what is more is dropped to. -/
theorem filters (key : BA) : ∀ (l : List KV), Srt l → l.filter (fun p => blt p.1 key) = l.take (lb key (l.map (·.1))) ∧ l.filter (fun p => blt key p.1) = l.drop (if isAt key (l.map (·.1)) then lb key (l.map (·.1)) + 1 else lb key (l.map (·.1)))
 | [], _ => by simp [lb]
 | a :: r, h => by
  obtain ⟨h1, h2⟩ := List.pairwise_cons.1 h
  obtain ⟨i1, i2⟩ := filters key r h2
  by_cases ha : blt a.1 key = true
  ·have hk := blt_asymm ha
   have e1 : lb key ((a :: r).map (·.1)) = lb key (r.map (·.1)) + 1 := by simp [lb, ha]
   have e2 : isAt key ((a :: r).map (·.1)) = isAt key (r.map (·.1)) := isAt_cons ha
   rw [e1, e2]
   refine ⟨by simp [ha, i1], ?_⟩
   have : (if isAt key (r.map (·.1)) then lb key (r.map (·.1)) + 1 + 1 else lb key (r.map (·.1)) + 1) = (if isAt key (r.map (·.1)) then lb key (r.map (·.1)) + 1 else lb key (r.map (·.1))) + 1 := by split <;> rfl
   rw [this, List.drop_succ_cons]
   simp [hk, i2]
  ·have ha' : blt a.1 key = false := by simpa using ha
   have e1 : lb key ((a :: r).map (·.1)) = 0 := by simp [lb, ha']
   have hn : ∀ x ∈ r, blt x.1 key = false := by
    intro x hx
    cases hb : blt x.1 key with
    | false => rfl
    | true => exact absurd (blt_trans (h1 x hx) hb) ha
   rw [e1]
   refine ⟨by rw [List.take_zero]; exact filter_none (fun x hx => by rcases List.mem_cons.1 hx with rfl | hx; exact ha'; exact hn x hx), ?_⟩
   have hlt : lb key ((a :: r).map (·.1)) < ((a :: r).map (·.1)).length := by rw [e1]; simp
   by_cases hk : a.1 = key
   ·have e2 : isAt key ((a :: r).map (·.1)) = true := by rw [isAt_eq _ _ hlt, e1]; simpa using hk
    rw [if_pos e2]
    have hall : ∀ x ∈ r, blt key x.1 = true := fun x hx => hk ▸ h1 x hx
    have hself : blt key a.1 = false := by rw [hk]; exact blt_irrefl key
    simp [hself, filter_all hall]
   ·have e2 : ¬ isAt key ((a :: r).map (·.1)) = true := by rw [isAt_eq _ _ hlt, e1]; simpa using hk
    rw [if_neg e2]
    have hka : blt key a.1 = true := by
     cases hb : blt key a.1 with
     | true => rfl
     | false => exact absurd (blt_total ha' hb) hk
    have hall : ∀ x ∈ a :: r, blt key x.1 = true := by
     intro x hx
     rcases List.mem_cons.1 hx with rfl | hx
     ·exact hka
     ·exact blt_trans hka (h1 x hx)
    rw [List.drop_zero]
    exact filter_all hall
theorem put_leaf (key v : BA) (l : List KV) (h : Srt l) : (⟨1, putKeys key (l.map (·.1)), putVals key v (l.map (·.1)) (l.map (·.2)), []⟩ : Nd) = leafOf (ed key (some v) l) := by
 obtain ⟨f1, f2⟩ := filters key l h
 unfold leafOf ed putKeys putVals cutIn
 rw [f1, f2]
 simp only [List.map_append, List.map_take, List.map_drop, Option.toList_some, List.map_cons, List.map_nil]
theorem del_leaf (key : BA) (l : List KV) (h : Srt l) (hi : isAt key (l.map (·.1)) = true) : (⟨1, delAt (l.map (·.1)) (lb key (l.map (·.1))), delAt (l.map (·.2)) (lb key (l.map (·.1))), []⟩ : Nd) = leafOf (ed key none l) := by
 obtain ⟨f1, f2⟩ := filters key l h
 rw [if_pos hi] at f2
 unfold leafOf ed delAt
 rw [f1, f2]
 simp only [List.map_append, List.map_take, List.map_drop, Option.toList_none, List.map_nil, List.append_nil]

theorem sum_filter_two {f : KV → Nat} {p q : KV → Bool} : ∀ (l : List KV), (∀ a ∈ l, p a = true → q a = false) → ((l.filter p).map f).sum + ((l.filter q).map f).sum ≤ (l.map f).sum
 | [], _ => by simp
 | a :: r, h => by
  have ih := sum_filter_two (f := f) r (fun a ha => h a (List.mem_cons_of_mem _ ha))
  have ha := h a List.mem_cons_self
  cases hp : p a
  ·cases hq : q a <;> simp [hp, hq] <;> omega
  ·have hq := ha hp
   simp [hp, hq]; omega
theorem len_filter_two {p q : KV → Bool} (l : List KV) (h : ∀ a ∈ l, p a = true → q a = false) : (l.filter p).length + (l.filter q).length ≤ l.length := by
 have := sum_filter_two (f := fun _ => 1) l h
 simpa [List.map_const', List.sum_replicate_nat] using this
theorem ed_sum (key : BA) (ov : Option BA) (l : List KV) : ((ed key ov l).map e1).sum ≤ (l.map e1).sum + (match ov with | some v => e1 (key, v) | none => 0) := by
 have := sum_filter_two (f := e1) (p := fun p => blt p.1 key) (q := fun p => blt key p.1) l (fun a _ h => blt_asymm h)
 unfold ed
 simp only [List.map_append, List.sum_append]
 cases ov <;> simp <;> omega
theorem ed_len (key : BA) (ov : Option BA) (l : List KV) : (ed key ov l).length ≤ l.length + 1 := by
 have := len_filter_two (p := fun p => blt p.1 key) (q := fun p => blt key p.1) l (fun a _ h => blt_asymm h)
 unfold ed
 cases ov <;> simp <;> omega
/-- With a value there are no less. -/
theorem ed_more (key v : BA) (l : List KV) (h : Srt l) : l.length ≤ (ed key (some v) l).length := by
 obtain ⟨f1, f2⟩ := filters key l h
 unfold ed
 rw [f1, f2]
 have := lb_le key (l.map (·.1))
 simp only [List.length_map] at this
 split <;> simp <;> omega

theorem vNum_le5 {x : Nat} (h : x ≤ 2147483647) : 1 ≤ (vNum x).size ∧ (vNum x).size ≤ 5 := by
 rw [vNum_size]
 exact vNumL_len 5 x om_ om_
theorem keyOk_size {s : BA} (h : keyOk s = true) : 1 ≤ s.size ∧ s.size ≤ 16 := by
 unfold keyOk at h
 have := of_decide_eq_true h
 omega
theorem valOk_size {s : BA} (h : valOk s = true) : s.size ≤ 32 := of_decide_eq_true h
theorem e1_le {p : KV} (h : keyOk p.1 = true ∧ valOk p.2 = true) : 3 ≤ e1 p ∧ e1 p ≤ 50 := by
 have h1 := keyOk_size h.1
 have h2 := valOk_size h.2
 unfold e1
 rw [vText_size, vText_size, vNum_one (by omega), vNum_one (by omega)]
 omega
theorem e2_le {p : Pt} (h : keyOk p.k = true) (hc : p.c ≤ 2147483647) : 3 ≤ e2 p ∧ e2 p ≤ 22 := by
 have h1 := keyOk_size h
 have h2 := vNum_le5 hc
 unfold e2
 rw [vText_size, vNum_one (by omega)]
 omega
theorem sum_ge {α : Type} {f : α → Nat} {a : Nat} : ∀ {l : List α}, (∀ x ∈ l, a ≤ f x) → a * l.length ≤ (l.map f).sum
 | [], _ => by simp
 | x :: r, h => by
  have := sum_ge (l := r) (fun y hy => h y (List.mem_cons_of_mem _ hy))
  have := h x List.mem_cons_self
  simp [Nat.mul_add]; omega
theorem sum_le {α : Type} {f : α → Nat} {a : Nat} : ∀ {l : List α}, (∀ x ∈ l, f x ≤ a) → (l.map f).sum ≤ a * l.length
 | [], _ => by simp
 | x :: r, h => by
  have := sum_le (l := r) (fun y hy => h y (List.mem_cons_of_mem _ hy))
  have := h x List.mem_cons_self
  simp [Nat.mul_add]; omega
end Go.Proofs.YtendgmblgdkiaaaGreat

namespace Go.Proofs.YtendgmblgdkiaaaGreat
open Go.RowKit
open Go.Proofs.YtendgmblgdkiaaaGreatW
set_option linter.unusedVariables false
set_option linter.unusedSimpArgs false

theorem rising_of : ∀ {l : List BA}, l.Pairwise (fun a b => blt a b = true) → rising l = true
 | [], _ => rfl
 | [_], _ => rfl
 | a :: b :: r, h => by
  obtain ⟨h1, h2⟩ := List.pairwise_cons.1 h
  rw [rising, h1 b List.mem_cons_self, rising_of h2]
  rfl
theorem headK_mem {l : List KV} (h : l ≠ []) : ∃ v, (headK l, v) ∈ l := by
 cases l with
 | nil => exact absurd rfl h
 | cons a r => exact ⟨a.2, List.mem_cons_self⟩
/-- A node's children, as their points say. -/
structure Ps (P : List Pg) (l : Nat) (ps : List Pt) : Prop where
 good : Good (kvsOf ps)
 on : ∀ p ∈ ps, On P l p
namespace Ps
variable {P : List Pg} {l : Nat} {ps : List Pt}
theorem key (h : Ps P l ps) {p : Pt} (hp : p ∈ ps) : keyOk p.k = true := by
 obtain ⟨h1, h2, -⟩ := h.on p hp
 obtain ⟨v, hv⟩ := headK_mem h1
 rw [h2] at hv
 exact (h.good.2 _ (kvsOf_mem hp hv)).1
theorem page (h : Ps P l ps) {p : Pt} (hp : p ∈ ps) : p.c < P.length := by
 obtain ⟨-, -, m, h3, -⟩ := h.on p hp
 exact (List.getElem?_eq_some_iff.1 h3).1
/-- Keys rise from child to child. -/
theorem rise : ∀ {ps : List Pt}, Good (kvsOf ps) → (∀ p ∈ ps, On P l p) → (ps.map Pt.k).Pairwise (fun a b => blt a b = true)
 | [], _, _ => List.Pairwise.nil
 | p :: r, hg, ho => by
  rw [kvsOf_cons] at hg
  obtain ⟨g1, g2, g3⟩ := good_app hg
  have ih := rise g2 (fun q hq => ho q (List.mem_cons_of_mem _ hq))
  refine List.pairwise_cons.2 ⟨fun k hk => ?_, ih⟩
  obtain ⟨q, hq, rfl⟩ := List.mem_map.1 hk
  obtain ⟨a1, a2, -⟩ := ho p List.mem_cons_self
  obtain ⟨b1, b2, -⟩ := ho q (List.mem_cons_of_mem _ hq)
  obtain ⟨v, hv⟩ := headK_mem a1
  obtain ⟨u, hu⟩ := headK_mem b1
  rw [← a2, ← b2]
  exact g3 _ hv _ (kvsOf_mem hq hu)
end Ps

/-- What a node with a content is. -/
structure NdOk (n : Nd) : Prop where
 ok : n.ok = true
 fine : n.fine = true
 shape : n.Shape
 ent : ∀ i, i < n.keys.length → n.ent i ≤ 50
 least : 3 * n.keys.length ≤ n.S n.keys.length
theorem leaf_ok {l : List KV} (h : Good l) (hn : l.length ≤ 100000) : NdOk (leafOf l) := by
 have hk : ∀ p ∈ l, keyOk p.1 = true := fun p hp => (h.2 p hp).1
 have hv : ∀ p ∈ l, valOk p.2 = true := fun p hp => (h.2 p hp).2
 have hr : rising (l.map (·.1)) = true := rising_of (List.pairwise_map.2 h.1)
 have hlen : (leafOf l).keys.length = l.length := by simp [leafOf]
 refine ⟨?_, ?_, .inl ⟨rfl, by simp [leafOf], rfl⟩, ?_, ?_⟩
 ·simp only [Nd.ok, nodeOk, leafOf, List.all_map, List.all_nil, hr, Bool.and_true, if_true, List.length_map, List.length_nil, and_self, decide_true, Bool.and_eq_true, List.all_eq_true]
  exact ⟨fun p hp => hk p hp, fun p hp => hv p hp⟩
 ·simp only [Nd.fine, packFine, leafOf, List.all_map, List.all_nil, Bool.and_true, if_true, List.length_map, decide_true, Bool.and_eq_true, List.all_eq_true, decide_eq_true_eq]
  exact ⟨⟨by omega, fun p hp => by have := keyOk_size (hk p hp); simp; omega⟩, fun p hp => by have := valOk_size (hv p hp); simp; omega⟩
 ·intro i hi
  rw [hlen] at hi
  have h1 := (leafOf l).S_succ i
  rw [leaf_S l i (by omega), leaf_S l (i + 1) (by omega), List.take_succ_eq_append_getElem (show i < l.length by omega), List.map_append, List.sum_append] at h1
  have h2 := (e1_le (h.2 _ (List.getElem_mem (show i < l.length by omega)))).2
  simp only [List.map_cons, List.map_nil, List.sum_cons, List.sum_nil] at h1
  omega
 ·rw [hlen, leaf_S l _ (Nat.le_refl _), List.take_length]
  exact sum_ge fun p hp => (e1_le (h.2 p hp)).1
theorem branch_ok {P : List Pg} {l : Nat} {ps : List Pt} (h : Ps P l ps) (hP : P.length ≤ 100000) (h0 : ps ≠ []) (hn : ps.length ≤ 100000) : NdOk (branchOf ps) := by
 have hr : rising (ps.map Pt.k) = true := rising_of (Ps.rise h.good h.on)
 have hlen : (branchOf ps).keys.length = ps.length := by simp [branchOf]
 have hpos : 0 < ps.length := List.length_pos_iff.2 h0
 refine ⟨?_, ?_, .inr ⟨rfl, by simp [branchOf], rfl⟩, ?_, ?_⟩
 ·simp only [Nd.ok, nodeOk, branchOf, List.all_map, List.all_nil, hr, Bool.and_true, List.length_map, List.length_nil, Bool.and_eq_true, List.all_eq_true, if_neg (show ¬ (2 : Int) = 1 by decide), if_true, decide_eq_true_eq]
  refine ⟨⟨fun p hp => h.key hp, fun p hp => ?_⟩, trivial, trivial, hpos⟩
  have := h.page hp
  simp [pageOk]; omega
 ·simp only [Nd.fine, packFine, branchOf, List.all_map, List.all_nil, Bool.and_true, if_neg (show ¬ (2 : Int) = 1 by decide), List.length_map, decide_true, Bool.and_eq_true, List.all_eq_true, decide_eq_true_eq]
  refine ⟨⟨by omega, fun p hp => by have := keyOk_size (h.key hp); simp; omega⟩, fun p hp => ?_⟩
  have := h.page hp
  simp [pageOk]; omega
 ·intro i hi
  rw [hlen] at hi
  have h1 := (branchOf ps).S_succ i
  rw [branch_S ps i (by omega), branch_S ps (i + 1) (by omega), List.take_succ_eq_append_getElem (show i < ps.length by omega), List.map_append, List.sum_append] at h1
  have hm := List.getElem_mem (show i < ps.length by omega)
  have h2 := (e2_le (h.key hm) (by have := h.page hm; omega)).2
  simp only [List.map_cons, List.map_nil, List.sum_cons, List.sum_nil] at h1
  omega
 ·rw [hlen, branch_S ps _ (Nat.le_refl _), List.take_length]
  exact sum_ge fun p hp => (e2_le (h.key hp) (by have := h.page hp; omega)).1
theorem cn_ok {P : List Pg} {l : Nat} {n : Nd} {kvs : List KV} (h : Cn P l n kvs) (hg : Good kvs) (hP : P.length ≤ 100000) (hn : n.keys.length ≤ 100000) : NdOk n := by
 match l, h with
 | 1, h =>
  have h : n = leafOf kvs := h
  subst h
  exact leaf_ok hg (by simpa [leafOf] using hn)
 | l + 2, h =>
  obtain ⟨ps, rfl, rfl, h3, h4⟩ := h
  exact branch_ok (l := l + 1) ⟨hg, h4⟩ hP h3 (by simpa [branchOf] using hn)
theorem cn_kind {P : List Pg} {l : Nat} {n : Nd} {kvs : List KV} (h : Cn P l n kvs) : (n.kind = 1) = (l = 1) ∧ (n.kind = 1 ∨ n.kind = 2) ∧ 1 ≤ l := by
 match l, h with
 | 1, h =>
  have h : n = leafOf kvs := h
  subst h
  exact ⟨by simp [leafOf], .inl rfl, Nat.le_refl _⟩
 | l + 2, h =>
  obtain ⟨ps, rfl, rfl, h3, h4⟩ := h
  exact ⟨by simp [branchOf], .inr rfl, by omega⟩
theorem cn_head {P : List Pg} {l : Nat} {n : Nd} {kvs : List KV} (h : Cn P l n kvs) (h0 : 0 < n.keys.length) : kvs ≠ [] ∧ headK kvs = n.least := by
 match l, h with
 | 1, h =>
  have h : n = leafOf kvs := h
  subst h
  cases kvs with
  | nil => simp [leafOf] at h0
  | cons a r => exact ⟨by simp, rfl⟩
 | l + 2, h =>
  obtain ⟨ps, rfl, rfl, h3, h4⟩ := h
  cases ps with
  | nil => exact absurd rfl h3
  | cons p r =>
   obtain ⟨a, b, -⟩ := h4 p List.mem_cons_self
   rw [kvsOf_cons]
   obtain ⟨kv0, hkv⟩ : ∃ kv0, p.kv = kv0 := ⟨_, rfl⟩
   cases kv0 with
   | nil => exact absurd hkv a
   | cons x y => rw [hkv] at b ⊢; exact ⟨by simp, b⟩
theorem cn_cut {P : List Pg} {l : Nat} {n : Nd} {kvs : List KV} (h : Cn P l n kvs) (c : Nat) (h0 : 0 < c) (h1 : c < n.keys.length) :
  ∃ A B, kvs = A ++ B ∧ Cn P l (n.cut 0 c) A ∧ Cn P l (n.cut c n.keys.length) B ∧ (n.cut 0 c).keys.length = c ∧ (n.cut c n.keys.length).keys.length = n.keys.length - c ∧ (n.cut 0 c).S c = n.S c ∧ (n.cut c n.keys.length).S (n.keys.length - c) = n.S n.keys.length - n.S c := by
 match l, h with
 | 1, h =>
  have h : n = leafOf kvs := h
  subst h
  have hl : (leafOf kvs).keys.length = kvs.length := by simp [leafOf]
  rw [hl] at h1 ⊢
  have ha : (leafOf kvs).cut 0 c = leafOf (kvs.take c) := by simp [Nd.cut, leafOf]
  have hb : (leafOf kvs).cut c kvs.length = leafOf (kvs.drop c) := by
   have : ∀ {α : Type} (f : KV → α), ((kvs.map f).take kvs.length).drop c = (kvs.drop c).map f := by
    intro α f
    rw [← List.length_map f, List.take_length, List.map_drop]
   simp only [Nd.cut, leafOf, this, List.take_nil, List.drop_nil]
  rw [ha, hb]
  refine ⟨kvs.take c, kvs.drop c, (List.take_append_drop c kvs).symm, rfl, rfl, by simp [leafOf]; omega, by simp [leafOf], ?_, ?_⟩
  ·rw [leaf_S _ c (by rw [List.length_take]; omega), leaf_S _ c (by omega), List.take_take, Nat.min_self]
  ·rw [leaf_S _ _ (by rw [List.length_drop]; omega), leaf_S _ _ (Nat.le_refl _), leaf_S _ c (by omega), List.take_length, List.take_of_length_le (by rw [List.length_drop]; omega)]
   have : (kvs.map e1).sum = ((kvs.take c).map e1).sum + ((kvs.drop c).map e1).sum := by rw [← List.sum_append, ← List.map_append, List.take_append_drop]
   omega
 | l + 2, h =>
  obtain ⟨ps, rfl, rfl, h3, h4⟩ := h
  have hl : (branchOf ps).keys.length = ps.length := by simp [branchOf]
  rw [hl] at h1 ⊢
  have ha : (branchOf ps).cut 0 c = branchOf (ps.take c) := by simp [Nd.cut, branchOf]
  have hb : (branchOf ps).cut c ps.length = branchOf (ps.drop c) := by
   have : ∀ {α : Type} (f : Pt → α), ((ps.map f).take ps.length).drop c = (ps.drop c).map f := by
    intro α f
    rw [← List.length_map f, List.take_length, List.map_drop]
   simp only [Nd.cut, branchOf, this, List.take_nil, List.drop_nil]
  rw [ha, hb]
  refine ⟨kvsOf (ps.take c), kvsOf (ps.drop c), by rw [← kvsOf_app, List.take_append_drop], ⟨_, rfl, rfl, ?_, fun p hp => h4 p (List.mem_of_mem_take hp)⟩, ⟨_, rfl, rfl, ?_, fun p hp => h4 p (List.mem_of_mem_drop hp)⟩, by simp [branchOf]; omega, by simp [branchOf], ?_, ?_⟩
  ·intro e; have := congrArg List.length e; rw [List.length_take, List.length_nil] at this; omega
  ·intro e; have := congrArg List.length e; rw [List.length_drop, List.length_nil] at this; omega
  ·rw [branch_S _ c (by rw [List.length_take]; omega), branch_S _ c (by omega), List.take_take, Nat.min_self]
  ·rw [branch_S _ _ (by rw [List.length_drop]; omega), branch_S _ _ (Nat.le_refl _), branch_S _ c (by omega), List.take_length, List.take_of_length_le (by rw [List.length_drop]; omega)]
   have : (ps.map e2).sum = ((ps.take c).map e2).sum + ((ps.drop c).map e2).sum := by rw [← List.sum_append, ← List.map_append, List.take_append_drop]
   omega
end Go.Proofs.YtendgmblgdkiaaaGreat

namespace Go.Proofs.YtendgmblgdkiaaaGreat
open Go.RowKit
open Go.Proofs.YtendgmblgdkiaaaGreatW
set_option linter.unusedVariables false
set_option linter.unusedSimpArgs false

theorem headK_least {l : List KV} (h : Srt l) {x : KV} (hx : x ∈ l) : x.1 = headK l ∨ blt (headK l) x.1 = true := by
 cases l with
 | nil => cases hx
 | cons a r =>
  obtain ⟨h1, -⟩ := List.pairwise_cons.1 h
  rcases List.mem_cons.1 hx with rfl | hx
  ·exact .inl rfl
  ·exact .inr (h1 x hx)
theorem headK_app {A B : List KV} (h : A ≠ []) : headK (A ++ B) = headK A := by
 cases A with
 | nil => exact absurd rfl h
 | cons a r => rfl
theorem child_split {P : List Pg} {l : Nat} {ps : List Pt} (h : Ps P l ps) (h0 : ps ≠ []) (key : BA) (ov : Option BA) :
  ∃ A p C, ps = A ++ p :: C ∧ A.length = childAt key (ps.map Pt.k) ∧ ed key ov (kvsOf ps) = kvsOf A ++ ed key ov p.kv ++ kvsOf C ∧ (∀ v, (key, v) ∈ kvsOf ps → (key, v) ∈ p.kv) := by
 have hpos : 0 < ps.length := List.length_pos_iff.2 h0
 have hle := lb_le key (ps.map Pt.k)
 rw [List.length_map] at hle
 have hi : childAt key (ps.map Pt.k) < ps.length := by
  unfold childAt
  split
  ·rename_i hat
   have := (isAt_lt hat).1
   rwa [List.length_map] at this
  ·omega
 obtain ⟨i, hie⟩ : ∃ i, i = childAt key (ps.map Pt.k) := ⟨_, rfl⟩
 rw [← hie] at hi ⊢
 have hsp : ps = ps.take i ++ ps[i] :: ps.drop (i + 1) := by rw [← List.drop_eq_getElem_cons hi, List.take_append_drop]
 refine ⟨ps.take i, ps[i], ps.drop (i + 1), hsp, by rw [List.length_take]; omega, ?_⟩
 have hg := h.good
 have hkv : kvsOf ps = kvsOf (ps.take i) ++ (ps[i].kv ++ kvsOf (ps.drop (i + 1))) := by
  rw [← kvsOf_cons, ← kvsOf_app, ← hsp]
 rw [hkv] at hg ⊢
 rw [← List.append_assoc]
 obtain ⟨gA, gB, gAB⟩ := good_app hg
 obtain ⟨gp, gC, gpC⟩ := good_app gB
 obtain ⟨o1, o2, -⟩ := h.on ps[i] (List.getElem_mem hi)
 obtain ⟨v0, hv0⟩ := headK_mem o1
 have hrise := rising_of (Ps.rise h.good h.on)
 have hget : ∀ j, (hj : j < ps.length) → (ps.map Pt.k).getD j ByteArray.empty = (ps[j]).k := by
  intro j hj
  simp [List.getD_eq_getElem?_getD, List.getElem?_eq_getElem hj]
 have hkey : (∀ a ∈ kvsOf (ps.take i), blt a.1 key = true) ∧ (∀ c ∈ kvsOf (ps.drop (i + 1)), blt key c.1 = true) → ed key ov (kvsOf (ps.take i) ++ ps[i].kv ++ kvsOf (ps.drop (i + 1))) = kvsOf (ps.take i) ++ ed key ov ps[i].kv ++ kvsOf (ps.drop (i + 1)) ∧ (∀ v, (key, v) ∈ kvsOf (ps.take i) ++ ps[i].kv ++ kvsOf (ps.drop (i + 1)) → (key, v) ∈ ps[i].kv) := by
  rintro ⟨h1, h2⟩
  refine ⟨ed_mid h1 h2, fun v hv => ?_⟩
  simp only [List.mem_append] at hv
  rcases hv with (hv | hv) | hv
  ·have := h1 _ hv; rw [blt_irrefl] at this; cases this
  ·exact hv
  ·have := h2 _ hv; rw [blt_irrefl] at this; cases this
 refine hkey ⟨fun a ha => ?_, fun c hc => ?_⟩
 ·-- what is ahead is less
  have hap : blt a.1 ps[i].k = true := by rw [← o2]; exact gAB a ha _ (List.mem_append_left _ hv0)
  by_cases hat : isAt key (ps.map Pt.k) = true
  ·have e := (isAt_lt hat).2
   have : i = lb key (ps.map Pt.k) := by rw [hie, childAt, if_pos hat]
   rw [← this, hget i hi] at e
   rw [← e]; exact hap
  ·have e : i = lb key (ps.map Pt.k) - 1 := by rw [hie, childAt, if_neg hat]
   have hne : 0 < i := by
    rcases Nat.eq_zero_or_pos i with h | h
    ·rw [h] at ha; simp [kvsOf] at ha
    ·exact h
   have hb := lb_below key (ps.map Pt.k) i om_
   rw [hget i hi] at hb
   exact blt_trans hap hb
 ·-- what is behind is more
  have hpc : blt ps[i].k c.1 = true := by rw [← o2]; exact gpC _ hv0 c hc
  by_cases hat : isAt key (ps.map Pt.k) = true
  ·have e := (isAt_lt hat).2
   have : i = lb key (ps.map Pt.k) := by rw [hie, childAt, if_pos hat]
   rw [← this, hget i hi] at e
   rw [← e]; exact hpc
  ·have e : i = lb key (ps.map Pt.k) - 1 := by rw [hie, childAt, if_neg hat]
   rcases Nat.eq_zero_or_pos (lb key (ps.map Pt.k)) with hz | hz
   ·have hi0 : i = 0 := by omega
    have ha := lb_above key (ps.map Pt.k) hrise i om_ (by rw [List.length_map]; exact hi)
    rw [hget i hi] at ha
    cases hb : blt key ps[i].k with
    | true => exact blt_trans hb hpc
    | false => rw [blt_total hb ha]; exact hpc
   ·have hd : ps.drop (i + 1) ≠ [] := by intro hd; rw [hd] at hc; simp [kvsOf] at hc
    have hl : i + 1 < ps.length := by
     rcases Nat.lt_or_ge (i + 1) ps.length with h | h
     ·exact h
     ·exact absurd (List.drop_eq_nil_of_le h) hd
    have hlb : i + 1 = lb key (ps.map Pt.k) := by omega
    have ha := lb_above key (ps.map Pt.k) hrise (i + 1) om_ (by rw [List.length_map]; exact hl)
    have hne : ¬ (ps.map Pt.k).getD (lb key (ps.map Pt.k)) ByteArray.empty = key := fun h => hat ((isAt_eq _ _ (by rw [List.length_map]; omega)).2 h)
    rw [← hlb] at hne
    rw [hget (i + 1) hl] at ha hne
    have hk : blt key (ps[i + 1]).k = true := by
     cases hb : blt key (ps[i + 1]).k with
     | true => rfl
     | false => exact absurd (blt_total ha hb) hne
    have hdc : ps.drop (i + 1) = ps[i + 1] :: ps.drop (i + 1 + 1) := List.drop_eq_getElem_cons hl
    rw [hdc, kvsOf_cons] at hc gC
    obtain ⟨q1, q2, -⟩ := h.on ps[i + 1] (List.getElem_mem hl)
    rcases headK_least gC.1 hc with h | h
    ·rw [h, headK_app q1, q2]; exact hk
    ·rw [headK_app q1, q2] at h; exact blt_trans hk h

theorem fit_few {n : Nd} (h : NdOk n) (hp : n.pack.size ≤ 240) : n.S n.keys.length ≤ 239 ∧ n.keys.length ≤ 79 := by
 have := n.pack_size
 have h1 := vNum_pos n.keys.length
 have := h.least
 omega
theorem NdOk.fit {n : Nd} (h : NdOk n) (hk : n.kind = 1 ∨ n.kind = 2) (h0 : 0 < n.keys.length) (hl : n.keys.length < 128) (hS : n.S n.keys.length ≤ 239) : n.Fit :=
 ⟨h.fine, hk, h0, by have := n.pack_size; rw [vNum_one hl] at this; omega⟩
/-- The children that writing a node's parts makes. -/
theorem new_pts {P : List Pg} {l : Nat} {n : Nd} {M : List KV} {ns : List Nd} (hC : Cn P l n M) (hM : Good M) (hP : P.length ≤ 90000) (hs : n.Short) (hp : PartsOf n ns) (h2 : ns = [n] → 2 ≤ n.keys.length) :
  (∀ m ∈ ns, m.Fit) ∧ ∃ qs : List Pt, qs.map Pt.k = ns.map Nd.least ∧ (qs.map fun p => (p.c : Int)) = pagesFrom P.length ns.length ∧ kvsOf qs = M ∧ qs ≠ [] ∧ qs.length = ns.length ∧ qs.length ≤ 2 ∧ (∀ q ∈ qs, On (P ++ ns.map Nd.page) l q) := by
 have hk := (cn_kind hC).2.1
 have hok := cn_ok hC hM om_ (by have := hs.few; omega)
 rcases hp with ⟨hp, rfl⟩ | ⟨c, c1, c2, c3, c4, rfl⟩
 ·have h2 := h2 rfl
  obtain ⟨hh1, hh2⟩ := cn_head hC om_
  have hF : n.Fit := ⟨hok.fine, hk, by omega, hp⟩
  refine ⟨by simp [hF], [⟨n.least, P.length, M⟩], rfl, rfl, by simp [kvsOf], by simp, rfl, by simp, ?_⟩
  intro q hq
  obtain rfl := List.mem_singleton.1 hq
  exact ⟨hh1, hh2, n, by simp, hF, h2, hC.pre⟩
 ·obtain ⟨A, B, rfl, hA, hB, l1, l2, s1, s2⟩ := cn_cut hC c om_ om_
  obtain ⟨gA, gB, -⟩ := good_app hM
  have few := hs.few
  have oA := cn_ok hA gA om_ om_
  have oB := cn_ok hB gB om_ om_
  have fA : (n.cut 0 c).Fit := oA.fit (cn_kind hA).2.1 om_ om_ (by rw [l1, s1]; omega)
  have fB : (n.cut c n.keys.length).Fit := oB.fit (cn_kind hB).2.1 om_ om_ (by rw [l2, s2]; omega)
  obtain ⟨a1, a2⟩ := cn_head hA om_
  obtain ⟨b1, b2⟩ := cn_head hB om_
  refine ⟨by simp [fA, fB], [⟨(n.cut 0 c).least, P.length, A⟩, ⟨(n.cut c n.keys.length).least, P.length + 1, B⟩], rfl, rfl, by simp [kvsOf], by simp, rfl, by simp, ?_⟩
  intro q hq
  simp only [List.mem_cons, List.not_mem_nil, or_false] at hq
  rcases hq with rfl | rfl
  ·exact ⟨a1, a2, _, by simp, fA, by omega, hA.pre⟩
  ·exact ⟨b1, b2, _, by simp, fB, by omega, hB.pre⟩
/-- A branch with other children in the middle. -/
theorem swap_ok {P P' : List Pg} {l : Nat} {A B C qs : List Pt} (h : Ps P l (A ++ B ++ C)) (hB : 0 < B.length) (hfit : (branchOf (A ++ B ++ C)).Fit) (hpre : ∃ X, P' = P ++ X) (hP : P'.length ≤ 90000) (hq : ∀ q ∈ qs, On P' l q) (hq0 : qs ≠ []) (hq2 : qs.length ≤ 2) (hg : Good (kvsOf A ++ kvsOf qs ++ kvsOf C)) :
  branchOf (A ++ qs ++ C) = ⟨2, cutIn (branchOf (A ++ B ++ C)).keys A.length (A.length + B.length) (qs.map Pt.k), [], cutIn (branchOf (A ++ B ++ C)).kids A.length (A.length + B.length) (qs.map fun p => (p.c : Int))⟩ ∧
  (branchOf (A ++ qs ++ C)).Short ∧ Ps P' l (A ++ qs ++ C) ∧ kvsOf (A ++ qs ++ C) = kvsOf A ++ kvsOf qs ++ kvsOf C := by
 obtain ⟨X, rfl⟩ := hpre
 rw [List.length_append] at hP
 have hk : kvsOf (A ++ qs ++ C) = kvsOf A ++ kvsOf qs ++ kvsOf C := by rw [kvsOf_app, kvsOf_app]
 have hPs : Ps (P ++ X) l (A ++ qs ++ C) := by
  refine ⟨by rw [hk]; exact hg, fun p hp => ?_⟩
  simp only [List.mem_append] at hp
  rcases hp with (hp | hp) | hp
  ·exact (h.on p (by simp [hp])).pre
  ·exact hq p hp
  ·exact (h.on p (by simp [hp])).pre
 have ho := branch_ok h om_ (by intro e; have := congrArg List.length e; simp only [List.length_append, List.length_nil] at this; omega) (by
  have h1 : (branchOf (A ++ B ++ C)).keys.length = (A ++ B ++ C).length := by simp [branchOf]
  have hle : (branchOf (A ++ B ++ C)).keys.length ≤ (branchOf (A ++ B ++ C)).pack.size := le_packOf 2 (branchOf (A ++ B ++ C)).keys (branchOf (A ++ B ++ C)).vals (branchOf (A ++ B ++ C)).kids
  have := hfit.size
  rw [← h1]
  omega)
 obtain ⟨f1, f2⟩ := fit_few ho hfit.size
 have hl0 : (branchOf (A ++ B ++ C)).keys.length = A.length + B.length + C.length := by simp [branchOf, Nat.add_assoc]
 have hl1 : (branchOf (A ++ qs ++ C)).keys.length = A.length + qs.length + C.length := by simp [branchOf, Nat.add_assoc]
 rw [hl0] at f1 f2
 have hlen : (A ++ qs ++ C).length = A.length + qs.length + C.length := by simp only [List.length_append]
 have hq1 : 0 < qs.length := List.length_pos_iff.2 hq0
 have hn := branch_ok hPs (by rw [List.length_append]; omega) (by intro e; have := congrArg List.length e; simp only [List.length_append, List.length_nil] at this; omega) (by rw [hlen]; omega)
 have s0 := branch_S (A ++ B ++ C) (A.length + B.length + C.length) (by simp; omega)
 have s1 := branch_S (A ++ qs ++ C) (A.length + qs.length + C.length) (by simp; omega)
 rw [List.take_of_length_le (by simp; omega)] at s0 s1
 simp only [List.map_append, List.sum_append] at s0 s1
 have hqs : (qs.map e2).sum ≤ 22 * qs.length := sum_le fun p hp => (e2_le (hPs.key (by simp [hp])) (by have := hPs.page (show p ∈ A ++ qs ++ C by simp [hp]); rw [List.length_append] at this; omega)).2
 have h44 : 22 * qs.length ≤ 44 := by omega
 refine ⟨?_, ⟨hn.fine, hn.shape, hn.ent, by rw [hl1]; omega, by rw [hl1]; omega⟩, hPs, hk⟩
 have hc : ∀ {α : Type} (f : Pt → α), cutIn ((A ++ B ++ C).map f) A.length (A.length + B.length) (qs.map f) = (A ++ qs ++ C).map f := by
  intro α f
  unfold cutIn
  have e1 : ((A ++ B ++ C).map f).take A.length = A.map f := by
   rw [List.map_append, List.map_append, List.append_assoc, List.take_append_of_le_length (by simp), List.take_of_length_le (by simp)]
  have e2 : ((A ++ B ++ C).map f).drop (A.length + B.length) = C.map f := by
   rw [List.map_append, List.drop_append_of_le_length (by simp), List.drop_of_length_le (by simp), List.nil_append]
  rw [e1, e2, List.map_append, List.map_append]
 unfold branchOf
 simp only
 rw [hc, hc]
end Go.Proofs.YtendgmblgdkiaaaGreat

namespace Go.Proofs.YtendgmblgdkiaaaGreat
open Go.RowKit
open Go.Proofs.YtendgmblgdkiaaaGreatW
open PrintWords PrintLast PrintMore
set_option linter.unusedVariables false
set_option linter.unusedSimpArgs false

theorem cap_cell_ {w W : World} {p : Addr} {v : Value} (h : Below w.heap.size w W) (hp : w.cell? p = some v) : W.cell? p = some v := (h.cell (World.block_lt_of_cell? w _ hp)).trans hp
theorem C_one_ {w : World} {g : Nat} {s : BA} (hx : w.heap[g]? = some (.cells #[.string s] 9 (0, 0))) : Kd.C Kd.string w (some ⟨g, 0, none⟩) [s].length [s] := by
 refine Kd.C_of_reads (d := ByteArray.empty) ⟨rfl, by simp, fun _ => ⟨⟨g, 0, none⟩, rfl, fun j hj => ?_⟩⟩
 obtain rfl : j = 0 := by simpa using hj
 exact (cell_of_heap hx 0).trans rfl
def put_lam.T : Bool × List (List Nat × List Nat) := (true, [([], []), ([0], [0]), ([], []), ([2], [2]), ([3], [3]), ([], []), ([], []), ([], []), ([7], [7]), ([4, 5, 6, 8, 4], [4, 5, 6, 8]), ([], []), ([10], [10]), ([11, 9], [11]), ([], []), ([], []), ([], []), ([15], [15]), ([12, 13, 14, 16, 12], [12, 13, 14, 16]), ([1, 9, 17], [1, 9, 17]), ([18, 17, 0, 1, 2, 3, 4, 5, 6, 7, 8, 9, 10, 11, 12, 13, 14, 15, 16, 17, 18], [18])])
def put_lam.B : List Nat := [0, 1, 0, 4, 12, 0, 0, 0, 128, 508, 0, 1024, 4092, 0, 0, 0, 32768, 131068, 262143, 524287]
theorem put_lam.tab : rtab .any (opsOf Tryz.f100 5) = put_lam.T := by kernel_rfl
theorem put_lam.bits : waitsOk put_lam.T.2 put_lam.B = true := by kernel_rfl
set_option maxHeartbeats 4000000 in
set_option maxRecDepth 100000 in
theorem put_lam (w : World) (B : Nat) (v : Value) (n_ : Nd) (key x_ : BA) (p1 p2 : Addr) (hB : B ≤ w.heap.size) (N : NodeV B w v n_) (hk : n_.kind = 1) (hr : rising n_.keys = true) (hv : n_.vals.length = n_.keys.length) (hn : n_.keys.length ≤ 1000)
  (hp1 : w.cell? p1 = some (.string key)) (hp2 : w.cell? p2 = some (.string x_)) :
  Calls Tryz.prog 100 #[v, .pointer (some p1), .pointer (some p2)] w fun e w' => ∃ v', e = .returned v' ∧ NodeV B w' v' ⟨1, putKeys key n_.keys, putVals key x_ n_.keys n_.vals, []⟩ ∧ Below w.heap.size w w' := by
 obtain ⟨A1, a1, A2, a2, A3, a3, rfl, C1, K1, C2, K2, C3, K3⟩ := N.out
 rw [hk]
 have hle := lb_le key n_.keys
 have hlt : isAt key n_.keys = true → lb key n_.keys < n_.keys.length := fun h => (isAt_lt h).1
 have hf := find_f 1 n_.keys n_.vals n_.kids key hr om_ 2000 om_
 obtain ⟨ks_, hks⟩ : ∃ l, l = putKeys key n_.keys := ⟨_, rfl⟩
 obtain ⟨vs_, hvs⟩ : ∃ l, l = putVals key x_ n_.keys n_.vals := ⟨_, rfl⟩
 rw [← hks, ← hvs]
 unfold putKeys at hks
 unfold putVals at hvs
 obtain ⟨i_, hi⟩ : ∃ i, i = lb key n_.keys := ⟨_, rfl⟩
 obtain ⟨is_, his⟩ : ∃ b, b = isAt key n_.keys := ⟨_, rfl⟩
 obtain ⟨j_, hj⟩ : ∃ j : Nat, j = (if is_ then i_ + 1 else i_) := ⟨_, rfl⟩
 rw [← hi] at hf hle hlt hks hvs
 rw [← his] at hf hlt hks hvs
 rw [← hj] at hks hvs
 have hji : i_ ≤ j_ ∧ j_ ≤ n_.keys.length := by cases is_ with | true => have := hlt rfl; simp at hj; omega | false => simp at hj; omega
 have E1 := am_ (show PNd.slices_Replace_string_string.f n_.keys (i_ : Int) (j_ : Int) [key] = some ks_ by rw [hks]; exact repl_f n_.keys _ j_ [key] hji.1 hji.2 (by simp) (by simp; omega))
 have E2 := am_ (show PNd.slices_Replace_string_string.f n_.vals (i_ : Int) (j_ : Int) [x_] = some vs_ by rw [hvs]; exact repl_f n_.vals _ j_ [x_] hji.1 om_ (by simp) (by simp; omega))
 have L1 := am_ (show PCl.slices_Clone_string_string.f n_.keys = some n_.keys from clone_s n_.keys om_)
 have L2 := am_ (show PCl.slices_Clone_string_string.f n_.vals = some n_.vals from clone_s n_.vals om_)
 have HF := am_ hf
 have HJ := am_ hj
 have HIJ := am_ hji
 have HNN := am_ hn
 have HP1 := am_ hp1
 have HP2 := am_ hp2
 replace C1 := am_ C1
 replace K1 := am_ K1
 replace C2 := am_ C2
 replace K2 := am_ K2
 replace C3 := am_ C3
 replace K3 := am_ K3
 have HBs := hi_ hB
 have HTS : Aside0 (∀ q, q ∈ 9 :: Kd.string.E → q ≠ 149) := am_ (by intro q hq; simp [Kd.string, Kd.scalar] at hq; rw [hq]; decide)
 clear N hB hk hr hv hn hp1 hp2 hle hlt hf hks hvs hi his hj hji
 go_enter Tryz.func100, Tryz.ntmps100
 go_upto_region 1 with fail
 have X3 := am_ (blk_alloc (blk_new w (.cells #[.int .i64 1, .slice A1 n_.keys.length a1, .slice A2 n_.vals.length a2, .slice A3 n_.kids.length a3] 149 (0, 0))) (.cells #[.int .i64 0, .slice none 0 0, .slice none 0 0, .slice none 0 0] 149 (0, 0)))
 have XG := am_ (blk_new (w.alloc (.cells #[.int .i64 1, .slice A1 n_.keys.length a1, .slice A2 n_.vals.length a2, .slice A3 n_.kids.length a3] 149 (0, 0))) (.cells #[.int .i64 0, .slice none 0 0, .slice none 0 0, .slice none 0 0] 149 (0, 0)))
 have HB := am_ (below_alloc (below_alloc (Below.refl w.heap.size w) (.cells #[.int .i64 1, .slice A1 n_.keys.length a1, .slice A2 n_.vals.length a2, .slice A3 n_.kids.length a3] 149 (0, 0))) (.cells #[.int .i64 0, .slice none 0 0, .slice none 0 0, .slice none 0 0] 149 (0, 0)))
 simp only [World.size_alloc] at X3 XG
 generalize (w.alloc (.cells #[.int .i64 1, .slice A1 n_.keys.length a1, .slice A2 n_.vals.length a2, .slice A3 n_.kids.length a3] 149 (0, 0))).alloc (.cells #[.int .i64 0, .slice none 0 0, .slice none 0 0, .slice none 0 0] 149 (0, 0)) = w0 at *
 obtain ⟨g3, hg3⟩ : ∃ g, g = w.heap.size := ⟨_, rfl⟩
 obtain ⟨g4, hg4⟩ : ∃ g, g = w.heap.size + 1 := ⟨_, rfl⟩
 have HG := am_ (show w.heap.size ≤ g4 by omega)
 rw [← hg4, ← hg3]
 rw [← hg3] at X3
 rw [← hg4] at XG
 clear hg3 hg4
 have x0 := blk_cell X3.out 0
 have x1 := blk_cell X3.out 1
 have x2 := blk_cell X3.out 2
 have x3 := blk_cell X3.out 3
 have c1 := cap_cell_ HB.out HP1.out
 go_wp2_with fail
 refine (PNd.node_Node_Find.calls 2000 1 A1 a1 n_.keys A2 a2 n_.vals A3 a3 n_.kids key _ _ w0 (Kd.C_below C1.out HB.out) K1.out (Kd.C_below C2.out HB.out) K2.out (Kd.C_below C3.out HB.out) K3.out HF.out).mono ?_
 rintro e w1 ⟨rfl, hb⟩
 replace X3 := am_ (blk_below X3.out hb)
 replace XG := am_ (blk_below XG.out hb)
 replace HB := am_ (below_then HB.out HB.out.size hb)
 clear hb x0 x1 x2 x3 c1
 go_upto_if 15 with fail
 have hi1 : (i_ : Int) ≤ 100000 := by have := HIJ.out; have := HNN.out; omega
 go_cut [7] (fun v wc => v = .int .i64 (j_ : Int) ∧ wc = w1)
 case first =>
  cases is_ with
  | true =>
   go_wp2_with fail
   go_meet
   case rel => exact ⟨by rw [HJ.out]; rfl, rfl⟩
  | false =>
   go_wp2_with fail
   go_meet
   case rel => exact ⟨by rw [HJ.out]; rfl, rfl⟩
 case rest =>
 obtain ⟨rfl, rfl⟩ := hcut
 go_upto_region 5 with fail
 generalize wc = wc at *
 refine start_ (n := 20) (S := fun w' => True) (ds := []) (bz 20 0) kr_ rfl rfl trivial (fun hHeld => ?_); refine with_tabW put_lam.tab put_lam.bits (fun HT_ HW_ => ?_)
 have n0 := am_ (below_drew1 HB.out); have n1 := am_ (blk_drew X3.out); have n3 := am_ (blk_drew XG.out)
 clear HB X3 XG
 have HB := n0; have X3 := n1; have XG := n3
 clear n0 n1 n3
 generalize wc.drew = wc at *
 refine pure_ (i := 0) (N := some 18) (v := ?_) (a' := ?_) (bz 20 1) rfl rfl (any_of HT_.out kr_) (fun _ _ _ h => h) (Or.inl ⟨by rfl, ?_⟩) ?_ ?_
 rotate_left
 ·intro w'
  go_simp
  with_reducible rfl
 rotate_left
 ·simp only [Act.put, List.setIfInBounds_toArray, List.set_cons_zero, List.set_cons_succ, i64_w, i32_w]
  rfl
 refine pure_ (i := 2) (N := some 20) (v := ?_) (a' := ?_) (bz 20 5) rfl rfl (any_of HT_.out kr_) (fun _ _ _ h => h) (Or.inl ⟨by rfl, ?_⟩) ?_ ?_
 rotate_left
 ·intro w'
  go_simp
  with_reducible rfl
 rotate_left
 ·simp only [Act.put, List.setIfInBounds_toArray, List.set_cons_zero, List.set_cons_succ, i64_w, i32_w]
  rfl
 refine pure_ (i := 5) (N := some 23) (v := ?_) (a' := ?_) (bz 20 37) rfl rfl (any_of HT_.out kr_) (fun _ _ _ h => h) (Or.inl ⟨by rfl, ?_⟩) ?_ ?_
 rotate_left
 ·intro w'
  go_simp
  with_reducible rfl
 rotate_left
 ·simp only [Act.put, List.setIfInBounds_toArray, List.set_cons_zero, List.set_cons_succ, i64_w, i32_w]
  rfl
 refine pure_ (i := 6) (N := some 24) (v := ?_) (a' := ?_) (bz 20 101) rfl rfl (any_of HT_.out kr_) (fun _ _ _ h => h) (Or.inl ⟨by rfl, ?_⟩) ?_ ?_
 rotate_left
 ·intro w'
  go_simp
  with_reducible rfl
 rotate_left
 ·simp only [Act.put, List.setIfInBounds_toArray, List.set_cons_zero, List.set_cons_succ, i64_w, i32_w]
  rfl
 refine pure_ (i := 10) (N := some 28) (v := ?_) (a' := ?_) (bz 20 1125) rfl rfl (any_of HT_.out kr_) (fun _ _ _ h => h) (Or.inl ⟨by rfl, ?_⟩) ?_ ?_
 rotate_left
 ·intro w'
  go_simp
  with_reducible rfl
 rotate_left
 ·simp only [Act.put, List.setIfInBounds_toArray, List.set_cons_zero, List.set_cons_succ, i64_w, i32_w]
  rfl
 refine pure_ (i := 13) (N := some 31) (v := ?_) (a' := ?_) (bz 20 9317) rfl rfl (any_of HT_.out kr_) (fun _ _ _ h => h) (Or.inl ⟨by rfl, ?_⟩) ?_ ?_
 rotate_left
 ·intro w'
  go_simp
  with_reducible rfl
 rotate_left
 ·simp only [Act.put, List.setIfInBounds_toArray, List.set_cons_zero, List.set_cons_succ, i64_w, i32_w]
  rfl
 refine pure_ (i := 14) (N := some 32) (v := ?_) (a' := ?_) (bz 20 25701) rfl rfl (any_of HT_.out kr_) (fun _ _ _ h => h) (Or.inl ⟨by rfl, ?_⟩) ?_ ?_
 rotate_left
 ·intro w'
  go_simp
  with_reducible rfl
 rotate_left
 ·simp only [Act.put, List.setIfInBounds_toArray, List.set_cons_zero, List.set_cons_succ, i64_w, i32_w]
  rfl
 refine inv_at [1, 3, 4, 7, 8, 9, 11, 12, 15, 16, 17, 18, 19] (fun a0_ b a w' => ∃ (g26 : Nat) (g34 : Nat) (U22 : Option Addr) (k22 : Nat) (U27 : Option Addr) (k27 : Nat) (U30 : Option Addr) (k30 : Nat) (U35 : Option Addr) (k35 : Nat) (m4_ : Value) (m8_ : Value) (m9_ : Value) (m12_ : Value) (m16_ : Value) (m17_ : Value) (m18_ : Value), a = putSel a0_ b [(1, 19, .int .i64 1), (3, 21, .slice A1 n_.keys.length a1), (4, 22, m4_), (7, 25, .string key), (8, 26, m8_), (9, 27, m9_), (11, 29, .slice A2 n_.vals.length a2), (12, 30, m12_), (15, 33, .string x_), (16, 34, m16_), (17, 35, m17_), (18, 36, m18_)] ∧ (Below w.heap.size w w') ∧ (b 19 = false → w'.heap[g3]? = some (.cells #[.int .i64 1, .slice A1 n_.keys.length a1, .slice A2 n_.vals.length a2, .slice A3 n_.kids.length a3] 149 (0, 0))) ∧ (b 19 = false → w'.heap[g4]? = some (.cells #[.int .i64 0, .slice none 0 0, .slice none 0 0, .slice none 0 0] 149 (0, 0))) ∧ (b 19 = true → w'.heap[g4]? = some (.cells #[.int .i64 1, .slice U27 ks_.length k27, .slice U35 vs_.length k35, .slice none 0 0] 149 (0, 0))) ∧ (b 8 = true → b 9 = false → w'.heap[g26]? = some (.cells #[.string key] 9 (0, 0))) ∧ (b 16 = true → b 17 = false → w'.heap[g34]? = some (.cells #[.string x_] 9 (0, 0))) ∧ (b 4 = true → b 9 = false → Kd.R Kd.string 9 w' w.heap.size (fun _ => True) (.slice U22 n_.keys.length k22) n_.keys) ∧ (b 9 = true → Kd.R Kd.string 9 w' w.heap.size (fun _ => True) (.slice U27 ks_.length k27) ks_) ∧ (b 12 = true → b 17 = false → Kd.R Kd.string 9 w' w.heap.size (fun _ => True) (.slice U30 n_.vals.length k30) n_.vals) ∧ (b 17 = true → Kd.R Kd.string 9 w' w.heap.size (fun _ => True) (.slice U35 vs_.length k35) vs_) ∧ (b 4 = true → b 8 = true → b 9 = false → (.slice U22 n_.keys.length k22 : Value).ownBlock ≠ some g26) ∧ (b 4 = true → b 16 = true → b 9 = false → (.slice U22 n_.keys.length k22 : Value).ownBlock ≠ some g34) ∧ (b 12 = true → b 16 = true → b 17 = false → (.slice U30 n_.vals.length k30 : Value).ownBlock ≠ some g34) ∧ (b 12 = true → b 17 = false → ∀ k_, (.slice U27 ks_.length k27 : Value).ownBlock = some k_ → (.slice U30 n_.vals.length k30 : Value).ownBlock ≠ some k_) ∧ (b 4 = true → (m4_ : Value) = .slice U22 n_.keys.length k22) ∧ (b 8 = true → (m8_ : Value) = .slice (some ⟨g26, 0, none⟩) 1 1) ∧ (b 9 = true → (m9_ : Value) = .slice U27 ks_.length k27) ∧ (b 12 = true → (m12_ : Value) = .slice U30 n_.vals.length k30) ∧ (b 16 = true → (m16_ : Value) = .slice (some ⟨g34, 0, none⟩) 1 1) ∧ (b 17 = true → (m17_ : Value) = .slice U35 vs_.length k35) ∧ (b 18 = true → (m18_ : Value) = .agg #[.int .i64 1, .slice U27 ks_.length k27, .slice U35 vs_.length k35, .slice none 0 0])) HT_.out HW_.out kr_ kr_ ?_ ?_ ?_
 ·exact ⟨0, 0, none, 0, none, 0, none, 0, none, 0, .bool false, .bool false, .bool false, .bool false, .bool false, .bool false, .bool false, by simp only [putSel, Bool.false_eq_true, if_false], HB.out, fun _ => X3.out, fun _ => XG.out, fun h_ => absurd h_ (by decide), fun h_ => absurd h_ (by decide), fun h_ => absurd h_ (by decide), fun h_ => absurd h_ (by decide), fun h_ => absurd h_ (by decide), fun h_ => absurd h_ (by decide), fun h_ => absurd h_ (by decide), fun h_ => absurd h_ (by decide), fun h_ => absurd h_ (by decide), fun h_ => absurd h_ (by decide), fun h_ => absurd h_ (by decide), fun h_ => absurd h_ (by decide), fun h_ => absurd h_ (by decide), fun h_ => absurd h_ (by decide), fun h_ => absurd h_ (by decide), fun h_ => absurd h_ (by decide), fun h_ => absurd h_ (by decide), fun h_ => absurd h_ (by decide)⟩
 ·skip
  clear HB X3 XG
  refine steps_cons ?_ ?_
  ·rintro b a w' ⟨g26, g34, U22, k22, U27, k27, U30, k30, U35, k35, m4_, m8_, m9_, m12_, m16_, m17_, m18_, ha, Q_HB, Q_X3, Q_XG, Q_XS, Q_S26, Q_S34, Q_R22, Q_R27, Q_R30, Q_R35, Q_N1, Q_N2, Q_N3, Q_N4, Q_X4_, Q_X8_, Q_X9_, Q_X12_, Q_X16_, Q_X17_, Q_X18_⟩ hb_ hon hoff
   refine ⟨_, rfl, fun K hK => ?_⟩
   have e18 : a.tmps[18]? = some (.pointer (some ⟨g3, 0, none⟩)) := by rw [ha]; exact (putSel_off rfl).trans rfl
   replace ha := am_ ha
   have HB := am_ Q_HB
   have X3 := am_ (Q_X3 (hoff 19 kr_))
   have XG := am_ (Q_XG (hoff 19 kr_))
   have x0 := blk_cell X3.out 0
   refine value_ (w1 := w') (v := .int .i64 1) (by rfl) rfl ?_ ?_
   ·go_simp
    (try simp only [i64_w])
    try rfl
   refine hK.out _ _ ⟨g26, g34, U22, k22, U27, k27, U30, k30, U35, k35, m4_, m8_, m9_, m12_, m16_, m17_, m18_, (by rw [ha.out]; exact putSel_upk 0 hb_ rfl rfl rfl), Q_HB, Q_X3, Q_XG, fo_ (hoff 19), Q_S26, Q_S34, Q_R22, Q_R27, Q_R30, Q_R35, Q_N1, Q_N2, Q_N3, Q_N4, Q_X4_, Q_X8_, Q_X9_, Q_X12_, Q_X16_, Q_X17_, fo_ (hoff 18)⟩
  refine steps_cons ?_ ?_
  ·rintro b a w' ⟨g26, g34, U22, k22, U27, k27, U30, k30, U35, k35, m4_, m8_, m9_, m12_, m16_, m17_, m18_, ha, Q_HB, Q_X3, Q_XG, Q_XS, Q_S26, Q_S34, Q_R22, Q_R27, Q_R30, Q_R35, Q_N1, Q_N2, Q_N3, Q_N4, Q_X4_, Q_X8_, Q_X9_, Q_X12_, Q_X16_, Q_X17_, Q_X18_⟩ hb_ hon hoff
   refine ⟨_, rfl, fun K hK => ?_⟩
   have e20 : a.tmps[20]? = some (.pointer (some ⟨g3, 1, none⟩)) := by rw [ha]; exact (putSel_off rfl).trans rfl
   replace ha := am_ ha
   have HB := am_ Q_HB
   have X3 := am_ (Q_X3 (hoff 19 kr_))
   have XG := am_ (Q_XG (hoff 19 kr_))
   have x0 := blk_cell X3.out 1
   refine value_ (w1 := w') (v := .slice A1 n_.keys.length a1) (by rfl) rfl ?_ ?_
   ·go_simp
    (try simp only [i64_w])
    try rfl
   refine hK.out _ _ ⟨g26, g34, U22, k22, U27, k27, U30, k30, U35, k35, m4_, m8_, m9_, m12_, m16_, m17_, m18_, (by rw [ha.out]; exact putSel_upk 1 hb_ rfl rfl rfl), Q_HB, Q_X3, Q_XG, fo_ (hoff 19), Q_S26, Q_S34, fun h0_ _ => absurd ((hoff 4 kr_).symm.trans h0_) (by decide), fo_ (hoff 9), fun h0_ _ => absurd ((hoff 12 kr_).symm.trans h0_) (by decide), fo_ (hoff 17), fun h0_ _ _ => absurd ((hoff 4 kr_).symm.trans h0_) (by decide), fun h0_ _ _ => absurd ((hoff 4 kr_).symm.trans h0_) (by decide), fun h0_ _ _ => absurd ((hoff 12 kr_).symm.trans h0_) (by decide), fun h0_ _ => absurd ((hoff 12 kr_).symm.trans h0_) (by decide), fo_ (hoff 4), Q_X8_, fo_ (hoff 9), fo_ (hoff 12), Q_X16_, fo_ (hoff 17), fo_ (hoff 18)⟩
  refine steps_cons ?_ ?_
  ·rintro b a w' ⟨g26, g34, U22, k22, U27, k27, U30, k30, U35, k35, m4_, m8_, m9_, m12_, m16_, m17_, m18_, ha, Q_HB, Q_X3, Q_XG, Q_XS, Q_S26, Q_S34, Q_R22, Q_R27, Q_R30, Q_R35, Q_N1, Q_N2, Q_N3, Q_N4, Q_X4_, Q_X8_, Q_X9_, Q_X12_, Q_X16_, Q_X17_, Q_X18_⟩ hb_ hon hoff
   refine ⟨_, rfl, fun K hK => ?_⟩
   have e21 : a.tmps[21]? = some (.slice A1 n_.keys.length a1) := by rw [ha]; exact putSel_on (e := (3, 21, .slice A1 n_.keys.length a1)) 1 rfl rfl (hon 3 kr_) rfl
   replace ha := am_ ha
   have HB := am_ Q_HB
   have X3 := am_ (Q_X3 (hoff 19 kr_))
   have XG := am_ (Q_XG (hoff 19 kr_))
   refine goes_ Tryz.func103 kr_ rfl #[.slice A1 n_.keys.length a1] (by rfl) rfl rfl (by simp only [List.map_toArray, List.map_cons, List.map_nil, Act.eval, Array.getD_eq_getD_getElem?, Option.getD_some, e21]) ?_
   refine (PCl.slices_Clone_string_string.calls A1 a1 n_.keys n_.keys w' (Kd.C_below C1.out HB.out) K1.out L1.out).mono ?_
   rintro e w1 ⟨v, rfl, hr, hb⟩
   obtain ⟨U, k, rfl⟩ := Kd.R_slice hr
   refine ⟨_, rfl, ?_⟩
   refine hK.out _ _ ⟨g26, g34, U, k, U27, k27, U30, k30, U35, k35, (.slice U n_.keys.length k), m8_, m9_, m12_, m16_, m17_, m18_, (by rw [ha.out]; exact putSel_upk 2 hb_ rfl rfl rfl), below_then HB.out HB.out.size hb, fun _ => blk_below X3.out hb, fun _ => blk_below XG.out hb, fo_ (hoff 19), fun h0_ h1_ => blk_below (Q_S26 h0_ h1_) hb, fun h0_ h1_ => blk_below (Q_S34 h0_ h1_) hb, fun _ _ => Kd.R_lower hr HB.out.size, fo_ (hoff 9), fun h0_ _ => absurd ((hoff 12 kr_).symm.trans h0_) (by decide), fo_ (hoff 17), fun h1_ h2_ h3_ e_ => absurd (Kd.R_base hr _ e_) (by have := blk_lt (Q_S26 h2_ h3_); omega), fun h1_ h2_ h3_ e_ => absurd (Kd.R_base hr _ e_) (by have := blk_lt (Q_S34 h2_ (by first | exact hoff 17 kr_ | assumption)); omega), fun h0_ _ _ => absurd ((hoff 12 kr_).symm.trans h0_) (by decide), fun h0_ _ => absurd ((hoff 12 kr_).symm.trans h0_) (by decide), fun _ => rfl, Q_X8_, fo_ (hoff 9), fo_ (hoff 12), Q_X16_, fo_ (hoff 17), fo_ (hoff 18)⟩
  refine steps_cons ?_ ?_
  ·rintro b a w' ⟨g26, g34, U22, k22, U27, k27, U30, k30, U35, k35, m4_, m8_, m9_, m12_, m16_, m17_, m18_, ha, Q_HB, Q_X3, Q_XG, Q_XS, Q_S26, Q_S34, Q_R22, Q_R27, Q_R30, Q_R35, Q_N1, Q_N2, Q_N3, Q_N4, Q_X4_, Q_X8_, Q_X9_, Q_X12_, Q_X16_, Q_X17_, Q_X18_⟩ hb_ hon hoff
   refine ⟨_, rfl, fun K hK => ?_⟩
   have e1 : a.tmps[1]? = some (.pointer (some p1)) := by rw [ha]; exact (putSel_off rfl).trans rfl
   replace ha := am_ ha
   have HB := am_ Q_HB
   have X3 := am_ (Q_X3 (hoff 19 kr_))
   have XG := am_ (Q_XG (hoff 19 kr_))
   have x0 := cap_cell_ HB.out HP1.out
   refine value_ (w1 := w') (v := .string key) (by rfl) rfl ?_ ?_
   ·go_simp
    (try simp only [i64_w])
    try rfl
   refine hK.out _ _ ⟨g26, g34, U22, k22, U27, k27, U30, k30, U35, k35, m4_, m8_, m9_, m12_, m16_, m17_, m18_, (by rw [ha.out]; exact putSel_upk 3 hb_ rfl rfl rfl), Q_HB, Q_X3, Q_XG, fo_ (hoff 19), fun h0_ _ => absurd ((hoff 8 kr_).symm.trans h0_) (by decide), Q_S34, Q_R22, fo_ (hoff 9), fun h0_ _ => absurd ((hoff 12 kr_).symm.trans h0_) (by decide), fo_ (hoff 17), fun _ h1_ _ => absurd ((hoff 8 kr_).symm.trans h1_) (by decide), Q_N2, fun h0_ _ _ => absurd ((hoff 12 kr_).symm.trans h0_) (by decide), fun h0_ _ => absurd ((hoff 12 kr_).symm.trans h0_) (by decide), Q_X4_, fo_ (hoff 8), fo_ (hoff 9), fo_ (hoff 12), Q_X16_, fo_ (hoff 17), fo_ (hoff 18)⟩
  refine steps_cons ?_ ?_
  ·rintro b a w' ⟨g26, g34, U22, k22, U27, k27, U30, k30, U35, k35, m4_, m8_, m9_, m12_, m16_, m17_, m18_, ha, Q_HB, Q_X3, Q_XG, Q_XS, Q_S26, Q_S34, Q_R22, Q_R27, Q_R30, Q_R35, Q_N1, Q_N2, Q_N3, Q_N4, Q_X4_, Q_X8_, Q_X9_, Q_X12_, Q_X16_, Q_X17_, Q_X18_⟩ hb_ hon hoff
   refine ⟨_, rfl, fun K hK => ?_⟩
   have e25 : a.tmps[25]? = some (.string key) := by rw [ha]; exact putSel_on (e := (7, 25, .string key)) 3 rfl rfl (hon 7 kr_) rfl
   replace ha := am_ ha
   have HB := am_ Q_HB
   have X3 := am_ (Q_X3 (hoff 19 kr_))
   have XG := am_ (Q_XG (hoff 19 kr_))
   refine value_ (w1 := w'.alloc (.cells #[.string key] 9 (0, 0))) (v := .slice (some ⟨w'.heap.size, 0, none⟩) 1 1) (by rfl) rfl ?_ ?_
   ·go_simp
    try rfl
   refine hK.out _ _ ⟨w'.heap.size, g34, U22, k22, U27, k27, U30, k30, U35, k35, m4_, (.slice (some ⟨w'.heap.size, 0, none⟩) 1 1), m9_, m12_, m16_, m17_, m18_, (by rw [ha.out]; exact putSel_upk 4 hb_ rfl rfl rfl), below_alloc HB.out (.cells #[.string key] 9 (0, 0)), fun _ => blk_alloc X3.out (.cells #[.string key] 9 (0, 0)), fun _ => blk_alloc XG.out (.cells #[.string key] 9 (0, 0)), fo_ (hoff 19), fun _ _ => blk_new w' (.cells #[.string key] 9 (0, 0)), fun h0_ h1_ => blk_alloc (Q_S34 h0_ h1_) (.cells #[.string key] 9 (0, 0)), fun h0_ h1_ => Kd.R_alloc (Q_R22 h0_ h1_) _, fo_ (hoff 9), fun h0_ _ => absurd ((hoff 12 kr_).symm.trans h0_) (by decide), fo_ (hoff 17), fun h1_ h2_ h3_ e_ => Nat.lt_irrefl _ (Kd.R_lt (Q_R22 h1_ h3_) _ e_), Q_N2, fun h0_ _ _ => absurd ((hoff 12 kr_).symm.trans h0_) (by decide), fun h0_ _ => absurd ((hoff 12 kr_).symm.trans h0_) (by decide), Q_X4_, fun _ => rfl, fo_ (hoff 9), fo_ (hoff 12), Q_X16_, fo_ (hoff 17), fo_ (hoff 18)⟩
  refine steps_cons ?_ ?_
  ·rintro b a w' ⟨g26, g34, U22, k22, U27, k27, U30, k30, U35, k35, m4_, m8_, m9_, m12_, m16_, m17_, m18_, ha, Q_HB, Q_X3, Q_XG, Q_XS, Q_S26, Q_S34, Q_R22, Q_R27, Q_R30, Q_R35, Q_N1, Q_N2, Q_N3, Q_N4, Q_X4_, Q_X8_, Q_X9_, Q_X12_, Q_X16_, Q_X17_, Q_X18_⟩ hb_ hon hoff
   refine ⟨_, rfl, fun K hK => ?_⟩
   have e22 : a.tmps[22]? = some (m4_) := by rw [ha]; exact putSel_on (e := (4, 22, m4_)) 2 rfl rfl (hon 4 kr_) rfl
   rw [Q_X4_ (hon 4 (by kernel_rfl))] at e22
   have e23 : a.tmps[23]? = some (.int .i64 (i_ : Int)) := by rw [ha]; exact (putSel_off rfl).trans rfl
   have e24 : a.tmps[24]? = some (.int .i64 (j_ : Int)) := by rw [ha]; exact (putSel_off rfl).trans rfl
   have e26 : a.tmps[26]? = some (m8_) := by rw [ha]; exact putSel_on (e := (8, 26, m8_)) 4 rfl rfl (hon 8 kr_) rfl
   rw [Q_X8_ (hon 8 (by kernel_rfl))] at e26
   replace ha := am_ ha
   have HB := am_ Q_HB
   have X3 := am_ (Q_X3 (hoff 19 kr_))
   have XG := am_ (Q_XG (hoff 19 kr_))
   have S26 := am_ (Q_S26 (hon 8 kr_) hb_)
   have R22 := am_ (Q_R22 (hon 4 kr_) hb_)
   have N1 := am_ (Q_N1 (hon 4 kr_) (hon 8 kr_) hb_)
   refine goes_ Tryz.func102 kr_ rfl #[.slice U22 n_.keys.length k22, .int .i64 (i_ : Int), .int .i64 (j_ : Int), .slice (some ⟨g26, 0, none⟩) 1 1] (by rfl) rfl rfl (by simp only [List.map_toArray, List.map_cons, List.map_nil, Act.eval, Array.getD_eq_getD_getElem?, Option.getD_some, e22, e23, e24, e26]) ?_
   refine (replace_own_s (fun k_ => some k_ = (.slice U22 n_.keys.length k22 : Value).ownBlock) (.slice U22 n_.keys.length k22) n_.keys (i_ : Int) (j_ : Int) (some ⟨g26, 0, none⟩) 1 [key] ks_ w w' HB.out (Kd.R_tight rfl R22.out) (fun W_ hk_ => C_one_ (blk_kept S26.out hk_ (fun e_ => N1.out e_.symm))) (Nat.le_refl _) E1.out).mono ?_
   rintro e w1 ⟨v, rfl, hr, hb, hkp⟩
   obtain ⟨U, k, rfl⟩ := Kd.R_slice hr
   refine ⟨_, rfl, ?_⟩
   refine hK.out _ _ ⟨g26, g34, U22, k22, U, k, U30, k30, U35, k35, m4_, m8_, (.slice U ks_.length k), m12_, m16_, m17_, m18_, (by rw [ha.out]; exact putSel_upk 5 hb_ rfl rfl rfl), hb, fun _ => blk_kept X3.out hkp (fun e_ => Kd.R_ne R22.out X3.out (by decide) e_), fun _ => blk_kept XG.out hkp (fun e_ => Kd.R_ne R22.out XG.out (by decide) e_), fo_ (hoff 19), fun _ h1_ => absurd ((up_self b 9).symm.trans h1_) (by decide), fun h1_ h2_ => blk_kept (Q_S34 h1_ h2_) hkp (fun e_ => (Q_N2 (hon 4 kr_) h1_ hb_) e_.symm), fun _ h1_ => absurd ((up_self b 9).symm.trans h1_) (by decide), fun _ => Kd.R_mono hr (fun _ _ => trivial), fun h0_ _ => absurd ((hoff 12 kr_).symm.trans h0_) (by decide), fo_ (hoff 17), fun _ _ h2_ => absurd ((up_self b 9).symm.trans h2_) (by decide), fun _ _ h2_ => absurd ((up_self b 9).symm.trans h2_) (by decide), fun h0_ _ _ => absurd ((hoff 12 kr_).symm.trans h0_) (by decide), fun h0_ _ => absurd ((hoff 12 kr_).symm.trans h0_) (by decide), Q_X4_, Q_X8_, fun _ => rfl, fo_ (hoff 12), Q_X16_, fo_ (hoff 17), fo_ (hoff 18)⟩
  refine steps_cons ?_ ?_
  ·rintro b a w' ⟨g26, g34, U22, k22, U27, k27, U30, k30, U35, k35, m4_, m8_, m9_, m12_, m16_, m17_, m18_, ha, Q_HB, Q_X3, Q_XG, Q_XS, Q_S26, Q_S34, Q_R22, Q_R27, Q_R30, Q_R35, Q_N1, Q_N2, Q_N3, Q_N4, Q_X4_, Q_X8_, Q_X9_, Q_X12_, Q_X16_, Q_X17_, Q_X18_⟩ hb_ hon hoff
   refine ⟨_, rfl, fun K hK => ?_⟩
   have e28 : a.tmps[28]? = some (.pointer (some ⟨g3, 2, none⟩)) := by rw [ha]; exact (putSel_off rfl).trans rfl
   replace ha := am_ ha
   have HB := am_ Q_HB
   have X3 := am_ (Q_X3 (hoff 19 kr_))
   have XG := am_ (Q_XG (hoff 19 kr_))
   have x0 := blk_cell X3.out 2
   refine value_ (w1 := w') (v := .slice A2 n_.vals.length a2) (by rfl) rfl ?_ ?_
   ·go_simp
    (try simp only [i64_w])
    try rfl
   refine hK.out _ _ ⟨g26, g34, U22, k22, U27, k27, U30, k30, U35, k35, m4_, m8_, m9_, m12_, m16_, m17_, m18_, (by rw [ha.out]; exact putSel_upk 6 hb_ rfl rfl rfl), Q_HB, Q_X3, Q_XG, fo_ (hoff 19), Q_S26, Q_S34, Q_R22, Q_R27, fun h0_ _ => absurd ((hoff 12 kr_).symm.trans h0_) (by decide), fo_ (hoff 17), Q_N1, Q_N2, fun h0_ _ _ => absurd ((hoff 12 kr_).symm.trans h0_) (by decide), fun h0_ _ => absurd ((hoff 12 kr_).symm.trans h0_) (by decide), Q_X4_, Q_X8_, Q_X9_, fo_ (hoff 12), Q_X16_, fo_ (hoff 17), fo_ (hoff 18)⟩
  refine steps_cons ?_ ?_
  ·rintro b a w' ⟨g26, g34, U22, k22, U27, k27, U30, k30, U35, k35, m4_, m8_, m9_, m12_, m16_, m17_, m18_, ha, Q_HB, Q_X3, Q_XG, Q_XS, Q_S26, Q_S34, Q_R22, Q_R27, Q_R30, Q_R35, Q_N1, Q_N2, Q_N3, Q_N4, Q_X4_, Q_X8_, Q_X9_, Q_X12_, Q_X16_, Q_X17_, Q_X18_⟩ hb_ hon hoff
   refine ⟨_, rfl, fun K hK => ?_⟩
   have e29 : a.tmps[29]? = some (.slice A2 n_.vals.length a2) := by rw [ha]; exact putSel_on (e := (11, 29, .slice A2 n_.vals.length a2)) 6 rfl rfl (hon 11 kr_) rfl
   replace ha := am_ ha
   have HB := am_ Q_HB
   have X3 := am_ (Q_X3 (hoff 19 kr_))
   have XG := am_ (Q_XG (hoff 19 kr_))
   have R27 := am_ (Q_R27 (hon 9 kr_))
   refine goes_ Tryz.func103 kr_ rfl #[.slice A2 n_.vals.length a2] (by rfl) rfl rfl (by simp only [List.map_toArray, List.map_cons, List.map_nil, Act.eval, Array.getD_eq_getD_getElem?, Option.getD_some, e29]) ?_
   refine (PCl.slices_Clone_string_string.calls A2 a2 n_.vals n_.vals w' (Kd.C_below C2.out HB.out) K2.out L2.out).mono ?_
   rintro e w1 ⟨v, rfl, hr, hb⟩
   obtain ⟨U, k, rfl⟩ := Kd.R_slice hr
   refine ⟨_, rfl, ?_⟩
   refine hK.out _ _ ⟨g26, g34, U22, k22, U27, k27, U, k, U35, k35, m4_, m8_, m9_, (.slice U n_.vals.length k), m16_, m17_, m18_, (by rw [ha.out]; exact putSel_upk 7 hb_ rfl rfl rfl), below_then HB.out HB.out.size hb, fun _ => blk_below X3.out hb, fun _ => blk_below XG.out hb, fo_ (hoff 19), fun _ h1_ => absurd ((hon 9 kr_).symm.trans h1_) (by decide), fun h0_ h1_ => blk_below (Q_S34 h0_ h1_) hb, fun _ h1_ => absurd ((hon 9 kr_).symm.trans h1_) (by decide), fun _ => Kd.R_below R27.out hb, fun _ _ => Kd.R_lower hr HB.out.size, fo_ (hoff 17), fun _ _ h2_ => absurd ((hon 9 kr_).symm.trans h2_) (by decide), fun _ _ h2_ => absurd ((hon 9 kr_).symm.trans h2_) (by decide), fun h1_ h2_ h3_ e_ => absurd (Kd.R_base hr _ e_) (by have := blk_lt (Q_S34 h2_ (by first | exact hoff 17 kr_ | assumption)); omega), fun h1_ h2_ k_ e1_ e2_ => absurd (Kd.R_base hr _ e2_) (by have := Kd.R_lt R27.out _ e1_; omega), Q_X4_, Q_X8_, Q_X9_, fun _ => rfl, Q_X16_, fo_ (hoff 17), fo_ (hoff 18)⟩
  refine steps_cons ?_ ?_
  ·rintro b a w' ⟨g26, g34, U22, k22, U27, k27, U30, k30, U35, k35, m4_, m8_, m9_, m12_, m16_, m17_, m18_, ha, Q_HB, Q_X3, Q_XG, Q_XS, Q_S26, Q_S34, Q_R22, Q_R27, Q_R30, Q_R35, Q_N1, Q_N2, Q_N3, Q_N4, Q_X4_, Q_X8_, Q_X9_, Q_X12_, Q_X16_, Q_X17_, Q_X18_⟩ hb_ hon hoff
   refine ⟨_, rfl, fun K hK => ?_⟩
   have e2 : a.tmps[2]? = some (.pointer (some p2)) := by rw [ha]; exact (putSel_off rfl).trans rfl
   replace ha := am_ ha
   have HB := am_ Q_HB
   have X3 := am_ (Q_X3 (hoff 19 kr_))
   have XG := am_ (Q_XG (hoff 19 kr_))
   have x0 := cap_cell_ HB.out HP2.out
   refine value_ (w1 := w') (v := .string x_) (by rfl) rfl ?_ ?_
   ·go_simp
    (try simp only [i64_w])
    try rfl
   refine hK.out _ _ ⟨g26, g34, U22, k22, U27, k27, U30, k30, U35, k35, m4_, m8_, m9_, m12_, m16_, m17_, m18_, (by rw [ha.out]; exact putSel_upk 8 hb_ rfl rfl rfl), Q_HB, Q_X3, Q_XG, fo_ (hoff 19), Q_S26, fun h0_ _ => absurd ((hoff 16 kr_).symm.trans h0_) (by decide), Q_R22, Q_R27, Q_R30, fo_ (hoff 17), Q_N1, fun _ h1_ _ => absurd ((hoff 16 kr_).symm.trans h1_) (by decide), fun _ h1_ _ => absurd ((hoff 16 kr_).symm.trans h1_) (by decide), Q_N4, Q_X4_, Q_X8_, Q_X9_, Q_X12_, fo_ (hoff 16), fo_ (hoff 17), fo_ (hoff 18)⟩
  refine steps_cons ?_ ?_
  ·rintro b a w' ⟨g26, g34, U22, k22, U27, k27, U30, k30, U35, k35, m4_, m8_, m9_, m12_, m16_, m17_, m18_, ha, Q_HB, Q_X3, Q_XG, Q_XS, Q_S26, Q_S34, Q_R22, Q_R27, Q_R30, Q_R35, Q_N1, Q_N2, Q_N3, Q_N4, Q_X4_, Q_X8_, Q_X9_, Q_X12_, Q_X16_, Q_X17_, Q_X18_⟩ hb_ hon hoff
   refine ⟨_, rfl, fun K hK => ?_⟩
   have e33 : a.tmps[33]? = some (.string x_) := by rw [ha]; exact putSel_on (e := (15, 33, .string x_)) 8 rfl rfl (hon 15 kr_) rfl
   replace ha := am_ ha
   have HB := am_ Q_HB
   have X3 := am_ (Q_X3 (hoff 19 kr_))
   have XG := am_ (Q_XG (hoff 19 kr_))
   refine value_ (w1 := w'.alloc (.cells #[.string x_] 9 (0, 0))) (v := .slice (some ⟨w'.heap.size, 0, none⟩) 1 1) (by rfl) rfl ?_ ?_
   ·go_simp
    try rfl
   refine hK.out _ _ ⟨g26, w'.heap.size, U22, k22, U27, k27, U30, k30, U35, k35, m4_, m8_, m9_, m12_, (.slice (some ⟨w'.heap.size, 0, none⟩) 1 1), m17_, m18_, (by rw [ha.out]; exact putSel_upk 9 hb_ rfl rfl rfl), below_alloc HB.out (.cells #[.string x_] 9 (0, 0)), fun _ => blk_alloc X3.out (.cells #[.string x_] 9 (0, 0)), fun _ => blk_alloc XG.out (.cells #[.string x_] 9 (0, 0)), fo_ (hoff 19), fun h0_ h1_ => blk_alloc (Q_S26 h0_ h1_) (.cells #[.string x_] 9 (0, 0)), fun _ _ => blk_new w' (.cells #[.string x_] 9 (0, 0)), fun h0_ h1_ => Kd.R_alloc (Q_R22 h0_ h1_) _, fun h0_ => Kd.R_alloc (Q_R27 h0_) _, fun h0_ h1_ => Kd.R_alloc (Q_R30 h0_ h1_) _, fo_ (hoff 17), Q_N1, fun h1_ h2_ h3_ e_ => Nat.lt_irrefl _ (Kd.R_lt (Q_R22 h1_ h3_) _ e_), fun h1_ h2_ h3_ e_ => Nat.lt_irrefl _ (Kd.R_lt (Q_R30 h1_ h3_) _ e_), Q_N4, Q_X4_, Q_X8_, Q_X9_, Q_X12_, fun _ => rfl, fo_ (hoff 17), fo_ (hoff 18)⟩
  refine steps_cons ?_ ?_
  ·rintro b a w' ⟨g26, g34, U22, k22, U27, k27, U30, k30, U35, k35, m4_, m8_, m9_, m12_, m16_, m17_, m18_, ha, Q_HB, Q_X3, Q_XG, Q_XS, Q_S26, Q_S34, Q_R22, Q_R27, Q_R30, Q_R35, Q_N1, Q_N2, Q_N3, Q_N4, Q_X4_, Q_X8_, Q_X9_, Q_X12_, Q_X16_, Q_X17_, Q_X18_⟩ hb_ hon hoff
   refine ⟨_, rfl, fun K hK => ?_⟩
   have e30 : a.tmps[30]? = some (m12_) := by rw [ha]; exact putSel_on (e := (12, 30, m12_)) 7 rfl rfl (hon 12 kr_) rfl
   rw [Q_X12_ (hon 12 (by kernel_rfl))] at e30
   have e31 : a.tmps[31]? = some (.int .i64 (i_ : Int)) := by rw [ha]; exact (putSel_off rfl).trans rfl
   have e32 : a.tmps[32]? = some (.int .i64 (j_ : Int)) := by rw [ha]; exact (putSel_off rfl).trans rfl
   have e34 : a.tmps[34]? = some (m16_) := by rw [ha]; exact putSel_on (e := (16, 34, m16_)) 9 rfl rfl (hon 16 kr_) rfl
   rw [Q_X16_ (hon 16 (by kernel_rfl))] at e34
   replace ha := am_ ha
   have HB := am_ Q_HB
   have X3 := am_ (Q_X3 (hoff 19 kr_))
   have XG := am_ (Q_XG (hoff 19 kr_))
   have S34 := am_ (Q_S34 (hon 16 kr_) hb_)
   have R27 := am_ (Q_R27 (hon 9 kr_))
   have R30 := am_ (Q_R30 (hon 12 kr_) hb_)
   have N3 := am_ (Q_N3 (hon 12 kr_) (hon 16 kr_) hb_)
   have N4 := am_ (Q_N4 (hon 12 kr_) hb_)
   refine goes_ Tryz.func102 kr_ rfl #[.slice U30 n_.vals.length k30, .int .i64 (i_ : Int), .int .i64 (j_ : Int), .slice (some ⟨g34, 0, none⟩) 1 1] (by rfl) rfl rfl (by simp only [List.map_toArray, List.map_cons, List.map_nil, Act.eval, Array.getD_eq_getD_getElem?, Option.getD_some, e30, e31, e32, e34]) ?_
   refine (replace_own_s (fun k_ => some k_ = (.slice U30 n_.vals.length k30 : Value).ownBlock) (.slice U30 n_.vals.length k30) n_.vals (i_ : Int) (j_ : Int) (some ⟨g34, 0, none⟩) 1 [x_] vs_ w w' HB.out (Kd.R_tight rfl R30.out) (fun W_ hk_ => C_one_ (blk_kept S34.out hk_ (fun e_ => N3.out e_.symm))) (Nat.le_refl _) E2.out).mono ?_
   rintro e w1 ⟨v, rfl, hr, hb, hkp⟩
   obtain ⟨U, k, rfl⟩ := Kd.R_slice hr
   refine ⟨_, rfl, ?_⟩
   refine hK.out _ _ ⟨g26, g34, U22, k22, U27, k27, U30, k30, U, k, m4_, m8_, m9_, m12_, m16_, (.slice U vs_.length k), m18_, (by rw [ha.out]; exact putSel_upk 10 hb_ rfl rfl rfl), hb, fun _ => blk_kept X3.out hkp (fun e_ => Kd.R_ne R30.out X3.out (by decide) e_), fun _ => blk_kept XG.out hkp (fun e_ => Kd.R_ne R30.out XG.out (by decide) e_), fo_ (hoff 19), fun _ h1_ => absurd ((hon 9 kr_).symm.trans h1_) (by decide), fun _ h1_ => absurd ((up_self b 17).symm.trans h1_) (by decide), fun _ h1_ => absurd ((hon 9 kr_).symm.trans h1_) (by decide), fun _ => Kd.R_mono (Kd.R_kept (Kd.R_tight rfl R27.out) hkp (fun k_ e_ f_ => N4.out k_ e_.symm f_.symm)) (fun _ _ => trivial), fun _ h1_ => absurd ((up_self b 17).symm.trans h1_) (by decide), fun _ => Kd.R_mono hr (fun _ _ => trivial), fun _ _ h2_ => absurd ((hon 9 kr_).symm.trans h2_) (by decide), fun _ _ h2_ => absurd ((hon 9 kr_).symm.trans h2_) (by decide), fun _ _ h2_ => absurd ((up_self b 17).symm.trans h2_) (by decide), fun _ h1_ => absurd ((up_self b 17).symm.trans h1_) (by decide), Q_X4_, Q_X8_, Q_X9_, Q_X12_, Q_X16_, fun _ => rfl, fo_ (hoff 18)⟩
  refine steps_cons ?_ ?_
  ·rintro b a w' ⟨g26, g34, U22, k22, U27, k27, U30, k30, U35, k35, m4_, m8_, m9_, m12_, m16_, m17_, m18_, ha, Q_HB, Q_X3, Q_XG, Q_XS, Q_S26, Q_S34, Q_R22, Q_R27, Q_R30, Q_R35, Q_N1, Q_N2, Q_N3, Q_N4, Q_X4_, Q_X8_, Q_X9_, Q_X12_, Q_X16_, Q_X17_, Q_X18_⟩ hb_ hon hoff
   refine ⟨_, rfl, fun K hK => ?_⟩
   have e19 : a.tmps[19]? = some (.int .i64 1) := by rw [ha]; exact putSel_on (e := (1, 19, .int .i64 1)) 0 rfl rfl (hon 1 kr_) rfl
   have e27 : a.tmps[27]? = some (m9_) := by rw [ha]; exact putSel_on (e := (9, 27, m9_)) 5 rfl rfl (hon 9 kr_) rfl
   rw [Q_X9_ (hon 9 (by kernel_rfl))] at e27
   have e35 : a.tmps[35]? = some (m17_) := by rw [ha]; exact putSel_on (e := (17, 35, m17_)) 10 rfl rfl (hon 17 kr_) rfl
   rw [Q_X17_ (hon 17 (by kernel_rfl))] at e35
   replace ha := am_ ha
   have HB := am_ Q_HB
   have X3 := am_ (Q_X3 (hoff 19 kr_))
   have XG := am_ (Q_XG (hoff 19 kr_))
   have R27 := am_ (Q_R27 (hon 9 kr_))
   have R35 := am_ (Q_R35 (hon 17 kr_))
   refine value_ (w1 := w') (v := .agg #[.int .i64 1, .slice U27 ks_.length k27, .slice U35 vs_.length k35, .slice none 0 0]) (by rfl) rfl ?_ ?_
   ·go_simp
    (try simp only [i64_w])
    try rfl
   refine hK.out _ _ ⟨g26, g34, U22, k22, U27, k27, U30, k30, U35, k35, m4_, m8_, m9_, m12_, m16_, m17_, (.agg #[.int .i64 1, .slice U27 ks_.length k27, .slice U35 vs_.length k35, .slice none 0 0]), (by rw [ha.out]; exact putSel_upk 11 hb_ rfl rfl rfl), Q_HB, Q_X3, Q_XG, fo_ (hoff 19), fun _ h1_ => absurd ((hon 9 kr_).symm.trans h1_) (by decide), fun _ h1_ => absurd ((hon 17 kr_).symm.trans h1_) (by decide), fun _ h1_ => absurd ((hon 9 kr_).symm.trans h1_) (by decide), Q_R27, fun _ h1_ => absurd ((hon 17 kr_).symm.trans h1_) (by decide), Q_R35, fun _ _ h2_ => absurd ((hon 9 kr_).symm.trans h2_) (by decide), fun _ _ h2_ => absurd ((hon 9 kr_).symm.trans h2_) (by decide), fun _ _ h2_ => absurd ((hon 17 kr_).symm.trans h2_) (by decide), fun _ h1_ => absurd ((hon 17 kr_).symm.trans h1_) (by decide), Q_X4_, Q_X8_, Q_X9_, Q_X12_, Q_X16_, Q_X17_, fun _ => rfl⟩
  refine steps_cons ?_ ?_
  ·rintro b a w' ⟨g26, g34, U22, k22, U27, k27, U30, k30, U35, k35, m4_, m8_, m9_, m12_, m16_, m17_, m18_, ha, Q_HB, Q_X3, Q_XG, Q_XS, Q_S26, Q_S34, Q_R22, Q_R27, Q_R30, Q_R35, Q_N1, Q_N2, Q_N3, Q_N4, Q_X4_, Q_X8_, Q_X9_, Q_X12_, Q_X16_, Q_X17_, Q_X18_⟩ hb_ hon hoff
   refine ⟨_, rfl, fun K hK => ?_⟩
   have e4 : a.tmps[4]? = some (.pointer (some ⟨g4, 0, none⟩)) := by rw [ha]; exact (putSel_off rfl).trans rfl
   have e36 : a.tmps[36]? = some (m18_) := by rw [ha]; exact putSel_on (e := (18, 36, m18_)) 11 rfl rfl (hon 18 kr_) rfl
   rw [Q_X18_ (hon 18 (by kernel_rfl))] at e36
   replace ha := am_ ha
   have HB := am_ Q_HB
   have X3 := am_ (Q_X3 hb_)
   have XG := am_ (Q_XG hb_)
   have R27 := am_ (Q_R27 (hon 9 kr_))
   have R35 := am_ (Q_R35 (hon 17 kr_))
   have q0 := blk_cell XG.out 0
   have q1 := blk_cell XG.out 1
   have q2 := blk_cell XG.out 2
   have q3 := blk_cell XG.out 3
   have z0 := blk_frozen XG.out 0
   have z1 := blk_frozen XG.out 1
   have z2 := blk_frozen XG.out 2
   have z3 := blk_frozen XG.out 3
   refine skip_ (w1 := ((((w'.setCell ⟨g4, 0, none⟩ (.int .i64 1)).setCell ⟨g4, 1, none⟩ (.slice U27 ks_.length k27)).setCell ⟨g4, 2, none⟩ (.slice U35 vs_.length k35)).setCell ⟨g4, 3, none⟩ (.slice none 0 0))) (by rfl) rfl ?_ ?_
   ·go_simp
    try rfl
   refine hK.out _ _ ⟨g26, g34, U22, k22, U27, k27, U30, k30, U35, k35, m4_, m8_, m9_, m12_, m16_, m17_, m18_, (by rw [ha.out]; exact putSel_none (v := undef) rfl), (below_set (below_set (below_set (below_set HB.out HG.out) HG.out) HG.out) HG.out), fun h0_ => absurd ((up_self b 19).symm.trans h0_) (by decide), fun h0_ => absurd ((up_self b 19).symm.trans h0_) (by decide), fun _ => (blk_put (blk_put (blk_put (blk_put XG.out 0 _ rfl) 1 _ rfl) 2 _ rfl) 3 _ rfl), fun _ h1_ => absurd ((hon 9 kr_).symm.trans h1_) (by decide), fun _ h1_ => absurd ((hon 17 kr_).symm.trans h1_) (by decide), fun _ h1_ => absurd ((hon 9 kr_).symm.trans h1_) (by decide), fun _ => (Kd.R_set (Kd.R_set (Kd.R_set (Kd.R_set R27.out XG.out HTS.out 0 _) (blk_set XG.out 0 _) HTS.out 1 _) (blk_set (blk_set XG.out 0 _) 1 _) HTS.out 2 _) (blk_set (blk_set (blk_set XG.out 0 _) 1 _) 2 _) HTS.out 3 _), fun _ h1_ => absurd ((hon 17 kr_).symm.trans h1_) (by decide), fun _ => (Kd.R_set (Kd.R_set (Kd.R_set (Kd.R_set R35.out XG.out HTS.out 0 _) (blk_set XG.out 0 _) HTS.out 1 _) (blk_set (blk_set XG.out 0 _) 1 _) HTS.out 2 _) (blk_set (blk_set (blk_set XG.out 0 _) 1 _) 2 _) HTS.out 3 _), fun _ _ h2_ => absurd ((hon 9 kr_).symm.trans h2_) (by decide), fun _ _ h2_ => absurd ((hon 9 kr_).symm.trans h2_) (by decide), fun _ _ h2_ => absurd ((hon 17 kr_).symm.trans h2_) (by decide), fun _ h1_ => absurd ((hon 17 kr_).symm.trans h1_) (by decide), Q_X4_, Q_X8_, Q_X9_, Q_X12_, Q_X16_, Q_X17_, Q_X18_⟩
  exact steps_nil
 ·rintro b a w' hall ⟨g26, g34, U22, k22, U27, k27, U30, k30, U35, k35, m4_, m8_, m9_, m12_, m16_, m17_, m18_, ha, Q_HB, Q_X3, Q_XG, Q_XS, Q_S26, Q_S34, Q_R22, Q_R27, Q_R30, Q_R35, Q_N1, Q_N2, Q_N3, Q_N4, Q_X4_, Q_X8_, Q_X9_, Q_X12_, Q_X16_, Q_X17_, Q_X18_⟩
  clear HB X3 XG
  have hb1_ := hall 1 kr_
  have hb3_ := hall 3 kr_
  have hb4_ := hall 4 kr_
  have hb7_ := hall 7 kr_
  have hb8_ := hall 8 kr_
  have hb9_ := hall 9 kr_
  have hb11_ := hall 11 kr_
  have hb12_ := hall 12 kr_
  have hb15_ := hall 15 kr_
  have hb16_ := hall 16 kr_
  have hb17_ := hall 17 kr_
  have hb18_ := hall 18 kr_
  have hb19_ := hall 19 kr_
  subst ha
  obtain rfl := Q_X4_ hb4_
  obtain rfl := Q_X8_ hb8_
  obtain rfl := Q_X9_ hb9_
  obtain rfl := Q_X12_ hb12_
  obtain rfl := Q_X16_ hb16_
  obtain rfl := Q_X17_ hb17_
  obtain rfl := Q_X18_ hb18_
  simp only [putSel, hb1_, hb3_, hb4_, hb7_, hb8_, hb9_, hb11_, hb12_, hb15_, hb16_, hb17_, hb18_, hb19_, if_true, Act.put, List.setIfInBounds_toArray, List.set_cons_zero, List.set_cons_succ]
  have HB := am_ Q_HB
  clear Q_HB
  clear Q_X3
  clear Q_XG
  have XS := am_ (Q_XS hb19_)
  clear Q_XS
  clear Q_S26
  clear Q_S34
  clear Q_R22
  have R27 := am_ (Q_R27 hb9_)
  clear Q_R27
  clear Q_R30
  have R35 := am_ (Q_R35 hb17_)
  clear Q_R35
  clear Q_N1
  clear Q_N2
  clear Q_N3
  clear Q_N4
  clear hall hb1_ hb3_ hb4_ hb7_ hb8_ hb9_ hb11_ hb12_ hb15_ hb16_ hb17_ hb18_ hb19_
  go_wp2_with fail
  refine bodyPost_ret (results_single rfl (.cell g4 149 #[.int .i64 1, .slice U27 ks_.length k27, .slice U35 vs_.length k35, .slice none 0 0] (0, 0) _ rfl XS.out rfl rfl rfl .nil)) rfl ?_
  exact ⟨_, rfl, ⟨_, _, _, rfl, Kd.R_lower R27.out HBs.out, Kd.R_lower R35.out HBs.out, Kd.R_nil _ _ _ _ _⟩, HB.out⟩
end Go.Proofs.YtendgmblgdkiaaaGreat

namespace Go.Proofs.YtendgmblgdkiaaaGreat
open Go.RowKit
open Go.Proofs.YtendgmblgdkiaaaGreatW
open PrintWords PrintLast PrintMore
set_option linter.unusedVariables false
set_option linter.unusedSimpArgs false

/-- The literal as a value. -/
def cloV (ov : Option BA) (p1 p2 : Addr) : Value :=
 match ov with
 | some _ => .func (.func 100) #[] #[.pointer (some p1), .pointer (some p2)]
 | none => .func (.func 106) #[] #[.pointer (some p1)]
/-- Its captured cells. -/
structure Caps (F : Nat → Prop) (ov : Option BA) (key : BA) (p1 p2 : Addr) (w : World) : Prop where
 c1 : w.cell? p1 = some (.string key)
 c2 : ∀ v, ov = some v → w.cell? p2 = some (.string v) ∧ ¬ F p2.block
 n1 : ¬ F p1.block
theorem Caps.keep {F : Nat → Prop} {ov : Option BA} {key : BA} {p1 p2 : Addr} {w w' : World} (h : Caps F ov key p1 p2 w) (k : Keep F w w') : Caps F ov key p1 p2 w' := by
 have hc : ∀ {p : Addr} {v : Value}, w.cell? p = some v → ¬ F p.block → w'.cell? p = some v := fun {p v} hp hn => by
  rw [k.cell (World.block_lt_of_cell? w p hp) hn]; exact hp
 exact ⟨hc h.c1 h.n1, fun v e => ⟨hc (h.c2 v e).1 (h.c2 v e).2, (h.c2 v e).2⟩, h.n1⟩

theorem do_put (F : Nat → Prop) (w : World) (B : Nat) (v : Value) (kvs : List KV) (key x : BA) (p1 p2 : Addr) (hB : B ≤ w.heap.size) (N : NodeV B w v (leafOf kvs)) (hS : Srt kvs) (hn : kvs.length ≤ 1000) (hc : Caps F (some x) key p1 p2 w) :
  Calls Tryz.prog 100 #[v, .pointer (some p1), .pointer (some p2)] w fun e w' => ∃ v', e = .returned v' ∧ NodeV B w' v' (leafOf (ed key (some x) kvs)) ∧ Below w.heap.size w w' := by
 have hr : rising (kvs.map (·.1)) = true := rising_of (List.pairwise_map.2 hS)
 have hp := put_leaf key x kvs hS
 refine (put_lam w B v (leafOf kvs) key x p1 p2 hB N rfl hr (by simp [leafOf]) (by simp [leafOf]; omega) hc.c1 (hc.c2 x rfl).1).mono ?_
 rintro e w' ⟨v', rfl, N', hb⟩
 refine ⟨v', rfl, ?_, hb⟩
 rw [← hp]
 exact N'
theorem isAt_mem {key v : BA} {l : List KV} (h : Srt l) (hm : (key, v) ∈ l) : isAt key (l.map (·.1)) = true := by
 cases hi : isAt key (l.map (·.1)) with
 | true => rfl
 | false =>
  obtain ⟨f1, f2⟩ := filters key l h
  rw [hi] at f2
  have hm' : (key, v) ∈ l.take (lb key (l.map (·.1))) ++ l.drop (lb key (l.map (·.1))) := by rw [List.take_append_drop]; exact hm
  rcases List.mem_append.1 hm' with hx | hx
  ·rw [← f1] at hx
   have := (List.mem_filter.1 hx).2
   simp [blt_irrefl] at this
  ·have hx : (key, v) ∈ l.filter (fun p => blt key p.1) := by rw [f2]; exact hx
   have := (List.mem_filter.1 hx).2
   simp [blt_irrefl] at this
theorem do_del (F : Nat → Prop) (w : World) (B : Nat) (v : Value) (kvs : List KV) (key : BA) (p1 p2 : Addr) (hB : B ≤ w.heap.size) (N : NodeV B w v (leafOf kvs)) (hS : Srt kvs) (hn : kvs.length ≤ 1000) (hm : ∃ v, (key, v) ∈ kvs) (hc : Caps F none key p1 p2 w) :
  Calls Tryz.prog 106 #[v, .pointer (some p1)] w fun e w' => ∃ v', e = .returned v' ∧ NodeV B w' v' (leafOf (ed key none kvs)) ∧ Below w.heap.size w w' := by
 obtain ⟨A1, c1, A2, c2, A3, c3, rfl, C1, k1, C2, k2, C3, k3⟩ := N.out
 obtain ⟨u, hu⟩ := hm
 have hat := isAt_mem hS hu
 have hr : rising (kvs.map (·.1)) = true := rising_of (List.pairwise_map.2 hS)
 have hf := del_f 1 (leafOf kvs).keys (leafOf kvs).vals (leafOf kvs).kids key hr (by simp [leafOf]) (by simp [leafOf]; omega) hat 2000 (by simp [leafOf]; omega)
 have hp := del_leaf key kvs hS hat
 refine (PNd.tree_Tree_DeleteLam1.calls 2000 1 A1 c1 (leafOf kvs).keys A2 c2 (leafOf kvs).vals A3 c3 (leafOf kvs).kids key _ _ _ _ p1 w hc.c1 C1 k1 C2 k2 C3 k3 hf).mono ?_
 rintro e w' ⟨v1, v2, v3, rfl, g1, g2, g3, hb⟩
 refine ⟨_, rfl, ?_, hb⟩
 rw [← hp]
 exact ⟨v1, v2, v3, rfl, Kd.R_lower (Kd.R_mono g1 (fun _ _ => trivial)) hB, Kd.R_lower (Kd.R_mono g2 (fun _ _ => trivial)) hB, Kd.R_lower (Kd.R_mono g3 (fun _ _ => trivial)) hB⟩
/-- An edited leaf is not long. -/
theorem ed_short {kvs : List KV} {key : BA} {ov : Option BA} (hG : Good kvs) (hk : keyOk key = true) (hv : ∀ v, ov = some v → valOk v = true) (hS : (kvs.map e1).sum ≤ 239) : (leafOf (ed key ov kvs)).Short ∧ (ed key ov kvs).length ≤ 80 := by
 have h3 : 3 * kvs.length ≤ (kvs.map e1).sum := sum_ge fun p hp => (e1_le (hG.2 p hp)).1
 have hl := ed_len key ov kvs
 have hg := ed_good hG hk hv
 have ho := leaf_ok hg om_
 have hs : ((ed key ov kvs).map e1).sum ≤ (kvs.map e1).sum + 50 := by
  cases ov with
  | none => have := ed_sum key none kvs; simp only at this; omega
  | some v => have := ed_sum key (some v) kvs; have := (e1_le (p := (key, v)) ⟨hk, hv v rfl⟩).2; simp only at *; omega
 have hlen : (leafOf (ed key ov kvs)).keys.length = (ed key ov kvs).length := by simp [leafOf]
 have hSe := leaf_S (ed key ov kvs) _ (Nat.le_refl _)
 rw [List.take_length] at hSe
 exact ⟨⟨ho.fine, ho.shape, ho.ent, by rw [hlen, hSe]; omega, by rw [hlen]; omega⟩, by omega⟩

/-- What a walk carries along beside the node that it has read. -/
structure Mid (B : Nat) (w : World) (t b : Nat) (L : Loc) (h : Nat) (r : Rt) (key : BA) (ov : Option BA) (p1 p2 : Addr) (n : Nd) (A1 : Option Addr) (c1 : Nat) (A2 : Option Addr) (c2 : Nat) (A3 : Option Addr) (c3 : Nat) (g : Nat) (D : Dk) (P : List Pg) (wx : World) : Prop where
 ts : TS B wx t b L h D P r
 kp : Keep (fun k => L.foot k ∨ k = b) w wx
 nv : NodeV B wx (.agg #[.int .i64 n.kind, .slice A1 n.keys.length c1, .slice A2 n.vals.length c2, .slice A3 n.kids.length c3]) n
 bx : wx.heap[g]? = some (.cells #[.int .i64 n.kind, .slice A1 n.keys.length c1, .slice A2 n.vals.length c2, .slice A3 n.kids.length c3] 149 (0, 0))
 gB : B ≤ g
 cap : Caps (fun k => L.foot k ∨ k = b) ov key p1 p2 wx
theorem Mid.step {B : Nat} {w : World} {t b : Nat} {L : Loc} {h : Nat} {r : Rt} {key : BA} {ov : Option BA} {p1 p2 : Addr} {n : Nd} {A1 : Option Addr} {c1 : Nat} {A2 : Option Addr} {c2 : Nat} {A3 : Option Addr} {c3 g : Nat} {D D' : Dk} {P P' : List Pg} {wx wy : World} (M : Mid B w t b L h r key ov p1 p2 n A1 c1 A2 c2 A3 c3 g D P wx)
  (T : TS B wy t b L h D' P' r) (k : Keep (fun k => L.foot k ∨ k = b) wx wy) : Mid B w t b L h r key ov p1 p2 n A1 c1 A2 c2 A3 c3 g D' P' wy :=
 ⟨T, M.kp.trans k, M.nv.keep k M.ts.lo, k.heap M.bx (fun hf => by have := M.ts.lo _ hf; have := M.gB; omega), M.gB, M.cap.keep k⟩
theorem Mid.below {B : Nat} {w : World} {t b : Nat} {L : Loc} {h : Nat} {r : Rt} {key : BA} {ov : Option BA} {p1 p2 : Addr} {n : Nd} {A1 : Option Addr} {c1 : Nat} {A2 : Option Addr} {c2 : Nat} {A3 : Option Addr} {c3 g : Nat} {D : Dk} {P : List Pg} {wx wy : World} (M : Mid B w t b L h r key ov p1 p2 n A1 c1 A2 c2 A3 c3 g D P wx)
  (hb : Below wx.heap.size wx wy) : Mid B w t b L h r key ov p1 p2 n A1 c1 A2 c2 A3 c3 g D P wy := M.step (M.ts.below hb) (Keep.below hb)
end Go.Proofs.YtendgmblgdkiaaaGreat

namespace Go.Proofs.YtendgmblgdkiaaaGreat
open Go.RowKit
open Go.Proofs.YtendgmblgdkiaaaGreatW
open PrintWords PrintLast PrintMore
set_option linter.unusedVariables false
set_option linter.unusedSimpArgs false

/-- What change comes to. -/
def ChPost (B : Nat) (w : World) (t b : Nat) (L : Loc) (h : Nat) (D : Dk) (P : List Pg) (r : Rt) (key : BA) (ov : Option BA) (lv : Nat) (n : Nd) (kvs : List KV) (e : Ending) (w' : World) : Prop :=
 ∃ D' P', TS B w' t b L h D' P' r ∧ AppOk h D P D' P' ∧ Keep (fun k => L.foot k ∨ k = b) w w' ∧
  ((∃ v l n', e = .returned (.tuple #[v, .int .i64 0]) ∧ NodesV B w' v l ∧ PartsOf n' l ∧ n'.Short ∧ Cn P' lv n' (ed key ov kvs) ∧ D'.down = false ∧ P'.length ≤ P.length + 2 * (lv - 1) ∧ (∀ v, ov = some v → n.keys.length ≤ n'.keys.length) ∧ (2 ≤ lv → 1 ≤ n'.keys.length ∧ P.length < P'.length)) ∨
   (∃ er, e = .returned (.tuple #[.slice none 0 0, .int .i64 er]) ∧ Bad D D' P' er ∧ P'.length < P.length + 2 * (lv - 1)))
/-- What it is asked for. -/
structure ChPre (B : Nat) (w : World) (t b : Nat) (L : Loc) (h : Nat) (D : Dk) (P : List Pg) (r : Rt) (key : BA) (ov : Option BA) (p1 p2 : Addr) (lv page : Nat) (n : Nd) (kvs : List KV) : Prop where
 base : B ≤ w.heap.size
 ts : TS B w t b L h D P r
 up : D.down = false
 cap : Caps (fun k => L.foot k ∨ k = b) ov key p1 p2 w
 pg : P[page]? = some n.page
 fit : n.Fit
 cn : Cn P lv n kvs
 good : Good kvs
 kok : keyOk key = true
 vok : ∀ v, ov = some v → valOk v = true
 del : ov = none → lv = 1 ∧ ∃ v, (key, v) ∈ kvs
 low : lv ≤ 1000
 two : 2 ≤ lv → 2 ≤ n.keys.length

set_option maxHeartbeats 2000000 in
set_option maxRecDepth 100000 in
theorem change_leaf (B : Nat) (w : World) (t b : Nat) (L : Loc) (h : Nat) (D : Dk) (P : List Pg) (r : Rt) (key : BA) (ov : Option BA) (p1 p2 : Addr) (page : Nat) (n : Nd) (kvs : List KV) (H : ChPre B w t b L h D P r key ov p1 p2 1 page n kvs) :
  Calls Tryz.prog 151 #[.pointer (some ⟨t, 0, none⟩), .int .i64 page, .int .i64 1, .string key, cloV ov p1 p2] w (ChPost B w t b L h D P r key ov 1 n kvs) := by
 have HH := hi_ H
 have hn : n = leafOf kvs := H.cn
 subst hn
 have hroom := H.ts.st.room
 have hmost := room_le H.ts.st.d.ok
 have hlen : (leafOf kvs).keys.length = kvs.length := by simp [leafOf]
 have hlp : (leafOf kvs).keys.length ≤ (leafOf kvs).pack.size := le_packOf 1 (leafOf kvs).keys (leafOf kvs).vals (leafOf kvs).kids
 have hok := leaf_ok H.good (by have := H.fit.size; omega)
 have hff := fit_few hok H.fit.size
 rw [hlen] at hff
 have HS := hi_ (ed_short (ov := ov) H.good H.kok H.vok (by have := hff.1; rw [leaf_S _ _ (Nat.le_refl _), List.take_length] at this; exact this))
 have HF := hi_ hff
 have CR := tree_read w t b L h D P r H.ts.st H.ts.tr H.up page 1 1 (leafOf kvs).keys (leafOf kvs).vals (leafOf kvs).kids H.pg hok.ok (H.fit.some) (by simp)
 clear H hroom hmost hok hff hlen
 go_enter Tryz.func151, Tryz.ntmps151
 go_wp2_with fail
 refine CR.mono ?_
 clear CR
 rintro e w1 ⟨v1, v2, v3, rfl, g1, g2, g3, hb⟩
 have NV := hi_ (show NodeV w.heap.size w1 (.agg #[.int .i64 1, v1, v2, v3]) (leafOf kvs) from ⟨v1, v2, v3, rfl, g1, g2, g3⟩)
 obtain ⟨A1, c1, rfl⟩ := Kd.R_slice g1
 obtain ⟨A2, c2, rfl⟩ := Kd.R_slice g2
 obtain ⟨A3, c3, rfl⟩ := Kd.R_slice g3
 have hB1 := hi_ hb
 clear g1 g2 g3 hb
 go_upto_region 5 with fail
 have hB2 := hi_ (below_alloc hB1.out (.cells #[.int .i64 1, .slice A1 (leafOf kvs).keys.length c1, .slice A2 (leafOf kvs).vals.length c2, .slice A3 (leafOf kvs).kids.length c3] 149 (0, 0)))
 have N2 := hi_ (NV.out.below (below_alloc (Below.refl w1.heap.size w1) (.cells #[.int .i64 1, .slice A1 (leafOf kvs).keys.length c1, .slice A2 (leafOf kvs).vals.length c2, .slice A3 (leafOf kvs).kids.length c3] 149 (0, 0))))
 have hG := hi_ (heap_alloc_self w1 (.cells #[.int .i64 1, .slice A1 (leafOf kvs).keys.length c1, .slice A2 (leafOf kvs).vals.length c2, .slice A3 (leafOf kvs).kids.length c3] 149 (0, 0)))
 generalize w1.alloc (.cells #[.int .i64 1, .slice A1 (leafOf kvs).keys.length c1, .slice A2 (leafOf kvs).vals.length c2, .slice A3 (leafOf kvs).kids.length c3] 149 (0, 0)) = w2 at *
 have x0 := blk_cell hG.out 0
 have x1 := blk_cell hG.out 1
 have x2 := blk_cell hG.out 2
 have x3 := blk_cell hG.out 3
 cases ov with
 | some x =>
  unfold cloV
  go_wp2_with fail
  refine (do_put (fun k => L.foot k ∨ k = b) w2 B _ kvs key x p1 p2 (Nat.le_trans HH.out.base hB2.out.size) (N2.out.lower HH.out.base) HH.out.good.1 (by have := HF.out; omega) (HH.out.cap.keep (Keep.below hB2.out))).mono ?_
  rintro e w3 ⟨v', rfl, N3, hb⟩
  have N3 := hi_ N3
  have hB3 := hi_ (below_then hB2.out hB2.out.size hb)
  clear hb x0 x1 x2 x3
  go_wp2_with fail
  refine (tree_parts w3 B v' _ (Nat.le_trans HH.out.base hB3.out.size) N3.out HS.out.1).mono ?_
  rintro e w4 ⟨v'', l, rfl, hpo, NL, hb⟩
  have NL := hi_ NL
  have hpo := hi_ hpo
  have hB4 := hi_ (below_then hB3.out hB3.out.size hb)
  clear hb
  go_wp2_with fail
  go_ret2
  exact ⟨D, P, HH.out.ts.below hB4.out, AppOk.refl HH.out.ts.st.room HH.out.ts.st.holds, Keep.below hB4.out, .inl ⟨_, l, _, rfl, NL.out, hpo.out, HS.out.1, rfl, HH.out.up, by omega, (fun v e => by have := ed_more key x kvs HH.out.good.1; simpa [leafOf] using this), fun h => by omega⟩⟩
 | none =>
  unfold cloV
  go_wp2_with fail
  refine (do_del (fun k => L.foot k ∨ k = b) w2 B _ kvs key p1 p2 (Nat.le_trans HH.out.base hB2.out.size) (N2.out.lower HH.out.base) HH.out.good.1 (by have := HF.out; omega) (HH.out.del rfl).2 (HH.out.cap.keep (Keep.below hB2.out))).mono ?_
  rintro e w3 ⟨v', rfl, N3, hb⟩
  have N3 := hi_ N3
  have hB3 := hi_ (below_then hB2.out hB2.out.size hb)
  clear hb x0 x1 x2 x3
  go_wp2_with fail
  refine (tree_parts w3 B v' _ (Nat.le_trans HH.out.base hB3.out.size) N3.out HS.out.1).mono ?_
  rintro e w4 ⟨v'', l, rfl, hpo, NL, hb⟩
  have NL := hi_ NL
  have hpo := hi_ hpo
  have hB4 := hi_ (below_then hB3.out hB3.out.size hb)
  clear hb
  go_wp2_with fail
  go_ret2
  exact ⟨D, P, HH.out.ts.below hB4.out, AppOk.refl HH.out.ts.st.room HH.out.ts.st.holds, Keep.below hB4.out, .inl ⟨_, l, _, rfl, NL.out, hpo.out, HS.out.1, rfl, HH.out.up, by omega, (fun v e => by cases e), fun h => by omega⟩⟩
end Go.Proofs.YtendgmblgdkiaaaGreat

namespace Go.Proofs.YtendgmblgdkiaaaGreat
open Go.RowKit
open Go.Proofs.YtendgmblgdkiaaaGreatW
open PrintWords PrintLast PrintMore
attribute [local go_sem] max2_int
set_option linter.unusedVariables false
set_option linter.unusedSimpArgs false

theorem Bad.of {D D4 D5 : Dk} {P : List Pg} {er : Int} (h : Bad D4 D5 P er) (hl : D.Live → D4.Live) : Bad D D5 P er := by
 rcases h with h | ⟨h1, h2, h3⟩
 ·exact .inl h
 ·exact .inr ⟨h1, h2, fun l => h3 (hl l)⟩
set_option maxHeartbeats 1500000 in
set_option maxRecDepth 100000 in
theorem change_branch (B : Nat) (t b : Nat) (L : Loc) (h : Nat) (r : Rt) (key : BA) (ov : Option BA) (p1 p2 : Addr) (l : Nat)
  (IH : ∀ (w : World) (D : Dk) (P : List Pg) (page : Nat) (n : Nd) (kvs : List KV), ChPre B w t b L h D P r key ov p1 p2 (l + 1) page n kvs →
   Calls Tryz.prog 151 #[.pointer (some ⟨t, 0, none⟩), .int .i64 page, .int .i64 ((l + 1 : Nat) : Int), .string key, cloV ov p1 p2] w (ChPost B w t b L h D P r key ov (l + 1) n kvs))
  (w : World) (D : Dk) (P : List Pg) (page : Nat) (n : Nd) (kvs : List KV) (H : ChPre B w t b L h D P r key ov p1 p2 (l + 2) page n kvs) :
  Calls Tryz.prog 151 #[.pointer (some ⟨t, 0, none⟩), .int .i64 page, .int .i64 ((l + 2 : Nat) : Int), .string key, cloV ov p1 p2] w (ChPost B w t b L h D P r key ov (l + 2) n kvs) := by
 have HH := hi_ H
 obtain ⟨ps, hn, hkv, hps0, hon⟩ := cn_branch.1 H.cn
 subst hn
 subst hkv
 have hPs : Ps P (l + 1) ps := ⟨H.good, hon⟩
 have hroom := H.ts.st.room
 have hmost := room_le H.ts.st.d.ok
 have hlen : (branchOf ps).keys.length = ps.length := by simp [branchOf]
 have hlp : (branchOf ps).keys.length ≤ (branchOf ps).pack.size := le_packOf 2 (branchOf ps).keys (branchOf ps).vals (branchOf ps).kids
 have hok := branch_ok hPs om_ hps0 (by have := H.fit.size; omega)
 have hff := fit_few hok H.fit.size
 rw [hlen] at hff
 obtain ⟨pA, pt, pC, hsp, hAl, hed, hkey⟩ := child_split hPs hps0 key ov
 have hlow := H.low
 obtain ⟨lv, hlv⟩ : ∃ lv : Int, lv = ((l + 2 : Nat) : Int) := ⟨_, rfl⟩
 have hl1 : (lv == 1) = false := by simp; omega
 have hl2 : IntKind.i64.wrap (lv - 1) = ((l + 1 : Nat) : Int) := by rw [IntWalk.i64_in _ (by omega)]; omega
 have CR := tree_read w t b L h D P r H.ts.st H.ts.tr H.up page lv 2 (branchOf ps).keys (branchOf ps).vals (branchOf ps).kids H.pg hok.ok (H.fit.some) (by simp; omega)
 have hcf := child_f 2 (branchOf ps).keys (branchOf ps).vals (branchOf ps).kids key (rising_of (Ps.rise hPs.good hPs.on)) om_ 2000 om_
 have hci : childAt key (branchOf ps).keys = pA.length := hAl.symm
 rw [hci] at hcf
 have HCF := hi_ hcf
 have HSP := hi_ hsp
 have HED := hi_ hed
 have HKEY := hi_ hkey
 have HOK := hi_ hok
 have HF := hi_ hff
 have HPS := hi_ hPs
 have HLV := hi_ hlv
 rw [← hlv]
 clear H hon hps0 hPs hroom hmost hlen hlp hok hff hAl hed hkey hlow hci hcf hsp hlv
 go_enter Tryz.func151, Tryz.ntmps151
 go_wp2_with fail
 refine CR.mono ?_
 clear CR
 rintro e w1 ⟨v1, v2, v3, rfl, g1, g2, g3, hb⟩
 have NV := hi_ (show NodeV w.heap.size w1 (.agg #[.int .i64 2, v1, v2, v3]) (branchOf ps) from ⟨v1, v2, v3, rfl, g1, g2, g3⟩)
 obtain ⟨A1, c1, rfl⟩ := Kd.R_slice g1
 obtain ⟨A2, c2, rfl⟩ := Kd.R_slice g2
 obtain ⟨A3, c3, rfl⟩ := Kd.R_slice g3
 have hB1 := hi_ hb
 clear g1 g2 g3 hb
 go_upto_region 6 with fail
 have M2 : Hid (Mid B w t b L h r key ov p1 p2 (branchOf ps) A1 c1 A2 c2 A3 c3 w1.heap.size D P (w1.alloc (.cells #[.int .i64 2, .slice A1 (branchOf ps).keys.length c1, .slice A2 (branchOf ps).vals.length c2, .slice A3 (branchOf ps).kids.length c3] 149 (0, 0)))) := by
  have hb2 := below_alloc hB1.out (.cells #[.int .i64 2, .slice A1 (branchOf ps).keys.length c1, .slice A2 (branchOf ps).vals.length c2, .slice A3 (branchOf ps).kids.length c3] 149 (0, 0))
  exact hi_ ⟨HH.out.ts.below hb2, Keep.below hb2, (NV.out.lower HH.out.base).below (below_alloc (Below.refl w1.heap.size w1) _), heap_alloc_self w1 _, Nat.le_trans HH.out.base hB1.out.size, HH.out.cap.keep (Keep.below hb2)⟩
 generalize w1.alloc (.cells #[.int .i64 2, .slice A1 (branchOf ps).keys.length c1, .slice A2 (branchOf ps).vals.length c2, .slice A3 (branchOf ps).kids.length c3] 149 (0, 0)) = w2 at *
 obtain ⟨g, hg⟩ : ∃ g, g = w1.heap.size := ⟨_, rfl⟩
 rw [← hg] at M2 ⊢
 clear NV hB1 hg
 have x0 := blk_cell M2.out.bx 0
 have x1 := blk_cell M2.out.bx 1
 have x2 := blk_cell M2.out.bx 2
 have x3 := blk_cell M2.out.bx 3
 go_wp2_with fail
 obtain ⟨C1, k1, C2, k2, C3, k3⟩ := M2.out.nv.outs
 refine (PNd.tree_child.calls 2000 2 A1 c1 (branchOf ps).keys A2 c2 (branchOf ps).vals A3 c3 (branchOf ps).kids key _ w2 C1 k1 C2 k2 C3 k3 HCF.out).mono ?_
 clear C1 k1 C2 k2 C3 k3 x0 x1 x2 x3
 rintro e w3 ⟨rfl, hb⟩
 have M3 := hi_ (M2.out.below hb)
 clear M2 hb
 have x3 := blk_cell M3.out.bx 3
 have hidx : (pA.length : Int) < ((branchOf ps).kids.length : Int) := by rw [HSP.out]; simp [branchOf]; omega
 have hkd : (branchOf ps).kids.getD pA.length 0 = (pt.c : Int) := by
  rw [HSP.out]
  simp [branchOf, List.getD_eq_getElem?_getD]
 obtain ⟨ad, c, rfl, hcl, hcK, hcc⟩ := Kd.C_get M3.out.nv.outs.2.2.2.2.1 0 (pA.length : Int) om_ hidx
 have hK : c = [.int .i64 (pt.c : Int)] := by
  simp only [Kd.int, Kd.scalar, Int.toNat_natCast, hkd] at hcK
  exact hcK
 have z0 : w3.cell? (ad.add pA.length) = some (.int .i64 (pt.c : Int)) := by
  have := hcc 0 (.int .i64 (pt.c : Int)) (by rw [hK]; rfl)
  simpa [Kd.int, Kd.scalar] using this
 have k3 := M3.out.nv.outs.2.2.2.2.2
 clear hcc hcK hcl hkd hK
 go_wp2_with fail
 obtain ⟨o1, o2, m, hm1, hm2, hm3, hm4⟩ := HPS.out.on pt (by rw [HSP.out]; simp)
 have hgood := HPS.out.good
 have hkvs : kvsOf ps = kvsOf pA ++ (pt.kv ++ kvsOf pC) := by rw [HSP.out, kvsOf_app, kvsOf_cons]
 have hgp : Good pt.kv := by rw [hkvs] at hgood; exact (good_app (good_app hgood).2.1).1
 refine (IH w3 D P pt.c m pt.kv ⟨Nat.le_trans HH.out.base M3.out.kp.size, M3.out.ts, HH.out.up, M3.out.cap, hm1, hm2, hm4, hgp, HH.out.kok, HH.out.vok, fun e => absurd (HH.out.del e).1 om_, by have := HH.out.low; omega, fun _ => hm3⟩).mono ?_
 have HM := hi_ hm3
 clear o1 o2 hm1 hm2 hm3 hm4 hgood hkvs hgp z0 k3 x3 hidx
 rintro e w4 ⟨D4, P4, T4, A4, K4, hres⟩
 have M4 := hi_ (M3.out.step T4 K4)
 have A4 := hi_ A4
 clear T4 K4 M3
 rcases hres with ⟨v4, l4, n4, rfl, NL4, hpo4, hs4, hc4, up4, hle4, hmore4, hne4⟩ | ⟨er, rfl, hbad, hlt⟩
 ·have NL4 := hi_ NL4
  have hpo4 := hi_ hpo4
  have hs4 := hi_ hs4
  have hc4 := hi_ hc4
  have up4 := hi_ up4
  have hle4 := hi_ hle4
  have HMO := hi_ (show ∀ v, ov = some v → 2 ≤ n4.keys.length from fun v hv => by have := hmore4 v hv; have := HM.out; omega)
  clear hmore4 hne4
  go_upto_region 11 with fail
  obtain ⟨wx, hwx⟩ : ∃ wx, wx = w4 := ⟨_, rfl⟩
  rw [← hwx] at M4 NL4 ⊢
  have MX := M4
  have NLX := NL4
  clear M4 hwx
  rcases NL4.out with ⟨a, y, gr, hl, hv, -, -, -⟩ | ⟨a, b', y, z, gr, hl, hv, -, -, -, -⟩
  ·obtain ⟨nn, B1, d1, B2, d2, B3, d3, hn0, y0, y1, y2, y3, NY⟩ := NodesV.at (by rw [hv] at NLX; exact NLX.out) (show 0 < 1 by omega)
   have hnn : Hid (nn = n4) := hi_ (by
    rw [hl] at hn0
    have h1 : nn = a := by simpa using hn0.symm
    rcases hpo4.out with ⟨-, e⟩ | ⟨c, -, -, -, -, e⟩
    ·rw [e] at hl
     have h2 : n4 = a := by simpa using hl
     exact h1.trans h2.symm
    ·rw [e] at hl; simp at hl)
   have HL4 : Hid (l4 = [nn]) := hi_ (by rw [hl] at hn0 ⊢; have h1 : nn = a := (by simpa using hn0.symm); rw [h1])
   subst hv
   have NY := hi_ NY
   clear hl hn0
   by_cases hshort : (nn.keys.length : Int) < 2
   ·as_aux_lemma =>
    have hnone : ov = none := by
     cases ov with
     | none => rfl
     | some v => have h1 := HMO.out v rfl; have h2 := hnn.out; subst h2; omega
    exact absurd (HH.out.del hnone).1 om_
   ·as_aux_lemma =>
    have h24 : Hid (l4 = [n4] → 2 ≤ n4.keys.length) := hi_ (fun _ => by have h1 := hnn.out; subst h1; omega)
    obtain ⟨pM, hpM⟩ : ∃ pM, pM = [pt] := ⟨_, rfl⟩
    obtain ⟨pD, hpD⟩ : ∃ pD, pD = pC := ⟨_, rfl⟩
    have HSPL : Hid (ps = pA ++ pM ++ pD) := hi_ (by rw [hpM, hpD, HSP.out]; simp)
    have HM1 : Hid (0 < pM.length) := hi_ (by rw [hpM]; simp)
    have HML1 : Hid (pM.length = 1) := hi_ (by rw [hpM]; rfl)
    have HML : Hid (∀ v, ov = some v → pM.length = 1) := hi_ (fun _ _ => HML1.out)
    have HEDX : Hid (ed key ov (kvsOf ps) = kvsOf pA ++ ed key ov pt.kv ++ kvsOf pD) := hi_ (by rw [hpD]; exact HED.out)
    have hgX : Hid (Good (ed key ov pt.kv)) := hi_ (by
     have hgood := HPS.out.good
     have hkvs : kvsOf ps = kvsOf pA ++ (pt.kv ++ kvsOf pC) := by rw [HSP.out, kvsOf_app, kvsOf_cons]
     rw [hkvs] at hgood
     exact ed_good (good_app (good_app hgood).2.1).1 HH.out.kok HH.out.vok)
    clear hpM hpD
    obtain ⟨tz, hto⟩ : ∃ tz : Int, tz = ((pA.length + pM.length : Nat) : Int) := ⟨_, rfl⟩
    have hw : wrap64 ((pA.length : Int) + 1) = tz := by rw [hto, HML1.out]; have := HF.out; have e : ps.length = pA.length + pM.length + pD.length := by rw [HSPL.out]; simp only [List.length_append]
                                                        unfold wrap64; omega
    have HTO := hi_ hto
    obtain ⟨fz, hfz⟩ : ∃ fz : Int, fz = (pA.length : Int) := ⟨_, rfl⟩
    have HFR := hi_ hfz
    clear hto
    rw [hw, ← hfz]
    clear hw hfz
    go_wp2_with fail
    obtain ⟨C1, k1, C2, k2, C3, k3⟩ := NY.out.outs
    refine (PNd.node_Node_Len.calls nn.kind B1 d1 nn.keys B2 d2 nn.vals B3 d3 nn.kids (nn.keys.length : Int) wx C1 k1 C2 k2 C3 k3 rfl).mono ?_
    clear C1 k1 C2 k2 C3 k3 y0 y1 y2 y3
    rintro e wy ⟨rfl, hb⟩
    replace MX := hi_ (MX.out.below hb)
    replace NLX := hi_ (NLX.out.below hb)
    clear hb NY NL4
    obtain ⟨wx, hwx⟩ : ∃ wx, wx = wy := ⟨_, rfl⟩
    rw [← hwx] at MX NLX ⊢
    clear hwx
    go_upto_region 23 with fail
    clear hshort
    -- the nodes are written, and take the place of what was
    obtain ⟨HFit, qs, hq1, hq2, hq3, hq4, hq5, hq6, hq7⟩ := new_pts hc4.out hgX.out (by have := MX.out.ts.st.room; have := room_le MX.out.ts.st.d.ok; omega) hs4.out hpo4.out h24.out
    have HQ1 := hi_ hq1
    have HQ2 := hi_ hq2
    have HQ3 := hi_ hq3
    have HQ4 := hi_ hq4
    have HQ6 := hi_ hq6
    have HQ7 := hi_ hq7
    have HL2 : Hid (l4.length ≤ 2) := hi_ om_
    have CW := hi_ (tree_write wx B t b L h D4 P4 r _ l4 (Nat.le_trans HH.out.base MX.out.kp.size) MX.out.ts up4.out NLX.out HFit)
    clear hq1 hq2 hq3 hq4 hq5 hq6 hq7 HFit
    go_wp2_with fail
    refine CW.out.mono ?_
    clear CW
    rintro e w5 ⟨D5, P5, T5, A5, K5, hres⟩
    have M5 := hi_ (MX.out.step T5 K5)
    have A5 := hi_ (A4.out.trans A5)
    clear T5
    rcases hres with ⟨u1, u2, rfl, r1, r2, hP5, up5⟩ | ⟨er, rfl, hbad, hlt⟩
    ·obtain ⟨ks, hks⟩ : ∃ ks, ks = l4.map Nd.least := ⟨_, rfl⟩
     obtain ⟨cs, hcs⟩ : ∃ cs, cs = pagesFrom P4.length l4.length := ⟨_, rfl⟩
     rw [← hks] at r1
     rw [← hcs] at r2
     have HKS := hi_ hks
     have HCS := hi_ hcs
     clear hks hcs
     have hR1 := hi_ r1
     have hR2 := hi_ r2
     obtain ⟨U1, d1, rfl⟩ := Kd.R_slice r1
     obtain ⟨U2, d2, rfl⟩ := Kd.R_slice r2
     have HP5 := hi_ hP5
     have up5 := hi_ up5
     clear r1 r2 hP5 K5 MX NLX
     have x0 := blk_cell M5.out.bx 0
     have x1 := blk_cell M5.out.bx 1
     have x2 := blk_cell M5.out.bx 2
     have x3 := blk_cell M5.out.bx 3
     go_wp2_with fail
     obtain ⟨C1, k1, C2, k2, C3, k3⟩ := M5.out.nv.outs
     obtain ⟨-, e1', E1⟩ := Kd.R_reads' hR1.out
     obtain ⟨-, e2', E2⟩ := Kd.R_reads' hR2.out
     have hS5 := swap_ok (P := P) (P' := P5) (l := l + 1) (A := pA) (B := pM) (C := pD) (qs := qs) (by rw [← HSPL.out]; exact HPS.out) HM1.out (by rw [← HSPL.out]; exact HH.out.fit) A5.out.pre (by have := M5.out.ts.st.room; have := room_le M5.out.ts.st.d.ok; omega) (by rw [HP5.out]; exact HQ7.out) HQ4.out HQ6.out (by rw [HQ3.out, ← HEDX.out]; exact ed_good HH.out.good HH.out.kok HH.out.vok)
     obtain ⟨s1, s2, s3, s4⟩ := hS5
     rw [← HSPL.out, HQ1.out, HQ2.out, ← HKS.out, ← HCS.out] at s1
     have f1 : pA.length + pM.length ≤ (branchOf ps).keys.length := by have e : (branchOf ps).keys.length = ps.length := List.length_map _
                                                                       rw [e, HSPL.out]; simp only [List.length_append]; omega
     have f2 : (branchOf ps).kids.length = (branchOf ps).keys.length := by simp [branchOf]
     have f3 : 0 < ks.length := by rw [HKS.out, ← HQ1.out, List.length_map]; exact List.length_pos_iff.2 HQ4.out
     have f4 : cs.length = ks.length := by rw [HKS.out, HCS.out, pagesFrom_length, List.length_map]
     have f5 : (branchOf ps).keys.length + ks.length ≤ 100000 := by
      have e : (branchOf ps).keys.length = ps.length := List.length_map _
      have h1 := HF.out.2
      have h2 := HL2.out
      rw [e, HKS.out, List.length_map]
      omega
     have hsf := swap_f 2 (branchOf ps).keys (branchOf ps).vals (branchOf ps).kids pA.length (pA.length + pM.length) ks cs om_ f1 f2 f3 f4 f5
     clear f1 f2 f3 f4 f5
     rw [← HTO.out, ← HFR.out] at hsf
     refine (PNd.tree_swap.calls 2 A1 c1 (branchOf ps).keys A2 c2 (branchOf ps).vals (some ad) c3 (branchOf ps).kids _ _ U1 d1 _ U2 d2 _ _ _ _ _ w5 C1 k1 C2 k2 C3 k3 E1 e1' E2 e2' hsf).mono ?_
     clear C1 k1 C2 k2 C3 k3 E1 E2 e1' e2' hsf x0 x1 x2 x3
     rintro e w6 ⟨v1, v2, v3, rfl, g1, g2, g3, hb⟩
     have N6 := hi_ (show NodeV B w6 (.agg #[.int .i64 2, v1, v2, v3]) (branchOf (pA ++ qs ++ pD)) from by
      rw [s1]
      exact ⟨v1, v2, v3, rfl, Kd.R_lower (Kd.R_mono g1 (fun _ _ => trivial)) (Nat.le_trans HH.out.base M5.out.kp.size), Kd.R_lower (Kd.R_mono g2 (fun _ _ => trivial)) (Nat.le_trans HH.out.base M5.out.kp.size), Kd.R_lower (Kd.R_mono g3 (fun _ _ => trivial)) (Nat.le_trans HH.out.base M5.out.kp.size)⟩)
     have M6 := hi_ (M5.out.below hb)
     have HS2 := hi_ s2
     have HS3 := hi_ s3
     have HS4 := hi_ s4
     clear g1 g2 g3 hb s1 s2 s3 s4 M5
     go_wp2_with fail
     refine (tree_parts w6 B _ _ (Nat.le_trans HH.out.base M6.out.kp.size) N6.out HS2.out).mono ?_
     rintro e w7 ⟨v7, l7, rfl, hpo, NL, hb⟩
     have NL := hi_ NL
     have hpo := hi_ hpo
     have M7 := hi_ (M6.out.below hb)
     clear hb M6
     go_wp2_with fail
     go_ret2
     refine ⟨D5, P5, M7.out.ts, A5.out, M7.out.kp, .inl ⟨_, l7, _, rfl, NL.out, hpo.out, HS2.out, ?_, up5.out, ?_, ?_, ?_⟩⟩
     ·refine ⟨_, rfl, ?_, ?_, HS3.out.on⟩
      ·rw [HS4.out, HQ3.out, HEDX.out]
      ·intro e
       have := congrArg List.length e
       have := List.length_pos_iff.2 HQ4.out
       simp only [List.length_append, List.length_nil] at *
       omega
     ·rw [HP5.out, List.length_append, List.length_map]
      have := hle4.out
      have := HL2.out
      omega
     ·intro x e
      have e1 : (branchOf ps).keys.length = ps.length := List.length_map _
      have e2 : (branchOf (pA ++ qs ++ pD)).keys.length = (pA ++ qs ++ pD).length := List.length_map _
      rw [e1, e2, HSPL.out]
      have := List.length_pos_iff.2 HQ4.out
      have := HML.out x e
      simp only [List.length_append]
      omega
     ·intro _
      have := List.length_pos_iff.2 HQ4.out
      refine ⟨by simp [branchOf]; omega, ?_⟩
      obtain ⟨X, hX⟩ := A4.out.pre
      have h1 := congrArg List.length HQ1.out
      rw [List.length_map, List.length_map] at h1
      rw [HP5.out, hX, List.length_append, List.length_append, List.length_map]
      omega
    ·have hbad := hi_ hbad
     have hlt := hi_ hlt
     have her : (er == 0) = false := by have := hbad.out; unfold Bad at this; simp; omega
     go_wp2_with fail
     go_ret2
     exact ⟨D5, P5, M5.out.ts, A5.out, M5.out.kp, .inr ⟨er, rfl, Bad.of hbad.out A4.out.wr.live, by have := hlt.out; have := hle4.out; have := HL2.out; omega⟩⟩
  ·as_aux_lemma =>
   subst hv
   have h24 : Hid (l4 = [n4] → 2 ≤ n4.keys.length) := hi_ (fun e => by rw [e] at hl; simp at hl)
   have hgo := hi_ hl
   clear hl
   obtain ⟨pM, hpM⟩ : ∃ pM, pM = [pt] := ⟨_, rfl⟩
   obtain ⟨pD, hpD⟩ : ∃ pD, pD = pC := ⟨_, rfl⟩
   have HSPL : Hid (ps = pA ++ pM ++ pD) := hi_ (by rw [hpM, hpD, HSP.out]; simp)
   have HM1 : Hid (0 < pM.length) := hi_ (by rw [hpM]; simp)
   have HML1 : Hid (pM.length = 1) := hi_ (by rw [hpM]; rfl)
   have HML : Hid (∀ v, ov = some v → pM.length = 1) := hi_ (fun _ _ => HML1.out)
   have HEDX : Hid (ed key ov (kvsOf ps) = kvsOf pA ++ ed key ov pt.kv ++ kvsOf pD) := hi_ (by rw [hpD]; exact HED.out)
   have hgX : Hid (Good (ed key ov pt.kv)) := hi_ (by
    have hgood := HPS.out.good
    have hkvs : kvsOf ps = kvsOf pA ++ (pt.kv ++ kvsOf pC) := by rw [HSP.out, kvsOf_app, kvsOf_cons]
    rw [hkvs] at hgood
    exact ed_good (good_app (good_app hgood).2.1).1 HH.out.kok HH.out.vok)
   clear hpM hpD
   obtain ⟨tz, hto⟩ : ∃ tz : Int, tz = ((pA.length + pM.length : Nat) : Int) := ⟨_, rfl⟩
   have hw : wrap64 ((pA.length : Int) + 1) = tz := by rw [hto, HML1.out]; have := HF.out; have e : ps.length = pA.length + pM.length + pD.length := by rw [HSPL.out]; simp only [List.length_append]
                                                       unfold wrap64; omega
   have HTO := hi_ hto
   obtain ⟨fz, hfz⟩ : ∃ fz : Int, fz = (pA.length : Int) := ⟨_, rfl⟩
   have HFR := hi_ hfz
   clear hto
   rw [hw, ← hfz]
   clear hw hfz
   go_upto_region 23 with fail
   -- the nodes are written, and take the place of what was
   obtain ⟨HFit, qs, hq1, hq2, hq3, hq4, hq5, hq6, hq7⟩ := new_pts hc4.out hgX.out (by have := MX.out.ts.st.room; have := room_le MX.out.ts.st.d.ok; omega) hs4.out hpo4.out h24.out
   have HQ1 := hi_ hq1
   have HQ2 := hi_ hq2
   have HQ3 := hi_ hq3
   have HQ4 := hi_ hq4
   have HQ6 := hi_ hq6
   have HQ7 := hi_ hq7
   have HL2 : Hid (l4.length ≤ 2) := hi_ om_
   have CW := hi_ (tree_write wx B t b L h D4 P4 r _ l4 (Nat.le_trans HH.out.base MX.out.kp.size) MX.out.ts up4.out NLX.out HFit)
   clear hq1 hq2 hq3 hq4 hq5 hq6 hq7 HFit
   go_wp2_with fail
   refine CW.out.mono ?_
   clear CW
   rintro e w5 ⟨D5, P5, T5, A5, K5, hres⟩
   have M5 := hi_ (MX.out.step T5 K5)
   have A5 := hi_ (A4.out.trans A5)
   clear T5
   rcases hres with ⟨u1, u2, rfl, r1, r2, hP5, up5⟩ | ⟨er, rfl, hbad, hlt⟩
   ·obtain ⟨ks, hks⟩ : ∃ ks, ks = l4.map Nd.least := ⟨_, rfl⟩
    obtain ⟨cs, hcs⟩ : ∃ cs, cs = pagesFrom P4.length l4.length := ⟨_, rfl⟩
    rw [← hks] at r1
    rw [← hcs] at r2
    have HKS := hi_ hks
    have HCS := hi_ hcs
    clear hks hcs
    have hR1 := hi_ r1
    have hR2 := hi_ r2
    obtain ⟨U1, d1, rfl⟩ := Kd.R_slice r1
    obtain ⟨U2, d2, rfl⟩ := Kd.R_slice r2
    have HP5 := hi_ hP5
    have up5 := hi_ up5
    clear r1 r2 hP5 K5 MX NLX
    have x0 := blk_cell M5.out.bx 0
    have x1 := blk_cell M5.out.bx 1
    have x2 := blk_cell M5.out.bx 2
    have x3 := blk_cell M5.out.bx 3
    go_wp2_with fail
    obtain ⟨C1, k1, C2, k2, C3, k3⟩ := M5.out.nv.outs
    obtain ⟨-, e1', E1⟩ := Kd.R_reads' hR1.out
    obtain ⟨-, e2', E2⟩ := Kd.R_reads' hR2.out
    have hS5 := swap_ok (P := P) (P' := P5) (l := l + 1) (A := pA) (B := pM) (C := pD) (qs := qs) (by rw [← HSPL.out]; exact HPS.out) HM1.out (by rw [← HSPL.out]; exact HH.out.fit) A5.out.pre (by have := M5.out.ts.st.room; have := room_le M5.out.ts.st.d.ok; omega) (by rw [HP5.out]; exact HQ7.out) HQ4.out HQ6.out (by rw [HQ3.out, ← HEDX.out]; exact ed_good HH.out.good HH.out.kok HH.out.vok)
    obtain ⟨s1, s2, s3, s4⟩ := hS5
    rw [← HSPL.out, HQ1.out, HQ2.out, ← HKS.out, ← HCS.out] at s1
    have f1 : pA.length + pM.length ≤ (branchOf ps).keys.length := by have e : (branchOf ps).keys.length = ps.length := List.length_map _
                                                                      rw [e, HSPL.out]; simp only [List.length_append]; omega
    have f2 : (branchOf ps).kids.length = (branchOf ps).keys.length := by simp [branchOf]
    have f3 : 0 < ks.length := by rw [HKS.out, ← HQ1.out, List.length_map]; exact List.length_pos_iff.2 HQ4.out
    have f4 : cs.length = ks.length := by rw [HKS.out, HCS.out, pagesFrom_length, List.length_map]
    have f5 : (branchOf ps).keys.length + ks.length ≤ 100000 := by
     have e : (branchOf ps).keys.length = ps.length := List.length_map _
     have h1 := HF.out.2
     have h2 := HL2.out
     rw [e, HKS.out, List.length_map]
     omega
    have hsf := swap_f 2 (branchOf ps).keys (branchOf ps).vals (branchOf ps).kids pA.length (pA.length + pM.length) ks cs om_ f1 f2 f3 f4 f5
    clear f1 f2 f3 f4 f5
    rw [← HTO.out, ← HFR.out] at hsf
    refine (PNd.tree_swap.calls 2 A1 c1 (branchOf ps).keys A2 c2 (branchOf ps).vals (some ad) c3 (branchOf ps).kids _ _ U1 d1 _ U2 d2 _ _ _ _ _ w5 C1 k1 C2 k2 C3 k3 E1 e1' E2 e2' hsf).mono ?_
    clear C1 k1 C2 k2 C3 k3 E1 E2 e1' e2' hsf x0 x1 x2 x3
    rintro e w6 ⟨v1, v2, v3, rfl, g1, g2, g3, hb⟩
    have N6 := hi_ (show NodeV B w6 (.agg #[.int .i64 2, v1, v2, v3]) (branchOf (pA ++ qs ++ pD)) from by
     rw [s1]
     exact ⟨v1, v2, v3, rfl, Kd.R_lower (Kd.R_mono g1 (fun _ _ => trivial)) (Nat.le_trans HH.out.base M5.out.kp.size), Kd.R_lower (Kd.R_mono g2 (fun _ _ => trivial)) (Nat.le_trans HH.out.base M5.out.kp.size), Kd.R_lower (Kd.R_mono g3 (fun _ _ => trivial)) (Nat.le_trans HH.out.base M5.out.kp.size)⟩)
    have M6 := hi_ (M5.out.below hb)
    have HS2 := hi_ s2
    have HS3 := hi_ s3
    have HS4 := hi_ s4
    clear g1 g2 g3 hb s1 s2 s3 s4 M5
    go_wp2_with fail
    refine (tree_parts w6 B _ _ (Nat.le_trans HH.out.base M6.out.kp.size) N6.out HS2.out).mono ?_
    rintro e w7 ⟨v7, l7, rfl, hpo, NL, hb⟩
    have NL := hi_ NL
    have hpo := hi_ hpo
    have M7 := hi_ (M6.out.below hb)
    clear hb M6
    go_wp2_with fail
    go_ret2
    refine ⟨D5, P5, M7.out.ts, A5.out, M7.out.kp, .inl ⟨_, l7, _, rfl, NL.out, hpo.out, HS2.out, ?_, up5.out, ?_, ?_, ?_⟩⟩
    ·refine ⟨_, rfl, ?_, ?_, HS3.out.on⟩
     ·rw [HS4.out, HQ3.out, HEDX.out]
     ·intro e
      have := congrArg List.length e
      have := List.length_pos_iff.2 HQ4.out
      simp only [List.length_append, List.length_nil] at *
      omega
    ·rw [HP5.out, List.length_append, List.length_map]
     have := hle4.out
     have := HL2.out
     omega
    ·intro x e
     have e1 : (branchOf ps).keys.length = ps.length := List.length_map _
     have e2 : (branchOf (pA ++ qs ++ pD)).keys.length = (pA ++ qs ++ pD).length := List.length_map _
     rw [e1, e2, HSPL.out]
     have := List.length_pos_iff.2 HQ4.out
     have := HML.out x e
     simp only [List.length_append]
     omega
    ·intro _
     have := List.length_pos_iff.2 HQ4.out
     refine ⟨by simp [branchOf]; omega, ?_⟩
     obtain ⟨X, hX⟩ := A4.out.pre
     have h1 := congrArg List.length HQ1.out
     rw [List.length_map, List.length_map] at h1
     rw [HP5.out, hX, List.length_append, List.length_append, List.length_map]
     omega
   ·have hbad := hi_ hbad
    have hlt := hi_ hlt
    have her : (er == 0) = false := by have := hbad.out; unfold Bad at this; simp; omega
    go_wp2_with fail
    go_ret2
    exact ⟨D5, P5, M5.out.ts, A5.out, M5.out.kp, .inr ⟨er, rfl, Bad.of hbad.out A4.out.wr.live, by have := hlt.out; have := hle4.out; have := HL2.out; omega⟩⟩
 ·have hbad := hi_ hbad
  have hlt := hi_ hlt
  have her : (er == 0) = false := by have := hbad.out; unfold Bad at this; simp; omega
  go_wp2_with fail
  go_ret2
  exact ⟨D4, P4, M4.out.ts, A4.out, M4.out.kp, .inr ⟨er, rfl, hbad.out, by have := hlt.out; omega⟩⟩
end Go.Proofs.YtendgmblgdkiaaaGreat

namespace Go.Proofs.YtendgmblgdkiaaaGreat
open Go.RowKit
open Go.Proofs.YtendgmblgdkiaaaGreatW
open PrintWords PrintLast PrintMore
set_option linter.unusedVariables false
set_option linter.unusedSimpArgs false

theorem tree_change (B : Nat) (t b : Nat) (L : Loc) (h : Nat) (r : Rt) (key : BA) (ov : Option BA) (p1 p2 : Addr) : ∀ (lv : Nat) (w : World) (D : Dk) (P : List Pg) (page : Nat) (n : Nd) (kvs : List KV), ChPre B w t b L h D P r key ov p1 p2 lv page n kvs →
  Calls Tryz.prog 151 #[.pointer (some ⟨t, 0, none⟩), .int .i64 page, .int .i64 (lv : Int), .string key, cloV ov p1 p2] w (ChPost B w t b L h D P r key ov lv n kvs)
 | 0, _, _, _, _, _, _, H => H.cn.elim
 | 1, w, D, P, page, n, kvs, H => change_leaf B w t b L h D P r key ov p1 p2 page n kvs H
 | l + 2, w, D, P, page, n, kvs, H => change_branch B t b L h r key ov p1 p2 l (fun w D P page n kvs H => tree_change B t b L h r key ov p1 p2 (l + 1) w D P page n kvs H) w D P page n kvs H

def rootV (r : Rt) : Value := .agg #[.int .i64 r.page, .int .i64 r.count, .int .i64 r.height]
/-- A tree's root, as it is to be. -/
def RootC (P : List Pg) (page height : Int) (kvs : List KV) : Prop :=
 (height = 0 ∧ page = -1 ∧ kvs = []) ∨ (∃ (hn q : Nat) (n : Nd), height = hn ∧ page = q ∧ P[q]? = some n.page ∧ n.Fit ∧ Cn P hn n kvs ∧ (2 ≤ hn → 2 ≤ n.keys.length))
/-- What lift comes to. -/
def LiPost (B : Nat) (w : World) (t b : Nat) (L : Loc) (h : Nat) (D : Dk) (P : List Pg) (r : Rt) (kvs : List KV) (m lv : Nat) (e : Ending) (w' : World) : Prop :=
 ∃ D' P', TS B w' t b L h D' P' r ∧ AppOk h D P D' P' ∧ Keep (fun k => L.foot k ∨ k = b) w w' ∧
  ((∃ page height : Int, e = .returned (.tuple #[.agg #[.int .i64 page, .int .i64 0, .int .i64 height], .int .i64 0]) ∧ RootC P' page height kvs ∧ D'.down = false ∧ P'.length ≤ P.length + m ∧ (kvs ≠ [] → lv = 1 → P.length < P'.length)) ∨
   (∃ er, e = .returned (.tuple #[.agg #[.int .i64 0, .int .i64 0, .int .i64 0], .int .i64 er]) ∧ Bad D D' P' er ∧ P'.length < P.length + m))

set_option maxRecDepth 100000 in
theorem tree_Empty (w : World) : Calls Tryz.prog 23 #[] w fun e w' => e = .returned (.agg #[.int .i64 (-1), .int .i64 0, .int .i64 0]) ∧ Below w.heap.size w w' := by
 go_enter Tryz.func23, Tryz.ntmps23
 go_wp2_with fail
 refine bodyPost_ret (results_single rfl (.cell w.heap.size 31 _ (0, 0) _ rfl (blk_new w _) rfl rfl rfl .nil)) rfl ?_
 exact ⟨rfl, below_alloc (Below.refl _ _) _⟩
theorem cn_none {P : List Pg} {l : Nat} {n : Nd} {kvs : List KV} (h : Cn P l n kvs) (h0 : n.keys.length = 0) : kvs = [] := by
 match l, h with
 | 1, h =>
  have h : n = leafOf kvs := h
  subst h
  simpa [leafOf] using h0
 | l + 2, h =>
  obtain ⟨ps, rfl, rfl, h3, h4⟩ := h
  have := List.length_pos_iff.2 h3
  have h0 : (ps.map Pt.k).length = 0 := h0
  rw [List.length_map] at h0
  omega
theorem cn_two {P : List Pg} {lv : Nat} {n : Nd} {kvs : List KV} (h : Cn P lv n kvs) (h2 : n.kind = 2) : ∃ l ps, lv = l + 2 ∧ n = branchOf ps ∧ kvs = kvsOf ps ∧ ∀ p ∈ ps, On P (l + 1) p := by
 match lv, h with
 | 1, h =>
  have h : n = leafOf kvs := h
  subst h
  simp [leafOf] at h2
 | l + 2, h =>
  obtain ⟨ps, h3, h4, h5, h6⟩ := h
  exact ⟨l, ps, rfl, h3, h4, h6⟩
/-- What lift carries along. -/
structure LM (B : Nat) (w : World) (t b : Nat) (L : Loc) (h : Nat) (r : Rt) (g : Nat) (n : Nd) (A1 : Option Addr) (c1 : Nat) (A2 : Option Addr) (c2 : Nat) (A3 : Option Addr) (c3 g0 g1 : Nat) (D : Dk) (P : List Pg) (wx : World) : Prop where
 ts : TS B wx t b L h D P r
 kp : Keep (fun k => L.foot k ∨ k = b) w wx
 nvs : NodesV B wx (.slice (some ⟨g, 0, none⟩) 1 1) [n]
 nv : NodeV B wx (.agg #[.int .i64 n.kind, .slice A1 n.keys.length c1, .slice A2 n.vals.length c2, .slice A3 n.kids.length c3]) n
 rb : wx.heap[g0]? = some (.cells #[.int .i64 0, .int .i64 0, .int .i64 0] 31 (0, 0))
 nb : wx.heap[g1]? = some (.cells #[.int .i64 n.kind, .slice A1 n.keys.length c1, .slice A2 n.vals.length c2, .slice A3 n.kids.length c3] 149 (0, 0))
 l0 : w.heap.size ≤ g0
 l1 : w.heap.size ≤ g1
 lB : B ≤ w.heap.size
theorem LM.step {B : Nat} {w : World} {t b : Nat} {L : Loc} {h : Nat} {r : Rt} {g : Nat} {n : Nd} {A1 : Option Addr} {c1 : Nat} {A2 : Option Addr} {c2 : Nat} {A3 : Option Addr} {c3 g0 g1 : Nat} {D D' : Dk} {P P' : List Pg} {wx wy : World} (M : LM B w t b L h r g n A1 c1 A2 c2 A3 c3 g0 g1 D P wx)
  (T : TS B wy t b L h D' P' r) (k : Keep (fun k => L.foot k ∨ k = b) wx wy) : LM B w t b L h r g n A1 c1 A2 c2 A3 c3 g0 g1 D' P' wy :=
 have hf : ∀ i, w.heap.size ≤ i → ¬ (L.foot i ∨ i = b) := fun i hi hf => by have := M.ts.lo i hf; have := M.lB; omega
 ⟨T, M.kp.trans k, M.nvs.keep k M.ts.lo, M.nv.keep k M.ts.lo, k.heap M.rb (hf _ M.l0), k.heap M.nb (hf _ M.l1), M.l0, M.l1, M.lB⟩
theorem LM.below {B : Nat} {w : World} {t b : Nat} {L : Loc} {h : Nat} {r : Rt} {g : Nat} {n : Nd} {A1 : Option Addr} {c1 : Nat} {A2 : Option Addr} {c2 : Nat} {A3 : Option Addr} {c3 g0 g1 : Nat} {D : Dk} {P : List Pg} {wx wy : World} (M : LM B w t b L h r g n A1 c1 A2 c2 A3 c3 g0 g1 D P wx)
  (hb : Below wx.heap.size wx wy) : LM B w t b L h r g n A1 c1 A2 c2 A3 c3 g0 g1 D P wy := M.step (M.ts.below hb) (Keep.below hb)

theorem LM.fin {B : Nat} {w : World} {t b : Nat} {L : Loc} {h : Nat} {r : Rt} {g : Nat} {n : Nd} {A1 : Option Addr} {c1 : Nat} {A2 : Option Addr} {c2 : Nat} {A3 : Option Addr} {c3 g0 g1 : Nat} {D : Dk} {P : List Pg} {wx : World} (M : LM B w t b L h r g n A1 c1 A2 c2 A3 c3 g0 g1 D P wx)
  (x y z : Value) : TS B (((wx.setCell ⟨g0, 0, none⟩ x).setCell ⟨g0, 1, none⟩ y).setCell ⟨g0, 2, none⟩ z) t b L h D P r ∧ Keep (fun k => L.foot k ∨ k = b) w (((wx.setCell ⟨g0, 0, none⟩ x).setCell ⟨g0, 1, none⟩ y).setCell ⟨g0, 2, none⟩ z) := by
 have hB : B ≤ g0 := Nat.le_trans M.lB M.l0
 exact ⟨M.ts.hi ((((Keep.refl (fun k => B ≤ k) wx).setCell (p := ⟨g0, 0, none⟩) (.inl hB) x).setCell (p := ⟨g0, 1, none⟩) (.inl hB) y).setCell (p := ⟨g0, 2, none⟩) (.inl hB) z),
  ((M.kp.setCell (p := ⟨g0, 0, none⟩) (.inr M.l0) x).setCell (p := ⟨g0, 1, none⟩) (.inr M.l0) y).setCell (p := ⟨g0, 2, none⟩) (.inr M.l0) z⟩

set_option maxHeartbeats 2000000 in
set_option maxRecDepth 100000 in
/-- One node. -/
theorem lift_one (w : World) (B : Nat) (t b : Nat) (L : Loc) (h : Nat) (D : Dk) (P : List Pg) (r : Rt) (v : Value) (n : Nd) (kvs : List KV) (lv : Nat) (hB : B ≤ w.heap.size) (T : TS B w t b L h D P r) (up : D.down = false) (N : NodesV B w v [n]) (hn : n.Short) (hC : Cn P lv n kvs) (hG : Good kvs) (hsz : n.pack.size ≤ 240) (hlv : lv ≤ 1000) :
  Calls Tryz.prog 152 #[.pointer (some ⟨t, 0, none⟩), v, .int .i64 (lv : Int)] w (LiPost B w t b L h D P r kvs 1 lv) := by
 obtain ⟨g, hv⟩ : ∃ g, v = .slice (some ⟨g, 0, none⟩) 1 1 := by
  rcases N with ⟨a, x, g, -, rfl, -, -, -⟩ | ⟨a, b, x, y, g, e, rfl, -, -, -, -⟩
  ·exact ⟨g, rfl⟩
  ·simp at e
 subst hv
 have HC := hi_ hC
 have HG := hi_ hG
 have HS := hi_ hn
 have HK := hi_ (cn_kind hC)
 have HZ := hi_ hsz
 have HU := hi_ up
 have HB := hi_ hB
 have HN := hi_ N
 have HT := hi_ T
 clear hC hG hn hsz up hB N T
 go_enter Tryz.func152, Tryz.ntmps152
 go_upto_region 6 with fail
 have X0 := hi_ (blk_new w (.cells #[.int .i64 0, .int .i64 0, .int .i64 0] 31 (0, 0)))
 have B0 := hi_ (below_alloc (Below.refl w.heap.size w) (.cells #[.int .i64 0, .int .i64 0, .int .i64 0] 31 (0, 0)))
 obtain ⟨g0, hg0⟩ : ∃ g0, g0 = w.heap.size := ⟨_, rfl⟩
 rw [← hg0] at X0 ⊢
 have G0 := hi_ (Nat.le_of_eq hg0.symm)
 clear hg0
 generalize w.alloc (.cells #[.int .i64 0, .int .i64 0, .int .i64 0] 31 (0, 0)) = w0 at *
 obtain ⟨nn, A1, c1, A2, c2, A3, c3, hn0, y0, y1, y2, y3, NY⟩ := (HN.out.below B0.out).at (show 0 < 1 by omega)
 obtain rfl : nn = n := by simpa using hn0.symm
 simp only [Nat.zero_mul, Nat.zero_add] at y0 y1 y2 y3
 have NY := hi_ NY
 clear hn0
 go_upto_region 7 with fail
 have M1 : Hid (LM B w t b L h r g nn A1 c1 A2 c2 A3 c3 g0 w0.heap.size D P (w0.alloc (.cells #[.int .i64 nn.kind, .slice A1 nn.keys.length c1, .slice A2 nn.vals.length c2, .slice A3 nn.kids.length c3] 149 (0, 0)))) := by
  have hb := below_alloc (Below.refl w0.heap.size w0) (.cells #[.int .i64 nn.kind, .slice A1 nn.keys.length c1, .slice A2 nn.vals.length c2, .slice A3 nn.kids.length c3] 149 (0, 0))
  have hb0 := below_alloc B0.out (.cells #[.int .i64 nn.kind, .slice A1 nn.keys.length c1, .slice A2 nn.vals.length c2, .slice A3 nn.kids.length c3] 149 (0, 0))
  exact hi_ ⟨HT.out.below hb0, Keep.below hb0, HN.out.below hb0, NY.out.below hb, blk_below X0.out hb, heap_alloc_self w0 _, G0.out, B0.out.size, HB.out⟩
 generalize w0.alloc (.cells #[.int .i64 nn.kind, .slice A1 nn.keys.length c1, .slice A2 nn.vals.length c2, .slice A3 nn.kids.length c3] 149 (0, 0)) = w1 at *
 obtain ⟨g1, hg1⟩ : ∃ g1, g1 = w0.heap.size := ⟨_, rfl⟩
 rw [← hg1] at M1 ⊢
 clear hg1 y0 y1 y2 y3 X0 B0 G0 NY HN HT
 have x0 := blk_cell M1.out.nb 0
 have x1 := blk_cell M1.out.nb 1
 have x2 := blk_cell M1.out.nb 2
 have x3 := blk_cell M1.out.nb 3
 go_wp2_with fail
 obtain ⟨C1, k1, C2, k2, C3, k3⟩ := M1.out.nv.outs
 obtain ⟨kn, hkn⟩ : ∃ kn : Int, kn = (nn.keys.length : Int) := ⟨_, rfl⟩
 refine (PNd.node_Node_Len.calls nn.kind A1 c1 nn.keys A2 c2 nn.vals A3 c3 nn.kids kn w1 C1 k1 C2 k2 C3 k3 (by rw [hkn]; rfl)).mono ?_
 have HKN := hi_ hkn
 clear C1 k1 C2 k2 C3 k3 x0 x1 x2 x3 hkn
 rintro e w2 ⟨rfl, hb⟩
 have M2 := hi_ (M1.out.below hb)
 clear hb M1
 have x0 := blk_cell M2.out.nb 0
 have x1 := blk_cell M2.out.nb 1
 have x2 := blk_cell M2.out.nb 2
 have x3 := blk_cell M2.out.nb 3
 by_cases hk0 : kn = 0
 ·-- no keys are left
  subst hk0
  go_wp2_with fail
  refine (tree_Empty w2).mono ?_
  rintro e w3 ⟨rfl, hb⟩
  have M3 := hi_ (M2.out.below hb)
  clear hb M2 x0 x1 x2 x3
  have q0 := blk_cell M3.out.rb 0
  have q1 := blk_cell M3.out.rb 1
  have q2 := blk_cell M3.out.rb 2
  have f0 := blk_frozen M3.out.rb 0
  have f1 := blk_frozen M3.out.rb 1
  have f2 := blk_frozen M3.out.rb 2
  go_wp2_with fail
  refine bodyPost_ret (results_ct rfl _ _ g0 31 #[.int .i64 (-1), .int .i64 0, .int .i64 0] (0, 0) _ rfl (blk_put (blk_put (blk_put M3.out.rb 0 _ rfl) 1 _ rfl) 2 _ rfl) rfl rfl rfl) rfl ?_
  have hfin := M3.out.fin (.int .i64 (-1)) (.int .i64 0) (.int .i64 0)
  refine ⟨D, P, hfin.1, AppOk.refl M3.out.ts.st.room M3.out.ts.st.holds, hfin.2, .inl ⟨_, _, rfl, .inl ⟨rfl, rfl, ?_⟩, HU.out, by omega, fun h0 => absurd (cn_none HC.out (by have := HKN.out; omega)) h0⟩⟩
  exact cn_none HC.out (by have := HKN.out; omega)
 ·have hk0' : (kn == 0) = false := by simpa using hk0
  have HFit : Hid (∀ m ∈ [nn], m.Fit) := hi_ (fun m hm => by
   obtain rfl := List.mem_singleton.1 hm
   exact ⟨HS.out.fine, HK.out.2.1, by have := HKN.out; omega, HZ.out⟩)
  clear hk0
  by_cases hkd : nn.kind = 2
  ·have hkd' : (nn.kind == 2) = true := by simpa using hkd
   have HKD := hi_ hkd
   clear hkd
   go_wp2_with fail
   obtain ⟨C1, k1, C2, k2, C3, k3⟩ := M2.out.nv.outs
   refine (PNd.node_Node_Len.calls nn.kind A1 c1 nn.keys A2 c2 nn.vals A3 c3 nn.kids kn w2 C1 k1 C2 k2 C3 k3 (by rw [HKN.out]; rfl)).mono ?_
   clear C1 k1 C2 k2 C3 k3 x0 x1 x2 x3
   rintro e w3 ⟨rfl, hb⟩
   replace M2 := hi_ (M2.out.below hb)
   clear hb
   obtain ⟨w2, hw2⟩ : ∃ w2, w2 = w3 := ⟨_, rfl⟩
   rw [← hw2] at M2 ⊢
   clear hw2
   have x0 := blk_cell M2.out.nb 0
   have x1 := blk_cell M2.out.nb 1
   have x2 := blk_cell M2.out.nb 2
   have x3 := blk_cell M2.out.nb 3
   by_cases hk1 : kn = 1
   ·-- one child alone
    subst hk1
    obtain ⟨l, ps, hlv, hps, hkv, hpo⟩ := cn_two HC.out HKD.out
    obtain ⟨p, rfl⟩ : ∃ p, ps = [p] := by
     have hl : ps.length = 1 := by have := HKN.out; rw [hps] at this; simp [branchOf] at this; omega
     exact List.length_eq_one_iff.1 hl
    obtain ⟨ad, c, rfl, hcl, hcK, hcc⟩ := Kd.C_get M2.out.nv.outs.2.2.2.2.1 0 0 om_ (by rw [hps]; simp [branchOf])
    have hK : c = [.int .i64 ((p.c : Nat) : Int)] := by
     simp only [Kd.int, Kd.scalar, hps, branchOf] at hcK
     exact hcK
    have z0 : w2.cell? ad = some (.int .i64 ((p.c : Nat) : Int)) := by
     have := hcc 0 (.int .i64 ((p.c : Nat) : Int)) (by rw [hK]; rfl)
     simpa [Kd.int, Kd.scalar, Addr.add] using this
    have hki : 0 < nn.kids.length := by rw [hps]; simp [branchOf]
    have hlw : IntKind.i64.wrap ((lv : Int) - 1) = ((l + 1 : Nat) : Int) := by rw [IntWalk.i64_in _ (by omega)]; omega
    have M3 := M2
    have HPS := hi_ hps
    have HLV := hi_ hlv
    have HKVS := hi_ hkv
    have HPO := hi_ hpo
    clear hcc hcK hcl hK M2 hps hlv hkv hpo
    have q0 := blk_cell M3.out.rb 0
    have q1 := blk_cell M3.out.rb 1
    have q2 := blk_cell M3.out.rb 2
    have f0 := blk_frozen M3.out.rb 0
    have f1 := blk_frozen M3.out.rb 1
    have f2 := blk_frozen M3.out.rb 2
    go_wp2_with fail
    refine bodyPost_ret (results_ct rfl _ _ g0 31 #[.int .i64 ((p.c : Nat) : Int), .int .i64 0, .int .i64 ((l : Int) + 1)] (0, 0) _ rfl (blk_put (blk_put (blk_put M3.out.rb 0 _ rfl) 1 _ rfl) 2 _ rfl) rfl rfl rfl) rfl ?_
    have hfin := M3.out.fin (.int .i64 ((p.c : Nat) : Int)) (.int .i64 0) (.int .i64 ((l : Int) + 1))
    obtain ⟨-, -, m, q1, q2, q3, q4⟩ := HPO.out p List.mem_cons_self
    refine ⟨D, P, hfin.1, AppOk.refl M3.out.ts.st.room M3.out.ts.st.holds, hfin.2, .inl ⟨_, _, rfl, .inr ⟨l + 1, p.c, m, by omega, rfl, q1, q2, ?_, fun _ => q3⟩, HU.out, by omega, fun _ h1 => by have := HLV.out; omega⟩⟩
    have e : kvs = p.kv := by rw [HKVS.out]; simp [kvsOf]
    rw [e]
    exact q4
   ·have hk1' : (kn == 1) = false := by simpa using hk1
    have HK1 := hi_ hk1
    clear hk1
    go_wp2_with fail
    refine (tree_write w2 B t b L h D P r _ [nn] (Nat.le_trans HB.out M2.out.kp.size) M2.out.ts HU.out M2.out.nvs HFit.out).mono ?_
    clear x0 x1 x2 x3
    rintro e w3 ⟨D3, P3, T3, A3', K3, hres⟩
    have M3 := hi_ (M2.out.step T3 K3)
    have A3' := hi_ A3'
    clear T3 K3 M2
    rcases hres with ⟨u1, u2, rfl, r1, r2, hP3, up3⟩ | ⟨er, rfl, hbad, hlt⟩
    ·have hR1 := hi_ r1
     rw [show pagesFrom P.length [nn].length = [((P.length : Nat) : Int)] from rfl] at r2
     have hR2 := hi_ r2
     obtain ⟨U1, d1, rfl⟩ := Kd.R_slice r1
     obtain ⟨U2, d2, rfl⟩ := Kd.R_slice r2
     have HP3 := hi_ hP3
     have up3 := hi_ up3
     clear r1 r2 hP3
     obtain ⟨-, e2', E2⟩ := Kd.R_reads' hR2.out
     obtain ⟨ad, c, rfl, hcl, hcK, hcc⟩ := Kd.C_get E2 0 0 om_ (by simp)
     have hK : c = [.int .i64 ((P.length : Nat) : Int)] := by
      simp only [Kd.int, Kd.scalar] at hcK
      exact hcK
     have z0 : w3.cell? ad = some (.int .i64 ((P.length : Nat) : Int)) := by
      have := hcc 0 (.int .i64 ((P.length : Nat) : Int)) (by rw [hK]; rfl)
      simpa [Kd.int, Kd.scalar, Addr.add] using this
     clear hcc hcK hcl hK e2' E2
     have q0 := blk_cell M3.out.rb 0
     have q1 := blk_cell M3.out.rb 1
     have q2 := blk_cell M3.out.rb 2
     have f0 := blk_frozen M3.out.rb 0
     have f1 := blk_frozen M3.out.rb 1
     have f2 := blk_frozen M3.out.rb 2
     go_wp2_with fail
     refine bodyPost_ret (results_ct rfl _ _ g0 31 #[.int .i64 ((P.length : Nat) : Int), .int .i64 0, .int .i64 lv] (0, 0) _ rfl (blk_put (blk_put (blk_put M3.out.rb 0 _ rfl) 1 _ rfl) 2 _ rfl) rfl rfl rfl) rfl ?_
     have hfin := M3.out.fin (.int .i64 ((P.length : Nat) : Int)) (.int .i64 0) (.int .i64 (lv : Int))
     refine ⟨D3, P3, hfin.1, A3'.out, hfin.2, .inl ⟨_, _, rfl, .inr ⟨lv, P.length, nn, rfl, rfl, by rw [HP3.out]; simp, HFit.out nn List.mem_cons_self, by rw [HP3.out]; exact HC.out.pre, fun _ => by have := HKN.out; have := HK1.out; have := (HFit.out nn List.mem_cons_self).some; omega⟩, up3.out, by rw [HP3.out]; simp, fun _ _ => by rw [HP3.out]; simp⟩⟩
    ·have hbad := hi_ hbad
     have hlt := hi_ hlt
     have her : (er == 0) = false := by have := hbad.out; unfold Bad at this; simp; omega
     have q0 := blk_cell M3.out.rb 0
     have q1 := blk_cell M3.out.rb 1
     have q2 := blk_cell M3.out.rb 2
     have f0 := blk_frozen M3.out.rb 0
     have f1 := blk_frozen M3.out.rb 1
     have f2 := blk_frozen M3.out.rb 2
     go_wp2_with fail
     refine bodyPost_ret (results_ct rfl _ _ g0 31 #[.int .i64 0, .int .i64 0, .int .i64 0] (0, 0) _ rfl (blk_put (blk_put (blk_put M3.out.rb 0 _ rfl) 1 _ rfl) 2 _ rfl) rfl rfl rfl) rfl ?_
     have hfin := M3.out.fin (.int .i64 0) (.int .i64 0) (.int .i64 0)
     exact ⟨D3, P3, hfin.1, A3'.out, hfin.2, .inr ⟨er, rfl, hbad.out, hlt.out⟩⟩
  ·have hkd' : (nn.kind == 2) = false := by simpa using hkd
   have HKD := hi_ hkd
   clear hkd
   go_wp2_with fail
   refine (tree_write w2 B t b L h D P r _ [nn] (Nat.le_trans HB.out M2.out.kp.size) M2.out.ts HU.out M2.out.nvs HFit.out).mono ?_
   clear x0 x1 x2 x3
   rintro e w3 ⟨D3, P3, T3, A3', K3, hres⟩
   have M3 := hi_ (M2.out.step T3 K3)
   have A3' := hi_ A3'
   clear T3 K3 M2
   rcases hres with ⟨u1, u2, rfl, r1, r2, hP3, up3⟩ | ⟨er, rfl, hbad, hlt⟩
   ·have hR1 := hi_ r1
    rw [show pagesFrom P.length [nn].length = [((P.length : Nat) : Int)] from rfl] at r2
    have hR2 := hi_ r2
    obtain ⟨U1, d1, rfl⟩ := Kd.R_slice r1
    obtain ⟨U2, d2, rfl⟩ := Kd.R_slice r2
    have HP3 := hi_ hP3
    have up3 := hi_ up3
    clear r1 r2 hP3
    obtain ⟨-, e2', E2⟩ := Kd.R_reads' hR2.out
    obtain ⟨ad, c, rfl, hcl, hcK, hcc⟩ := Kd.C_get E2 0 0 om_ (by simp)
    have hK : c = [.int .i64 ((P.length : Nat) : Int)] := by
     simp only [Kd.int, Kd.scalar] at hcK
     exact hcK
    have z0 : w3.cell? ad = some (.int .i64 ((P.length : Nat) : Int)) := by
     have := hcc 0 (.int .i64 ((P.length : Nat) : Int)) (by rw [hK]; rfl)
     simpa [Kd.int, Kd.scalar, Addr.add] using this
    clear hcc hcK hcl hK e2' E2
    have q0 := blk_cell M3.out.rb 0
    have q1 := blk_cell M3.out.rb 1
    have q2 := blk_cell M3.out.rb 2
    have f0 := blk_frozen M3.out.rb 0
    have f1 := blk_frozen M3.out.rb 1
    have f2 := blk_frozen M3.out.rb 2
    go_wp2_with fail
    refine bodyPost_ret (results_ct rfl _ _ g0 31 #[.int .i64 ((P.length : Nat) : Int), .int .i64 0, .int .i64 lv] (0, 0) _ rfl (blk_put (blk_put (blk_put M3.out.rb 0 _ rfl) 1 _ rfl) 2 _ rfl) rfl rfl rfl) rfl ?_
    have hfin := M3.out.fin (.int .i64 ((P.length : Nat) : Int)) (.int .i64 0) (.int .i64 (lv : Int))
    refine ⟨D3, P3, hfin.1, A3'.out, hfin.2, .inl ⟨_, _, rfl, .inr ⟨lv, P.length, nn, rfl, rfl, by rw [HP3.out]; simp, HFit.out nn List.mem_cons_self, by rw [HP3.out]; exact HC.out.pre, fun h2 => absurd (HK.out.2.1.resolve_right HKD.out) (by rw [HK.out.1]; omega)⟩, up3.out, by rw [HP3.out]; simp, fun _ _ => by rw [HP3.out]; simp⟩⟩
   ·have hbad := hi_ hbad
    have hlt := hi_ hlt
    have her : (er == 0) = false := by have := hbad.out; unfold Bad at this; simp; omega
    have q0 := blk_cell M3.out.rb 0
    have q1 := blk_cell M3.out.rb 1
    have q2 := blk_cell M3.out.rb 2
    have f0 := blk_frozen M3.out.rb 0
    have f1 := blk_frozen M3.out.rb 1
    have f2 := blk_frozen M3.out.rb 2
    go_wp2_with fail
    refine bodyPost_ret (results_ct rfl _ _ g0 31 #[.int .i64 0, .int .i64 0, .int .i64 0] (0, 0) _ rfl (blk_put (blk_put (blk_put M3.out.rb 0 _ rfl) 1 _ rfl) 2 _ rfl) rfl rfl rfl) rfl ?_
    have hfin := M3.out.fin (.int .i64 0) (.int .i64 0) (.int .i64 0)
    exact ⟨D3, P3, hfin.1, A3'.out, hfin.2, .inr ⟨er, rfl, hbad.out, hlt.out⟩⟩
end Go.Proofs.YtendgmblgdkiaaaGreat

namespace Go.Proofs.YtendgmblgdkiaaaGreat
open Go.RowKit
open Go.Proofs.YtendgmblgdkiaaaGreatW
open PrintWords PrintLast PrintMore
set_option linter.unusedVariables false
set_option linter.unusedSimpArgs false
attribute [-go_sem] Instr.buildSlice
attribute [local go_sem] nodes1

theorem fin3 {B : Nat} {w wx : World} {t b : Nat} {L : Loc} {h : Nat} {r : Rt} {g0 : Nat} {D : Dk} {P : List Pg} (T : TS B wx t b L h D P r) (k : Keep (fun k => L.foot k ∨ k = b) w wx) (hB : B ≤ w.heap.size) (hg : w.heap.size ≤ g0)
  (x y z : Value) : TS B (((wx.setCell ⟨g0, 0, none⟩ x).setCell ⟨g0, 1, none⟩ y).setCell ⟨g0, 2, none⟩ z) t b L h D P r ∧ Keep (fun k => L.foot k ∨ k = b) w (((wx.setCell ⟨g0, 0, none⟩ x).setCell ⟨g0, 1, none⟩ y).setCell ⟨g0, 2, none⟩ z) := by
 have hB : B ≤ g0 := Nat.le_trans hB hg
 exact ⟨T.hi ((((Keep.refl (fun k => B ≤ k) wx).setCell (p := ⟨g0, 0, none⟩) (.inl hB) x).setCell (p := ⟨g0, 1, none⟩) (.inl hB) y).setCell (p := ⟨g0, 2, none⟩) (.inl hB) z),
  ((k.setCell (p := ⟨g0, 0, none⟩) (.inr hg) x).setCell (p := ⟨g0, 1, none⟩) (.inr hg) y).setCell (p := ⟨g0, 2, none⟩) (.inr hg) z⟩
theorem branch_two {P : List Pg} {l : Nat} {qs : List Pt} (h : Ps P l qs) (h2 : qs.length = 2) (hP : P.length ≤ 90000) : (branchOf qs).Short ∧ (branchOf qs).pack.size ≤ 240 := by
 have h0 : qs ≠ [] := by intro e; rw [e] at h2; simp at h2
 have ho := branch_ok h om_ h0 om_
 have hl : (branchOf qs).keys.length = qs.length := List.length_map _
 have hs := branch_S qs qs.length (Nat.le_refl _)
 rw [List.take_length] at hs
 have hle : (qs.map e2).sum ≤ 22 * qs.length := sum_le fun p hp => (e2_le (h.key hp) (by have := h.page hp; omega)).2
 refine ⟨⟨ho.fine, ho.shape, ho.ent, by rw [hl]; omega, by rw [hl]; omega⟩, ?_⟩
 rw [Nd.pack_size, hl, vNum_one (by omega), hs]
 omega

set_option maxHeartbeats 2000000 in
set_option maxRecDepth 100000 in
theorem tree_lift (w : World) (B : Nat) (t b : Nat) (L : Loc) (h : Nat) (D : Dk) (P : List Pg) (r : Rt) (v : Value) (l : List Nd) (n : Nd) (kvs : List KV) (lv : Nat) (hB : B ≤ w.heap.size) (T : TS B w t b L h D P r) (up : D.down = false) (N : NodesV B w v l) (hp : PartsOf n l) (hn : n.Short) (hC : Cn P lv n kvs) (hG : Good kvs) (hlv : lv ≤ 900) :
  Calls Tryz.prog 152 #[.pointer (some ⟨t, 0, none⟩), v, .int .i64 (lv : Int)] w (LiPost B w t b L h D P r kvs (2 * l.length - 1) lv) := by
 rcases hp with ⟨hsz, rfl⟩ | hp
 ·exact lift_one w B t b L h D P r v n kvs lv hB T up N hn hC hG hsz om_
 ·have hl2 : l.length = 2 := by obtain ⟨c, -, -, -, -, rfl⟩ := hp; rfl
  rw [show 2 * l.length - 1 = 3 by rw [hl2]]
  have hroom := T.st.room
  have hmost := room_le T.st.d.ok
  obtain ⟨HFit, qs, hq1, hq2, hq3, hq4, hq5, hq6, hq7⟩ := new_pts hC hG om_ hn (.inr hp) (by intro e; rw [e] at hl2; simp at hl2)
  have CW := hi_ (fun W (hW : Below w.heap.size w W) => tree_write W B t b L h D P r v l (Nat.le_trans hB hW.size) (T.below hW) up (N.below hW) HFit)
  obtain ⟨g, hv⟩ : ∃ g, v = .slice (some ⟨g, 0, none⟩) 2 2 := by
   rcases N with ⟨a, x, g, rfl, -, -, -, -⟩ | ⟨a, b, x, y, g, rfl, rfl, -, -, -, -⟩
   ·simp at hl2
   ·exact ⟨g, rfl⟩
  subst hv
  have HL := hi_ hl2
  have HQ1 := hi_ hq1
  have HQ2 := hi_ hq2
  have HQ3 := hi_ hq3
  have HQ5 := hi_ hq5
  have HQ7 := hi_ hq7
  have HG := hi_ hG
  have HB := hi_ hB
  have HT := hi_ T
  have HLV := hi_ hlv
  have hlw : IntKind.i64.wrap ((lv : Int) + 1) = ((lv + 1 : Nat) : Int) := by rw [IntWalk.i64_in _ (by omega)]; omega
  have hk := (cn_kind hC).2.2
  have HK := hi_ hk
  clear hl2 hroom hmost hq1 hq2 hq3 hq4 hq5 hq6 hq7 HFit N hp hn hC hG hlv T up hB hk
  go_enter Tryz.func152, Tryz.ntmps152
  go_upto_region 2 with fail
  have X0 := hi_ (blk_new w (.cells #[.int .i64 0, .int .i64 0, .int .i64 0] 31 (0, 0)))
  have B0 := hi_ (below_alloc (Below.refl w.heap.size w) (.cells #[.int .i64 0, .int .i64 0, .int .i64 0] 31 (0, 0)))
  obtain ⟨g0, hg0⟩ : ∃ g0, g0 = w.heap.size := ⟨_, rfl⟩
  rw [← hg0] at X0 ⊢
  have G0 := hi_ (Nat.le_of_eq hg0.symm)
  clear hg0
  generalize w.alloc (.cells #[.int .i64 0, .int .i64 0, .int .i64 0] 31 (0, 0)) = w0 at *
  go_wp2_with fail
  refine (CW.out w0 B0.out).mono ?_
  clear CW
  rintro e w3 ⟨D3, P3, T3, A3, K3, hres⟩
  have hng : ∀ i, w.heap.size ≤ i → ¬ (L.foot i ∨ i = b) := fun i hi hf => by have := T3.lo i hf; have := HB.out; omega
  have X3 := hi_ (K3.heap X0.out (hng _ G0.out))
  have T3 := hi_ T3
  have A3 := hi_ A3
  have KP := hi_ ((Keep.below B0.out).trans K3)
  have HNG := hi_ hng
  clear K3 X0 hng
  rcases hres with ⟨u1, u2, rfl, r1, r2, hP3, up3⟩ | ⟨er, rfl, hbad, hlt⟩
  ·obtain ⟨ks, hks⟩ : ∃ ks, ks = l.map Nd.least := ⟨_, rfl⟩
   obtain ⟨cs, hcs⟩ : ∃ cs, cs = pagesFrom P.length l.length := ⟨_, rfl⟩
   rw [← hks] at r1
   rw [← hcs] at r2
   have HKS := hi_ hks
   have HCS := hi_ hcs
   clear hks hcs
   have hR1 := hi_ (Kd.R_lower r1 B0.out.size)
   have hR2 := hi_ (Kd.R_lower r2 B0.out.size)
   obtain ⟨U1, d1, rfl⟩ := Kd.R_slice r1
   obtain ⟨U2, d2, rfl⟩ := Kd.R_slice r2
   have HP3 := hi_ hP3
   have up3 := hi_ up3
   clear r1 r2 hP3
   go_wp2_with fail
   have hba := below_alloc (Below.refl w3.heap.size w3) (.cells #[.int .i64 2, .slice U1 ks.length d1, .slice none 0 0, .slice U2 cs.length d2] 149 (0, 0))
   have hk1 : (branchOf qs).keys = ks := by rw [HKS.out]; exact HQ1.out
   have hk2 : (branchOf qs).kids = cs := by rw [HCS.out]; exact HQ2.out
   have NN : NodesV B (w3.alloc (.cells #[.int .i64 2, .slice U1 ks.length d1, .slice none 0 0, .slice U2 cs.length d2] 149 (0, 0))) (.slice (some ⟨w3.heap.size, 0, none⟩) 1 1) [branchOf qs] :=
    .inl ⟨branchOf qs, .agg #[.int .i64 2, .slice U1 ks.length d1, .slice none 0 0, .slice U2 cs.length d2], w3.heap.size, rfl, rfl, Nat.le_trans HB.out KP.out.size, heap_alloc_self w3 _, _, _, _, rfl, by rw [hk1]; exact Kd.R_below (Kd.R_lower hR1.out HB.out) hba, Kd.R_nil _ _ _ _ _, by rw [hk2]; exact Kd.R_below (Kd.R_lower hR2.out HB.out) hba⟩
   obtain ⟨l', hl'⟩ : ∃ l', lv = l' + 1 := ⟨lv - 1, by have := HK.out; omega⟩
   have hPs : Ps P3 lv qs := ⟨by rw [HQ3.out]; exact HG.out, by rw [HP3.out]; exact HQ7.out⟩
   have hm3 := room_le T3.out.st.d.ok
   have hr3 := T3.out.st.room
   have h2 := branch_two hPs (by rw [HQ5.out]; exact HL.out) om_
   have hC3 : Cn P3 (lv + 1) (branchOf qs) kvs := by
    rw [hl']
    exact ⟨qs, rfl, HQ3.out.symm, by intro e; have := HQ5.out; rw [e, HL.out] at this; simp at this, fun p hp => by have := hPs.on p hp; rw [hl'] at this; exact this⟩
   have CL := lift_one _ B t b L h D3 P3 r _ (branchOf qs) kvs (lv + 1) (Nat.le_trans HB.out (Nat.le_trans KP.out.size hba.size)) (T3.out.below hba) up3.out NN h2.1 hC3 HG.out h2.2 (by have := HLV.out; omega)
   rw [show ((lv + 1 : Nat) : Int) = (lv : Int) + 1 by omega] at CL
   refine CL.mono ?_
   clear CL NN hk1 hk2 hl' hPs hm3 hr3 h2 hC3
   rintro e w5 ⟨D5, P5, T5, A5, K5, hres⟩
   have K4 := (Keep.below (F := fun k => L.foot k ∨ k = b) hba).trans K5
   have X5 := hi_ (K4.heap X3.out (HNG.out _ G0.out))
   have KQ := hi_ (KP.out.trans K4)
   have T5 := hi_ T5
   have HP5 := hi_ (show P3.length ≤ P5.length by obtain ⟨X, hX⟩ := A5.pre; rw [hX, List.length_append]; omega)
   have A5 := hi_ (A3.out.trans A5)
   clear K4 K5 hba
   rcases hres with ⟨pg, hg, rfl, hRC, up5, hle, -⟩ | ⟨er, rfl, hbad, hlt⟩
   ·have hRC := hi_ hRC
    have up5 := hi_ up5
    have hle := hi_ hle
    have q0 := blk_cell X5.out 0
    have q1 := blk_cell X5.out 1
    have q2 := blk_cell X5.out 2
    have f0 := blk_frozen X5.out 0
    have f1 := blk_frozen X5.out 1
    have f2 := blk_frozen X5.out 2
    go_wp2_with fail
    refine bodyPost_ret (results_ct rfl _ _ g0 31 #[.int .i64 pg, .int .i64 0, .int .i64 hg] (0, 0) _ rfl (blk_put (blk_put (blk_put X5.out 0 _ rfl) 1 _ rfl) 2 _ rfl) rfl rfl rfl) rfl ?_
    have hfin := fin3 (g0 := g0) T5.out KQ.out HB.out G0.out (.int .i64 pg) (.int .i64 0) (.int .i64 hg)
    exact ⟨D5, P5, hfin.1, A5.out, hfin.2, .inl ⟨_, _, rfl, hRC.out, up5.out, by have h1 := hle.out; rw [HP3.out, List.length_append, List.length_map, HL.out] at h1; omega, fun _ _ => by have h1 := HP5.out; rw [HP3.out, List.length_append, List.length_map, HL.out] at h1; omega⟩⟩
   ·have hbad := hi_ hbad
    have hlt := hi_ hlt
    have q0 := blk_cell X5.out 0
    have q1 := blk_cell X5.out 1
    have q2 := blk_cell X5.out 2
    have f0 := blk_frozen X5.out 0
    have f1 := blk_frozen X5.out 1
    have f2 := blk_frozen X5.out 2
    go_wp2_with fail
    refine bodyPost_ret (results_ct rfl _ _ g0 31 #[.int .i64 0, .int .i64 0, .int .i64 0] (0, 0) _ rfl (blk_put (blk_put (blk_put X5.out 0 _ rfl) 1 _ rfl) 2 _ rfl) rfl rfl rfl) rfl ?_
    have hfin := fin3 (g0 := g0) T5.out KQ.out HB.out G0.out (.int .i64 0) (.int .i64 0) (.int .i64 0)
    exact ⟨D5, P5, hfin.1, A5.out, hfin.2, .inr ⟨er, rfl, Bad.of hbad.out A3.out.wr.live, by have h1 := hlt.out; rw [HP3.out, List.length_append, List.length_map, HL.out] at h1; omega⟩⟩
  ·have hbad := hi_ hbad
   have hlt := hi_ hlt
   have her : (er == 0) = false := by have := hbad.out; unfold Bad at this; simp; omega
   have q0 := blk_cell X3.out 0
   have q1 := blk_cell X3.out 1
   have q2 := blk_cell X3.out 2
   have f0 := blk_frozen X3.out 0
   have f1 := blk_frozen X3.out 1
   have f2 := blk_frozen X3.out 2
   go_wp2_with fail
   refine bodyPost_ret (results_ct rfl _ _ g0 31 #[.int .i64 0, .int .i64 0, .int .i64 0] (0, 0) _ rfl (blk_put (blk_put (blk_put X3.out 0 _ rfl) 1 _ rfl) 2 _ rfl) rfl rfl rfl) rfl ?_
   have hfin := fin3 (g0 := g0) T3.out KP.out HB.out G0.out (.int .i64 0) (.int .i64 0) (.int .i64 0)
   exact ⟨D3, P3, hfin.1, A3.out, hfin.2, .inr ⟨er, rfl, hbad.out, by have := hlt.out; have := HL.out; omega⟩⟩
end Go.Proofs.YtendgmblgdkiaaaGreat

namespace Go.Proofs.YtendgmblgdkiaaaGreat
open Go.RowKit
open Go.Proofs.YtendgmblgdkiaaaGreatW
open PrintWords PrintLast PrintMore
set_option linter.unusedVariables false
set_option linter.unusedSimpArgs false
attribute [-go_sem] Instr.buildSlice
attribute [local go_sem] nodes1 max2_int

/-- A tree with a content. -/
structure TreeC (P : List Pg) (r : Rt) (kvs : List KV) : Prop where
 root : RootC P r.page r.height kvs
 count : r.count = kvs.length
 good : Good kvs
/-- What change comes to, the results told apart by the error. -/
def ChRes (B : Nat) (w : World) (t b : Nat) (L : Loc) (h : Nat) (D : Dk) (P : List Pg) (r : Rt) (key : BA) (ov : Option BA) (lv : Nat) (kvs : List KV) (mx : Nat) (v : Value) (er : Int) (w' : World) : Prop :=
 ∃ D' P', TS B w' t b L h D' P' r ∧ AppOk h D P D' P' ∧ Keep (fun k => L.foot k ∨ k = b) w w' ∧
  ((er = 0 ∧ ∃ l n', NodesV B w' v l ∧ PartsOf n' l ∧ n'.Short ∧ Cn P' lv n' (ed key ov kvs) ∧ D'.down = false ∧ P'.length + (2 * l.length - 1) ≤ P.length + mx ∧ (2 ≤ lv → P.length < P'.length)) ∨
   (er ≠ 0 ∧ Bad D D' P' er ∧ P'.length < P.length + mx))
theorem ChPost.res {B : Nat} {w : World} {t b : Nat} {L : Loc} {h : Nat} {D : Dk} {P : List Pg} {r : Rt} {key : BA} {ov : Option BA} {lv : Nat} {n : Nd} {kvs : List KV} {e : Ending} {w' : World} (H : ChPost B w t b L h D P r key ov lv n kvs e w') (hlv : 1 ≤ lv) :
  ∃ v er, e = .returned (.tuple #[v, .int .i64 er]) ∧ ChRes B w t b L h D P r key ov lv kvs (2 * lv + 1) v er w' := by
 obtain ⟨D', P', h1, h2, h3, h4⟩ := H
 rcases h4 with ⟨v, l, n', rfl, a, b, c, d, e, f, -, g⟩ | ⟨er, rfl, a, b⟩
 ·have hl : l.length ≤ 2 := by rcases b with ⟨-, rfl⟩ | ⟨c, -, -, -, -, rfl⟩ <;> simp
  exact ⟨v, 0, rfl, D', P', h1, h2, h3, .inl ⟨rfl, l, n', a, b, c, d, e, by omega, fun h => (g h).2⟩⟩
 ·exact ⟨_, er, rfl, D', P', h1, h2, h3, .inr ⟨by unfold Bad at a; omega, a, by omega⟩⟩

theorem ChRes.base {B : Nat} {w W : World} {t b : Nat} {L : Loc} {h : Nat} {D : Dk} {P : List Pg} {r : Rt} {key : BA} {ov : Option BA} {lv : Nat} {kvs : List KV} {mx : Nat} {v : Value} {er : Int} {w' : World} (H : ChRes B W t b L h D P r key ov lv kvs mx v er w') (hW : Below w.heap.size w W) : ChRes B w t b L h D P r key ov lv kvs mx v er w' := by
 obtain ⟨D', P', a, b', c, d⟩ := H
 exact ⟨D', P', a, b', (Keep.below hW).trans c, d⟩
theorem fin_tree {B : Nat} {w wx : World} {t b : Nat} {L : Loc} {h : Nat} {r : Rt} {D : Dk} {P : List Pg} (T : TS B wx t b L h D P r) (k : Keep (fun k => L.foot k ∨ k = b) w wx) (x y z : Int) :
  TS B (((wx.setCell ⟨t, 1, none⟩ (.int .i64 x)).setCell ⟨t, 2, none⟩ (.int .i64 y)).setCell ⟨t, 3, none⟩ (.int .i64 z)) t b L h D P ⟨x, y, z⟩ ∧ Keep (fun k => (L.foot k ∨ k = b) ∨ k = t) w (((wx.setCell ⟨t, 1, none⟩ (.int .i64 x)).setCell ⟨t, 2, none⟩ (.int .i64 y)).setCell ⟨t, 3, none⟩ (.int .i64 z)) := by
 have hk := (((Keep.refl (fun k => k = t) wx).setCell (p := ⟨t, 1, none⟩) (.inl rfl) (.int .i64 x)).setCell (p := ⟨t, 2, none⟩) (.inl rfl) (.int .i64 y)).setCell (p := ⟨t, 3, none⟩) (.inl rfl) (.int .i64 z)
 refine ⟨⟨⟨T.st.d.keep hk (fun i hi e => T.not (.inl (e ▸ hi))), T.st.p.keep hk (fun e => T.not (.inr e.symm)), T.st.hh, T.st.room, T.st.holds⟩, blk_put (blk_put (blk_put T.tr 1 _ rfl) 2 _ rfl) 3 _ rfl, T.lo, T.tl⟩, ?_⟩
 exact (k.mono (G := fun k => (L.foot k ∨ k = b) ∨ k = t) (fun i _ hi => .inl hi)).trans (hk.mono (fun i _ hi => .inr hi))
theorem cut_back {B : Nat} {wx : World} {t b : Nat} {L : Loc} {h : Nat} {r : Rt} {D : Dk} {P P' : List Pg} (T : TS B wx t b L h D P' r) (hp : ∃ X, P' = P ++ X) :
  Calls Tryz.prog 133 #[.pointer (some ⟨b, 0, none⟩), .int .i64 (P.length : Int)] wx fun e w' => (∃ v : Bool, e = .returned (.bool v)) ∧ TS B w' t b L h D P r ∧ Keep (fun k => L.foot k ∨ k = b) wx w' := by
 obtain ⟨X, rfl⟩ := hp
 refine (pages_Cut wx b L h _ (P.length : Int) T.st.p).mono ?_
 rintro e w' ⟨he, hpg, hk⟩
 have hr := T.st.room
 rw [List.length_append] at hr
 rw [if_pos ⟨by omega, by rw [List.length_append]; omega⟩, Int.toNat_natCast] at hpg
 exact ⟨⟨_, he⟩, ⟨⟨T.st.d.keep hk (fun i hi e => T.st.p.foot T.st.d (e ▸ hi)), hpg, T.st.hh, by omega, T.st.holds.pre⟩, T.tr.keep hk (fun e => T.not (.inr e)), T.lo, T.tl⟩, hk.mono (fun i _ hi => .inr hi)⟩
/-- What apply comes to. -/
def ApPost (B : Nat) (w : World) (t b : Nat) (L : Loc) (h : Nat) (D : Dk) (P : List Pg) (r : Rt) (more : Int) (kvs' : List KV) (e : Ending) (w' : World) : Prop :=
 ∃ D' P' r', TS B w' t b L h D' P' r' ∧ Keep (fun k => (L.foot k ∨ k = b) ∨ k = t) w w' ∧
  ((e = .returned (.int .i64 0) ∧ AppOk h D P D' P' ∧ RootC P' r'.page r'.height kvs' ∧ r'.count = r.count + more ∧ D'.down = false ∧ (P'.length : Int) ≤ P.length + 2 * r.height + 1 ∧ (kvs' ≠ [] → P.length < P'.length)) ∨
   (∃ er, e = .returned (.int .i64 er) ∧ r' = r ∧ P' = P ∧ Wr (fun s => ∃ j, P.length ≤ j ∧ s = D.sector h j) D D' ∧ ((er = 5 ∧ D'.down = false ∧ (D'.room : Int) < P.length + 2 * r.height + 1) ∨ (er = 6 ∧ D'.down = true ∧ ¬ D.Live))))

set_option maxHeartbeats 2000000 in
set_option maxRecDepth 100000 in
theorem tree_apply (B : Nat) (w : World) (t b : Nat) (L : Loc) (h : Nat) (D : Dk) (P : List Pg) (r : Rt) (key : BA) (ov : Option BA) (p1 p2 : Addr) (kvs : List KV) (more : Int) (hB : B ≤ w.heap.size) (T : TS B w t b L h D P r) (up : D.down = false) (hc : Caps (fun k => L.foot k ∨ k = b) ov key p1 p2 w)
  (C : TreeC P r kvs) (hk : keyOk key = true) (hv : ∀ v, ov = some v → valOk v = true) (hdel : ov = none → r.height = 1 ∧ ∃ v, (key, v) ∈ kvs) (hh : r.height ≤ 900) (hm : -1 ≤ more ∧ more ≤ 1) (hct : kvs.length ≤ 100000000) :
  Calls Tryz.prog 99 #[.pointer (some ⟨t, 0, none⟩), .string key, cloV ov p1 p2, .int .i64 more] w (ApPost B w t b L h D P r more (ed key ov kvs)) := by
 have CN := hi_ (pages_Next w b L h P.length T.st.p)
 have HT := hi_ T
 have HU := hi_ up
 have HC := hi_ hc
 have HR := hi_ C
 have HB := hi_ hB
 have c0 := T.tr.c0
 have c1 := T.tr.c1
 have c2 := T.tr.c2
 have c3 := T.tr.c3
 go_enter Tryz.func99, Tryz.ntmps99
 go_wp2_with fail
 refine CN.out.mono ?_
 rintro e w1 ⟨rfl, rfl⟩
 clear CN
 have hdel' := hi_ hdel
 have hG := hi_ C.good
 rcases C.root with ⟨h0, hpg, hkv⟩ | ⟨hn, q, n, hhn, hq, hP, hF, hC, h2⟩
 ·-- the empty tree
  obtain ⟨x, rfl⟩ : ∃ x, ov = some x := by
   cases ov with
   | some x => exact ⟨x, rfl⟩
   | none => obtain ⟨-, v, hv⟩ := hdel rfl; rw [hkv] at hv; cases hv
  rw [h0] at c3
  subst hkv
  clear hdel C T up hc
  unfold cloV
  go_wp2_with fail
  refine (do_put (fun k => L.foot k ∨ k = b) w B _ [] key x p1 p2 hB ⟨_, _, _, rfl, Kd.R_nil _ _ _ _ _, Kd.R_nil _ _ _ _ _, Kd.R_nil _ _ _ _ _⟩ List.Pairwise.nil (by simp) HC.out).mono ?_
  rintro e w3 ⟨v', rfl, NV, hb⟩
  obtain ⟨v1, v2, v3, rfl, g1, g2, g3⟩ := NV
  go_upto_region 8 with fail
  have hpk : (leafOf (ed key (some x) [])).Short ∧ (leafOf (ed key (some x) [])).pack.size ≤ 240 := by
   have h1 := ed_short (kvs := []) (ov := some x) ⟨List.Pairwise.nil, by simp⟩ hk hv (by simp)
   refine ⟨h1.1, ?_⟩
   have e : ed key (some x) [] = [(key, x)] := by simp [ed]
   have h2 := (e1_le (p := (key, x)) ⟨hk, hv x rfl⟩).2
   have h3 := leaf_S [(key, x)] 1 (by simp)
   have h4 : (leafOf [(key, x)]).keys.length = 1 := rfl
   rw [e, Nd.pack_size, h4, vNum_one (by omega), h3]
   simp only [List.take_succ_cons, List.take_zero, List.map_cons, List.map_nil, List.sum_cons, List.sum_nil]
   omega
  have hbx := below_then (Below.refl w.heap.size w) (Nat.le_refl _) hb
  have hby := below_alloc hbx (.cells #[.int .i64 (leafOf (ed key (some x) [])).kind, v1, v2, v3] 149 (0, 0))
  have HRES := hi_ (show ChRes B w t b L h D P r key (some x) 1 [] 1 (.slice (some ⟨w3.heap.size, 0, none⟩) 1 1) 0 (w3.alloc (.cells #[.int .i64 (leafOf (ed key (some x) [])).kind, v1, v2, v3] 149 (0, 0))) from
   ⟨D, P, HT.out.below hby, AppOk.refl HT.out.st.room HT.out.st.holds, Keep.below hby, .inl ⟨rfl, _, _, .inl ⟨leafOf (ed key (some x) []), .agg #[.int .i64 (leafOf (ed key (some x) [])).kind, v1, v2, v3], w3.heap.size, rfl, rfl, Nat.le_trans hB hbx.size, heap_alloc_self w3 _, (show NodeV B w3 _ _ from ⟨v1, v2, v3, rfl, g1, g2, g3⟩).below (below_alloc (Below.refl w3.heap.size w3) _)⟩, .inl ⟨hpk.2, rfl⟩, hpk.1, rfl, HU.out, by simp, fun h => by omega⟩⟩)
  obtain ⟨wx, hwx⟩ : ∃ wx, wx = w3.alloc (.cells #[.int .i64 (leafOf (ed key (some x) [])).kind, v1, v2, v3] 149 (0, 0)) := ⟨_, rfl⟩
  rw [← hwx] at HRES ⊢
  obtain ⟨vv, hvv⟩ : ∃ vv : Value, vv = .slice (some ⟨w3.heap.size, 0, none⟩) 1 1 := ⟨_, rfl⟩
  rw [← hvv] at HRES ⊢
  obtain ⟨er, her'⟩ : ∃ er : Int, er = 0 := ⟨_, rfl⟩
  obtain ⟨HN, hHN⟩ : ∃ HN : Nat, HN = 1 := ⟨_, rfl⟩
  rw [show max (0 : Int) 1 = ((1 : Nat) : Int) from rfl]
  rw [← hHN] at HRES ⊢
  have HKO := hi_ hk
  have HVO := hi_ hv
  have HLO : Hid (HN ≤ 900) := hi_ om_
  have HMX : Hid ((HN : Int) = 2 * r.height + 1) := hi_ om_
  have HCT : Hid (wrap64 (r.count + more) = r.count + more) := hi_ (by have := HR.out.count; unfold wrap64; omega)
  have HHR : Hid (r.height = 0) := hi_ h0
  have HH1 := hi_ hHN
  have HLV1 : Hid (1 ≤ HN) := hi_ om_
  clear hwx hvv g1 g2 g3 hb hpk hbx hby hHN her' hk hv c0 c1 c2 c3 hdel' h0 hpg hB
  obtain ⟨D4, P4, T4, A4, K4, hres⟩ := HRES.out
  rcases hres with ⟨-, l, n', NL, hpo, hsh, hcn, up4, hle, hgr⟩ | ⟨hne, hbad, hlt⟩
  ·have T4 := hi_ T4
   have A4 := hi_ A4
   have K4 := hi_ K4
   have NL := hi_ NL
   have hpo := hi_ hpo
   have hsh := hi_ hsh
   have hcn := hi_ hcn
   have up4 := hi_ up4
   have hle := hi_ hle
   have hgr := hi_ hgr
   clear HRES
   go_upto_region 10 with fail
   have X0 := hi_ (blk_new wx (.cells #[.int .i64 0, .int .i64 0, .int .i64 0] 31 (0, 0)))
   have B0 := hi_ (below_alloc (Below.refl wx.heap.size wx) (.cells #[.int .i64 0, .int .i64 0, .int .i64 0] 31 (0, 0)))
   obtain ⟨g0, hg0⟩ : ∃ g0, g0 = wx.heap.size := ⟨_, rfl⟩
   rw [← hg0] at X0 ⊢
   have G0 := hi_ (show w.heap.size ≤ g0 from hg0 ▸ K4.out.size)
   clear hg0
   generalize wx.alloc (.cells #[.int .i64 0, .int .i64 0, .int .i64 0] 31 (0, 0)) = w5 at *
   go_wp2_with fail
   refine (tree_lift w5 B t b L h D4 P4 r _ l n' _ HN (Nat.le_trans HB.out (Nat.le_trans K4.out.size B0.out.size)) (T4.out.below B0.out) up4.out (NL.out.below B0.out) hpo.out hsh.out hcn.out (ed_good hG.out HKO.out HVO.out) HLO.out).mono ?_
   rintro e w6 ⟨D6, P6, T6, A6, K6, hres⟩
   have hng : ∀ i, w.heap.size ≤ i → ¬ (L.foot i ∨ i = b) := fun i hi hf => by have := T6.lo i hf; have := HB.out; omega
   have X6 := hi_ (K6.heap X0.out (hng _ G0.out))
   have T6 := hi_ T6
   have HP6 := hi_ (show P4.length ≤ P6.length by obtain ⟨X, hX⟩ := A6.pre; rw [hX, List.length_append]; omega)
   have HP4 := hi_ (show P.length ≤ P4.length by obtain ⟨X, hX⟩ := A4.out.pre; rw [hX, List.length_append]; omega)
   have A6 := hi_ (A4.out.trans A6)
   have K6 := hi_ ((K4.out.trans (Keep.below B0.out)).trans K6)
   have HNG := hi_ hng
   clear hng X0 NL hpo hsh hcn
   have q0 := blk_cell X6.out 0
   have q1 := blk_cell X6.out 1
   have q2 := blk_cell X6.out 2
   have f0 := blk_frozen X6.out 0
   have f1 := blk_frozen X6.out 1
   have f2 := blk_frozen X6.out 2
   have tb : g0 ≠ t := fun e => by have := G0.out; have := HB.out; have := T6.out.tl; omega
   have tb' : t ≠ g0 := fun e => tb e.symm
   have t0 := T6.out.tr.c0
   have t1 := T6.out.tr.c1
   have t2 := T6.out.tr.c2
   have t3 := T6.out.tr.c3
   have h1 := T6.out.tr.frz 1
   have h2 := T6.out.tr.frz 2
   have h3 := T6.out.tr.frz 3
   rcases hres with ⟨pg, hg, rfl, hRC, up6, hle6, hgr6⟩ | ⟨er, rfl, hbad6, hlt6⟩
   ·have hRC := hi_ hRC
    have up6 := hi_ up6
    have hle6 := hi_ hle6
    have hgr6 := hi_ hgr6
    go_upto_region 14 with fail
    have hfin := fin3 (g0 := g0) T6.out K6.out HB.out G0.out (.int .i64 pg) (.int .i64 0) (.int .i64 hg)
    have T7 := hi_ hfin.1
    have K7 := hi_ hfin.2
    have X7 := hi_ (show (((w6.setCell ⟨g0, 0, none⟩ (.int .i64 pg)).setCell ⟨g0, 1, none⟩ (.int .i64 0)).setCell ⟨g0, 2, none⟩ (.int .i64 hg)).heap[g0]? = some (.cells #[.int .i64 pg, .int .i64 0, .int .i64 hg] 31 (0, 0)) from blk_put (blk_put (blk_put X6.out 0 _ rfl) 1 _ rfl) 2 _ rfl)
    generalize ((w6.setCell ⟨g0, 0, none⟩ (.int .i64 pg)).setCell ⟨g0, 1, none⟩ (.int .i64 0)).setCell ⟨g0, 2, none⟩ (.int .i64 hg) = w7 at *
    clear hfin q0 q1 q2 f0 f1 f2 t0 t1 t2 t3 h1 h2 h3 X6 T6 K6
    have t2 := T7.out.tr.c2
    have q1 := blk_cell X7.out 1
    have f1 := blk_frozen X7.out 1
    go_upto_region 15 with fail
    obtain ⟨cn, hcn⟩ : ∃ cn, cn = wrap64 (r.count + more) := ⟨_, rfl⟩
    rw [← hcn]
    have HCN := hi_ hcn
    have X8 := hi_ (show (w7.setCell ⟨g0, 1, none⟩ (.int .i64 cn)).heap[g0]? = some (.cells #[.int .i64 pg, .int .i64 cn, .int .i64 hg] 31 (0, 0)) from blk_put X7.out 1 _ rfl)
    have hBg : B ≤ g0 := Nat.le_trans HB.out G0.out
    have T8 := hi_ (T7.out.hi ((Keep.refl (fun k => B ≤ k) w7).setCell (p := ⟨g0, 1, none⟩) (.inl hBg) (.int .i64 cn)))
    have K8 := hi_ (K7.out.setCell (p := ⟨g0, 1, none⟩) (.inr G0.out) (.int .i64 cn))
    generalize w7.setCell ⟨g0, 1, none⟩ (.int .i64 cn) = w8 at *
    clear hcn q1 f1 t2 X7 T7 K7 hBg
    have q0 := blk_cell X8.out 0
    have q1 := blk_cell X8.out 1
    have q2 := blk_cell X8.out 2
    have t1 := T8.out.tr.c1
    have t2 := T8.out.tr.c2
    have t3 := T8.out.tr.c3
    have h1 := T8.out.tr.frz 1
    have h2 := T8.out.tr.frz 2
    have h3 := T8.out.tr.frz 3
    go_wp2_with fail
    go_ret
    have hf := fin_tree T8.out K8.out pg cn hg
    refine ⟨D6, P6, ⟨pg, cn, hg⟩, hf.1, hf.2, .inl ⟨rfl, A6.out, hRC.out, ?_, up6.out, ?_, ?_⟩⟩
    ·show cn = _
     rw [HCN.out]; exact HCT.out
    ·have h1 := hle6.out; have h2 := hle.out; have h3 := HMX.out; omega
    ·intro hk; have h1 := hgr.out; have h2 := hgr6.out hk; have h3 := HP4.out; have h4 := HP6.out; have h5 := HLV1.out; omega
   ·have hbad6 := hi_ hbad6
    have hlt6 := hi_ hlt6
    have her : (er == 0) = false := by have := hbad6.out; unfold Bad at this; simp; omega
    have hbad6 := hbad6
    have hfin := fin3 (g0 := g0) T6.out K6.out HB.out G0.out (.int .i64 0) (.int .i64 0) (.int .i64 0)
    have T7 := hi_ hfin.1
    have K7 := hi_ hfin.2
    clear hfin
    go_wp2_with fail
    generalize ((w6.setCell ⟨g0, 0, none⟩ (.int .i64 0)).setCell ⟨g0, 1, none⟩ (.int .i64 0)).setCell ⟨g0, 2, none⟩ (.int .i64 0) = w7 at *
    refine (cut_back T7.out A6.out.pre).mono ?_
    rintro e w8 ⟨⟨vb, rfl⟩, T8, K8⟩
    have T8 := hi_ T8
    have K8 := hi_ (K7.out.trans K8)
    go_wp2_with fail
    go_ret
    refine ⟨D6, P, r, T8.out, K8.out.mono (fun i _ hi => Or.inl hi), .inr ⟨er, rfl, rfl, rfl, A6.out.wr, ?_⟩⟩
    rcases Bad.of hbad6.out A4.out.wr.live with ⟨a, b', c⟩ | c
    ·exact .inl ⟨a, b', by have h1 := hlt6.out; have h2 := hle.out; have h3 := HMX.out; omega⟩
    ·exact .inr c
  ·exact absurd rfl hne
 ·rw [hhn] at c3
  rw [hq] at c1
  have hn1 := (cn_kind hC).2.2
  have hpos : (0 : Int) < (hn : Int) := by omega
  have CC := hi_ (fun W (hW : Below w.heap.size w W) => (tree_change B t b L h r key ov p1 p2 hn W D P q n kvs ⟨Nat.le_trans hB hW.size, T.below hW, up, hc.keep (Keep.below hW), hP, hF, hC, C.good, hk, hv, fun e => ⟨by have := (hdel e).1; omega, (hdel e).2⟩, by omega, h2⟩).mono (fun e w' H => (H.res hn1).imp fun v => Exists.imp fun er => And.imp_right (fun H => H.base hW)))
  go_upto_region 6 with fail
  have HB0 := hi_ (Below.refl w.heap.size w)
  have hlow := hi_ (show hn ≤ 900 by omega)
  have HN1 := hi_ hn1
  have HHN := hi_ hhn
  have HQQ := hi_ hq
  clear hdel C T up hc hP hF hC h2 hn1 hhn hq
  go_region_held3 (fun w' => w'.cell? ⟨t, 1, none⟩ = some (.int .i64 (q : Int)) ∧ w'.cell? ⟨t, 3, none⟩ = some (.int .i64 (hn : Int)))
   (first | exact ⟨c1, c3⟩ | (with_reducible assumption))
   (first
    | (go_at_call 151; (with_reducible refine (CC.out _ ?_).mono ?_); (repeat (first | (with_reducible assumption) | exact HB0.out | refine bel_drewN ?_ _ | refine bel_drew ?_)); rintro e w2 ⟨v, er, rfl, hres⟩; have f2 : w2.cell? ⟨t, 1, none⟩ = some (.int .i64 (q : Int)) ∧ w2.cell? ⟨t, 3, none⟩ = some (.int .i64 (hn : Int)) := (by obtain ⟨D4, P4, T4, -⟩ := hres; rw [← HHN.out, ← HQQ.out]; exact ⟨T4.tr.c1, T4.tr.c3⟩)))
  have HRES := hi_ hres
  have hmx : max (hn : Int) 1 = (hn : Int) := by have := HN1.out; omega
  rw [hmx]
  obtain ⟨wx, hwx⟩ : ∃ wx, wx = w2 := ⟨_, rfl⟩
  rw [← hwx] at HRES ⊢
  obtain ⟨HN, hHN⟩ : ∃ HN, HN = hn := ⟨_, rfl⟩
  rw [← hHN] at HRES hlow HHN ⊢
  have HKO := hi_ hk
  have HVO := hi_ hv
  have HLO := hlow
  have HLV1 : Hid (1 ≤ HN) := hi_ (by rw [hHN]; exact HN1.out)
  have HMX : Hid (((2 * HN + 1 : Nat) : Int) = 2 * r.height + 1) := hi_ (by have := HHN.out; omega)
  have HCT : Hid (wrap64 (r.count + more) = r.count + more) := hi_ (by have := HR.out.count; unfold wrap64; omega)
  clear hres f2 hwx hmx hk hv c0 c1 c2 c3 hdel' hB hpos CC hHN
  obtain ⟨D4, P4, T4, A4, K4, hres⟩ := HRES.out
  rcases hres with ⟨rfl, l, n', NL, hpo, hsh, hcn, up4, hle, hgr⟩ | ⟨hne, hbad, hlt⟩
  ·have T4 := hi_ T4
   have A4 := hi_ A4
   have K4 := hi_ K4
   have NL := hi_ NL
   have hpo := hi_ hpo
   have hsh := hi_ hsh
   have hcn := hi_ hcn
   have up4 := hi_ up4
   have hle := hi_ hle
   have hgr := hi_ hgr
   clear HRES
   go_upto_region 10 with fail
   have X0 := hi_ (blk_new wx (.cells #[.int .i64 0, .int .i64 0, .int .i64 0] 31 (0, 0)))
   have B0 := hi_ (below_alloc (Below.refl wx.heap.size wx) (.cells #[.int .i64 0, .int .i64 0, .int .i64 0] 31 (0, 0)))
   obtain ⟨g0, hg0⟩ : ∃ g0, g0 = wx.heap.size := ⟨_, rfl⟩
   rw [← hg0] at X0 ⊢
   have G0 := hi_ (show w.heap.size ≤ g0 from hg0 ▸ K4.out.size)
   clear hg0
   generalize wx.alloc (.cells #[.int .i64 0, .int .i64 0, .int .i64 0] 31 (0, 0)) = w5 at *
   go_wp2_with fail
   refine (tree_lift w5 B t b L h D4 P4 r _ l n' _ HN (Nat.le_trans HB.out (Nat.le_trans K4.out.size B0.out.size)) (T4.out.below B0.out) up4.out (NL.out.below B0.out) hpo.out hsh.out hcn.out (ed_good hG.out HKO.out HVO.out) HLO.out).mono ?_
   rintro e w6 ⟨D6, P6, T6, A6, K6, hres⟩
   have hng : ∀ i, w.heap.size ≤ i → ¬ (L.foot i ∨ i = b) := fun i hi hf => by have := T6.lo i hf; have := HB.out; omega
   have X6 := hi_ (K6.heap X0.out (hng _ G0.out))
   have T6 := hi_ T6
   have HP6 := hi_ (show P4.length ≤ P6.length by obtain ⟨X, hX⟩ := A6.pre; rw [hX, List.length_append]; omega)
   have HP4 := hi_ (show P.length ≤ P4.length by obtain ⟨X, hX⟩ := A4.out.pre; rw [hX, List.length_append]; omega)
   have A6 := hi_ (A4.out.trans A6)
   have K6 := hi_ ((K4.out.trans (Keep.below B0.out)).trans K6)
   have HNG := hi_ hng
   clear hng X0 NL hpo hsh hcn
   have q0 := blk_cell X6.out 0
   have q1 := blk_cell X6.out 1
   have q2 := blk_cell X6.out 2
   have f0 := blk_frozen X6.out 0
   have f1 := blk_frozen X6.out 1
   have f2 := blk_frozen X6.out 2
   have tb : g0 ≠ t := fun e => by have := G0.out; have := HB.out; have := T6.out.tl; omega
   have tb' : t ≠ g0 := fun e => tb e.symm
   have t0 := T6.out.tr.c0
   have t1 := T6.out.tr.c1
   have t2 := T6.out.tr.c2
   have t3 := T6.out.tr.c3
   have h1 := T6.out.tr.frz 1
   have h2 := T6.out.tr.frz 2
   have h3 := T6.out.tr.frz 3
   rcases hres with ⟨pg, hg, rfl, hRC, up6, hle6, hgr6⟩ | ⟨er, rfl, hbad6, hlt6⟩
   ·have hRC := hi_ hRC
    have up6 := hi_ up6
    have hle6 := hi_ hle6
    have hgr6 := hi_ hgr6
    go_upto_region 14 with fail
    have hfin := fin3 (g0 := g0) T6.out K6.out HB.out G0.out (.int .i64 pg) (.int .i64 0) (.int .i64 hg)
    have T7 := hi_ hfin.1
    have K7 := hi_ hfin.2
    have X7 := hi_ (show (((w6.setCell ⟨g0, 0, none⟩ (.int .i64 pg)).setCell ⟨g0, 1, none⟩ (.int .i64 0)).setCell ⟨g0, 2, none⟩ (.int .i64 hg)).heap[g0]? = some (.cells #[.int .i64 pg, .int .i64 0, .int .i64 hg] 31 (0, 0)) from blk_put (blk_put (blk_put X6.out 0 _ rfl) 1 _ rfl) 2 _ rfl)
    generalize ((w6.setCell ⟨g0, 0, none⟩ (.int .i64 pg)).setCell ⟨g0, 1, none⟩ (.int .i64 0)).setCell ⟨g0, 2, none⟩ (.int .i64 hg) = w7 at *
    clear hfin q0 q1 q2 f0 f1 f2 t0 t1 t2 t3 h1 h2 h3 X6 T6 K6
    have t2 := T7.out.tr.c2
    have q1 := blk_cell X7.out 1
    have f1 := blk_frozen X7.out 1
    go_upto_region 15 with fail
    obtain ⟨cn, hcn⟩ : ∃ cn, cn = wrap64 (r.count + more) := ⟨_, rfl⟩
    rw [← hcn]
    have HCN := hi_ hcn
    have X8 := hi_ (show (w7.setCell ⟨g0, 1, none⟩ (.int .i64 cn)).heap[g0]? = some (.cells #[.int .i64 pg, .int .i64 cn, .int .i64 hg] 31 (0, 0)) from blk_put X7.out 1 _ rfl)
    have hBg : B ≤ g0 := Nat.le_trans HB.out G0.out
    have T8 := hi_ (T7.out.hi ((Keep.refl (fun k => B ≤ k) w7).setCell (p := ⟨g0, 1, none⟩) (.inl hBg) (.int .i64 cn)))
    have K8 := hi_ (K7.out.setCell (p := ⟨g0, 1, none⟩) (.inr G0.out) (.int .i64 cn))
    generalize w7.setCell ⟨g0, 1, none⟩ (.int .i64 cn) = w8 at *
    clear hcn q1 f1 t2 X7 T7 K7 hBg
    have q0 := blk_cell X8.out 0
    have q1 := blk_cell X8.out 1
    have q2 := blk_cell X8.out 2
    have t1 := T8.out.tr.c1
    have t2 := T8.out.tr.c2
    have t3 := T8.out.tr.c3
    have h1 := T8.out.tr.frz 1
    have h2 := T8.out.tr.frz 2
    have h3 := T8.out.tr.frz 3
    go_wp2_with fail
    go_ret
    have hf := fin_tree T8.out K8.out pg cn hg
    refine ⟨D6, P6, ⟨pg, cn, hg⟩, hf.1, hf.2, .inl ⟨rfl, A6.out, hRC.out, ?_, up6.out, ?_, ?_⟩⟩
    ·show cn = _
     rw [HCN.out]; exact HCT.out
    ·have h1 := hle6.out; have h2 := hle.out; have h3 := HMX.out; omega
    ·intro hk; have h1 := hgr.out; have h2 := hgr6.out hk; have h3 := HP4.out; have h4 := HP6.out; have h5 := HLV1.out; omega
   ·have hbad6 := hi_ hbad6
    have hlt6 := hi_ hlt6
    have her : (er == 0) = false := by have := hbad6.out; unfold Bad at this; simp; omega
    have hbad6 := hbad6
    have hfin := fin3 (g0 := g0) T6.out K6.out HB.out G0.out (.int .i64 0) (.int .i64 0) (.int .i64 0)
    have T7 := hi_ hfin.1
    have K7 := hi_ hfin.2
    clear hfin
    go_wp2_with fail
    generalize ((w6.setCell ⟨g0, 0, none⟩ (.int .i64 0)).setCell ⟨g0, 1, none⟩ (.int .i64 0)).setCell ⟨g0, 2, none⟩ (.int .i64 0) = w7 at *
    refine (cut_back T7.out A6.out.pre).mono ?_
    rintro e w8 ⟨⟨vb, rfl⟩, T8, K8⟩
    have T8 := hi_ T8
    have K8 := hi_ (K7.out.trans K8)
    go_wp2_with fail
    go_ret
    refine ⟨D6, P, r, T8.out, K8.out.mono (fun i _ hi => Or.inl hi), .inr ⟨er, rfl, rfl, rfl, A6.out.wr, ?_⟩⟩
    rcases Bad.of hbad6.out A4.out.wr.live with ⟨a, b', c⟩ | c
    ·exact .inl ⟨a, b', by have h1 := hlt6.out; have h2 := hle.out; have h3 := HMX.out; omega⟩
    ·exact .inr c
  ·have T4 := hi_ T4
   have A4 := hi_ A4
   have K4 := hi_ K4
   have hbad := hi_ hbad
   have hlt := hi_ hlt
   have her : (er == 0) = false := by simpa using hne
   clear hne HRES
   go_upto_region 9 with fail
   have B0 := hi_ (below_alloc (Below.refl wx.heap.size wx) (.cells #[.int .i64 0, .int .i64 0, .int .i64 0] 31 (0, 0)))
   generalize wx.alloc (.cells #[.int .i64 0, .int .i64 0, .int .i64 0] 31 (0, 0)) = w5 at *
   replace T4 := hi_ (T4.out.below B0.out)
   replace K4 := hi_ (K4.out.trans (Keep.below B0.out))
   clear B0
   have t0 := T4.out.tr.c0
   go_wp2_with fail
   refine (cut_back T4.out A4.out.pre).mono ?_
   rintro e w8 ⟨⟨vb, rfl⟩, T8, K8⟩
   have T8 := hi_ T8
   have K8 := hi_ (K4.out.trans K8)
   go_wp2_with fail
   go_ret
   refine ⟨D4, P, r, T8.out, K8.out.mono (fun i _ hi => Or.inl hi), .inr ⟨er, rfl, rfl, rfl, A4.out.wr, ?_⟩⟩
   rcases hbad.out with ⟨a, b', c⟩ | c
   ·exact .inl ⟨a, b', by have h1 := hlt.out; have h3 := HMX.out; omega⟩
   ·exact .inr c
end Go.Proofs.YtendgmblgdkiaaaGreat

namespace Go.Proofs.YtendgmblgdkiaaaGreat
open Go.RowKit
open Go.Proofs.YtendgmblgdkiaaaGreatW
open PrintWords PrintLast PrintMore
set_option linter.unusedVariables false
set_option linter.unusedSimpArgs false

/-- The cells that the way down reads. -/
def Gac (g : Nat) (x0 x1 x2 x3 : Value) (p : Addr) (c : Value) (W : World) : Prop :=
 W.cell? ⟨g, 0, none⟩ = some x0 ∧ W.cell? ⟨g, 1, none⟩ = some x1 ∧ W.cell? ⟨g, 2, none⟩ = some x2 ∧ W.cell? ⟨g, 3, none⟩ = some x3 ∧ W.cell? p = some c
theorem Gac.below {g : Nat} {x0 x1 x2 x3 c : Value} {p : Addr} {W W' : World} (h : Gac g x0 x1 x2 x3 p c W) (hb : Below W.heap.size W W') : Gac g x0 x1 x2 x3 p c W' := by
 have hc : ∀ {p : Addr} {v : Value}, W.cell? p = some v → W'.cell? p = some v := fun {p v} hp => by
  rw [World.cell?_of_block (w := W) (hb.block p.block (World.block_lt_of_cell? W p hp))]; exact hp
 exact ⟨hc h.1, hc h.2.1, hc h.2.2.1, hc h.2.2.2.1, hc h.2.2.2.2⟩
/-- A key's value is asked for on a page. -/
structure GetAt (P : List Pg) (key : BA) (kvs : List KV) (q lv : Nat) (n : Nd) (kv : List KV) : Prop where
 pg : P[q]? = some n.page
 fit : n.Fit
 cn : Cn P lv n kv
 good : Good kv
 low : lv ≤ 1000
 same : ∀ v, (key, v) ∈ kvs ↔ (key, v) ∈ kv
set_option maxHeartbeats 2000000 in
set_option maxRecDepth 100000 in
theorem tree_Get (w : World) (t b : Nat) (L : Loc) (h : Nat) (D : Dk) (P : List Pg) (r : Rt) (S : St w L b h D P) (T : TreeAt w t b r) (up : D.down = false) (key : BA) (kvs : List KV) (C : TreeC P r kvs) (hh : r.height ≤ 900) :
  Calls Tryz.prog 37 #[.pointer (some ⟨t, 0, none⟩), .string key] w fun e w' => ∃ (s : BA) (is : Bool), e = .returned (.tuple #[.string s, .bool is, .int .i64 0]) ∧ Below w.heap.size w w' ∧ (is = true → (key, s) ∈ kvs) ∧ (is = false → s = ByteArray.empty ∧ ∀ v, (key, v) ∉ kvs) := by
 have HS := hi_ S
 have HT := hi_ T
 have HC := hi_ C
 have HU := hi_ up
 have c1 := T.c1
 have c3 := T.c3
 rcases C.root with ⟨h0, hpg, hkv⟩ | ⟨hn, q, n, hhn, hq, hP, hF, hC, h2⟩
 ·rw [h0] at c3
  rw [hpg] at c1
  clear S T C up
  go_enter Tryz.func37, Tryz.ntmps37
  go_wp2_with fail
  go_loopw [8] (fun y wr => y = .int .i64 0 ∧ wr = w) (fun _ _ => 0)
  case atStart => exact ⟨rfl, rfl⟩
  case round =>
   obtain ⟨rfl, rfl⟩ := hrel
   go_wp2_with fail
   go_ret3
   exact ⟨ByteArray.empty, false, rfl, Below.refl _ _, (fun e => by cases e), fun _ => ⟨rfl, fun v hv => by rw [hkv] at hv; cases hv⟩⟩
 ·rw [hhn] at c3
  rw [hq] at c1
  have G0 := hi_ (show GetAt P key kvs q hn n kvs from ⟨hP, hF, hC, C.good, by omega, fun v => Iff.rfl⟩)
  clear S T C up hP hF hC h2 hhn hq
  go_enter Tryz.func37, Tryz.ntmps37
  go_wp2_with fail
  go_loopw [7, 8] (fun x y wr => ∃ (q lv : Nat), x = .int .i64 (q : Int) ∧ y = .int .i64 (lv : Int) ∧ Hid ((lv = 0 ∧ ∀ v, (key, v) ∉ kvs) ∨ ∃ n kv, GetAt P key kvs q lv n kv) ∧ Hid (Below w.heap.size w wr)) (fun _ y _ => (intOf y).toNat)
  case atStart => exact ⟨q, hn, rfl, rfl, hi_ (.inr ⟨n, kvs, G0.out⟩), hi_ (Below.refl _ _)⟩
  case round =>
   obtain ⟨q', lv, rfl, rfl, GS, B1⟩ := hrel
   rcases GS.out with ⟨rfl, hno⟩ | ⟨m, kv, G1⟩
   ·clear c1 c3 G0
    have HNO := hi_ hno
    clear hno GS
    go_wp2_with fail
    go_ret3
    exact ⟨ByteArray.empty, false, rfl, B1.out, (fun e => by cases e), fun _ => ⟨rfl, HNO.out⟩⟩
   replace G1 := hi_ G1
   clear GS
   clear c1 c3 G0
   have hlv : (0 : Int) < (lv : Int) := by have := (cn_kind G1.out.cn).2.2; omega
   have hP := HS.out.room
   have hM := room_le HS.out.d.ok
   have hlp : m.keys.length ≤ m.pack.size := le_packOf m.kind m.keys m.vals m.kids
   have hok := cn_ok G1.out.cn G1.out.good om_ (by have := G1.out.fit.size; omega)
   have HOK := hi_ hok
   have CR := hi_ (tree_read wr t b L h D P r (HS.out.below B1.out) (HT.out.below B1.out) HU.out q' lv m.kind m.keys m.vals m.kids G1.out.pg hok.ok G1.out.fit.some (by rw [(cn_kind G1.out.cn).1]; simp; omega))
   clear hok hlp hM hP
   go_wp2_with fail
   refine CR.out.mono ?_
   clear CR
   rintro e w2 ⟨v1, v2, v3, rfl, g1, g2, g3, hb⟩
   have NV := hi_ (show NodeV wr.heap.size w2 (.agg #[.int .i64 m.kind, v1, v2, v3]) m from ⟨v1, v2, v3, rfl, g1, g2, g3⟩)
   obtain ⟨A1, a1, rfl⟩ := Kd.R_slice g1
   obtain ⟨A2, a2, rfl⟩ := Kd.R_slice g2
   obtain ⟨A3, a3, rfl⟩ := Kd.R_slice g3
   have B2 := hi_ (B1.out.trans (hb.mono B1.out.size))
   clear g1 g2 g3 hb
   by_cases h1 : (1 : Int) < (lv : Int)
   ·obtain ⟨l', rfl⟩ : ∃ l', lv = l' + 2 := ⟨lv - 2, by omega⟩
    obtain ⟨ps, hm, hkv, hps0, hon⟩ := cn_branch.1 G1.out.cn
    subst hm
    subst hkv
    have hPs : Ps P (l' + 1) ps := ⟨G1.out.good, hon⟩
    obtain ⟨pA, pt, pC, hsp, hAl, -, hkey⟩ := child_split hPs hps0 key none
    have hfw := (fit_few HOK.out G1.out.fit.size).2
    have hcf := child_f (branchOf ps).kind (branchOf ps).keys (branchOf ps).vals (branchOf ps).kids key (rising_of (Ps.rise hPs.good hPs.on)) om_ 2000 om_
    have hci : childAt key (branchOf ps).keys = pA.length := hAl.symm
    rw [hci] at hcf
    have HCF := hi_ hcf
    have hpt : pt ∈ ps := by rw [hsp]; simp
    obtain ⟨o1, o2, m', m1, m2, m3, m4⟩ := hon pt hpt
    have G2 : Hid (GetAt P key kvs pt.c (l' + 1) m' pt.kv) := hi_ ⟨m1, m2, m4, by
     have hg := G1.out.good
     have hkvs : kvsOf ps = kvsOf pA ++ (pt.kv ++ kvsOf pC) := by rw [hsp, kvsOf_app, kvsOf_cons]
     rw [hkvs] at hg
     exact (good_app (good_app hg).2.1).1, by have := G1.out.low; omega, fun v => ⟨fun hv => hkey v ((G1.out.same v).1 hv), fun hv => (G1.out.same v).2 (kvsOf_mem hpt hv)⟩⟩
    have hkd : (branchOf ps).kids.getD pA.length 0 = (pt.c : Int) := by
     rw [hsp]
     simp [branchOf, List.getD_eq_getElem?_getD]
    have hidx : (pA.length : Int) < ((branchOf ps).kids.length : Int) := by rw [hsp]; simp [branchOf]; omega
    clear hcf hci hpt o1 o2 m1 m2 m3 m4 hon hPs hps0 hAl hkey hfw hsp
    go_upto_region 9 with fail
    have X3 := hi_ (blk_new w2 (.cells #[.int .i64 (branchOf ps).kind, .slice A1 (branchOf ps).keys.length a1, .slice A2 (branchOf ps).vals.length a2, .slice A3 (branchOf ps).kids.length a3] 149 (0, 0)))
    have N3 := hi_ (NV.out.below (below_alloc (Below.refl w2.heap.size w2) (.cells #[.int .i64 (branchOf ps).kind, .slice A1 (branchOf ps).keys.length a1, .slice A2 (branchOf ps).vals.length a2, .slice A3 (branchOf ps).kids.length a3] 149 (0, 0))))
    have B3 := hi_ (below_alloc B2.out (.cells #[.int .i64 (branchOf ps).kind, .slice A1 (branchOf ps).keys.length a1, .slice A2 (branchOf ps).vals.length a2, .slice A3 (branchOf ps).kids.length a3] 149 (0, 0)))
    obtain ⟨g, hg⟩ : ∃ g, g = w2.heap.size := ⟨_, rfl⟩
    rw [← hg] at X3 ⊢
    clear hg NV B2
    generalize w2.alloc (.cells #[.int .i64 (branchOf ps).kind, .slice A1 (branchOf ps).keys.length a1, .slice A2 (branchOf ps).vals.length a2, .slice A3 (branchOf ps).kids.length a3] 149 (0, 0)) = w3 at *
    obtain ⟨ad, c, rfl, hcl, hcK, hcc⟩ := Kd.C_get N3.out.outs.2.2.2.2.1 0 (pA.length : Int) om_ hidx
    have hK : c = [.int .i64 (pt.c : Int)] := by
     simp only [Kd.int, Kd.scalar, Int.toNat_natCast, hkd] at hcK
     exact hcK
    have z0 : w3.cell? (ad.add pA.length) = some (.int .i64 (pt.c : Int)) := by
     have := hcc 0 (.int .i64 (pt.c : Int)) (by rw [hK]; rfl)
     simpa [Kd.int, Kd.scalar] using this
    clear hcc hcK hcl hK hkd
    have F3 := hi_ (show Gac g (.int .i64 (branchOf ps).kind) (.slice A1 (branchOf ps).keys.length a1) (.slice A2 (branchOf ps).vals.length a2) (.slice (some ad) (branchOf ps).kids.length a3) (ad.add pA.length) (.int .i64 (pt.c : Int)) w3 from ⟨blk_cell X3.out 0, blk_cell X3.out 1, blk_cell X3.out 2, blk_cell X3.out 3, z0⟩)
    have CF := hi_ (fun W (hW : Below w3.heap.size w3 W) => (PNd.tree_child.calls 2000 (branchOf ps).kind A1 a1 (branchOf ps).keys A2 a2 (branchOf ps).vals (some ad) a3 (branchOf ps).kids key _ W (N3.out.below hW).outs.1 (N3.out.below hW).outs.2.1 (N3.out.below hW).outs.2.2.1 (N3.out.below hW).outs.2.2.2.1 (N3.out.below hW).outs.2.2.2.2.1 (N3.out.below hW).outs.2.2.2.2.2 HCF.out).mono (fun e w' H => (⟨H.1, hW.trans (H.2.mono hW.size), F3.out.below (hW.trans (H.2.mono hW.size))⟩ : e = .returned (.int .i64 (pA.length : Int)) ∧ Below w3.heap.size w3 w' ∧ Gac g (.int .i64 (branchOf ps).kind) (.slice A1 (branchOf ps).keys.length a1) (.slice A2 (branchOf ps).vals.length a2) (.slice (some ad) (branchOf ps).kids.length a3) (ad.add pA.length) (.int .i64 (pt.c : Int)) w')))
    have HB0 := hi_ (Below.refl w3.heap.size w3)
    clear z0
    go_region_held3 (fun w' => w'.cell? ⟨g, 0, none⟩ = some (.int .i64 (branchOf ps).kind) ∧ w'.cell? ⟨g, 1, none⟩ = some (.slice A1 (branchOf ps).keys.length a1) ∧ w'.cell? ⟨g, 2, none⟩ = some (.slice A2 (branchOf ps).vals.length a2) ∧ w'.cell? ⟨g, 3, none⟩ = some (.slice (some ad) (branchOf ps).kids.length a3) ∧ w'.cell? (ad.add pA.length) = some (.int .i64 (pt.c : Int)))
     (first | exact F3.out | (with_reducible assumption) | (show Gac _ _ _ _ _ _ _ _; (with_reducible assumption)))
     (first
      | (go_at_call 110; (with_reducible refine (CF.out _ ?_).mono ?_); (repeat (first | (with_reducible assumption) | exact HB0.out | refine bel_drewN ?_ _ | refine bel_drew ?_)); rintro e w4 ⟨rfl, b4, f4⟩))
    have B4 := hi_ (B3.out.trans (b4.mono B3.out.size))
    have hlo := G1.out.low
    have hw1 : wrap64 ((l' : Int) + 2 - 1) = ((l' + 1 : Nat) : Int) := by unfold wrap64; omega
    have HW1 := hi_ hw1
    clear b4 f4 hw1
    go_wp2_with fail
    exact ⟨⟨pt.c, l' + 1, rfl, by congr 1; omega, hi_ (.inr ⟨m', pt.kv, G2.out⟩), B4⟩, by simp only [intOf]; omega⟩
   ·have hl1 : lv = 1 := by omega
    subst hl1
    have hm : m = leafOf kv := G1.out.cn
    subst hm
    go_upto_region 10 with fail
    have X3 := hi_ (blk_new w2 (.cells #[.int .i64 (leafOf kv).kind, .slice A1 (leafOf kv).keys.length a1, .slice A2 (leafOf kv).vals.length a2, .slice A3 (leafOf kv).kids.length a3] 149 (0, 0)))
    have N3 := hi_ (NV.out.below (below_alloc (Below.refl w2.heap.size w2) (.cells #[.int .i64 (leafOf kv).kind, .slice A1 (leafOf kv).keys.length a1, .slice A2 (leafOf kv).vals.length a2, .slice A3 (leafOf kv).kids.length a3] 149 (0, 0))))
    have B3 := hi_ (below_alloc B2.out (.cells #[.int .i64 (leafOf kv).kind, .slice A1 (leafOf kv).keys.length a1, .slice A2 (leafOf kv).vals.length a2, .slice A3 (leafOf kv).kids.length a3] 149 (0, 0)))
    obtain ⟨g, hg⟩ : ∃ g, g = w2.heap.size := ⟨_, rfl⟩
    rw [← hg] at X3 ⊢
    clear hg NV B2
    generalize w2.alloc (.cells #[.int .i64 (leafOf kv).kind, .slice A1 (leafOf kv).keys.length a1, .slice A2 (leafOf kv).vals.length a2, .slice A3 (leafOf kv).kids.length a3] 149 (0, 0)) = w3 at *
    have x0 := blk_cell X3.out 0
    have x1 := blk_cell X3.out 1
    have x2 := blk_cell X3.out 2
    have x3 := blk_cell X3.out 3
    go_wp2_with fail
    have hrs : rising (leafOf kv).keys = true := rising_of (List.pairwise_map.2 G1.out.good.1)
    have hfw := (fit_few HOK.out G1.out.fit.size).2
    have hf := find_f (leafOf kv).kind (leafOf kv).keys (leafOf kv).vals (leafOf kv).kids key hrs om_ 2000 om_
    obtain ⟨C1, k1, C2, k2, C3, k3⟩ := N3.out.outs
    refine (PNd.node_Node_Find.calls 2000 (leafOf kv).kind A1 a1 (leafOf kv).keys A2 a2 (leafOf kv).vals A3 a3 (leafOf kv).kids key _ _ w3 C1 k1 C2 k2 C3 k3 hf).mono ?_
    clear C1 k1 C2 k2 C3 k3 x0 x1 x2 x3 hf hrs
    rintro e w4 ⟨rfl, hb⟩
    have X4 := hi_ (blk_below X3.out hb)
    have N4 := hi_ (N3.out.below hb)
    have B4 := hi_ (B3.out.trans (hb.mono B3.out.size))
    clear hb X3 N3 B3
    have HFW := hi_ hfw
    clear hfw
    cases hat : isAt key (leafOf kv).keys
    ·have hno : Hid (∀ v, (key, v) ∉ kvs) := hi_ (fun v hv => by
      have := isAt_mem G1.out.good.1 ((G1.out.same v).1 hv)
      have h2 : isAt key (kv.map (·.1)) = false := hat
      rw [h2] at this; cases this)
     clear hat
     go_wp2_with fail
     go_roundw
     case rel => exact ⟨q', 0, rfl, rfl, hi_ (.inl ⟨rfl, hno.out⟩), B4⟩
     case measure => simp [intOf]
    ·have hlt := (isAt_lt hat).1
     have heq := (isAt_lt hat).2
     obtain ⟨i, hi⟩ : ∃ i, i = lb key (leafOf kv).keys := ⟨_, rfl⟩
     rw [← hi] at hlt heq ⊢
     have hlt' : i < kv.length := by rw [show (leafOf kv).keys.length = kv.length from List.length_map _] at hlt; exact hlt
     have hkey : kv[i].1 = key := by
      have h2 : ((kv.map (·.1)).getD i ByteArray.empty) = key := heq
      simpa [List.getD_eq_getElem?_getD, List.getElem?_eq_getElem hlt'] using h2
     have hmem : Hid ((key, kv[i].2) ∈ kvs) := hi_ ((G1.out.same _).2 (by rw [← hkey]; exact List.getElem_mem hlt'))
     have hvl : (leafOf kv).vals.length = kv.length := List.length_map _
     have hgd : (leafOf kv).vals.getD i ByteArray.empty = kv[i].2 := by
      show (kv.map (·.2)).getD i ByteArray.empty = _
      simp [List.getD_eq_getElem?_getD, List.getElem?_eq_getElem hlt']
     obtain ⟨vv, hvv⟩ : ∃ vv, vv = kv[i].2 := ⟨_, rfl⟩
     rw [← hvv] at hmem hgd
     have hidx : (i : Int) < ((leafOf kv).vals.length : Int) := by omega
     obtain ⟨ad, c, rfl, hcl, hcK, hcc⟩ := Kd.C_get N4.out.outs.2.2.1 ByteArray.empty (i : Int) om_ hidx
     have hK : c = [.string vv] := by
      simp only [Kd.string, Kd.scalar, Int.toNat_natCast, hgd] at hcK
      exact hcK
     have z0 : w4.cell? (ad.add i) = some (.string vv) := by
      have := hcc 0 (.string vv) (by rw [hK]; rfl)
      simpa [Kd.string, Kd.scalar] using this
     clear hcc hcK hcl hK hvv hgd hkey hlt hlt' heq hi hat hvl
     have x2 := blk_cell X4.out 2
     go_wp2_with fail
     go_ret3
     exact ⟨vv, true, rfl, B4.out, fun _ => hmem.out, fun e => by cases e⟩
end Go.Proofs.YtendgmblgdkiaaaGreat

namespace Go.Proofs.YtendgmblgdkiaaaGreat
open Go.RowKit
open Go.Proofs.YtendgmblgdkiaaaGreatW
open PrintWords PrintLast PrintMore
set_option linter.unusedVariables false
set_option linter.unusedSimpArgs false

theorem R_blkS {w : World} {g : Nat} (xs : List BA) (hx : w.heap[g]? = some (.cells (encs Value.string xs).toArray 9 (0, 0))) (hn : xs.length ≤ 1000000) : Kd.R Kd.string 9 w 0 (fun _ => True) (.slice (some ⟨g, 0, none⟩) xs.length xs.length) xs := by
 refine Kd.R_of_own ⟨by rw [encs_length]; omega, .inr ⟨g, xs.length, _, rfl, Nat.zero_le _, hx, Nat.le_refl _, by unfold maxLen; omega, by simp [encs], ?_⟩⟩ (fun _ _ => trivial)
 rw [List.take_of_length_le (by simp [encs])]
theorem C_blkS {w : World} {g : Nat} (xs : List BA) (hx : w.heap[g]? = some (.cells (encs Value.string xs).toArray 9 (0, 0))) (hn : xs.length ≤ 1000000) : Kd.C Kd.string w (some ⟨g, 0, none⟩) xs.length xs := (Kd.R_reads' (R_blkS xs hx hn)).2.2
/-- The list behind an edit is longer by one, if the key is new. -/
theorem ed_put_len {key x : BA} {l : List KV} (h : Srt l) : ((ed key (some x) l).length : Int) = l.length + (if isAt key (l.map (·.1)) then 0 else 1) := by
 obtain ⟨f1, f2⟩ := filters key l h
 have hle := lb_le key (l.map (·.1))
 rw [List.length_map] at hle
 unfold ed
 rw [f1, f2]
 cases hat : isAt key (l.map (·.1)) with
 | true =>
  have hlt := (isAt_lt hat).1
  rw [List.length_map] at hlt
  simp only [if_true, List.length_append, List.length_take, List.length_drop, Option.toList_some, List.map_cons, List.map_nil, List.length_cons, List.length_nil]
  omega
 | false =>
  simp only [List.length_append, List.length_take, List.length_drop, Option.toList_some, List.map_cons, List.map_nil, List.length_cons, List.length_nil]
  simp
  omega
theorem isAt_not {key : BA} {l : List KV} (h : ∀ v, (key, v) ∉ l) : isAt key (l.map (·.1)) = false := by
 cases hat : isAt key (l.map (·.1)) with
 | false => rfl
 | true =>
  obtain ⟨h1, h2⟩ := isAt_lt hat
  rw [List.length_map] at h1
  have : (l[lb key (l.map (·.1))]).1 = key := by simpa [List.getD_eq_getElem?_getD, List.getElem?_eq_getElem h1] using h2
  have hm := List.getElem_mem h1
  obtain ⟨i, hi⟩ : ∃ i, i = lb key (l.map (·.1)) := ⟨_, rfl⟩
  have hm : ((l[lb key (l.map (·.1))]).1, (l[lb key (l.map (·.1))]).2) ∈ l := hm
  obtain ⟨q, hq⟩ : ∃ q, q = (l[lb key (l.map (·.1))]).1 := ⟨_, rfl⟩
  rw [← hq] at this hm
  subst this
  exact absurd hm (h _)

theorem ApPost.base {B : Nat} {w W : World} {t b : Nat} {L : Loc} {h : Nat} {D : Dk} {P : List Pg} {r : Rt} {more : Int} {kvs : List KV} {e : Ending} {w' : World} (H : ApPost B W t b L h D P r more kvs e w') (hW : Below w.heap.size w W) : ApPost B w t b L h D P r more kvs e w' := by
 obtain ⟨D', P', r', a, c, d⟩ := H
 exact ⟨D', P', r', a, (Keep.below hW).trans c, d⟩

set_option maxHeartbeats 2000000 in
set_option maxRecDepth 100000 in
theorem tree_Put0 (B : Nat) (w : World) (t b : Nat) (L : Loc) (h : Nat) (D : Dk) (P : List Pg) (r : Rt) (key x : BA) (kvs : List KV) (hB : B ≤ w.heap.size) (T : TS B w t b L h D P r) (up : D.down = false) (C : TreeC P r kvs) (hk : keyOk key = true) (hv : valOk x = true) (hh : r.height ≤ 900) (hct : kvs.length ≤ 100000000) :
  Calls Tryz.prog 26 #[.pointer (some ⟨t, 0, none⟩), .string key, .string x] w (ApPost B w t b L h D P r (if isAt key (kvs.map (·.1)) then 0 else 1) (ed key (some x) kvs)) := by
 obtain ⟨q, hq⟩ : ∃ q, q = isAt key (kvs.map (·.1)) := ⟨_, rfl⟩
 rw [← hq]
 have HQ := hi_ hq
 clear hq
 obtain ⟨mo, hmo⟩ : ∃ mo : Int, mo = (if q then 0 else 1) := ⟨_, rfl⟩
 rw [← hmo]
 have HMO := hi_ hmo
 clear hmo
 have HT := hi_ T
 have HC := hi_ C
 have HU := hi_ up
 have HB := hi_ hB
 have HK := hi_ hk
 have HV := hi_ hv
 have HH := hi_ hh
 have HCT := hi_ hct
 have hok : nodeOk 1 [key] [x] [] = true := by simp [nodeOk, rising, hk, hv]
 have HOK := hi_ hok
 clear T C up hB hk hv hok hh hct
 go_enter Tryz.func26, Tryz.ntmps26
 go_wp2_with fail
 have X0 := hi_ (blk_alloc (blk_alloc (blk_alloc (blk_new w (.cells #[.string key] 9 (0, 0))) (.cells #[.string x] 9 (0, 0))) (.cells #[.string key] 9 (0, 0))) (.cells #[.string x] 9 (0, 0)))
 have X1 := hi_ (blk_alloc (blk_alloc (blk_new (w.alloc (.cells #[.string key] 9 (0, 0))) (.cells #[.string x] 9 (0, 0))) (.cells #[.string key] 9 (0, 0))) (.cells #[.string x] 9 (0, 0)))
 have X2 := hi_ (blk_alloc (blk_new ((w.alloc (.cells #[.string key] 9 (0, 0))).alloc (.cells #[.string x] 9 (0, 0))) (.cells #[.string key] 9 (0, 0))) (.cells #[.string x] 9 (0, 0)))
 have X3 := hi_ (blk_new (((w.alloc (.cells #[.string key] 9 (0, 0))).alloc (.cells #[.string x] 9 (0, 0))).alloc (.cells #[.string key] 9 (0, 0))) (.cells #[.string x] 9 (0, 0)))
 have B0 := hi_ (below_alloc (below_alloc (below_alloc (below_alloc (Below.refl w.heap.size w) (.cells #[.string key] 9 (0, 0))) (.cells #[.string x] 9 (0, 0))) (.cells #[.string key] 9 (0, 0))) (.cells #[.string x] 9 (0, 0)))
 simp only [World.size_alloc] at X0 X1 X2 X3
 generalize (((w.alloc (.cells #[.string key] 9 (0, 0))).alloc (.cells #[.string x] 9 (0, 0))).alloc (.cells #[.string key] 9 (0, 0))).alloc (.cells #[.string x] 9 (0, 0)) = w1 at *
 obtain ⟨z, hz⟩ : ∃ z, z = w.heap.size := ⟨_, rfl⟩
 rw [← hz] at X0 X1 X2 X3 ⊢
 have HZ := hi_ hz
 clear hz
 refine (node_Check 1 (some ⟨z + 1 + 1, 0, none⟩) 1 [key] (some ⟨z + 1 + 1 + 1, 0, none⟩) 1 [x] none 0 [] 0 w1 (C_blkS [key] X2.out (by simp)) (Nat.le_refl _) (C_blkS [x] X3.out (by simp)) (Nat.le_refl _) (Kd.C_nil _ _) (Nat.le_refl _) (by rw [HOK.out]; rfl)).mono ?_
 rintro e w2 ⟨rfl, hb⟩
 have B2 := hi_ (below_then B0.out B0.out.size hb)
 have Y0 := hi_ (blk_below X0.out hb)
 have Y1 := hi_ (blk_below X1.out hb)
 clear hb X0 X1 X2 X3 B0
 have c0 := blk_cell Y0.out 0
 go_wp2_with fail
 have T2 := hi_ (HT.out.below B2.out)
 refine (tree_Get w2 t b L h D P r T2.out.st T2.out.tr HU.out key kvs HC.out HH.out).mono ?_
 rintro e w3 ⟨s, is, rfl, hb, hyes, hno⟩
 have B3 := hi_ (below_then B2.out B2.out.size hb)
 have Z0 := hi_ (blk_below Y0.out hb)
 have Z1 := hi_ (blk_below Y1.out hb)
 have T3 := hi_ (T2.out.below hb)
 clear hb Y0 Y1 B2 T2 c0
 have hat : isAt key (kvs.map (·.1)) = is := by
  cases is with
  | true => exact isAt_mem HC.out.good.1 (hyes rfl)
  | false => exact isAt_not (hno rfl).2
 obtain rfl : q = is := HQ.out.trans hat
 clear hyes hno hat
 have c0 := blk_cell Z0.out 0
 have CAP : Hid (Caps (fun k => L.foot k ∨ k = b) (some x) key ⟨z, 0, none⟩ ⟨z + 1, 0, none⟩ w3) := hi_ (by
  have hz : ∀ j, ¬ (L.foot (z + j) ∨ z + j = b) := fun j hf => by have := T3.out.lo _ hf; have := HB.out; have := HZ.out; omega
  exact ⟨blk_cell Z0.out 0, fun v e => by cases e; exact ⟨blk_cell Z1.out 0, hz 1⟩, hz 0⟩)
 have CA := hi_ (fun (more : Int) (hm : -1 ≤ more ∧ more ≤ 1) => tree_apply B w3 t b L h D P r key (some x) ⟨z, 0, none⟩ ⟨z + 1, 0, none⟩ kvs more (Nat.le_trans HB.out B3.out.size) T3.out HU.out CAP.out HC.out HK.out (fun v e => by cases e; exact HV.out) (fun e => by cases e) HH.out hm HCT.out)
 cases q with
 | true =>
  go_wp2_with fail
  refine (CA.out 0 om_).mono ?_
  rintro e w4 H
  have H := H.base B3.out
  obtain ⟨er, rfl⟩ : ∃ er : Int, e = .returned (.int .i64 er) := by
   obtain ⟨D', P', r', -, -, h⟩ := H
   rcases h with ⟨h, -⟩ | ⟨er, h, -⟩
   ·exact ⟨0, h⟩
   ·exact ⟨er, h⟩
  have H := hi_ H
  go_wp2_with fail
  go_ret
  rw [HMO.out]
  exact H.out
 | false =>
  go_wp2_with fail
  refine (CA.out 1 om_).mono ?_
  rintro e w4 H
  have H := H.base B3.out
  obtain ⟨er, rfl⟩ : ∃ er : Int, e = .returned (.int .i64 er) := by
   obtain ⟨D', P', r', -, -, h⟩ := H
   rcases h with ⟨h, -⟩ | ⟨er, h, -⟩
   ·exact ⟨0, h⟩
   ·exact ⟨er, h⟩
  have H := hi_ H
  go_wp2_with fail
  go_ret
  rw [HMO.out]
  exact H.out
end Go.Proofs.YtendgmblgdkiaaaGreat

namespace Go.Proofs.YtendgmblgdkiaaaGreat
open Go.RowKit
open Go.Proofs.YtendgmblgdkiaaaGreatW
open PrintWords PrintLast PrintMore
set_option linter.unusedVariables false
set_option linter.unusedSimpArgs false

set_option maxRecDepth 100000 in
theorem tree_Open (w : World) (b : Nat) (r : Rt) : Calls Tryz.prog 22 #[.pointer (some ⟨b, 0, none⟩), rootV r] w fun e w' => ∃ t, e = .returned (.pointer (some ⟨t, 0, none⟩)) ∧ TreeAt w' t b r ∧ w.heap.size ≤ t ∧ Below w.heap.size w w' := by
 unfold rootV
 go_enter Tryz.func22, Tryz.ntmps22
 go_wp2_with fail
 go_ret
 exact ⟨w.heap.size + 1, rfl, by have := heap_alloc_self (w.alloc (.cells #[.int .i64 r.page, .int .i64 r.count, .int .i64 r.height] 31 (0, 0))) (.cells #[.pointer (some ⟨b, 0, none⟩), .int .i64 r.page, .int .i64 r.count, .int .i64 r.height] 148 (0, 0)); simpa [TreeAt] using this, by omega, below_alloc (below_alloc (Below.refl _ _) _) _⟩
set_option maxHeartbeats 400000 in
set_option maxRecDepth 100000 in
theorem tree_Root (w : World) (t b : Nat) (r : Rt) (T : TreeAt w t b r) : Calls Tryz.prog 30 #[.pointer (some ⟨t, 0, none⟩)] w fun e w' => e = .returned (rootV r) ∧ Below w.heap.size w w' := by
 have HT := hi_ T
 clear T
 go_enter Tryz.func30, Tryz.ntmps30
 go_upto_region 1 with fail
 have B0 := hi_ (below_alloc (Below.refl w.heap.size w) (.cells #[.int .i64 0, .int .i64 0, .int .i64 0] 31 (0, 0)))
 have X0 := hi_ (blk_new w (.cells #[.int .i64 0, .int .i64 0, .int .i64 0] 31 (0, 0)))
 generalize w.alloc (.cells #[.int .i64 0, .int .i64 0, .int .i64 0] 31 (0, 0)) = w0 at *
 obtain ⟨g, hg⟩ : ∃ g, g = w.heap.size := ⟨_, rfl⟩
 rw [← hg] at X0 ⊢
 have HG := hi_ (Nat.le_of_eq hg.symm)
 clear hg
 have c1 := (HT.out.below B0.out).c1
 have c2 := (HT.out.below B0.out).c2
 have c3 := (HT.out.below B0.out).c3
 have q0 := blk_cell X0.out 0
 have q1 := blk_cell X0.out 1
 have q2 := blk_cell X0.out 2
 have f0 := blk_frozen X0.out 0
 have f1 := blk_frozen X0.out 1
 have f2 := blk_frozen X0.out 2
 go_wp2_with fail
 refine bodyPost_ret (results_single rfl (.cell g 31 #[.int .i64 r.page, .int .i64 r.count, .int .i64 r.height] (0, 0) _ rfl (blk_put (blk_put (blk_put X0.out 0 _ rfl) 1 _ rfl) 2 _ rfl) rfl rfl rfl .nil)) rfl ?_
 exact ⟨rfl, below_set (below_set (below_set B0.out HG.out) HG.out) HG.out⟩
end Go.Proofs.YtendgmblgdkiaaaGreat

namespace Go.Proofs.YtendgmblgdkiaaaGreat
open Go.RowKit
open Go.Proofs.YtendgmblgdkiaaaGreatW
open PrintWords PrintLast PrintMore
set_option linter.unusedVariables false
set_option linter.unusedSimpArgs false

theorem RootC.pre {P X : List Pg} {page height : Int} {kvs : List KV} (h : RootC P page height kvs) : RootC (P ++ X) page height kvs := by
 rcases h with h | ⟨hn, q, n, h1, h2, h3, h4, h5, h6⟩
 ·exact .inl h
 ·exact .inr ⟨hn, q, n, h1, h2, by rw [List.getElem?_append_left (List.getElem?_eq_some_iff.1 h3).1]; exact h3, h4, h5.pre, h6⟩
theorem TreeC.pre {P X : List Pg} {r : Rt} {kvs : List KV} (h : TreeC P r kvs) : TreeC (P ++ X) r kvs := ⟨h.root.pre, h.count, h.good⟩
theorem kvsOf_len {m : Nat} : ∀ {ps : List Pt}, (∀ p ∈ ps, m ≤ p.kv.length) → ps.length * m ≤ (kvsOf ps).length
 | [], _ => by simp
 | p :: r, h => by
  rw [kvsOf_cons, List.length_append, List.length_cons, Nat.add_mul]
  have := kvsOf_len (m := m) (ps := r) (fun q hq => h q (List.mem_cons_of_mem _ hq))
  have := h p List.mem_cons_self
  omega
theorem cn_many {P : List Pg} : ∀ {l : Nat} {n : Nd} {kvs : List KV}, Cn P l n kvs → 2 ≤ n.keys.length → 2 ^ l ≤ kvs.length
 | 0, _, _, h, _ => h.elim
 | 1, n, kvs, h, h2 => by
  have h : n = leafOf kvs := h
  subst h
  simpa [leafOf] using h2
 | l + 2, n, kvs, ⟨ps, h1, h2, h3, h4⟩, hk => by
  subst h1
  subst h2
  have hl : 2 ≤ ps.length := by simpa [branchOf] using hk
  have hm := kvsOf_len (m := 2 ^ (l + 1)) (ps := ps) (fun p hp => by
   obtain ⟨a, b, m, c, d, e, f⟩ := h4 p hp
   exact cn_many f e)
  have : 2 ^ (l + 2) = 2 * 2 ^ (l + 1) := by rw [Nat.pow_succ 2 (l + 1)]; omega
  have : 2 * 2 ^ (l + 1) ≤ ps.length * 2 ^ (l + 1) := Nat.mul_le_mul_right _ hl
  omega
/-- A tree's height and how many keys it has. -/
theorem TreeC.tall {P : List Pg} {r : Rt} {kvs : List KV} (h : TreeC P r kvs) : (r.height = 0 ∧ r.page = -1 ∧ kvs = []) ∨ ∃ hn : Nat, r.height = (hn : Int) + 1 ∧ 2 ^ hn ≤ kvs.length := by
 rcases h.root with h0 | ⟨hn, q, n, h1, h2, h3, h4, h5, h6⟩
 ·exact .inl h0
 ·right
  have hk := (cn_kind h5).2.2
  refine ⟨hn - 1, by omega, ?_⟩
  rcases Nat.lt_or_ge hn 2 with h7 | h7
  ·have : hn = 1 := by omega
   subst this
   have h5 : n = leafOf kvs := h5
   subst h5
   have := h4.some
   have h8 : 0 < kvs.length := by simpa [leafOf] using this
   show 1 ≤ kvs.length
   omega
  ·have := cn_many h5 (h6 h7)
   have : 2 ^ (hn - 1) ≤ 2 ^ hn := Nat.pow_le_pow_right om_ om_
   omega
theorem TreeC.low {P : List Pg} {r : Rt} {kvs : List KV} (h : TreeC P r kvs) {m : Nat} (hm : kvs.length < 2 ^ m) : 0 ≤ r.height ∧ r.height ≤ m := by
 rcases h.tall with ⟨h0, -, -⟩ | ⟨hn, h1, h2⟩
 ·omega
 ·have : hn < m := (Nat.pow_lt_pow_iff_right (a := 2) om_).1 om_
  omega

/-- What Put and Delete leave where there is room, on a disk that lives. -/
structure Done (w w' : World) (t b : Nat) (L : Loc) (h : Nat) (D : Dk) (P : List Pg) (r : Rt) (D' : Dk) (P' : List Pg) (r' : Rt) (kvs' : List KV) : Prop where
 st : St w' L b h D' P'
 tr : TreeAt w' t b r'
 tc : TreeC P' r' kvs'
 live : D'.Live
 app : AppOk h D P D' P'
 most : (P'.length : Int) ≤ P.length + 2 * r.height + 1
 keep : Keep (fun k => (L.foot k ∨ k = b) ∨ k = t) w w'
theorem lo_of {w : World} {t b : Nat} {L : Loc} {h : Nat} {D : Dk} {P : List Pg} {r : Rt} (S : St w L b h D P) (T : TreeAt w t b r) : TS w.heap.size w t b L h D P r :=
 ⟨S, T, by
  rintro k ((rfl | rfl | rfl) | rfl)
  ·exact S.d.lt_a
  ·exact S.d.lt_n
  ·exact S.d.lt_m
  ·exact lt_of_heap S.p, T.lt⟩
theorem TreeC.small {P : List Pg} {r : Rt} {kvs : List KV} (h : TreeC P r kvs) (hn : kvs.length ≤ 100000000) : r.height ≤ 900 := by
 have := (h.low (m := 27) om_).2
 omega
theorem tree_Put (w : World) (t b : Nat) (L : Loc) (h : Nat) (D : Dk) (P : List Pg) (r : Rt) (key x : BA) (kvs : List KV) (S : St w L b h D P) (T : TreeAt w t b r) (lv : D.Live) (C : TreeC P r kvs) (hk : keyOk key = true) (hv : valOk x = true) (hct : kvs.length ≤ 100000000) (hr : (P.length : Int) + 2 * r.height + 1 ≤ D.room) :
  Calls Tryz.prog 26 #[.pointer (some ⟨t, 0, none⟩), .string key, .string x] w fun e w' => e = .returned (.int .i64 0) ∧ ∃ D' P' r', Done w w' t b L h D P r D' P' r' (ed key (some x) kvs) ∧ P.length < P'.length := by
 refine (tree_Put0 w.heap.size w t b L h D P r key x kvs (Nat.le_refl _) (lo_of S T) lv.1 C hk hv (C.small hct) hct).mono ?_
 rintro e w' ⟨D', P', r', T', K, hres⟩
 rcases hres with ⟨rfl, ha, hrc, hc, up, hle, hgr⟩ | ⟨er, rfl, -, -, hw, hres⟩
 ·refine ⟨rfl, D', P', r', ⟨T'.st, T'.tr, ⟨hrc, ?_, ed_good C.good hk (fun v e => by cases e; exact hv)⟩, ha.wr.live lv, ha, hle, K⟩, hgr (by simp [ed])⟩
  rw [hc, C.count, ed_put_len C.good.1]
 ·exfalso
  rcases hres with ⟨-, -, h3⟩ | ⟨-, -, h3⟩
  ·have := hw.room; omega
  ·exact h3 lv
end Go.Proofs.YtendgmblgdkiaaaGreat

namespace Go.Proofs.YtendgmblgdkiaaaGreat
open Go.RowKit
open Go.Proofs.YtendgmblgdkiaaaGreatW
open PrintWords PrintLast PrintMore
set_option linter.unusedVariables false
set_option linter.unusedSimpArgs false

end Go.Proofs.YtendgmblgdkiaaaGreat
