/- Nodes as values. node.Split, walked by hand: in the nodes' own words. parts, walked. (*tree.Tree).write, walked. Trees in plain words: what nodes and the pages below them hold; no program. Leaves, branches and edits: plain. What a node that has a content is: fine, good, not long; its parts; its chil -/
import Derived.Test.YtendgmblgdkiaaaGreatGInternBeside0
import Derived.Test.YtendgmblgdkiaaaGreatGInternBeside33
import Derived.Test.YtendgmblgdkiaaaGreatGInternBeside32
import Derived.Great.BuildSlice
import Derived.Test.YtendgmblgdkiaaaGreatGInternBeside16
import Derived.Deep.RegionHeld3
import Derived.Test.YtendgmblgdkiaaaGreatGInternBeside29
import Derived.Deep.DeepCutAuto
import Derived.Test.YtendgmblgdkiaaaGreatGInternBeside30
namespace Go.Proofs.YtendgmblgdkiaaaGreat
open Go.RowKit
open Go.Proofs.YtendgmblgdkiaaaGreatW
open PrintWords
set_option linter.unusedVariables false
set_option linter.unusedSimpArgs false

/-- A node whose rows are younger than B. -/
def NodeV (B : Nat) (w : World) (v : Value) (n : Nd) : Prop := ∃ v1 v2 v3 : Value, v = .agg #[.int .i64 n.kind, v1, v2, v3] ∧
 Kd.R Kd.string 9 w B (fun _ => True) v1 n.keys ∧ Kd.R Kd.string 9 w B (fun _ => True) v2 n.vals ∧ Kd.R (Kd.int .i64) 3 w B (fun _ => True) v3 n.kids
namespace NodeV
variable {B : Nat} {w w' : World} {v : Value} {n : Nd}
theorem step (h : NodeV B w v n) (hm : ∀ k, B ≤ k → k < w.heap.size → w'.heap[k]? = w.heap[k]?) : NodeV B w' v n := by
 obtain ⟨v1, v2, v3, e, h1, h2, h3⟩ := h
 exact ⟨v1, v2, v3, e, Kd.R_mono (Kd.R_step (Kd.R_bound h1) (fun k hk hl => hm k hk.2.1 hl)) (fun _ _ => trivial), Kd.R_mono (Kd.R_step (Kd.R_bound h2) (fun k hk hl => hm k hk.2.1 hl)) (fun _ _ => trivial), Kd.R_mono (Kd.R_step (Kd.R_bound h3) (fun k hk hl => hm k hk.2.1 hl)) (fun _ _ => trivial)⟩
theorem below (h : NodeV B w v n) (hb : Below w.heap.size w w') : NodeV B w' v n := h.step fun k _ hk => hb.block k hk
theorem keep {F : Nat → Prop} (h : NodeV B w v n) (hk : Keep F w w') (hF : ∀ k, F k → k < B) : NodeV B w' v n := h.step fun k hB hl => hk.block k hl (fun hf => by have := hF k hf; omega)
theorem lower {B' : Nat} (h : NodeV B w v n) (hB : B' ≤ B) : NodeV B' w v n := by
 obtain ⟨v1, v2, v3, e, h1, h2, h3⟩ := h
 exact ⟨v1, v2, v3, e, Kd.R_lower h1 hB, Kd.R_lower h2 hB, Kd.R_lower h3 hB⟩
/-- A box of nodes, or any block of that type, is none of its rows. -/
theorem set {g : Nat} {cells : Array Value} {t : Nat} (h : NodeV B w v n) (hb : w.heap[g]? = some (.cells cells t (0, 0))) (ht1 : t ≠ 9) (ht2 : t ≠ 3) (j : Nat) (u : Value) : NodeV B (w.setCell ⟨g, j, none⟩ u) v n := by
 obtain ⟨v1, v2, v3, e, h1, h2, h3⟩ := h
 have hs : ∀ q, q ∈ 9 :: Kd.string.E → q ≠ t := by intro q hq; simp [Kd.string, Kd.scalar] at hq; rw [hq]; exact fun e => ht1 e.symm
 have hi : ∀ q, q ∈ 3 :: (Kd.int .i64).E → q ≠ t := by intro q hq; simp [Kd.int, Kd.scalar] at hq; rw [hq]; exact fun e => ht2 e.symm
 exact ⟨v1, v2, v3, e, Kd.R_set h1 hb hs j u, Kd.R_set h2 hb hs j u, Kd.R_set h3 hb hi j u⟩
/-- As a callee takes it. -/
theorem out (h : NodeV B w v n) : ∃ A1 c1 A2 c2 A3 c3, v = .agg #[.int .i64 n.kind, .slice A1 n.keys.length c1, .slice A2 n.vals.length c2, .slice A3 n.kids.length c3] ∧
  Kd.C Kd.string w A1 n.keys.length n.keys ∧ n.keys.length ≤ c1 ∧ Kd.C Kd.string w A2 n.vals.length n.vals ∧ n.vals.length ≤ c2 ∧ Kd.C (Kd.int .i64) w A3 n.kids.length n.kids ∧ n.kids.length ≤ c3 := by
 obtain ⟨v1, v2, v3, e, h1, h2, h3⟩ := h
 obtain ⟨A1, c1, rfl⟩ := Kd.R_slice h1
 obtain ⟨A2, c2, rfl⟩ := Kd.R_slice h2
 obtain ⟨A3, c3, rfl⟩ := Kd.R_slice h3
 obtain ⟨-, a1, b1⟩ := Kd.R_reads' h1
 obtain ⟨-, a2, b2⟩ := Kd.R_reads' h2
 obtain ⟨-, a3, b3⟩ := Kd.R_reads' h3
 exact ⟨A1, c1, A2, c2, A3, c3, e, b1, a1, b2, a2, b3, a3⟩
end NodeV
theorem NodeV.outs {B : Nat} {w : World} {n : Nd} {A1 A2 A3 : Option Addr} {c1 c2 c3 : Nat} (h : NodeV B w (.agg #[.int .i64 n.kind, .slice A1 n.keys.length c1, .slice A2 n.vals.length c2, .slice A3 n.kids.length c3]) n) :
  Kd.C Kd.string w A1 n.keys.length n.keys ∧ n.keys.length ≤ c1 ∧ Kd.C Kd.string w A2 n.vals.length n.vals ∧ n.vals.length ≤ c2 ∧ Kd.C (Kd.int .i64) w A3 n.kids.length n.kids ∧ n.kids.length ≤ c3 := by
 obtain ⟨B1, d1, B2, d2, B3, d3, e, C1, k1, C2, k2, C3, k3⟩ := h.out
 simp only [Value.agg.injEq, Array.mk.injEq, List.cons.injEq, Value.slice.injEq, and_true, true_and] at e
 obtain ⟨⟨rfl, rfl⟩, ⟨rfl, rfl⟩, ⟨rfl, rfl⟩⟩ := e
 exact ⟨C1, k1, C2, k2, C3, k3⟩
/-- A value's cells. -/
def aggOf : Value → Array Value
 | .agg a => a
 | _ => #[]
/-- One or two nodes in a row of their own. -/
def NodesV (B : Nat) (w : World) (v : Value) (l : List Nd) : Prop :=
 (∃ a x g, l = [a] ∧ v = .slice (some ⟨g, 0, none⟩) 1 1 ∧ B ≤ g ∧ w.heap[g]? = some (.cells (aggOf x) 149 (0, 0)) ∧ NodeV B w x a) ∨
 (∃ a b x y g, l = [a, b] ∧ v = .slice (some ⟨g, 0, none⟩) 2 2 ∧ B ≤ g ∧ w.heap[g]? = some (.cells (aggOf x ++ aggOf y) 149 (0, 0)) ∧ NodeV B w x a ∧ NodeV B w y b)
namespace NodesV
variable {B : Nat} {w w' : World} {v : Value} {l : List Nd}
theorem step (h : NodesV B w v l) (hm : ∀ k, B ≤ k → k < w.heap.size → w'.heap[k]? = w.heap[k]?) : NodesV B w' v l := by
 rcases h with ⟨a, x, g, h1, h2, h3, h4, h5⟩ | ⟨a, b, x, y, g, h1, h2, h3, h4, h5, h6⟩
 ·exact .inl ⟨a, x, g, h1, h2, h3, (hm g h3 (lt_of_heap h4)).trans h4, h5.step hm⟩
 ·exact .inr ⟨a, b, x, y, g, h1, h2, h3, (hm g h3 (lt_of_heap h4)).trans h4, h5.step hm, h6.step hm⟩
theorem below (h : NodesV B w v l) (hb : Below w.heap.size w w') : NodesV B w' v l := h.step fun k _ hk => hb.block k hk
theorem keep {F : Nat → Prop} (h : NodesV B w v l) (hk : Keep F w w') (hF : ∀ k, F k → k < B) : NodesV B w' v l := h.step fun k hB hl => hk.block k hl (fun hf => by have := hF k hf; omega)
theorem lower {B' : Nat} (h : NodesV B w v l) (hB : B' ≤ B) : NodesV B' w v l := by
 rcases h with ⟨a, x, g, h1, h2, h3, h4, h5⟩ | ⟨a, b, x, y, g, h1, h2, h3, h4, h5, h6⟩
 ·exact .inl ⟨a, x, g, h1, h2, by omega, h4, h5.lower hB⟩
 ·exact .inr ⟨a, b, x, y, g, h1, h2, by omega, h4, h5.lower hB, h6.lower hB⟩
end NodesV

theorem info_node : (Tryz.prog.info? 149).map (fun i => (i.zero, i.size)) = some (some (.agg #[.int .i64 0, .slice none 0 0, .slice none 0 0, .slice none 0 0]), 4) := by kernel_rfl
theorem buildNodes (w : World) (n : Nat) (parts : Array (Nat × Value)) (cells : Array Value) (h0 : 0 < n) (h2 : n ≤ 2)
  (h : Instr.fill (fun i => some (i * 4, 4)) ((Array.range (n * 4)).map (#[Value.int .i64 0, Value.slice none 0 0, Value.slice none 0 0, Value.slice none 0 0][· % 4]!)) parts.toList = some cells) :
  (Instr.buildSlice 183 n parts).run Tryz.prog w = .ok (.slice (some ⟨w.heap.size, 0, none⟩) n n) (w.alloc (.cells cells 149 (0, 0))) := by
 obtain ⟨ie, hie, hz⟩ := Option.map_eq_some_iff.1 info_node
 simp only [Prod.mk.injEq] at hz
 refine run_buildSlice w 183 149 n _ _ ie _ Tryz.underlying183 hie hz.1 (by rw [hz.2]; omega) (by rw [hz.2]; omega) ?_
 rw [hz.2]
 exact h
theorem nodes1 (w : World) (k : Int) (v1 v2 v3 : Value) :
  (Instr.buildSlice 183 1 #[(0, .agg #[.int .i64 k, v1, v2, v3])]).run Tryz.prog w = .ok (.slice (some ⟨w.heap.size, 0, none⟩) 1 1) (w.alloc (.cells #[.int .i64 k, v1, v2, v3] 149 (0, 0))) :=
 buildNodes w 1 _ _ om_ om_ (by first | kernel_rfl | simp [Instr.fill, Value.cells])
theorem nodes2 (w : World) (k k' : Int) (v1 v2 v3 v1' v2' v3' : Value) :
  (Instr.buildSlice 183 2 #[(0, .agg #[.int .i64 k, v1, v2, v3]), (1, .agg #[.int .i64 k', v1', v2', v3'])]).run Tryz.prog w = .ok (.slice (some ⟨w.heap.size, 0, none⟩) 2 2) (w.alloc (.cells #[.int .i64 k, v1, v2, v3, .int .i64 k', v1', v2', v3'] 149 (0, 0))) :=
 buildNodes w 2 _ _ om_ om_ (by first | kernel_rfl | simp [Instr.fill, Value.cells])
attribute [-go_sem] Instr.buildSlice
attribute [local go_sem] nodes1 nodes2
end Go.Proofs.YtendgmblgdkiaaaGreat

namespace Go.Proofs.YtendgmblgdkiaaaGreat
open Go.RowKit
open Go.Proofs.YtendgmblgdkiaaaGreatW
open PrintWords PrintLast PrintMore
set_option linter.unusedVariables false
set_option linter.unusedSimpArgs false

theorem split_num (n : Nd) (he : ∀ i, i < n.keys.length → n.ent i ≤ 50) (hlo : 239 < n.S n.keys.length) (hhi : n.S n.keys.length ≤ 340) (c : Nat) (h1 : 1 ≤ c) (g2 : c + 1 ≤ n.keys.length) (g3 : c + 1 = n.keys.length ∨ n.S n.keys.length ≤ 2 * n.S c) (g4 : c = 1 ∨ 2 * n.S (c - 1) < n.S n.keys.length) :
  2 ≤ c ∧ c + 2 ≤ n.keys.length ∧ n.S c ≤ 230 ∧ n.S n.keys.length - n.S c ≤ 230 := by
 have hS50 : ∀ i, i ≤ n.keys.length → n.S i ≤ 50 * i := by
  intro i
  induction i with
  | zero => intro _; simp [n.S_zero]
  | succ i ih => intro h; have := ih om_; have := he i om_; have := n.S_succ i; omega
 have hl5 := hS50 n.keys.length (Nat.le_refl _)
 have hc1 : n.S (c - 1) + n.ent (c - 1) = n.S c := by have := n.S_succ (c - 1); rw [show c - 1 + 1 = c by omega] at this; omega
 have hce := he (c - 1) om_
 have hlast : n.S n.keys.length = n.S (n.keys.length - 1) + n.ent (n.keys.length - 1) := by have := n.S_succ (n.keys.length - 1); rwa [show n.keys.length - 1 + 1 = n.keys.length by omega] at this
 have hle := he (n.keys.length - 1) om_
 have hge : n.S n.keys.length ≤ 2 * n.S c := by
  rcases g3 with g3 | g3
  ·have : n.S c = n.S (n.keys.length - 1) := by rw [← g3]; rfl
   omega
  ·exact g3
 have hc0 := hS50 c om_
 have hup : 2 * n.S c < n.S n.keys.length + 100 := by
  rcases g4 with rfl | g4
  ·have := hS50 1 om_; omega
  ·omega
 have hc2 : c + 2 ≤ n.keys.length := by
  rcases Nat.lt_or_ge (c + 1) n.keys.length with h | h
  ·omega
  ·have : n.S c = n.S (n.keys.length - 1) := by rw [show n.keys.length - 1 = c by omega]
   omega
 exact ⟨by omega, hc2, by omega, by omega⟩
theorem S_mono (n : Nd) {i j : Nat} (h : i ≤ j) : n.S i ≤ n.S j := by
 obtain ⟨d, rfl⟩ := Nat.exists_eq_add_of_le h
 exact n.S_le i d

theorem cut_calls (w : World) (n : Nd) (A1 : Option Addr) (a1 : Nat) (A2 : Option Addr) (a2 : Nat) (A3 : Option Addr) (a3 : Nat) (hs : n.Shape) (hn : n.keys.length ≤ 1000) (i j : Nat) (hij : i ≤ j) (hj : j ≤ n.keys.length) (C1 : Kd.C Kd.string w A1 n.keys.length n.keys) (k1 : n.keys.length ≤ a1) (C2 : Kd.C Kd.string w A2 n.vals.length n.vals) (k2 : n.vals.length ≤ a2) (C3 : Kd.C (Kd.int .i64) w A3 n.kids.length n.kids) (k3 : n.kids.length ≤ a3) :
  Calls Tryz.prog 235 #[.agg #[.int .i64 n.kind, .slice A1 n.keys.length a1, .slice A2 n.vals.length a2, .slice A3 n.kids.length a3], .int .i64 (i : Int), .int .i64 (j : Int)] w fun e w' => ∃ U1 k1 U2 k2 U3 k3, e = .returned (.agg #[.int .i64 n.kind, .slice U1 (n.cut i j).keys.length k1, .slice U2 (n.cut i j).vals.length k2, .slice U3 (n.cut i j).kids.length k3]) ∧ Kd.R Kd.string 9 w' w.heap.size (fun _ => True) (.slice U1 (n.cut i j).keys.length k1) (n.cut i j).keys ∧ Kd.R Kd.string 9 w' w.heap.size (fun _ => True) (.slice U2 (n.cut i j).vals.length k2) (n.cut i j).vals ∧ Kd.R (Kd.int .i64) 3 w' w.heap.size (fun _ => True) (.slice U3 (n.cut i j).kids.length k3) (n.cut i j).kids ∧ Below w.heap.size w w' := by
 refine (PNd.node_Node_cut.calls n.kind A1 a1 n.keys A2 a2 n.vals A3 a3 n.kids (i : Int) (j : Int) _ _ _ _ w C1 k1 C2 k2 C3 k3 (cut_f n hs i j hij hj om_)).mono ?_
 rintro e w1 ⟨v1, v2, v3, rfl, g1, g2, g3, hb⟩
 obtain ⟨P1, p1, rfl⟩ := Kd.R_slice g1
 obtain ⟨P2, p2, rfl⟩ := Kd.R_slice g2
 obtain ⟨P3, p3, rfl⟩ := Kd.R_slice g3
 exact ⟨_, _, _, _, _, _, rfl, Kd.R_mono g1 (fun _ _ => trivial), Kd.R_mono g2 (fun _ _ => trivial), Kd.R_mono g3 (fun _ _ => trivial), hb⟩
def node_SplitR.T : Bool × List (List Nat × List Nat) := (true, [([], []), ([], []), ([0, 1], [0, 1]), ([], []), ([], []), ([], []), ([5, 2], [5]), ([3, 4, 6, 6], [3, 4, 6]), ([2, 7, 0, 1, 2], [2]), ([7, 8, 0, 1, 2, 3, 4, 5, 6, 7, 8], [7])])
def node_SplitR.B : List Nat := [0, 0, 3, 0, 0, 0, 39, 127, 255, 511]
theorem node_SplitR.tab : rtab .any (opsOf Tryz.f203 11) = node_SplitR.T := by kernel_rfl
theorem node_SplitR.bits : waitsOk node_SplitR.T.2 node_SplitR.B = true := by kernel_rfl
set_option maxHeartbeats 2000000 in
set_option maxRecDepth 100000 in
theorem node_Split (w : World) (B : Nat) (v : Value) (n_ : Nd) (hB : B ≤ w.heap.size) (N : NodeV B w v n_) (F : n_.fine = true) (hs : n_.Shape) (he : ∀ i, i < n_.keys.length → n_.ent i ≤ 50) (hlo : 239 < n_.S n_.keys.length) (hhi : n_.S n_.keys.length ≤ 340) (hn : n_.keys.length ≤ 1000) :
  Calls Tryz.prog 203 #[v] w fun e w' => ∃ va vb c, e = .returned (.tuple #[va, vb]) ∧ (2 ≤ c ∧ c + 2 ≤ n_.keys.length ∧ n_.S c ≤ 230 ∧ n_.S n_.keys.length - n_.S c ≤ 230) ∧ NodeV B w' va (n_.cut 0 c) ∧ NodeV B w' vb (n_.cut c n_.keys.length) ∧ Below w.heap.size w w' := by
 obtain ⟨A1, a1, A2, a2, A3, a3, rfl, C1, k1, C2, k2, C3, k3⟩ := N.out
 have hpos : 2 ≤ n_.keys.length := by
  rcases Nat.lt_or_ge 0 n_.keys.length with h0 | h0
  ·rcases Nat.lt_or_ge 1 n_.keys.length with h | h
   ·exact h
   ·have e : n_.keys.length = 1 := by omega
    have := he 0 om_
    rw [e, n_.S_succ, n_.S_zero] at hlo; omega
  ·rw [show n_.keys.length = 0 by omega, n_.S_zero] at hlo; omega
 have HN := hi_ N
 have HF := hi_ F
 have HS := hi_ hs
 have HNUM := hi_ (fun c h1 g2 g3 g4 => split_num n_ he hlo hhi c h1 g2 g3 g4)
 have HHI := hi_ hhi
 have HPO := hi_ hpos
 have hnI : (n_.keys.length : Int) ≤ 1000 := by omega
 have HB := hi_ hB
 have HTS : Hid (∀ q, q ∈ 9 :: Kd.string.E → q ≠ 149) := hi_ (by intro q hq; simp [Kd.string, Kd.scalar] at hq; rw [hq]; decide)
 have HTI : Hid (∀ q, q ∈ 3 :: (Kd.int .i64).E → q ≠ 149) := hi_ (by intro q hq; simp [Kd.int, Kd.scalar] at hq; rw [hq]; decide)
 clear N F hs he hlo hhi hn hB hpos C1 k1 C2 k2 C3 k3
 go_enter Tryz.func203, Tryz.ntmps203
 go_upto_region 2 with fail
 have X1 := hi_ (blk_alloc (blk_alloc (blk_new w (.cells #[.int .i64 n_.kind, .slice A1 n_.keys.length a1, .slice A2 n_.vals.length a2, .slice A3 n_.kids.length a3] 149 (0, 0))) (.cells #[.int .i64 0, .slice none 0 0, .slice none 0 0, .slice none 0 0] 149 (0, 0))) (.cells #[.int .i64 0, .slice none 0 0, .slice none 0 0, .slice none 0 0] 149 (0, 0)))
 have X2 := hi_ (blk_alloc (blk_new (w.alloc (.cells #[.int .i64 n_.kind, .slice A1 n_.keys.length a1, .slice A2 n_.vals.length a2, .slice A3 n_.kids.length a3] 149 (0, 0))) (.cells #[.int .i64 0, .slice none 0 0, .slice none 0 0, .slice none 0 0] 149 (0, 0))) (.cells #[.int .i64 0, .slice none 0 0, .slice none 0 0, .slice none 0 0] 149 (0, 0)))
 have X3 := hi_ (blk_new ((w.alloc (.cells #[.int .i64 n_.kind, .slice A1 n_.keys.length a1, .slice A2 n_.vals.length a2, .slice A3 n_.kids.length a3] 149 (0, 0))).alloc (.cells #[.int .i64 0, .slice none 0 0, .slice none 0 0, .slice none 0 0] 149 (0, 0))) (.cells #[.int .i64 0, .slice none 0 0, .slice none 0 0, .slice none 0 0] 149 (0, 0)))
 have B0 := hi_ (below_alloc (below_alloc (below_alloc (Below.refl w.heap.size w) (.cells #[.int .i64 n_.kind, .slice A1 n_.keys.length a1, .slice A2 n_.vals.length a2, .slice A3 n_.kids.length a3] 149 (0, 0))) (.cells #[.int .i64 0, .slice none 0 0, .slice none 0 0, .slice none 0 0] 149 (0, 0))) (.cells #[.int .i64 0, .slice none 0 0, .slice none 0 0, .slice none 0 0] 149 (0, 0)))
 simp only [World.size_alloc] at X1 X2 X3
 generalize ((w.alloc (.cells #[.int .i64 n_.kind, .slice A1 n_.keys.length a1, .slice A2 n_.vals.length a2, .slice A3 n_.kids.length a3] 149 (0, 0))).alloc (.cells #[.int .i64 0, .slice none 0 0, .slice none 0 0, .slice none 0 0] 149 (0, 0))).alloc (.cells #[.int .i64 0, .slice none 0 0, .slice none 0 0, .slice none 0 0] 149 (0, 0)) = w0 at *
 obtain ⟨g1, hg1⟩ : ∃ g, g = w.heap.size := ⟨_, rfl⟩
 obtain ⟨g2, hg2⟩ : ∃ g, g = w.heap.size + 1 := ⟨_, rfl⟩
 obtain ⟨g3, hg3⟩ : ∃ g, g = w.heap.size + 1 + 1 := ⟨_, rfl⟩
 have HG := hi_ (show w.heap.size ≤ g2 ∧ w.heap.size ≤ g3 ∧ g2 ≠ g3 by omega)
 rw [← hg3, ← hg2, ← hg1]
 rw [← hg1] at X1
 rw [← hg2] at X2
 rw [← hg3] at X3
 clear hg1 hg2 hg3
 have x1 := blk_cell X1.out 1
 go_wp2_with fail
 go_loopw [4, 11] (fun s i wr => ∃ k : Nat, k ≤ n_.keys.length ∧ i = .int .i64 (k : Int) ∧ s = .int .i64 (n_.S k : Int) ∧ Hid (Below w0.heap.size w0 wr)) (fun _ i _ => n_.keys.length - (intOf i).toNat)
 case atStart => exact ⟨0, Nat.zero_le _, rfl, rfl, hi_ (Below.refl _ _)⟩
 case round =>
  obtain ⟨k, hk, rfl, rfl, BR⟩ := hrel
  clear x1
  have Y1 := hi_ (blk_below X1.out BR.out)
  have BW := hi_ (B0.out.trans (BR.out.mono B0.out.size))
  have HK := hi_ hk
  clear hk
  have x0 := blk_cell Y1.out 0
  have x1 := blk_cell Y1.out 1
  have x2 := blk_cell Y1.out 2
  have x3 := blk_cell Y1.out 3
  by_cases hlt : (k : Int) < (n_.keys.length : Int)
  ·obtain ⟨s, hs1, hs2⟩ := entry_f HF.out (i := k) om_ 20 om_
   have HS1 := hi_ hs1
   have HS2 := hi_ hs2
   have hb1 : ((n_.S k : Int) + (s.size : Int)) ≤ 1000 := by have h1 := S_mono n_ (show k + 1 ≤ n_.keys.length by omega); have h2 := n_.S_succ k; have h3 := HHI.out; omega
   have hs0 : (0 : Int) ≤ (s.size : Int) := by omega
   have hs00 : (0 : Int) ≤ (n_.S k : Int) := by omega
   clear hs1 hs2
   go_wp2_with fail
   obtain ⟨C1, k1, C2, k2, C3, k3⟩ := (HN.out.below BW.out).outs
   refine (PNd.node_Node_entry.calls 20 n_.kind A1 a1 n_.keys A2 a2 n_.vals A3 a3 n_.kids (k : Int) s wr C1 k1 C2 k2 C3 k3 HS1.out).mono ?_
   clear C1 k1 C2 k2 C3 k3 x0 x1 x2 x3
   rintro e w2 ⟨rfl, hb⟩
   have BR2 := hi_ (BR.out.trans (hb.mono BR.out.size))
   clear hb
   go_wp2_with fail
   go_roundw
   case rel => exact ⟨k + 1, by omega, by go_num, by rw [n_.S_succ, ← HS2.out]; congr 1, BR2⟩
   case measure => simp [intOf]; omega
  ·have hkn : k = n_.keys.length := by have := HK.out; omega
   subst hkn
   clear x0 x1 x2 x3
   have hW0 : (0 : Int) ≤ (n_.S n_.keys.length : Int) := by omega
   have hW1 : (n_.S n_.keys.length : Int) ≤ 340 := by have := HHI.out; omega
   go_wp2_with fail
   go_loopw [6, 7] (fun i s wr2 => ∃ k : Nat, i = .int .i64 (k : Int) ∧ s = .int .i64 (n_.S k : Int) ∧ Hid (k = 0 ∨ (1 ≤ k ∧ k + 1 ≤ n_.keys.length ∧ (k = 1 ∨ 2 * n_.S (k - 1) < n_.S n_.keys.length))) ∧ Hid (Below w0.heap.size w0 wr2)) (fun i _ _ => n_.keys.length - (intOf i).toNat)
   case atStart => exact ⟨0, rfl, by rw [n_.S_zero]; rfl, hi_ (Or.inl rfl), BR⟩
   case round =>
    clear Y1 BW BR HK hlt
    obtain ⟨k, rfl, rfl, HK, BR⟩ := hrel
    have Y1 := hi_ (blk_below X1.out BR.out)
    have BW := hi_ (B0.out.trans (BR.out.mono B0.out.size))
    have x0 := blk_cell Y1.out 0
    have x1 := blk_cell Y1.out 1
    have x2 := blk_cell Y1.out 2
    have x3 := blk_cell Y1.out 3
    have hkl : k + 1 ≤ n_.keys.length := by have := HK.out; have := HPO.out; omega
    have hS0 : (0 : Int) ≤ (n_.S k : Int) := by omega
    have hS1 : (n_.S k : Int) ≤ 340 := by have := S_mono n_ (show k ≤ n_.keys.length by omega); have := HHI.out; omega
    by_cases hgo : k = 0 ∨ (k + 1 < n_.keys.length ∧ 2 * n_.S k < n_.S n_.keys.length)
    ·obtain ⟨s, hs1, hs2⟩ := entry_f HF.out (i := k) om_ 20 om_
     have HS1 := hi_ hs1
     have HS2 := hi_ hs2
     have HK2 := hi_ (show k + 1 = 0 ∨ (1 ≤ k + 1 ∧ k + 1 + 1 ≤ n_.keys.length ∧ (k + 1 = 1 ∨ 2 * n_.S (k + 1 - 1) < n_.S n_.keys.length)) by have := HPO.out; rw [Nat.add_sub_cancel]; omega)
     have hb1 : ((n_.S k : Int) + (s.size : Int)) ≤ 1000 := by have h1 := S_mono n_ (show k + 1 ≤ n_.keys.length by omega); have h2 := n_.S_succ k; have h3 := HHI.out; omega
     have hs0 : (0 : Int) ≤ (s.size : Int) := by omega
     clear hs1 hs2
     rcases Nat.eq_zero_or_pos k with hk0 | hk0
     ·subst hk0
      clear hgo
      go_wp2_with fail
      obtain ⟨C1, k1, C2, k2, C3, k3⟩ := (HN.out.below BW.out).outs
      refine (PNd.node_Node_entry.calls 20 n_.kind A1 a1 n_.keys A2 a2 n_.vals A3 a3 n_.kids 0 s wr C1 k1 C2 k2 C3 k3 HS1.out).mono ?_
      clear C1 k1 C2 k2 C3 k3
      rintro e w2 ⟨rfl, hb⟩
      have BR2 := hi_ (BR.out.trans (hb.mono BR.out.size))
      clear hb x0 x1 x2 x3
      go_wp2_with fail
      go_roundw
      case rel => exact ⟨0 + 1, by go_num, by rw [n_.S_succ, ← HS2.out]; congr 1, hi_ (by have := HPO.out; omega), BR2⟩
      case measure => simp [intOf]; omega
     ·have hgo2 : k + 1 < n_.keys.length ∧ 2 * n_.S k < n_.S n_.keys.length := by omega
      clear hgo
      have hc1 : ¬ ((k : Int) = 0) := by omega
      have hc2 : (k : Int) < (n_.keys.length : Int) - 1 := by omega
      have hc3 : 2 * (n_.S k : Int) < (n_.S n_.keys.length : Int) := by omega
      clear hgo2
      go_wp2_with fail
      obtain ⟨C1, k1, C2, k2, C3, k3⟩ := (HN.out.below BW.out).outs
      refine (PNd.node_Node_Len.calls n_.kind A1 a1 n_.keys A2 a2 n_.vals A3 a3 n_.kids (n_.keys.length : Int) wr C1 k1 C2 k2 C3 k3 rfl).mono ?_
      clear C1 k1 C2 k2 C3 k3
      rintro e w2 ⟨rfl, hb⟩
      have BR1 := hi_ (BR.out.trans (hb.mono BR.out.size))
      clear hb x0 x1 x2 x3
      have Y2 := hi_ (blk_below X1.out BR1.out)
      have BW1 := hi_ (B0.out.trans (BR1.out.mono B0.out.size))
      have x0 := blk_cell Y2.out 0
      have x1 := blk_cell Y2.out 1
      have x2 := blk_cell Y2.out 2
      have x3 := blk_cell Y2.out 3
      go_wp2_with fail
      obtain ⟨C1, k1, C2, k2, C3, k3⟩ := (HN.out.below BW1.out).outs
      refine (PNd.node_Node_entry.calls 20 n_.kind A1 a1 n_.keys A2 a2 n_.vals A3 a3 n_.kids (k : Int) s w2 C1 k1 C2 k2 C3 k3 HS1.out).mono ?_
      clear C1 k1 C2 k2 C3 k3
      rintro e w3 ⟨rfl, hb⟩
      have BR2 := hi_ (BR1.out.trans (hb.mono BR1.out.size))
      clear hb x0 x1 x2 x3
      go_wp2_with fail
      go_roundw
      case rel => exact ⟨k + 1, by go_num, by rw [n_.S_succ, ← HS2.out]; congr 1, HK2, BR2⟩
      case measure => simp [intOf]; omega
    ·have hk1 : 1 ≤ k := by omega
     have HC := hi_ (HNUM.out k hk1 hkl om_ (by have := HK.out; omega))
     have hc1 : ¬ ((k : Int) = 0) := by omega
     obtain ⟨c_, hc_⟩ : ∃ c_, c_ = k := ⟨_, rfl⟩
     have CUTA := am_ (fun (W : World) (hW : Below w.heap.size w W) => (by obtain ⟨C1, k1, C2, k2, C3, k3⟩ := (HN.out.below hW).outs; exact cut_calls W n_ A1 a1 A2 a2 A3 a3 HS.out om_ 0 c_ (Nat.zero_le _) om_ C1 k1 C2 k2 C3 k3 : Calls Tryz.prog 235 _ W _))
     have CUTB := am_ (fun (W : World) (hW : Below w.heap.size w W) => (by obtain ⟨C1, k1, C2, k2, C3, k3⟩ := (HN.out.below hW).outs; exact cut_calls W n_ A1 a1 A2 a2 A3 a3 HS.out om_ c_ n_.keys.length om_ (Nat.le_refl _) C1 k1 C2 k2 C3 k3 : Calls Tryz.prog 235 _ W _))
     obtain ⟨na_, hna⟩ : ∃ x, x = n_.cut 0 c_ := ⟨_, rfl⟩
     obtain ⟨nb_, hnb⟩ : ∃ x, x = n_.cut c_ n_.keys.length := ⟨_, rfl⟩
     rw [← hna] at CUTA
     rw [← hnb] at CUTB
     have HNA := hi_ hna
     have HNB := hi_ hnb
     have HCK := hi_ hc_
     clear hna hnb hc_
     obtain ⟨C1, K1, C2, K2, C3, K3⟩ := HN.out.outs
     replace C1 := am_ C1
     replace K1 := am_ K1
     replace C2 := am_ C2
     replace K2 := am_ K2
     replace C3 := am_ C3
     replace K3 := am_ K3
     by_cases hc2 : (k : Int) < (n_.keys.length : Int) - 1
     have hc3 : ¬ (2 * (n_.S k : Int) < (n_.S n_.keys.length : Int)) := by omega
     all_goals (
      clear hgo
      go_wp2_with fail
      obtain ⟨D1, k1, D2, k2, D3, k3⟩ := (HN.out.below BW.out).outs
      refine (PNd.node_Node_Len.calls n_.kind A1 a1 n_.keys A2 a2 n_.vals A3 a3 n_.kids (n_.keys.length : Int) wr D1 k1 D2 k2 D3 k3 rfl).mono ?_
      clear D1 k1 D2 k2 D3 k3
      rintro e wc ⟨rfl, hb⟩
      have BR1 := hi_ (BR.out.trans (hb.mono BR.out.size))
      clear hb x0 x1 x2 x3
      try have hc5 : (((k : Int) == 0) || decide (2 * (n_.S k : Int) < (n_.S n_.keys.length : Int))) = false := by simp; omega
      go_upto_region 11 with fail
      have k1 := BR1.out
      replace X1 := am_ (blk_below X1.out k1)
      have XP := am_ (blk_below X2.out k1)
      have XQ := am_ (blk_below X3.out k1)
      have BWc := hi_ (B0.out.trans (k1.mono B0.out.size))
      clear k1 Y1 BW BR BR1 X2 X3 B0
      have BWd := am_ BWc.out
      clear BWc
      have HBq := HB
      clear HB
      have HB := BWd
      clear BWd
      have HG2 := am_ HG.out.1
      have HG3 := am_ HG.out.2.1
      have HN23 := am_ HG.out.2.2
      have q1 := am_ HTS.out
      have q2 := am_ HTI.out
      clear HTS HTI
      have HTS := q1
      have HTI := q2
      clear q1 q2
      have ec : Value.int .i64 (k : Int) = .int .i64 (c_ : Int) := by rw [HCK.out]
      rw [ec]
      clear ec
      refine start_ (n := 10) (S := fun w' => True) (ds := []) (bz 10 0) kr_ rfl rfl trivial (fun hHeld => ?_); refine with_tabW node_SplitR.tab node_SplitR.bits (fun HT_ HW_ => ?_)
      have n0 := am_ (below_drew1 HB.out); have n1 := am_ (blk_drew X1.out); have n2 := am_ (blk_drew XP.out); have n3 := am_ (blk_drew XQ.out)
      clear HB X1 XP XQ
      have HB := n0; have X1 := n1; have XP := n2; have XQ := n3
      clear n0 n1 n2 n3
      generalize wc.drew = wc at *
      refine pure_ (i := 1) (N := some 45) (v := ?_) (a' := ?_) (bz 10 2) rfl rfl (any_of HT_.out kr_) (fun _ _ _ h => h) (Or.inl ⟨by rfl, ?_⟩) ?_ ?_
      rotate_left
      ·intro w'
       go_simp
       with_reducible rfl
      rotate_left
      ·simp only [Act.put, List.setIfInBounds_toArray, List.set_cons_zero, List.set_cons_succ, i64_w, i32_w]
       rfl
      refine pure_ (i := 4) (N := some 48) (v := ?_) (a' := ?_) (bz 10 18) rfl rfl (any_of HT_.out kr_) (fun _ _ _ h => h) (Or.inl ⟨by rfl, ?_⟩) ?_ ?_
      rotate_left
      ·intro w'
       go_simp
       with_reducible rfl
      rotate_left
      ·simp only [Act.put, List.setIfInBounds_toArray, List.set_cons_zero, List.set_cons_succ, i64_w, i32_w]
       rfl
      refine inv_at [0, 2, 3, 5, 6, 7, 8, 9] (fun a0_ b a w' => ∃ (Ua1 : Option Addr) (ka1 : Nat) (Ua2 : Option Addr) (ka2 : Nat) (Ua3 : Option Addr) (ka3 : Nat) (Ub1 : Option Addr) (kb1 : Nat) (Ub2 : Option Addr) (kb2 : Nat) (Ub3 : Option Addr) (kb3 : Nat) (m2_ : Value) (m7_ : Value), a = putSel a0_ b [(0, 44, .agg #[.int .i64 n_.kind, .slice A1 n_.keys.length a1, .slice A2 n_.vals.length a2, .slice A3 n_.kids.length a3]), (2, 46, m2_), (3, 47, .agg #[.int .i64 n_.kind, .slice A1 n_.keys.length a1, .slice A2 n_.vals.length a2, .slice A3 n_.kids.length a3]), (5, 49, .agg #[.int .i64 n_.kind, .slice A1 n_.keys.length a1, .slice A2 n_.vals.length a2, .slice A3 n_.kids.length a3]), (6, 50, .int .i64 (n_.keys.length : Int)), (7, 51, m7_)] ∧ (Below w.heap.size w w') ∧ (b 8 = false → w'.heap[g1]? = some (.cells #[.int .i64 n_.kind, .slice A1 n_.keys.length a1, .slice A2 n_.vals.length a2, .slice A3 n_.kids.length a3] 149 (0, 0))) ∧ (b 8 = false → w'.heap[g2]? = some (.cells #[.int .i64 0, .slice none 0 0, .slice none 0 0, .slice none 0 0] 149 (0, 0))) ∧ (b 9 = false → w'.heap[g3]? = some (.cells #[.int .i64 0, .slice none 0 0, .slice none 0 0, .slice none 0 0] 149 (0, 0))) ∧ (b 8 = true → w'.heap[g2]? = some (.cells #[.int .i64 n_.kind, .slice Ua1 na_.keys.length ka1, .slice Ua2 na_.vals.length ka2, .slice Ua3 na_.kids.length ka3] 149 (0, 0))) ∧ (b 9 = true → w'.heap[g3]? = some (.cells #[.int .i64 n_.kind, .slice Ub1 nb_.keys.length kb1, .slice Ub2 nb_.vals.length kb2, .slice Ub3 nb_.kids.length kb3] 149 (0, 0))) ∧ (b 2 = true → Kd.R Kd.string 9 w' w.heap.size (fun _ => True) (.slice Ua1 na_.keys.length ka1) na_.keys) ∧ (b 2 = true → Kd.R Kd.string 9 w' w.heap.size (fun _ => True) (.slice Ua2 na_.vals.length ka2) na_.vals) ∧ (b 2 = true → Kd.R (Kd.int .i64) 3 w' w.heap.size (fun _ => True) (.slice Ua3 na_.kids.length ka3) na_.kids) ∧ (b 7 = true → Kd.R Kd.string 9 w' w.heap.size (fun _ => True) (.slice Ub1 nb_.keys.length kb1) nb_.keys) ∧ (b 7 = true → Kd.R Kd.string 9 w' w.heap.size (fun _ => True) (.slice Ub2 nb_.vals.length kb2) nb_.vals) ∧ (b 7 = true → Kd.R (Kd.int .i64) 3 w' w.heap.size (fun _ => True) (.slice Ub3 nb_.kids.length kb3) nb_.kids) ∧ (b 2 = true → (m2_ : Value) = .agg #[.int .i64 n_.kind, .slice Ua1 na_.keys.length ka1, .slice Ua2 na_.vals.length ka2, .slice Ua3 na_.kids.length ka3]) ∧ (b 7 = true → (m7_ : Value) = .agg #[.int .i64 n_.kind, .slice Ub1 nb_.keys.length kb1, .slice Ub2 nb_.vals.length kb2, .slice Ub3 nb_.kids.length kb3])) HT_.out HW_.out kr_ kr_ ?_ ?_ ?_
      ·exact ⟨none, 0, none, 0, none, 0, none, 0, none, 0, none, 0, .bool false, .bool false, by simp only [putSel, Bool.false_eq_true, if_false], HB.out, fun _ => X1.out, fun _ => XP.out, fun _ => XQ.out, fun h_ => absurd h_ (by decide), fun h_ => absurd h_ (by decide), fun h_ => absurd h_ (by decide), fun h_ => absurd h_ (by decide), fun h_ => absurd h_ (by decide), fun h_ => absurd h_ (by decide), fun h_ => absurd h_ (by decide), fun h_ => absurd h_ (by decide), fun h_ => absurd h_ (by decide), fun h_ => absurd h_ (by decide)⟩
      ·skip
       clear HB X1 XP XQ
       refine steps_cons ?_ ?_
       ·rintro b a w' ⟨Ua1, ka1, Ua2, ka2, Ua3, ka3, Ub1, kb1, Ub2, kb2, Ub3, kb3, m2_, m7_, ha, Q_HB, Q_X1, Q_XP, Q_XQ, Q_YP, Q_YQ, Q_Ra1, Q_Ra2, Q_Ra3, Q_Rb1, Q_Rb2, Q_Rb3, Q_X2_, Q_X7_⟩ hb_ hon hoff
        refine ⟨_, rfl, fun K hK => ?_⟩
        have e1 : a.tmps[1]? = some (.pointer (some ⟨g1, 0, none⟩)) := by rw [ha]; exact (putSel_off rfl).trans rfl
        replace ha := am_ ha
        have HB := am_ Q_HB
        have X1 := am_ (Q_X1 (hoff 8 kr_))
        have XP := am_ (Q_XP (hoff 8 kr_))
        have XQ := am_ (Q_XQ (hoff 9 kr_))
        have x0 := blk_cell X1.out 0
        have x1 := blk_cell X1.out 1
        have x2 := blk_cell X1.out 2
        have x3 := blk_cell X1.out 3
        refine value_ (w1 := w') (v := .agg #[.int .i64 n_.kind, .slice A1 n_.keys.length a1, .slice A2 n_.vals.length a2, .slice A3 n_.kids.length a3]) (by rfl) rfl ?_ ?_
        ·go_simp
         (try simp only [i64_w])
         try rfl
        refine hK.out _ _ ⟨Ua1, ka1, Ua2, ka2, Ua3, ka3, Ub1, kb1, Ub2, kb2, Ub3, kb3, m2_, m7_, (by rw [ha.out]; exact putSel_upk 0 hb_ rfl rfl rfl), Q_HB, Q_X1, Q_XP, Q_XQ, fo_ (hoff 8), fo_ (hoff 9), fo_ (hoff 2), fo_ (hoff 2), fo_ (hoff 2), fo_ (hoff 7), fo_ (hoff 7), fo_ (hoff 7), fo_ (hoff 2), fo_ (hoff 7)⟩
       refine steps_cons ?_ ?_
       ·rintro b a w' ⟨Ua1, ka1, Ua2, ka2, Ua3, ka3, Ub1, kb1, Ub2, kb2, Ub3, kb3, m2_, m7_, ha, Q_HB, Q_X1, Q_XP, Q_XQ, Q_YP, Q_YQ, Q_Ra1, Q_Ra2, Q_Ra3, Q_Rb1, Q_Rb2, Q_Rb3, Q_X2_, Q_X7_⟩ hb_ hon hoff
        refine ⟨_, rfl, fun K hK => ?_⟩
        have e44 : a.tmps[44]? = some (.agg #[.int .i64 n_.kind, .slice A1 n_.keys.length a1, .slice A2 n_.vals.length a2, .slice A3 n_.kids.length a3]) := by rw [ha]; exact putSel_on (e := (0, 44, .agg #[.int .i64 n_.kind, .slice A1 n_.keys.length a1, .slice A2 n_.vals.length a2, .slice A3 n_.kids.length a3])) 0 rfl rfl (hon 0 kr_) rfl
        have e45 : a.tmps[45]? = some (.int .i64 (c_ : Int)) := by rw [ha]; exact (putSel_off rfl).trans rfl
        replace ha := am_ ha
        have HB := am_ Q_HB
        have X1 := am_ (Q_X1 (hoff 8 kr_))
        have XP := am_ (Q_XP (hoff 8 kr_))
        have XQ := am_ (Q_XQ (hoff 9 kr_))
        refine goes_ Tryz.func235 kr_ rfl #[.agg #[.int .i64 n_.kind, .slice A1 n_.keys.length a1, .slice A2 n_.vals.length a2, .slice A3 n_.kids.length a3], .int .i64 0, .int .i64 (c_ : Int)] (by rfl) rfl rfl (by simp only [List.map_toArray, List.map_cons, List.map_nil, Act.eval, Array.getD_eq_getD_getElem?, Option.getD_some, e44, e45]) ?_
        refine (CUTA.out w' HB.out).mono ?_
        rintro e w1 ⟨U1, k1, U2, k2, U3, k3, rfl, r1, r2, r3, hb⟩
        refine ⟨_, rfl, ?_⟩
        refine hK.out _ _ ⟨U1, k1, U2, k2, U3, k3, Ub1, kb1, Ub2, kb2, Ub3, kb3, (.agg #[.int .i64 n_.kind, .slice U1 na_.keys.length k1, .slice U2 na_.vals.length k2, .slice U3 na_.kids.length k3]), m7_, (by rw [ha.out]; exact putSel_upk 1 hb_ rfl rfl rfl), below_then HB.out HB.out.size hb, fun _ => blk_below X1.out hb, fun _ => blk_below XP.out hb, fun _ => blk_below XQ.out hb, fo_ (hoff 8), fo_ (hoff 9), fun _ => Kd.R_lower r1 HB.out.size, fun _ => Kd.R_lower r2 HB.out.size, fun _ => Kd.R_lower r3 HB.out.size, fo_ (hoff 7), fo_ (hoff 7), fo_ (hoff 7), fun _ => rfl, fo_ (hoff 7)⟩
       refine steps_cons ?_ ?_
       ·rintro b a w' ⟨Ua1, ka1, Ua2, ka2, Ua3, ka3, Ub1, kb1, Ub2, kb2, Ub3, kb3, m2_, m7_, ha, Q_HB, Q_X1, Q_XP, Q_XQ, Q_YP, Q_YQ, Q_Ra1, Q_Ra2, Q_Ra3, Q_Rb1, Q_Rb2, Q_Rb3, Q_X2_, Q_X7_⟩ hb_ hon hoff
        refine ⟨_, rfl, fun K hK => ?_⟩
        have e1 : a.tmps[1]? = some (.pointer (some ⟨g1, 0, none⟩)) := by rw [ha]; exact (putSel_off rfl).trans rfl
        replace ha := am_ ha
        have HB := am_ Q_HB
        have X1 := am_ (Q_X1 (hoff 8 kr_))
        have XP := am_ (Q_XP (hoff 8 kr_))
        have XQ := am_ (Q_XQ (hoff 9 kr_))
        have x0 := blk_cell X1.out 0
        have x1 := blk_cell X1.out 1
        have x2 := blk_cell X1.out 2
        have x3 := blk_cell X1.out 3
        refine value_ (w1 := w') (v := .agg #[.int .i64 n_.kind, .slice A1 n_.keys.length a1, .slice A2 n_.vals.length a2, .slice A3 n_.kids.length a3]) (by rfl) rfl ?_ ?_
        ·go_simp
         (try simp only [i64_w])
         try rfl
        refine hK.out _ _ ⟨Ua1, ka1, Ua2, ka2, Ua3, ka3, Ub1, kb1, Ub2, kb2, Ub3, kb3, m2_, m7_, (by rw [ha.out]; exact putSel_upk 2 hb_ rfl rfl rfl), Q_HB, Q_X1, Q_XP, Q_XQ, fo_ (hoff 8), fo_ (hoff 9), Q_Ra1, Q_Ra2, Q_Ra3, fo_ (hoff 7), fo_ (hoff 7), fo_ (hoff 7), Q_X2_, fo_ (hoff 7)⟩
       refine steps_cons ?_ ?_
       ·rintro b a w' ⟨Ua1, ka1, Ua2, ka2, Ua3, ka3, Ub1, kb1, Ub2, kb2, Ub3, kb3, m2_, m7_, ha, Q_HB, Q_X1, Q_XP, Q_XQ, Q_YP, Q_YQ, Q_Ra1, Q_Ra2, Q_Ra3, Q_Rb1, Q_Rb2, Q_Rb3, Q_X2_, Q_X7_⟩ hb_ hon hoff
        refine ⟨_, rfl, fun K hK => ?_⟩
        have e1 : a.tmps[1]? = some (.pointer (some ⟨g1, 0, none⟩)) := by rw [ha]; exact (putSel_off rfl).trans rfl
        replace ha := am_ ha
        have HB := am_ Q_HB
        have X1 := am_ (Q_X1 (hoff 8 kr_))
        have XP := am_ (Q_XP (hoff 8 kr_))
        have XQ := am_ (Q_XQ (hoff 9 kr_))
        have x0 := blk_cell X1.out 0
        have x1 := blk_cell X1.out 1
        have x2 := blk_cell X1.out 2
        have x3 := blk_cell X1.out 3
        refine value_ (w1 := w') (v := .agg #[.int .i64 n_.kind, .slice A1 n_.keys.length a1, .slice A2 n_.vals.length a2, .slice A3 n_.kids.length a3]) (by rfl) rfl ?_ ?_
        ·go_simp
         (try simp only [i64_w])
         try rfl
        refine hK.out _ _ ⟨Ua1, ka1, Ua2, ka2, Ua3, ka3, Ub1, kb1, Ub2, kb2, Ub3, kb3, m2_, m7_, (by rw [ha.out]; exact putSel_upk 3 hb_ rfl rfl rfl), Q_HB, Q_X1, Q_XP, Q_XQ, fo_ (hoff 8), fo_ (hoff 9), Q_Ra1, Q_Ra2, Q_Ra3, fo_ (hoff 7), fo_ (hoff 7), fo_ (hoff 7), Q_X2_, fo_ (hoff 7)⟩
       refine steps_cons ?_ ?_
       ·rintro b a w' ⟨Ua1, ka1, Ua2, ka2, Ua3, ka3, Ub1, kb1, Ub2, kb2, Ub3, kb3, m2_, m7_, ha, Q_HB, Q_X1, Q_XP, Q_XQ, Q_YP, Q_YQ, Q_Ra1, Q_Ra2, Q_Ra3, Q_Rb1, Q_Rb2, Q_Rb3, Q_X2_, Q_X7_⟩ hb_ hon hoff
        refine ⟨_, rfl, fun K hK => ?_⟩
        have e49 : a.tmps[49]? = some (.agg #[.int .i64 n_.kind, .slice A1 n_.keys.length a1, .slice A2 n_.vals.length a2, .slice A3 n_.kids.length a3]) := by rw [ha]; exact putSel_on (e := (5, 49, .agg #[.int .i64 n_.kind, .slice A1 n_.keys.length a1, .slice A2 n_.vals.length a2, .slice A3 n_.kids.length a3])) 3 rfl rfl (hon 5 kr_) rfl
        replace ha := am_ ha
        have HB := am_ Q_HB
        have X1 := am_ (Q_X1 (hoff 8 kr_))
        have XP := am_ (Q_XP (hoff 8 kr_))
        have XQ := am_ (Q_XQ (hoff 9 kr_))
        have Ra1 := am_ (Q_Ra1 (hon 2 kr_))
        have Ra2 := am_ (Q_Ra2 (hon 2 kr_))
        have Ra3 := am_ (Q_Ra3 (hon 2 kr_))
        refine goes_ Tryz.func112 kr_ rfl #[.agg #[.int .i64 n_.kind, .slice A1 n_.keys.length a1, .slice A2 n_.vals.length a2, .slice A3 n_.kids.length a3]] (by rfl) rfl rfl (by simp only [List.map_toArray, List.map_cons, List.map_nil, Act.eval, Array.getD_eq_getD_getElem?, Option.getD_some, e49]) ?_
        refine (PNd.node_Node_Len.calls n_.kind A1 a1 n_.keys A2 a2 n_.vals A3 a3 n_.kids (n_.keys.length : Int) w' (Kd.C_below C1.out HB.out) K1.out (Kd.C_below C2.out HB.out) K2.out (Kd.C_below C3.out HB.out) K3.out rfl).mono ?_
        rintro e w1 ⟨rfl, hb⟩
        refine ⟨_, rfl, ?_⟩
        refine hK.out _ _ ⟨Ua1, ka1, Ua2, ka2, Ua3, ka3, Ub1, kb1, Ub2, kb2, Ub3, kb3, m2_, m7_, (by rw [ha.out]; exact putSel_upk 4 hb_ rfl rfl rfl), below_then HB.out HB.out.size hb, fun _ => blk_below X1.out hb, fun _ => blk_below XP.out hb, fun _ => blk_below XQ.out hb, fo_ (hoff 8), fo_ (hoff 9), fun _ => Kd.R_below Ra1.out hb, fun _ => Kd.R_below Ra2.out hb, fun _ => Kd.R_below Ra3.out hb, fo_ (hoff 7), fo_ (hoff 7), fo_ (hoff 7), Q_X2_, fo_ (hoff 7)⟩
       refine steps_cons ?_ ?_
       ·rintro b a w' ⟨Ua1, ka1, Ua2, ka2, Ua3, ka3, Ub1, kb1, Ub2, kb2, Ub3, kb3, m2_, m7_, ha, Q_HB, Q_X1, Q_XP, Q_XQ, Q_YP, Q_YQ, Q_Ra1, Q_Ra2, Q_Ra3, Q_Rb1, Q_Rb2, Q_Rb3, Q_X2_, Q_X7_⟩ hb_ hon hoff
        refine ⟨_, rfl, fun K hK => ?_⟩
        have e47 : a.tmps[47]? = some (.agg #[.int .i64 n_.kind, .slice A1 n_.keys.length a1, .slice A2 n_.vals.length a2, .slice A3 n_.kids.length a3]) := by rw [ha]; exact putSel_on (e := (3, 47, .agg #[.int .i64 n_.kind, .slice A1 n_.keys.length a1, .slice A2 n_.vals.length a2, .slice A3 n_.kids.length a3])) 2 rfl rfl (hon 3 kr_) rfl
        have e48 : a.tmps[48]? = some (.int .i64 (c_ : Int)) := by rw [ha]; exact (putSel_off rfl).trans rfl
        have e50 : a.tmps[50]? = some (.int .i64 (n_.keys.length : Int)) := by rw [ha]; exact putSel_on (e := (6, 50, .int .i64 (n_.keys.length : Int))) 4 rfl rfl (hon 6 kr_) rfl
        replace ha := am_ ha
        have HB := am_ Q_HB
        have X1 := am_ (Q_X1 (hoff 8 kr_))
        have XP := am_ (Q_XP (hoff 8 kr_))
        have XQ := am_ (Q_XQ (hoff 9 kr_))
        have Ra1 := am_ (Q_Ra1 (hon 2 kr_))
        have Ra2 := am_ (Q_Ra2 (hon 2 kr_))
        have Ra3 := am_ (Q_Ra3 (hon 2 kr_))
        refine goes_ Tryz.func235 kr_ rfl #[.agg #[.int .i64 n_.kind, .slice A1 n_.keys.length a1, .slice A2 n_.vals.length a2, .slice A3 n_.kids.length a3], .int .i64 (c_ : Int), .int .i64 (n_.keys.length : Int)] (by rfl) rfl rfl (by simp only [List.map_toArray, List.map_cons, List.map_nil, Act.eval, Array.getD_eq_getD_getElem?, Option.getD_some, e47, e48, e50]) ?_
        refine (CUTB.out w' HB.out).mono ?_
        rintro e w1 ⟨U1, k1, U2, k2, U3, k3, rfl, r1, r2, r3, hb⟩
        refine ⟨_, rfl, ?_⟩
        refine hK.out _ _ ⟨Ua1, ka1, Ua2, ka2, Ua3, ka3, U1, k1, U2, k2, U3, k3, m2_, (.agg #[.int .i64 n_.kind, .slice U1 nb_.keys.length k1, .slice U2 nb_.vals.length k2, .slice U3 nb_.kids.length k3]), (by rw [ha.out]; exact putSel_upk 5 hb_ rfl rfl rfl), below_then HB.out HB.out.size hb, fun _ => blk_below X1.out hb, fun _ => blk_below XP.out hb, fun _ => blk_below XQ.out hb, fo_ (hoff 8), fo_ (hoff 9), fun _ => Kd.R_below Ra1.out hb, fun _ => Kd.R_below Ra2.out hb, fun _ => Kd.R_below Ra3.out hb, fun _ => Kd.R_lower r1 HB.out.size, fun _ => Kd.R_lower r2 HB.out.size, fun _ => Kd.R_lower r3 HB.out.size, Q_X2_, fun _ => rfl⟩
       refine steps_cons ?_ ?_
       ·rintro b a w' ⟨Ua1, ka1, Ua2, ka2, Ua3, ka3, Ub1, kb1, Ub2, kb2, Ub3, kb3, m2_, m7_, ha, Q_HB, Q_X1, Q_XP, Q_XQ, Q_YP, Q_YQ, Q_Ra1, Q_Ra2, Q_Ra3, Q_Rb1, Q_Rb2, Q_Rb3, Q_X2_, Q_X7_⟩ hb_ hon hoff
        refine ⟨_, rfl, fun K hK => ?_⟩
        have e2 : a.tmps[2]? = some (.pointer (some ⟨g2, 0, none⟩)) := by rw [ha]; exact (putSel_off rfl).trans rfl
        have e46 : a.tmps[46]? = some (m2_) := by rw [ha]; exact putSel_on (e := (2, 46, m2_)) 1 rfl rfl (hon 2 kr_) rfl
        rw [Q_X2_ (hon 2 (by kernel_rfl))] at e46
        replace ha := am_ ha
        have HB := am_ Q_HB
        have X1 := am_ (Q_X1 hb_)
        have XP := am_ (Q_XP hb_)
        have XQ := am_ (Q_XQ (hoff 9 kr_))
        have Ra1 := am_ (Q_Ra1 (hon 2 kr_))
        have Ra2 := am_ (Q_Ra2 (hon 2 kr_))
        have Ra3 := am_ (Q_Ra3 (hon 2 kr_))
        have Rb1 := am_ (Q_Rb1 (hon 7 kr_))
        have Rb2 := am_ (Q_Rb2 (hon 7 kr_))
        have Rb3 := am_ (Q_Rb3 (hon 7 kr_))
        have q0 := blk_cell XP.out 0
        have q1 := blk_cell XP.out 1
        have q2 := blk_cell XP.out 2
        have q3 := blk_cell XP.out 3
        have z0 := blk_frozen XP.out 0
        have z1 := blk_frozen XP.out 1
        have z2 := blk_frozen XP.out 2
        have z3 := blk_frozen XP.out 3
        refine skip_ (w1 := ((((w'.setCell ⟨g2, 0, none⟩ (.int .i64 n_.kind)).setCell ⟨g2, 1, none⟩ (.slice Ua1 na_.keys.length ka1)).setCell ⟨g2, 2, none⟩ (.slice Ua2 na_.vals.length ka2)).setCell ⟨g2, 3, none⟩ (.slice Ua3 na_.kids.length ka3))) (by rfl) rfl ?_ ?_
        ·go_simp
         try rfl
        refine hK.out _ _ ⟨Ua1, ka1, Ua2, ka2, Ua3, ka3, Ub1, kb1, Ub2, kb2, Ub3, kb3, m2_, m7_, (by rw [ha.out]; exact putSel_none (v := undef) rfl), (below_set (below_set (below_set (below_set HB.out HG2.out) HG2.out) HG2.out) HG2.out), fun h0_ => absurd ((up_self b 8).symm.trans h0_) (by decide), fun h0_ => absurd ((up_self b 8).symm.trans h0_) (by decide), fun _ => (blk_far (blk_far (blk_far (blk_far XQ.out (p := ⟨g2, 0, none⟩) (Ne.symm HN23.out) _) (p := ⟨g2, 1, none⟩) (Ne.symm HN23.out) _) (p := ⟨g2, 2, none⟩) (Ne.symm HN23.out) _) (p := ⟨g2, 3, none⟩) (Ne.symm HN23.out) _), fun _ => (blk_put (blk_put (blk_put (blk_put XP.out 0 _ rfl) 1 _ rfl) 2 _ rfl) 3 _ rfl), fo_ (hoff 9), fun _ => (Kd.R_set (Kd.R_set (Kd.R_set (Kd.R_set Ra1.out XP.out HTS.out 0 _) (blk_set XP.out 0 _) HTS.out 1 _) (blk_set (blk_set XP.out 0 _) 1 _) HTS.out 2 _) (blk_set (blk_set (blk_set XP.out 0 _) 1 _) 2 _) HTS.out 3 _), fun _ => (Kd.R_set (Kd.R_set (Kd.R_set (Kd.R_set Ra2.out XP.out HTS.out 0 _) (blk_set XP.out 0 _) HTS.out 1 _) (blk_set (blk_set XP.out 0 _) 1 _) HTS.out 2 _) (blk_set (blk_set (blk_set XP.out 0 _) 1 _) 2 _) HTS.out 3 _), fun _ => (Kd.R_set (Kd.R_set (Kd.R_set (Kd.R_set Ra3.out XP.out HTI.out 0 _) (blk_set XP.out 0 _) HTI.out 1 _) (blk_set (blk_set XP.out 0 _) 1 _) HTI.out 2 _) (blk_set (blk_set (blk_set XP.out 0 _) 1 _) 2 _) HTI.out 3 _), fun _ => (Kd.R_set (Kd.R_set (Kd.R_set (Kd.R_set Rb1.out XP.out HTS.out 0 _) (blk_set XP.out 0 _) HTS.out 1 _) (blk_set (blk_set XP.out 0 _) 1 _) HTS.out 2 _) (blk_set (blk_set (blk_set XP.out 0 _) 1 _) 2 _) HTS.out 3 _), fun _ => (Kd.R_set (Kd.R_set (Kd.R_set (Kd.R_set Rb2.out XP.out HTS.out 0 _) (blk_set XP.out 0 _) HTS.out 1 _) (blk_set (blk_set XP.out 0 _) 1 _) HTS.out 2 _) (blk_set (blk_set (blk_set XP.out 0 _) 1 _) 2 _) HTS.out 3 _), fun _ => (Kd.R_set (Kd.R_set (Kd.R_set (Kd.R_set Rb3.out XP.out HTI.out 0 _) (blk_set XP.out 0 _) HTI.out 1 _) (blk_set (blk_set XP.out 0 _) 1 _) HTI.out 2 _) (blk_set (blk_set (blk_set XP.out 0 _) 1 _) 2 _) HTI.out 3 _), Q_X2_, Q_X7_⟩
       refine steps_cons ?_ ?_
       ·rintro b a w' ⟨Ua1, ka1, Ua2, ka2, Ua3, ka3, Ub1, kb1, Ub2, kb2, Ub3, kb3, m2_, m7_, ha, Q_HB, Q_X1, Q_XP, Q_XQ, Q_YP, Q_YQ, Q_Ra1, Q_Ra2, Q_Ra3, Q_Rb1, Q_Rb2, Q_Rb3, Q_X2_, Q_X7_⟩ hb_ hon hoff
        refine ⟨_, rfl, fun K hK => ?_⟩
        have e3 : a.tmps[3]? = some (.pointer (some ⟨g3, 0, none⟩)) := by rw [ha]; exact (putSel_off rfl).trans rfl
        have e51 : a.tmps[51]? = some (m7_) := by rw [ha]; exact putSel_on (e := (7, 51, m7_)) 5 rfl rfl (hon 7 kr_) rfl
        rw [Q_X7_ (hon 7 (by kernel_rfl))] at e51
        replace ha := am_ ha
        have HB := am_ Q_HB
        have XQ := am_ (Q_XQ hb_)
        have YP := am_ (Q_YP (hon 8 kr_))
        have Ra1 := am_ (Q_Ra1 (hon 2 kr_))
        have Ra2 := am_ (Q_Ra2 (hon 2 kr_))
        have Ra3 := am_ (Q_Ra3 (hon 2 kr_))
        have Rb1 := am_ (Q_Rb1 (hon 7 kr_))
        have Rb2 := am_ (Q_Rb2 (hon 7 kr_))
        have Rb3 := am_ (Q_Rb3 (hon 7 kr_))
        have q0 := blk_cell XQ.out 0
        have q1 := blk_cell XQ.out 1
        have q2 := blk_cell XQ.out 2
        have q3 := blk_cell XQ.out 3
        have z0 := blk_frozen XQ.out 0
        have z1 := blk_frozen XQ.out 1
        have z2 := blk_frozen XQ.out 2
        have z3 := blk_frozen XQ.out 3
        refine skip_ (w1 := ((((w'.setCell ⟨g3, 0, none⟩ (.int .i64 n_.kind)).setCell ⟨g3, 1, none⟩ (.slice Ub1 nb_.keys.length kb1)).setCell ⟨g3, 2, none⟩ (.slice Ub2 nb_.vals.length kb2)).setCell ⟨g3, 3, none⟩ (.slice Ub3 nb_.kids.length kb3))) (by rfl) rfl ?_ ?_
        ·go_simp
         try rfl
        refine hK.out _ _ ⟨Ua1, ka1, Ua2, ka2, Ua3, ka3, Ub1, kb1, Ub2, kb2, Ub3, kb3, m2_, m7_, (by rw [ha.out]; exact putSel_none (v := undef) rfl), (below_set (below_set (below_set (below_set HB.out HG3.out) HG3.out) HG3.out) HG3.out), fo_ (hon 8), fo_ (hon 8), fun h0_ => absurd ((up_self b 9).symm.trans h0_) (by decide), fun _ => (blk_far (blk_far (blk_far (blk_far YP.out (p := ⟨g3, 0, none⟩) HN23.out _) (p := ⟨g3, 1, none⟩) HN23.out _) (p := ⟨g3, 2, none⟩) HN23.out _) (p := ⟨g3, 3, none⟩) HN23.out _), fun _ => (blk_put (blk_put (blk_put (blk_put XQ.out 0 _ rfl) 1 _ rfl) 2 _ rfl) 3 _ rfl), fun _ => (Kd.R_set (Kd.R_set (Kd.R_set (Kd.R_set Ra1.out XQ.out HTS.out 0 _) (blk_set XQ.out 0 _) HTS.out 1 _) (blk_set (blk_set XQ.out 0 _) 1 _) HTS.out 2 _) (blk_set (blk_set (blk_set XQ.out 0 _) 1 _) 2 _) HTS.out 3 _), fun _ => (Kd.R_set (Kd.R_set (Kd.R_set (Kd.R_set Ra2.out XQ.out HTS.out 0 _) (blk_set XQ.out 0 _) HTS.out 1 _) (blk_set (blk_set XQ.out 0 _) 1 _) HTS.out 2 _) (blk_set (blk_set (blk_set XQ.out 0 _) 1 _) 2 _) HTS.out 3 _), fun _ => (Kd.R_set (Kd.R_set (Kd.R_set (Kd.R_set Ra3.out XQ.out HTI.out 0 _) (blk_set XQ.out 0 _) HTI.out 1 _) (blk_set (blk_set XQ.out 0 _) 1 _) HTI.out 2 _) (blk_set (blk_set (blk_set XQ.out 0 _) 1 _) 2 _) HTI.out 3 _), fun _ => (Kd.R_set (Kd.R_set (Kd.R_set (Kd.R_set Rb1.out XQ.out HTS.out 0 _) (blk_set XQ.out 0 _) HTS.out 1 _) (blk_set (blk_set XQ.out 0 _) 1 _) HTS.out 2 _) (blk_set (blk_set (blk_set XQ.out 0 _) 1 _) 2 _) HTS.out 3 _), fun _ => (Kd.R_set (Kd.R_set (Kd.R_set (Kd.R_set Rb2.out XQ.out HTS.out 0 _) (blk_set XQ.out 0 _) HTS.out 1 _) (blk_set (blk_set XQ.out 0 _) 1 _) HTS.out 2 _) (blk_set (blk_set (blk_set XQ.out 0 _) 1 _) 2 _) HTS.out 3 _), fun _ => (Kd.R_set (Kd.R_set (Kd.R_set (Kd.R_set Rb3.out XQ.out HTI.out 0 _) (blk_set XQ.out 0 _) HTI.out 1 _) (blk_set (blk_set XQ.out 0 _) 1 _) HTI.out 2 _) (blk_set (blk_set (blk_set XQ.out 0 _) 1 _) 2 _) HTI.out 3 _), Q_X2_, Q_X7_⟩
       exact steps_nil
      ·rintro b a w' hall ⟨Ua1, ka1, Ua2, ka2, Ua3, ka3, Ub1, kb1, Ub2, kb2, Ub3, kb3, m2_, m7_, ha, Q_HB, Q_X1, Q_XP, Q_XQ, Q_YP, Q_YQ, Q_Ra1, Q_Ra2, Q_Ra3, Q_Rb1, Q_Rb2, Q_Rb3, Q_X2_, Q_X7_⟩
       clear HB X1 XP XQ
       have hb0_ := hall 0 kr_
       have hb2_ := hall 2 kr_
       have hb3_ := hall 3 kr_
       have hb5_ := hall 5 kr_
       have hb6_ := hall 6 kr_
       have hb7_ := hall 7 kr_
       have hb8_ := hall 8 kr_
       have hb9_ := hall 9 kr_
       subst ha
       obtain rfl := Q_X2_ hb2_
       obtain rfl := Q_X7_ hb7_
       simp only [putSel, hb0_, hb2_, hb3_, hb5_, hb6_, hb7_, hb8_, hb9_, if_true, Act.put, List.setIfInBounds_toArray, List.set_cons_zero, List.set_cons_succ]
       have HB := am_ Q_HB
       clear Q_HB
       clear Q_X1
       clear Q_XP
       clear Q_XQ
       have YP := am_ (Q_YP hb8_)
       clear Q_YP
       have YQ := am_ (Q_YQ hb9_)
       clear Q_YQ
       have Ra1 := am_ (Q_Ra1 hb2_)
       clear Q_Ra1
       have Ra2 := am_ (Q_Ra2 hb2_)
       clear Q_Ra2
       have Ra3 := am_ (Q_Ra3 hb2_)
       clear Q_Ra3
       have Rb1 := am_ (Q_Rb1 hb7_)
       clear Q_Rb1
       have Rb2 := am_ (Q_Rb2 hb7_)
       clear Q_Rb2
       have Rb3 := am_ (Q_Rb3 hb7_)
       clear Q_Rb3
       clear hall hb0_ hb2_ hb3_ hb5_ hb6_ hb7_ hb8_ hb9_
       go_wp2_with fail
       refine bodyPost_ret (results_cc rfl _ _ g2 g3 149 149 #[.int .i64 n_.kind, .slice Ua1 na_.keys.length ka1, .slice Ua2 na_.vals.length ka2, .slice Ua3 na_.kids.length ka3] #[.int .i64 n_.kind, .slice Ub1 nb_.keys.length kb1, .slice Ub2 nb_.vals.length kb2, .slice Ub3 nb_.kids.length kb3] (0, 0) (0, 0) _ _ rfl YP.out rfl rfl rfl rfl YQ.out rfl rfl rfl) rfl ?_
       have hBs := HBq.out
       refine ⟨_, _, rfl, c_, by have h1 := HC.out; rw [HCK.out]; omega, ?_⟩
       have ha : n_.kind = na_.kind := by rw [HNA.out]; rfl
       have hb : n_.kind = nb_.kind := by rw [HNB.out]; rfl
       rw [← HNA.out, ← HNB.out]
       exact ⟨⟨_, _, _, by rw [ha], Kd.R_lower Ra1.out hBs, Kd.R_lower Ra2.out hBs, Kd.R_lower Ra3.out hBs⟩, ⟨_, _, _, by rw [hb], Kd.R_lower Rb1.out hBs, Kd.R_lower Rb2.out hBs, Kd.R_lower Rb3.out hBs⟩, HB.out⟩)
end Go.Proofs.YtendgmblgdkiaaaGreat

namespace Go.Proofs.YtendgmblgdkiaaaGreat
open Go.RowKit
open Go.Proofs.YtendgmblgdkiaaaGreatW
open PrintWords
set_option linter.unusedVariables false
set_option linter.unusedSimpArgs false

attribute [-go_sem] Instr.buildSlice
attribute [local go_sem] nodes1 nodes2
/-- What parts makes of a node. -/
def PartsOf (n : Nd) (l : List Nd) : Prop :=
 (n.pack.size ≤ 240 ∧ l = [n]) ∨ (∃ c, 2 ≤ c ∧ c + 2 ≤ n.keys.length ∧ n.S c ≤ 230 ∧ n.S n.keys.length - n.S c ≤ 230 ∧ l = [n.cut 0 c, n.cut c n.keys.length])
/-- Not much too long. -/
structure Nd.Short (n : Nd) : Prop where
 fine : n.fine = true
 shape : n.Shape
 ent : ∀ i, i < n.keys.length → n.ent i ≤ 50
 most : n.S n.keys.length ≤ 340
 few : n.keys.length < 128

set_option maxHeartbeats 2000000 in
set_option maxRecDepth 100000 in
theorem tree_parts (w : World) (B : Nat) (v : Value) (n : Nd) (hB : B ≤ w.heap.size) (N : NodeV B w v n) (hs : n.Short) :
  Calls Tryz.prog 190 #[v] w fun e w' => ∃ v' l, e = .returned v' ∧ PartsOf n l ∧ NodesV B w' v' l ∧ Below w.heap.size w w' := by
 obtain ⟨A1, c1, A2, c2, A3, c3, rfl, C1, k1, C2, k2, C3, k3⟩ := N.out
 have HN := hi_ N
 have C1 := hi_ C1
 have C2 := hi_ C2
 have C3 := hi_ C3
 have k1 := hi_ k1
 have k2 := hi_ k2
 have k3 := hi_ k3
 have HS := hi_ hs
 have HBs := hi_ hB
 clear N hs hB
 go_enter Tryz.func190, Tryz.ntmps190
 go_wp2_with fail
 have hB0 := hi_ (below_alloc (Below.refl w.heap.size w) (.cells #[.int .i64 n.kind, .slice A1 n.keys.length c1, .slice A2 n.vals.length c2, .slice A3 n.kids.length c3] 149 (0, 0)))
 have hX0 := hi_ (blk_new w (.cells #[.int .i64 n.kind, .slice A1 n.keys.length c1, .slice A2 n.vals.length c2, .slice A3 n.kids.length c3] 149 (0, 0)))
 generalize w.alloc (.cells #[.int .i64 n.kind, .slice A1 n.keys.length c1, .slice A2 n.vals.length c2, .slice A3 n.kids.length c3] 149 (0, 0)) = w0 at *
 have HF := hi_ (fits_f n HS.out.fine)
 obtain ⟨q, hq⟩ : ∃ q, q = decide ((n.pack.size : Int) ≤ 240) := ⟨_, rfl⟩
 rw [← hq] at HF
 have hq2 := hi_ hq
 clear hq
 refine (PNd.node_Node_Fits.calls n.kind A1 c1 n.keys A2 c2 n.vals A3 c3 n.kids q w0 (Kd.C_below C1.out hB0.out) k1.out (Kd.C_below C2.out hB0.out) k2.out (Kd.C_below C3.out hB0.out) k3.out HF.out).mono ?_
 rintro e w1 ⟨rfl, hb⟩
 have hB1 := hi_ (below_then hB0.out hB0.out.size hb)
 have hX1 := hi_ (blk_below hX0.out hb)
 have x0 := blk_cell hX1.out 0
 have x1 := blk_cell hX1.out 1
 have x2 := blk_cell hX1.out 2
 have x3 := blk_cell hX1.out 3
 clear hb hB0 hX0
 cases q
 ·have hfit : ¬ n.pack.size ≤ 240 := by have := of_decide_eq_false hq2.out.symm; omega
  have HFit := hi_ hfit
  clear hfit hq2 HF
  go_wp2_with fail
  have hlen : (vNum n.keys.length).size = 1 := vNum_one HS.out.few
  have hpk := n.pack_size
  have h239 : 239 < n.S n.keys.length := by have := HFit.out; omega
  clear hlen hpk x0 x1 x2 x3
  refine (node_Split w1 B _ n (Nat.le_trans HBs.out hB1.out.size) (HN.out.below hB1.out) HS.out.fine HS.out.shape HS.out.ent h239 HS.out.most (by have := HS.out.few; omega)).mono ?_
  rintro e w2 ⟨va, vb, c, rfl, ⟨hc2, hc3, hs1, hs2⟩, N1, N2, hb⟩
  have HP := hi_ (show PartsOf n [n.cut 0 c, n.cut c n.keys.length] from .inr ⟨c, hc2, hc3, hs1, hs2, rfl⟩)
  clear h239 hc2 hc3 hs1 hs2
  generalize n.cut 0 c = a at *
  generalize n.cut c n.keys.length = b at *
  have hB2 := hi_ (below_then hB1.out hB1.out.size hb)
  have hX2 := hi_ (blk_below hX1.out hb)
  obtain ⟨P1, p1, P2, p2, P3, p3, rfl, -⟩ := N1.out
  obtain ⟨P5, p5, P6, p6, P7, p7, rfl, -⟩ := N2.out
  have NA := hi_ N1
  have NB := hi_ N2
  clear N1 N2 hb
  go_wp2_with fail
  go_ret
  have hB3 := below_alloc (below_alloc (below_alloc hB2.out (.cells #[.int .i64 a.kind, .slice P1 a.keys.length p1, .slice P2 a.vals.length p2, .slice P3 a.kids.length p3] 149 (0, 0))) (.cells #[.int .i64 b.kind, .slice P5 b.keys.length p5, .slice P6 b.vals.length p6, .slice P7 b.kids.length p7] 149 (0, 0))) (.cells #[.int .i64 a.kind, .slice P1 a.keys.length p1, .slice P2 a.vals.length p2, .slice P3 a.kids.length p3, .int .i64 b.kind, .slice P5 b.keys.length p5, .slice P6 b.vals.length p6, .slice P7 b.kids.length p7] 149 (0, 0))
  have hB4 := below_alloc (below_alloc (below_alloc (Below.refl w2.heap.size w2) (.cells #[.int .i64 a.kind, .slice P1 a.keys.length p1, .slice P2 a.vals.length p2, .slice P3 a.kids.length p3] 149 (0, 0))) (.cells #[.int .i64 b.kind, .slice P5 b.keys.length p5, .slice P6 b.vals.length p6, .slice P7 b.kids.length p7] 149 (0, 0))) (.cells #[.int .i64 a.kind, .slice P1 a.keys.length p1, .slice P2 a.vals.length p2, .slice P3 a.kids.length p3, .int .i64 b.kind, .slice P5 b.keys.length p5, .slice P6 b.vals.length p6, .slice P7 b.kids.length p7] 149 (0, 0))
  have hle : B ≤ w1.heap.size := Nat.le_trans HBs.out hB1.out.size
  have hle2 : w.heap.size ≤ w2.heap.size := hB2.out.size
  refine ⟨_, _, rfl, HP.out, .inr ⟨a, b, _, _, w2.heap.size + 1 + 1, rfl, rfl, by have := HBs.out; omega, ?_, NA.out.below hB4, NB.out.below hB4⟩, hB3⟩
  have := heap_alloc_self ((w2.alloc (.cells #[.int .i64 a.kind, .slice P1 a.keys.length p1, .slice P2 a.vals.length p2, .slice P3 a.kids.length p3] 149 (0, 0))).alloc (.cells #[.int .i64 b.kind, .slice P5 b.keys.length p5, .slice P6 b.vals.length p6, .slice P7 b.kids.length p7] 149 (0, 0))) (.cells #[.int .i64 a.kind, .slice P1 a.keys.length p1, .slice P2 a.vals.length p2, .slice P3 a.kids.length p3, .int .i64 b.kind, .slice P5 b.keys.length p5, .slice P6 b.vals.length p6, .slice P7 b.kids.length p7] 149 (0, 0))
  rw [World.size_alloc, World.size_alloc] at this
  exact this
 ·have hfit : n.pack.size ≤ 240 := by have := of_decide_eq_true hq2.out.symm; omega
  have HFit := hi_ hfit
  clear hfit hq2 HF
  go_wp2_with fail
  go_ret
  refine ⟨_, [n], rfl, .inl ⟨HFit.out, rfl⟩, .inl ⟨n, _, w1.heap.size, rfl, rfl, by have := HBs.out; have := hB1.out.size; omega, heap_alloc_self w1 _, HN.out.below (below_alloc hB1.out _)⟩, below_alloc hB1.out _⟩
end Go.Proofs.YtendgmblgdkiaaaGreat

namespace Go.Proofs.YtendgmblgdkiaaaGreat
open Go.RowKit
open Go.Proofs.YtendgmblgdkiaaaGreatW
open PrintWords PrintLast PrintMore
set_option linter.unusedVariables false
set_option linter.unusedSimpArgs false

def Nd.page (n : Nd) : Pg := (n.kind, n.pack)
def Nd.least (n : Nd) : BA := n.keys.getD 0 ByteArray.empty
/-- What a page may be written of. -/
structure Nd.Fit (n : Nd) : Prop where
 fine : n.fine = true
 kind : n.kind = 1 ∨ n.kind = 2
 some : 0 < n.keys.length
 size : n.pack.size ≤ 240
/-- So many numbers, from one on. -/
def pagesFrom (n : Nat) : Nat → List Int
 | 0 => []
 | k + 1 => pagesFrom n k ++ [((n + k : Nat) : Int)]
theorem pagesFrom_length (n : Nat) : ∀ k, (pagesFrom n k).length = k
 | 0 => rfl
 | k + 1 => by rw [pagesFrom, List.length_append, pagesFrom_length n k]; rfl
/-- How writing fails. -/
def Bad (D D' : Dk) (P' : List Pg) (er : Int) : Prop := (er = 5 ∧ D'.down = false ∧ P'.length = D'.room) ∨ (er = 6 ∧ D'.down = true ∧ ¬ D.Live)
/-- A tree's state; all its blocks are elder than B. -/
structure TS (B : Nat) (w : World) (t b : Nat) (L : Loc) (h : Nat) (D : Dk) (P : List Pg) (r : Rt) : Prop where
 st : St w L b h D P
 tr : TreeAt w t b r
 lo : ∀ k, L.foot k ∨ k = b → k < B
 tl : t < B
namespace TS
variable {B : Nat} {w w' : World} {t b : Nat} {L : Loc} {h : Nat} {D D' : Dk} {P P' : List Pg} {r : Rt}
theorem below (T : TS B w t b L h D P r) (k : Below w.heap.size w w') : TS B w' t b L h D P r := ⟨T.st.below k, T.tr.below k, T.lo, T.tl⟩
theorem not (T : TS B w t b L h D P r) : ¬ (L.foot t ∨ t = b) := T.tr.foot T.st
end TS

theorem NodesV.at {B : Nat} {w : World} {g m : Nat} {l : List Nd} (h : NodesV B w (.slice (some ⟨g, 0, none⟩) m m) l) {k : Nat} (hk : k < m) : ∃ n A1 c1 A2 c2 A3 c3, l[k]? = some n ∧
  w.cell? ⟨g, k * 4, none⟩ = some (.int .i64 n.kind) ∧ w.cell? ⟨g, k * 4 + 1, none⟩ = some (.slice A1 n.keys.length c1) ∧ w.cell? ⟨g, k * 4 + 2, none⟩ = some (.slice A2 n.vals.length c2) ∧ w.cell? ⟨g, k * 4 + 3, none⟩ = some (.slice A3 n.kids.length c3) ∧
  NodeV B w (.agg #[.int .i64 n.kind, .slice A1 n.keys.length c1, .slice A2 n.vals.length c2, .slice A3 n.kids.length c3]) n := by
 rcases h with ⟨a, x, g', rfl, e, -, hg, ha⟩ | ⟨a, b, x, y, g', rfl, e, -, hg, ha, hb⟩
 ·simp only [Value.slice.injEq, Option.some.injEq, Addr.mk.injEq, and_true] at e
  obtain ⟨rfl, rfl, -⟩ := e
  obtain ⟨A1, c1, A2, c2, A3, c3, rfl, -⟩ := ha.out
  obtain rfl : k = 0 := by omega
  exact ⟨a, A1, c1, A2, c2, A3, c3, rfl, (cell_of_heap hg _).trans rfl, (cell_of_heap hg _).trans rfl, (cell_of_heap hg _).trans rfl, (cell_of_heap hg _).trans rfl, ha⟩
 ·simp only [Value.slice.injEq, Option.some.injEq, Addr.mk.injEq, and_true] at e
  obtain ⟨rfl, rfl, -⟩ := e
  obtain ⟨A1, c1, A2, c2, A3, c3, rfl, -⟩ := ha.out
  obtain ⟨P1, p1, P2, p2, P3, p3, rfl, -⟩ := hb.out
  have h01 : k = 0 ∨ k = 1 := by omega
  rcases h01 with rfl | rfl
  ·exact ⟨a, A1, c1, A2, c2, A3, c3, rfl, (cell_of_heap hg _).trans rfl, (cell_of_heap hg _).trans rfl, (cell_of_heap hg _).trans rfl, (cell_of_heap hg _).trans rfl, ha⟩
  ·exact ⟨b, P1, p1, P2, p2, P3, p3, rfl, (cell_of_heap hg _).trans rfl, (cell_of_heap hg _).trans rfl, (cell_of_heap hg _).trans rfl, (cell_of_heap hg _).trans rfl, hb⟩
theorem R_keepF {α : Type} {d : Kd α} {e base : Nat} {w1 w2 : World} {v : Value} {xs : List α} {F : Nat → Prop} (h : d.R e w1 base (fun _ => True) v xs) (k : Keep F w1 w2) (hF : ∀ k, F k → k < base) : d.R e w2 base (fun _ => True) v xs :=
 Kd.R_mono (Kd.R_step (Kd.R_bound h) (fun i hi hl => k.block i hl (fun hf => by have := hF i hf; have := hi.2.1; omega))) (fun _ _ => trivial)
theorem R_grownKeep {α : Type} {d : Kd α} {e base : Nat} {w w1 : World} {ok : Nat → Prop} {v : Value} {xs : List α} (h : d.R e w base ok v xs) (hg : w.grownBy w1 v.ownBlock) : Keep (fun k => base ≤ k) w w1 := by
 obtain ⟨-, inner, ho, -⟩ := h
 exact (Keep.refl _ w).grown hg (fun k hk => .inl (own_base ho k hk))
theorem R_apart2 {α β : Type} {d1 : Kd α} {d2 : Kd β} {e1 e2 b1 b2 : Nat} {w : World} {ok1 : Nat → Prop} {v1 v2 : Value} {xs : List α} {ys : List β} (h1 : d1.R e1 w b1 ok1 v1 xs) (h2 : d2.R e2 w b2 (fun _ => True) v2 ys) (hne : ∀ q, q ∈ e2 :: d2.E → q ≠ e1) : d2.R e2 w b2 (fun k => some k ≠ v1.ownBlock) v2 ys := by
 obtain ⟨-, inner, ho, -⟩ := h1
 refine Kd.R_mono (Kd.R_bound h2) (fun k hk e => ?_)
 obtain ⟨cells, hc⟩ := own_typed ho k e.symm
 obtain ⟨-, -, -, q, hq, cells', hc'⟩ := hk
 rw [hc] at hc'
 injection hc' with hc'
 injection hc' with _ hc'
 exact hne q hq hc'.symm
theorem TS.hi {B : Nat} {w w' : World} {t b : Nat} {L : Loc} {h : Nat} {D : Dk} {P : List Pg} {r : Rt} (T : TS B w t b L h D P r) (k : Keep (fun k => B ≤ k) w w') : TS B w' t b L h D P r :=
 ⟨⟨T.st.d.keep k (fun i hi hf => by have := T.lo i (.inl hi); omega), T.st.p.keep k (fun hf => by have := T.lo b (.inr rfl); omega), T.st.hh, T.st.room, T.st.holds⟩, T.tr.keep k (fun hf => by have := T.tl; omega), T.lo, T.tl⟩
theorem take_snoc {α : Type} (l : List α) (k : Nat) (n : α) (h : l[k]? = some n) : l.take (k + 1) = l.take k ++ [n] := by
 rw [List.take_add_one, h]; rfl
/-- The cells that a round reads. -/
def Fac (t b g : Nat) (x0 x1 x2 x3 : Value) (W : World) : Prop :=
 W.cell? ⟨t, 0, none⟩ = some (.pointer (some ⟨b, 0, none⟩)) ∧ W.cell? ⟨g, 0, none⟩ = some x0 ∧ W.cell? ⟨g, 1, none⟩ = some x1 ∧ W.cell? ⟨g, 2, none⟩ = some x2 ∧ W.cell? ⟨g, 3, none⟩ = some x3
namespace Fac
variable {t b g : Nat} {x0 x1 x2 x3 : Value} {W : World}
theorem drewN (h : Fac t b g x0 x1 x2 x3 W) (m : Nat) : Fac t b g x0 x1 x2 x3 (W.drewN m) := h
theorem drew (h : Fac t b g x0 x1 x2 x3 W) : Fac t b g x0 x1 x2 x3 W.drew := h
theorem of {r : Rt} (T : TreeAt W t b r) (hg : W.heap[g]? = some (.cells #[x0, x1, x2, x3] 149 (0, 0))) : Fac t b g x0 x1 x2 x3 W :=
 ⟨T.c0, (cell_of_heap hg 0).trans rfl, (cell_of_heap hg 1).trans rfl, (cell_of_heap hg 2).trans rfl, (cell_of_heap hg 3).trans rfl⟩
end Fac
structure WrInv (B : Nat) (w : World) (t b : Nat) (L : Loc) (h : Nat) (D : Dk) (P : List Pg) (r : Rt) (v : Value) (l : List Nd) (k : Nat) (D1 : Dk) (y z : Value) (wr : World) : Prop where
 ts : TS B wr t b L h D1 (P ++ (l.take k).map Nd.page) r
 ap : AppOk h D P D1 (P ++ (l.take k).map Nd.page)
 up : D1.down = false
 kp : Keep (fun k => L.foot k ∨ k = b) w wr
 nv : NodesV B wr v l
 r1 : Kd.R Kd.string 9 wr w.heap.size (fun _ => True) y ((l.take k).map Nd.least)
 r2 : Kd.R (Kd.int .i64) 3 wr w.heap.size (fun _ => True) z (pagesFrom P.length k)

set_option maxHeartbeats 2000000 in
set_option maxRecDepth 100000 in
theorem tree_write (w : World) (B : Nat) (t b : Nat) (L : Loc) (h : Nat) (D : Dk) (P : List Pg) (r : Rt) (v : Value) (l : List Nd) (hB : B ≤ w.heap.size) (T : TS B w t b L h D P r) (up : D.down = false) (N : NodesV B w v l) (hl : ∀ n ∈ l, n.Fit) :
  Calls Tryz.prog 192 #[.pointer (some ⟨t, 0, none⟩), v] w fun e w' => ∃ D' P', TS B w' t b L h D' P' r ∧ AppOk h D P D' P' ∧ Keep (fun k => L.foot k ∨ k = b) w w' ∧
   ((∃ v1 v2, e = .returned (.tuple #[v1, v2, .int .i64 0]) ∧ Kd.R Kd.string 9 w' w.heap.size (fun _ => True) v1 (l.map Nd.least) ∧ Kd.R (Kd.int .i64) 3 w' w.heap.size (fun _ => True) v2 (pagesFrom P.length l.length) ∧ P' = P ++ l.map Nd.page ∧ D'.down = false) ∨
    (∃ er, e = .returned (.tuple #[.slice none 0 0, .slice none 0 0, .int .i64 er]) ∧ Bad D D' P' er ∧ P'.length < P.length + l.length)) := by
 have I0 := hi_ (show WrInv B w t b L h D P r v l 0 D (.slice none 0 0) (.slice none 0 0) w from ⟨by simpa using T, by simpa using AppOk.refl T.st.room T.st.holds, up, Keep.refl _ _, N, Kd.R_nil _ _ _ _ _, Kd.R_nil _ _ _ _ _⟩)
 have HL := hi_ hl
 have HBs := hi_ hB
 clear T up N hl hB
 obtain ⟨g, hv⟩ : ∃ g, v = .slice (some ⟨g, 0, none⟩) l.length l.length := by
  rcases I0.out.nv with ⟨a, x, g, rfl, rfl, -, -, -⟩ | ⟨a, b, x, y, g, rfl, rfl, -, -, -, -⟩
  ·exact ⟨g, rfl⟩
  ·exact ⟨g, rfl⟩
 subst hv
 have hm2 : l.length ≤ 2 := by
  rcases I0.out.nv with ⟨a, x, g, rfl, -, -, -, -⟩ | ⟨a, b, x, y, g, rfl, -, -, -, -, -⟩
  ·simp
  ·simp
 obtain ⟨m, hm⟩ : ∃ m, m = l.length := ⟨_, rfl⟩
 have HM := hi_ hm
 rw [← hm] at hm2 ⊢
 have I0 := (hi_ (by have := I0.out; rw [← hm] at this; exact this) : Hid (WrInv B w t b L h D P r (.slice (some ⟨g, 0, none⟩) m m) l 0 D (.slice none 0 0) (.slice none 0 0) w))
 clear hm
 go_enter Tryz.func192, Tryz.ntmps192
 go_wp2_with fail
 go_loopw [15, 7, 8] (fun x y z wr => ∃ (k : Nat) (D1 : Dk), x = .int .i64 k ∧ k ≤ m ∧ Hid (WrInv B w t b L h D P r (.slice (some ⟨g, 0, none⟩) m m) l k D1 y z wr)) (fun x _ _ _ => m - (intOf x).toNat)
 case atStart => exact ⟨0, D, rfl, by omega, I0⟩
 case round =>
  obtain ⟨k, D1, rfl, hk, IV⟩ := hrel
  clear I0
  by_cases hlt : k < m
  ·have hkI : (k : Int) < (m : Int) := by omega
   have HK0 := hi_ hlt
   clear hlt hk
   obtain ⟨n, A1, c1, A2, c2, A3, c3, hn, x0, x1, x2, x3, NV⟩ := IV.out.nv.at HK0.out
   replace NV := hi_ NV
   replace hn := hi_ hn
   have q0 := IV.out.ts.tr.c0
   go_upto_region 6 with fail
   obtain ⟨rr, hrr⟩ : ∃ rr, rr = D1.pgAppend h (P ++ (l.take k).map Nd.page).length n.kind n.pack := ⟨_, rfl⟩
   have T0 := IV.out.ts.below ((Below.refl wr.heap.size wr).alloc (Nat.le_refl _) (.cells #[.int .i64 n.kind, .slice A1 n.keys.length c1, .slice A2 n.vals.length c2, .slice A3 n.kids.length c3] 149 (0, 0)))
   have N0 := NV.out.below ((Below.refl wr.heap.size wr).alloc (Nat.le_refl _) (.cells #[.int .i64 n.kind, .slice A1 n.keys.length c1, .slice A2 n.vals.length c2, .slice A3 n.kids.length c3] 149 (0, 0)))
   have G0 := heap_alloc_self wr (.cells #[.int .i64 n.kind, .slice A1 n.keys.length c1, .slice A2 n.vals.length c2, .slice A3 n.kids.length c3] 149 (0, 0))
   have K0 := IV.out.kp.alloc (.cells #[.int .i64 n.kind, .slice A1 n.keys.length c1, .slice A2 n.vals.length c2, .slice A3 n.kids.length c3] 149 (0, 0))
   have B0 := (Below.refl wr.heap.size wr).alloc (Nat.le_refl _) (.cells #[.int .i64 n.kind, .slice A1 n.keys.length c1, .slice A2 n.vals.length c2, .slice A3 n.kids.length c3] 149 (0, 0))
   generalize wr.alloc (.cells #[.int .i64 n.kind, .slice A1 n.keys.length c1, .slice A2 n.vals.length c2, .slice A3 n.kids.length c3] 149 (0, 0)) = w0 at *
   obtain ⟨g2, hg2⟩ : ∃ g2, g2 = wr.heap.size := ⟨_, rfl⟩
   rw [← hg2] at G0 ⊢
   have HNF := HL.out n (List.mem_of_getElem? hn.out)
   have F0 := hi_ (Fac.of T0.tr G0)
   have hgB : B ≤ g2 := by rw [hg2]; exact Nat.le_trans HBs.out IV.out.kp.size
   have CP : Hid (∀ W, Below w0.heap.size w0 W → Calls Tryz.prog 132 #[.agg #[.int .i64 n.kind, .slice A1 n.keys.length c1, .slice A2 n.vals.length c2, .slice A3 n.kids.length c3]] W fun e w' => e = .returned (.string n.pack) ∧ Below w0.heap.size w0 w' ∧ Fac t b g2 (.int .i64 n.kind) (.slice A1 n.keys.length c1) (.slice A2 n.vals.length c2) (.slice A3 n.kids.length c3) w') := hi_ (by
    intro W hW
    obtain ⟨C1, k1, C2, k2, C3, k3⟩ := (N0.below hW).outs
    refine (node_Pack n.kind _ _ n.keys _ _ n.vals _ _ n.kids W C1 k1 C2 k2 C3 k3 HNF.fine).mono ?_
    rintro e w' ⟨he, hb⟩
    have hb' := hW.trans (hb.mono hW.size)
    exact ⟨he, hb', Fac.of (T0.below hb').tr (blk_below G0 hb')⟩)
   have CA : Hid (∀ W, Below w0.heap.size w0 W → Calls Tryz.prog 65 #[.pointer (some ⟨b, 0, none⟩), .int .i64 n.kind, .string n.pack] W fun e w' => e = .returned (.tuple #[.int .i64 rr.2.2.1, .int .i64 rr.2.2.2]) ∧ (DiskAt w' L rr.1 ∧ PagesAt w' b L h rr.2.1 ∧ Keep (fun k => L.foot k ∨ k = b) w0 w') ∧ Fac t b g2 (.int .i64 n.kind) (.slice A1 n.keys.length c1) (.slice A2 n.vals.length c2) (.slice A3 n.kids.length c3) w') := hi_ (by
    intro W hW
    have S1 := (T0.below hW).st
    have := pages_Append W b L D1 h (P ++ (l.take k).map Nd.page).length n.kind n.pack S1.p S1.d S1.hh S1.room
    rw [← hrr] at this
    refine this.mono ?_
    rintro e w' ⟨he, hd, hp, hk⟩
    have hk' := (Keep.below (F := fun k => L.foot k ∨ k = b) hW).trans hk
    exact ⟨he, ⟨hd, hp, hk'⟩, Fac.of (T0.tr.keep hk' T0.not) (hk'.heap G0 (fun hf => by have := T0.lo _ hf; omega))⟩)
   have HB0 := hi_ (Below.refl w0.heap.size w0)
   replace T0 := hi_ T0
   replace N0 := hi_ N0
   replace G0 := hi_ G0
   replace K0 := hi_ K0
   replace B0 := hi_ B0
   have HN := hi_ HNF
   have HG := hi_ hg2
   have HR := hi_ hrr
   have HGB := hi_ hgB
   clear x0 x1 x2 x3 q0 hrr hg2 hgB HNF
   go_region_held3 (fun w' => w'.cell? ⟨t, 0, none⟩ = some (.pointer (some ⟨b, 0, none⟩)) ∧ w'.cell? ⟨g2, 0, none⟩ = some (.int .i64 n.kind) ∧ w'.cell? ⟨g2, 1, none⟩ = some (.slice A1 n.keys.length c1) ∧ w'.cell? ⟨g2, 2, none⟩ = some (.slice A2 n.vals.length c2) ∧ w'.cell? ⟨g2, 3, none⟩ = some (.slice A3 n.kids.length c3))
    (first | exact F0.out | (with_reducible assumption) | (show Fac _ _ _ _ _ _ _ _; repeat (first | (with_reducible assumption) | exact F0.out | refine Fac.drewN ?_ _ | refine Fac.drew ?_)))
    (first
     | (go_at_call 132; (with_reducible refine (CP.out _ ?_).mono ?_); (repeat (first | (with_reducible assumption) | exact HB0.out | refine bel_drewN ?_ _ | refine bel_drew ?_)); rintro e w1 ⟨rfl, hb1, f1⟩)
     | (go_at_call 65; (with_reducible refine (CA.out _ ?_).mono ?_); (repeat (first | (with_reducible assumption) | exact HB0.out | refine bel_drewN ?_ _ | refine bel_drew ?_)); rintro e w2 ⟨rfl, k2, f2⟩))
   have K2 := hi_ k2
   clear k2 f2 w1 hb1 f1
   have hkd : 0 ≤ n.kind ∧ n.kind ≤ 255 := by have := HN.out.kind; omega
   have Kp := hi_ (K0.out.andThen K2.out.2.2 (fun _ _ hf => hf))
   have hlen : (P ++ (l.take k).map Nd.page).length = P.length + k := by
    have := HM.out
    have := HK0.out
    rw [List.length_append, List.length_map, List.length_take]
    omega
   have hst := IV.out.ts.st
   rcases append_step hst.d.ok IV.out.up hst.hh hst.room hst.holds n.kind n.pack hkd.1 hkd.2 HN.out.size with ⟨hr, D2, e, hup, ha⟩ | ⟨hr, e⟩ | ⟨D2, e, hdn, hlv, ha⟩
   ·obtain ⟨pn, hpn⟩ : ∃ pn, pn = (P ++ (l.take k).map Nd.page).length := ⟨_, rfl⟩
    rw [← hpn] at e
    have HPN := hi_ (hpn.trans hlen)
    obtain rfl : rr = (D2, pn + 1, (pn : Int), 0) := HR.out.trans (by rw [← hpn]; exact e)
    clear hst e
    have T2 := hi_ (show TS B w2 t b L h D2 (P ++ (l.take k).map Nd.page ++ [(n.kind, n.pack)]) r from ⟨⟨K2.out.1, (by have := K2.out.2.1; rw [List.length_append, ← hpn]; exact this), IV.out.ts.st.hh, ha.room, ha.holds⟩, T0.out.tr.keep K2.out.2.2 T0.out.not, IV.out.ts.lo, IV.out.ts.tl⟩)
    have U2 := hi_ hup
    have AP := hi_ (IV.out.ap.trans ha)
    have hgf : ¬ (L.foot g2 ∨ g2 = b) := fun hf => by have := IV.out.ts.lo _ hf; have := HGB.out; omega
    have G2 := hi_ (K2.out.2.2.heap G0.out hgf)
    have N2 := hi_ (N0.out.keep K2.out.2.2 IV.out.ts.lo)
    have R1 := hi_ (R_keepF (Kd.R_below IV.out.r1 B0.out) K2.out.2.2 (fun k hk => Nat.lt_of_lt_of_le (IV.out.ts.lo k hk) HBs.out))
    have R2 := hi_ (R_keepF (Kd.R_below IV.out.r2 B0.out) K2.out.2.2 (fun k hk => Nat.lt_of_lt_of_le (IV.out.ts.lo k hk) HBs.out))
    have NV2 := hi_ ((IV.out.nv.below B0.out).keep K2.out.2.2 IV.out.ts.lo)
    have hsz := hi_ Kp.out.size
    clear hup ha hgf hpn hlen hkd hr
    obtain ⟨ad, c, rfl, hcl, hcK, hcc⟩ := Kd.C_get N2.out.outs.1 ByteArray.empty 0 om_ (by have := HN.out.some; omega)
    have hk1 := N2.out.outs.2.1
    have hkp : (0 : Int) < (n.keys.length : Int) := by have := HN.out.some; omega
    have HLk := hi_ (show (((l.take k).map Nd.least).length + 1) * 16 ≤ 140737488355328 by rw [List.length_map, List.length_take]; omega)
    have c0 := hcc 0 (.string n.least) (by simp [Kd.string, Kd.scalar] at hcK; rw [hcK]; rfl)
    replace c0 : w2.cell? ad = some (.string n.least) := by simpa [Addr.add] using c0
    clear hcc hcK hcl
    have z1 : w2.cell? ⟨g2, 1, none⟩ = some (.slice (some ad) n.keys.length c1) := (cell_of_heap G2.out 1).trans rfl
    have hts : Hid (∀ q, q ∈ 9 :: Kd.string.E → q ≠ 3) := hi_ (by intro q hq; simp [Kd.string, Kd.scalar] at hq; rw [hq]; decide)
    have hti : Hid (∀ q, q ∈ 3 :: (Kd.int .i64).E → q ≠ 9) := hi_ (by intro q hq; simp [Kd.int, Kd.scalar] at hq; rw [hq]; decide)
    have HLp := hi_ (show ((pagesFrom P.length k).length + 1) * 8 ≤ 140737488355328 by rw [pagesFrom_length]; have := HK0.out; omega)
    go_wp2_with (first
     | ((with_reducible refine gate_builtin (b := .append) (xs := #[.tmp 34, .tmp 39]) rfl ?_); at_builtin; refine Kd.R_append Kd.string (w0 := w2) w.heap.size rfl (.tmp 34) (.tmp 39) 22 9 (.string ⟨#[]⟩) 16 rfl Tryz.underlying22 PNd.info9 rfl (by decide) om_ u7 _ n.least [.string n.least] (fun _ => True) (fun _ => False) rfl rfl rfl (fun _ hk => hk.elim) (fun _ _ => trivial) R1.out ((Below.refl w2.heap.size w2).mono hsz.out) hsz.out HLk.out ?_; intro y1 w3 ho1 hb1 hg1 hat1; have R3 := hi_ ho1; have K3 := hi_ (R_grownKeep R1.out hg1); have Q3 := hi_ (Kd.R_mono (Kd.R_grown (R_apart2 R1.out R2.out hti.out) hg1 (fun k hk => hk)) (fun _ _ => trivial : ∀ k, _ → (fun _ => True) k)); have hs3 := hi_ (Nat.le_trans hsz.out K3.out.size); clear ho1 hb1 hg1 hat1)
     | ((with_reducible refine gate_builtin (b := .append) (xs := #[.tmp 41, .tmp 43]) rfl ?_); at_builtin; refine Kd.R_append (Kd.int .i64) (w0 := w3) w.heap.size rfl (.tmp 41) (.tmp 43) 84 3 (.int .i64 0) 8 rfl Tryz.underlying84 PNd.info3 rfl (by decide) om_ u8 _ (pn : Int) [.int .i64 (pn : Int)] (fun _ => True) (fun _ => False) rfl rfl rfl (fun _ hk => hk.elim) (fun _ _ => trivial) Q3.out ((Below.refl w3.heap.size w3).mono hs3.out) hs3.out HLp.out ?_; intro y2 w4 ho2 hb2 hg2 hat2; have Q4 := hi_ ho2; have K4 := hi_ (R_grownKeep Q3.out hg2); have R4 := hi_ (Kd.R_mono (Kd.R_grown (R_apart2 Q3.out R3.out hts.out) hg2 (fun k hk => hk)) (fun _ _ => trivial : ∀ k, _ → (fun _ => True) k)); clear ho2 hb2 hg2 hat2))
    have hk4 := (Kp.out.andThen K3.out (fun i hi hg => by omega)).andThen K4.out (fun i hi hg => by omega)
    have hT := (T2.out.hi (K3.out.mono (fun i _ hi => Nat.le_trans HBs.out hi))).hi (K4.out.mono (fun i _ hi => Nat.le_trans HBs.out hi))
    have hA := AP.out
    have h1 := R4.out
    have h2 := Q4.out
    have hpn := HPN.out
    have htk := take_snoc l k n hn.out
    refine ⟨⟨k + 1, D2, by simp, HK0.out, hi_ ⟨?_, ?_, U2.out, hk4, (by have := I0.out.nv.keep hk4 IV.out.ts.lo; rw [← HM.out] at this; exact this), ?_, ?_⟩⟩, ?_⟩
    ·rw [htk, List.map_append, ← List.append_assoc]; exact hT
    ·rw [htk, List.map_append, ← List.append_assoc]; exact hA
    ·rw [htk, List.map_append]; exact h1
    ·rw [pagesFrom, ← hpn]; exact h2
    ·have := HK0.out; simp [intOf]; omega
   ·obtain ⟨pn, hpn⟩ : ∃ pn, pn = (P ++ (l.take k).map Nd.page).length := ⟨_, rfl⟩
    rw [← hpn] at e
    obtain rfl : rr = (D1, pn, (-1 : Int), 5) := HR.out.trans (by rw [← hpn]; exact e)
    have hT := hi_ (show TS B w2 t b L h D1 (P ++ (l.take k).map Nd.page) r from ⟨⟨K2.out.1, (by have := K2.out.2.1; rw [← hpn]; exact this), IV.out.ts.st.hh, IV.out.ts.st.room, IV.out.ts.st.holds⟩, T0.out.tr.keep K2.out.2.2 T0.out.not, IV.out.ts.lo, IV.out.ts.tl⟩)
    have hr := hi_ hr
    have hlen := hi_ hlen
    clear hst e hpn
    go_wp2_with fail
    go_ret3
    exact ⟨D1, _, hT.out, IV.out.ap, Kp.out, .inr ⟨5, rfl, .inl ⟨rfl, IV.out.up, hr.out⟩, by rw [hlen.out]; have := HK0.out; omega⟩⟩
   ·obtain ⟨pn, hpn⟩ : ∃ pn, pn = (P ++ (l.take k).map Nd.page).length := ⟨_, rfl⟩
    rw [← hpn] at e
    obtain rfl : rr = (D2, pn, (-1 : Int), 6) := HR.out.trans (by rw [← hpn]; exact e)
    have hT := hi_ (show TS B w2 t b L h D2 (P ++ (l.take k).map Nd.page) r from ⟨⟨K2.out.1, (by have := K2.out.2.1; rw [← hpn]; exact this), IV.out.ts.st.hh, ha.room, ha.holds⟩, T0.out.tr.keep K2.out.2.2 T0.out.not, IV.out.ts.lo, IV.out.ts.tl⟩)
    have hlen := hi_ hlen
    have AP := hi_ (IV.out.ap.trans ha)
    have hdn := hi_ hdn
    have hlv := hi_ (fun l0 => hlv (IV.out.ap.wr.live l0))
    clear hst e hpn
    go_wp2_with fail
    go_ret3
    exact ⟨D2, _, hT.out, AP.out, Kp.out, .inr ⟨6, rfl, .inr ⟨rfl, hdn.out, hlv.out⟩, by rw [hlen.out]; have := HK0.out; omega⟩⟩
  ·have hkI : ¬ (k : Int) < (m : Int) := by omega
   obtain rfl : k = m := by omega
   go_wp2_with fail
   go_ret3
   have htk : l.take k = l := by rw [HM.out]; exact List.take_length
   have IO := IV.out
   refine ⟨D1, _, IO.ts, IO.ap, IO.kp, .inl ⟨_, _, rfl, ?_, IO.r2, ?_, IO.up⟩⟩
   ·have := IO.r1; rw [htk] at this; exact this
   ·rw [htk]
end Go.Proofs.YtendgmblgdkiaaaGreat

namespace Go.Proofs.YtendgmblgdkiaaaGreat
open Go.RowKit
open Go.Proofs.YtendgmblgdkiaaaGreatW
set_option linter.unusedVariables false
set_option linter.unusedSimpArgs false

abbrev KV := BA × BA
def headK : List KV → BA
 | [] => ByteArray.empty
 | a :: _ => a.1
/-- By rising keys. -/
def Srt (l : List KV) : Prop := l.Pairwise fun a b => blt a.1 b.1 = true
def Good (l : List KV) : Prop := Srt l ∧ ∀ p ∈ l, keyOk p.1 = true ∧ valOk p.2 = true
/-- A key has a value, or none. -/
def ed (key : BA) (ov : Option BA) (l : List KV) : List KV :=
 l.filter (fun p => blt p.1 key) ++ (ov.toList.map fun v => (key, v)) ++ l.filter (fun p => blt key p.1)

theorem filter_all {α : Type} {p : α → Bool} : ∀ {l : List α}, (∀ a ∈ l, p a = true) → l.filter p = l := fun h => List.filter_eq_self.2 h
theorem filter_none {α : Type} {p : α → Bool} {l : List α} (h : ∀ a ∈ l, p a = false) : l.filter p = [] := List.filter_eq_nil_iff.2 (fun a ha => by simp [h a ha])
theorem ed_mid {key : BA} {ov : Option BA} {A M C : List KV} (hA : ∀ a ∈ A, blt a.1 key = true) (hC : ∀ c ∈ C, blt key c.1 = true) : ed key ov (A ++ M ++ C) = A ++ ed key ov M ++ C := by
 unfold ed
 have hA' : A.filter (fun p => blt key p.1) = [] := filter_none fun a ha => blt_asymm (hA a ha)
 have hC' : C.filter (fun p => blt p.1 key) = [] := filter_none fun a ha => blt_asymm (hC a ha)
 have hA2 : A.filter (fun p => blt p.1 key) = A := filter_all hA
 have hC2 : C.filter (fun p => blt key p.1) = C := filter_all hC
 simp only [List.filter_append, hA', hC', hA2, hC2, List.append_nil, List.nil_append]
 simp only [List.append_assoc]
theorem ed_mem {key : BA} {ov : Option BA} {l : List KV} {p : KV} (h : p ∈ ed key ov l) : p ∈ l ∨ ∃ v, ov = some v ∧ p = (key, v) := by
 unfold ed at h
 simp only [List.mem_append, List.mem_filter, List.mem_map, Option.mem_toList] at h
 rcases h with (h | ⟨v, hv, rfl⟩) | h
 ·exact .inl h.1
 ·exact .inr ⟨v, hv, rfl⟩
 ·exact .inl h.1
theorem ed_srt {key : BA} {ov : Option BA} {l : List KV} (h : Srt l) : Srt (ed key ov l) := by
 unfold Srt ed at *
 refine List.pairwise_append.2 ⟨List.pairwise_append.2 ⟨h.filter _, ?_, ?_⟩, h.filter _, ?_⟩
 ·cases ov <;> simp
 ·intro a ha b hb
  simp only [List.mem_filter, List.mem_map, Option.mem_toList] at ha hb
  obtain ⟨v, hv, rfl⟩ := hb
  exact ha.2
 ·intro a ha b hb
  simp only [List.mem_append, List.mem_filter, List.mem_map, Option.mem_toList] at ha hb
  rcases ha with ha | ⟨v, hv, rfl⟩
  ·exact blt_trans ha.2 hb.2
  ·exact hb.2
theorem ed_good {key : BA} {ov : Option BA} {l : List KV} (h : Good l) (hk : keyOk key = true) (hv : ∀ v, ov = some v → valOk v = true) : Good (ed key ov l) :=
 ⟨ed_srt h.1, fun p hp => by
  rcases ed_mem hp with h1 | ⟨v, e, rfl⟩
  ·exact h.2 p h1
  ·exact ⟨hk, hv v e⟩⟩
theorem good_app {A B : List KV} (h : Good (A ++ B)) : Good A ∧ Good B ∧ ∀ a ∈ A, ∀ b ∈ B, blt a.1 b.1 = true := by
 obtain ⟨h1, h2⟩ := h
 obtain ⟨hA, hB, hAB⟩ := List.pairwise_append.1 h1
 exact ⟨⟨hA, fun p hp => h2 p (List.mem_append_left _ hp)⟩, ⟨hB, fun p hp => h2 p (List.mem_append_right _ hp)⟩, hAB⟩

/-- A child: its least key, its page, what it has. -/
structure Pt where
 k : BA
 c : Nat
 kv : List KV
def leafOf (l : List KV) : Nd := ⟨1, l.map (·.1), l.map (·.2), []⟩
def branchOf (ps : List Pt) : Nd := ⟨2, ps.map Pt.k, [], ps.map fun p => (p.c : Int)⟩
def kvsOf (ps : List Pt) : List KV := (ps.map Pt.kv).flatten
/-- A node of a level has this. -/
def Cn (P : List Pg) : Nat → Nd → List KV → Prop
 | 0, _, _ => False
 | 1, n, kvs => n = leafOf kvs
 | l + 2, n, kvs => ∃ ps : List Pt, n = branchOf ps ∧ kvs = kvsOf ps ∧ ps ≠ [] ∧ ∀ p ∈ ps, p.kv ≠ [] ∧ headK p.kv = p.k ∧ ∃ m : Nd, P[p.c]? = some m.page ∧ m.Fit ∧ 2 ≤ m.keys.length ∧ Cn P (l + 1) m p.kv
/-- A page of a level has this. -/
def On (P : List Pg) (l : Nat) (p : Pt) : Prop := p.kv ≠ [] ∧ headK p.kv = p.k ∧ ∃ m : Nd, P[p.c]? = some m.page ∧ m.Fit ∧ 2 ≤ m.keys.length ∧ Cn P l m p.kv
theorem cn_branch {P : List Pg} {l : Nat} {n : Nd} {kvs : List KV} : Cn P (l + 2) n kvs ↔ ∃ ps : List Pt, n = branchOf ps ∧ kvs = kvsOf ps ∧ ps ≠ [] ∧ ∀ p ∈ ps, On P (l + 1) p := Iff.rfl
theorem Cn.pre {P X : List Pg} : ∀ {l : Nat} {n : Nd} {kvs : List KV}, Cn P l n kvs → Cn (P ++ X) l n kvs
 | 0, _, _, h => h
 | 1, _, _, h => h
 | l + 2, n, kvs, ⟨ps, h1, h2, h3, h4⟩ => ⟨ps, h1, h2, h3, fun p hp => by
  obtain ⟨a, b, m, c, d, e, f⟩ := h4 p hp
  exact ⟨a, b, m, by rw [List.getElem?_append_left (List.getElem?_eq_some_iff.1 c).1]; exact c, d, e, Cn.pre f⟩⟩
theorem On.pre {P X : List Pg} {l : Nat} {p : Pt} (h : On P l p) : On (P ++ X) l p := by
 obtain ⟨a, b, m, c, d, e, f⟩ := h
 exact ⟨a, b, m, by rw [List.getElem?_append_left (List.getElem?_eq_some_iff.1 c).1]; exact c, d, e, f.pre⟩
theorem kvsOf_app (a b : List Pt) : kvsOf (a ++ b) = kvsOf a ++ kvsOf b := by simp [kvsOf]
theorem kvsOf_cons (a : Pt) (b : List Pt) : kvsOf (a :: b) = a.kv ++ kvsOf b := by simp [kvsOf]
theorem kvsOf_mem {p : Pt} {ps : List Pt} {x : KV} (hp : p ∈ ps) (hx : x ∈ p.kv) : x ∈ kvsOf ps := List.mem_flatten.2 ⟨p.kv, List.mem_map.2 ⟨p, hp, rfl⟩, hx⟩

/-- Entries' sizes. -/
def e1 (p : KV) : Nat := (vText p.1).size + (vText p.2).size
def e2 (p : Pt) : Nat := (vText p.k).size + (vNum p.c).size
theorem leaf_S (l : List KV) (i : Nat) (hi : i ≤ l.length) : (leafOf l).S i = ((l.take i).map e1).sum := by
 induction i with
 | zero => rfl
 | succ i ih =>
  rw [Nd.S_succ, ih (by omega), List.take_succ_eq_append_getElem (show i < l.length by omega), List.map_append, List.sum_append]
  congr 1
  have h1 : (l.map (·.1)).getD i ByteArray.empty = (l[i]'om_).1 := by simp [List.getD_eq_getElem?_getD, List.getElem?_eq_getElem (show i < l.length by omega)]
  have h2 : (l.map (·.2)).getD i ByteArray.empty = (l[i]'om_).2 := by simp [List.getD_eq_getElem?_getD, List.getElem?_eq_getElem (show i < l.length by omega)]
  simp only [Nd.ent, leafOf, entryOf, if_true, h1, h2, ByteArray.size_append, e1, List.map_cons, List.map_nil, List.sum_cons, List.sum_nil, Nat.add_zero]
theorem branch_S (l : List Pt) (i : Nat) (hi : i ≤ l.length) : (branchOf l).S i = ((l.take i).map e2).sum := by
 induction i with
 | zero => rfl
 | succ i ih =>
  rw [Nd.S_succ, ih (by omega), List.take_succ_eq_append_getElem (show i < l.length by omega), List.map_append, List.sum_append]
  congr 1
  have h1 : (l.map Pt.k).getD i ByteArray.empty = (l[i]'om_).k := by simp [List.getD_eq_getElem?_getD, List.getElem?_eq_getElem (show i < l.length by omega)]
  have h2 : (l.map fun p => (p.c : Int)).getD i 0 = ((l[i]'om_).c : Int) := by simp [List.getD_eq_getElem?_getD, List.getElem?_eq_getElem (show i < l.length by omega)]
  simp only [Nd.ent, branchOf, entryOf, if_neg (show ¬ (2 : Int) = 1 by decide), h1, h2, ByteArray.size_append, e2, List.map_cons, List.map_nil, List.sum_cons, List.sum_nil, Nat.add_zero, Int.toNat_natCast]
end Go.Proofs.YtendgmblgdkiaaaGreat

namespace Go.Proofs.YtendgmblgdkiaaaGreat
open Go.RowKit
open Go.Proofs.YtendgmblgdkiaaaGreatW
set_option linter.unusedVariables false
set_option linter.unusedSimpArgs false

theorem isAt_eq (key : BA) (l : List BA) (h : lb key l < l.length) : isAt key l = true ↔ l.getD (lb key l) ByteArray.empty = key := by
 unfold isAt
 rw [Bool.and_eq_true, decide_eq_true_eq, beq_iff_eq]
 exact ⟨fun h => ba_inj h.2, fun e => ⟨h, by rw [e]⟩⟩
theorem isAt_cons {a key : BA} {l : List BA} (h : blt a key = true) : isAt key (a :: l) = isAt key l := by
 unfold isAt
 simp only [lb, h, if_true, List.length_cons, List.getD_cons_succ, Nat.add_lt_add_iff_right]
/-- What is less is taken, what is more is dropped to. -/
theorem filters (key : BA) : ∀ (l : List KV), Srt l → l.filter (fun p => blt p.1 key) = l.take (lb key (l.map (·.1))) ∧ l.filter (fun p => blt key p.1) = l.drop (if isAt key (l.map (·.1)) then lb key (l.map (·.1)) + 1 else lb key (l.map (·.1)))
 | [], _ => by simp [lb]
 | a :: r, h => by
  obtain ⟨h1, h2⟩ := List.pairwise_cons.1 h
  obtain ⟨i1, i2⟩ := filters key r h2
  by_cases ha : blt a.1 key = true
  ·have hk := blt_asymm ha
   have e1 : lb key ((a :: r).map (·.1)) = lb key (r.map (·.1)) + 1 := by simp [lb, ha]
   have e2 : isAt key ((a :: r).map (·.1)) = isAt key (r.map (·.1)) := isAt_cons ha
   rw [e1, e2]
   refine ⟨by simp [ha, i1], ?_⟩
   have : (if isAt key (r.map (·.1)) then lb key (r.map (·.1)) + 1 + 1 else lb key (r.map (·.1)) + 1) = (if isAt key (r.map (·.1)) then lb key (r.map (·.1)) + 1 else lb key (r.map (·.1))) + 1 := by split <;> rfl
   rw [this, List.drop_succ_cons]
   simp [hk, i2]
  ·have ha' : blt a.1 key = false := by simpa using ha
   have e1 : lb key ((a :: r).map (·.1)) = 0 := by simp [lb, ha']
   have hn : ∀ x ∈ r, blt x.1 key = false := by
    intro x hx
    cases hb : blt x.1 key with
    | false => rfl
    | true => exact absurd (blt_trans (h1 x hx) hb) ha
   rw [e1]
   refine ⟨by rw [List.take_zero]; exact filter_none (fun x hx => by rcases List.mem_cons.1 hx with rfl | hx; exact ha'; exact hn x hx), ?_⟩
   have hlt : lb key ((a :: r).map (·.1)) < ((a :: r).map (·.1)).length := by rw [e1]; simp
   by_cases hk : a.1 = key
   ·have e2 : isAt key ((a :: r).map (·.1)) = true := by rw [isAt_eq _ _ hlt, e1]; simpa using hk
    rw [if_pos e2]
    have hall : ∀ x ∈ r, blt key x.1 = true := fun x hx => hk ▸ h1 x hx
    have hself : blt key a.1 = false := by rw [hk]; exact blt_irrefl key
    simp [hself, filter_all hall]
   ·have e2 : ¬ isAt key ((a :: r).map (·.1)) = true := by rw [isAt_eq _ _ hlt, e1]; simpa using hk
    rw [if_neg e2]
    have hka : blt key a.1 = true := by
     cases hb : blt key a.1 with
     | true => rfl
     | false => exact absurd (blt_total ha' hb) hk
    have hall : ∀ x ∈ a :: r, blt key x.1 = true := by
     intro x hx
     rcases List.mem_cons.1 hx with rfl | hx
     ·exact hka
     ·exact blt_trans hka (h1 x hx)
    rw [List.drop_zero]
    exact filter_all hall
theorem put_leaf (key v : BA) (l : List KV) (h : Srt l) : (⟨1, putKeys key (l.map (·.1)), putVals key v (l.map (·.1)) (l.map (·.2)), []⟩ : Nd) = leafOf (ed key (some v) l) := by
 obtain ⟨f1, f2⟩ := filters key l h
 unfold leafOf ed putKeys putVals cutIn
 rw [f1, f2]
 simp only [List.map_append, List.map_take, List.map_drop, Option.toList_some, List.map_cons, List.map_nil]
theorem del_leaf (key : BA) (l : List KV) (h : Srt l) (hi : isAt key (l.map (·.1)) = true) : (⟨1, delAt (l.map (·.1)) (lb key (l.map (·.1))), delAt (l.map (·.2)) (lb key (l.map (·.1))), []⟩ : Nd) = leafOf (ed key none l) := by
 obtain ⟨f1, f2⟩ := filters key l h
 rw [if_pos hi] at f2
 unfold leafOf ed delAt
 rw [f1, f2]
 simp only [List.map_append, List.map_take, List.map_drop, Option.toList_none, List.map_nil, List.append_nil]

theorem sum_filter_two {f : KV → Nat} {p q : KV → Bool} : ∀ (l : List KV), (∀ a ∈ l, p a = true → q a = false) → ((l.filter p).map f).sum + ((l.filter q).map f).sum ≤ (l.map f).sum
 | [], _ => by simp
 | a :: r, h => by
  have ih := sum_filter_two (f := f) r (fun a ha => h a (List.mem_cons_of_mem _ ha))
  have ha := h a List.mem_cons_self
  cases hp : p a
  ·cases hq : q a <;> simp [hp, hq] <;> omega
  ·have hq := ha hp
   simp [hp, hq]; omega
theorem len_filter_two {p q : KV → Bool} (l : List KV) (h : ∀ a ∈ l, p a = true → q a = false) : (l.filter p).length + (l.filter q).length ≤ l.length := by
 have := sum_filter_two (f := fun _ => 1) l h
 simpa [List.map_const', List.sum_replicate_nat] using this
theorem ed_sum (key : BA) (ov : Option BA) (l : List KV) : ((ed key ov l).map e1).sum ≤ (l.map e1).sum + (match ov with | some v => e1 (key, v) | none => 0) := by
 have := sum_filter_two (f := e1) (p := fun p => blt p.1 key) (q := fun p => blt key p.1) l (fun a _ h => blt_asymm h)
 unfold ed
 simp only [List.map_append, List.sum_append]
 cases ov <;> simp <;> omega
theorem ed_len (key : BA) (ov : Option BA) (l : List KV) : (ed key ov l).length ≤ l.length + 1 := by
 have := len_filter_two (p := fun p => blt p.1 key) (q := fun p => blt key p.1) l (fun a _ h => blt_asymm h)
 unfold ed
 cases ov <;> simp <;> omega
/-- With a value there are no less. -/
theorem ed_more (key v : BA) (l : List KV) (h : Srt l) : l.length ≤ (ed key (some v) l).length := by
 obtain ⟨f1, f2⟩ := filters key l h
 unfold ed
 rw [f1, f2]
 have := lb_le key (l.map (·.1))
 simp only [List.length_map] at this
 split <;> simp <;> omega

theorem vNum_le5 {x : Nat} (h : x ≤ 2147483647) : 1 ≤ (vNum x).size ∧ (vNum x).size ≤ 5 := by
 rw [vNum_size]
 exact vNumL_len 5 x om_ om_
theorem keyOk_size {s : BA} (h : keyOk s = true) : 1 ≤ s.size ∧ s.size ≤ 16 := by
 unfold keyOk at h
 have := of_decide_eq_true h
 omega
theorem valOk_size {s : BA} (h : valOk s = true) : s.size ≤ 32 := of_decide_eq_true h
theorem e1_le {p : KV} (h : keyOk p.1 = true ∧ valOk p.2 = true) : 3 ≤ e1 p ∧ e1 p ≤ 50 := by
 have h1 := keyOk_size h.1
 have h2 := valOk_size h.2
 unfold e1
 rw [vText_size, vText_size, vNum_one (by omega), vNum_one (by omega)]
 omega
theorem e2_le {p : Pt} (h : keyOk p.k = true) (hc : p.c ≤ 2147483647) : 3 ≤ e2 p ∧ e2 p ≤ 22 := by
 have h1 := keyOk_size h
 have h2 := vNum_le5 hc
 unfold e2
 rw [vText_size, vNum_one (by omega)]
 omega
theorem sum_ge {α : Type} {f : α → Nat} {a : Nat} : ∀ {l : List α}, (∀ x ∈ l, a ≤ f x) → a * l.length ≤ (l.map f).sum
 | [], _ => by simp
 | x :: r, h => by
  have := sum_ge (l := r) (fun y hy => h y (List.mem_cons_of_mem _ hy))
  have := h x List.mem_cons_self
  simp [Nat.mul_add]; omega
theorem sum_le {α : Type} {f : α → Nat} {a : Nat} : ∀ {l : List α}, (∀ x ∈ l, f x ≤ a) → (l.map f).sum ≤ a * l.length
 | [], _ => by simp
 | x :: r, h => by
  have := sum_le (l := r) (fun y hy => h y (List.mem_cons_of_mem _ hy))
  have := h x List.mem_cons_self
  simp [Nat.mul_add]; omega
end Go.Proofs.YtendgmblgdkiaaaGreat

namespace Go.Proofs.YtendgmblgdkiaaaGreat
open Go.RowKit
open Go.Proofs.YtendgmblgdkiaaaGreatW
set_option linter.unusedVariables false
set_option linter.unusedSimpArgs false

theorem rising_of : ∀ {l : List BA}, l.Pairwise (fun a b => blt a b = true) → rising l = true
 | [], _ => rfl
 | [_], _ => rfl
 | a :: b :: r, h => by
  obtain ⟨h1, h2⟩ := List.pairwise_cons.1 h
  rw [rising, h1 b List.mem_cons_self, rising_of h2]
  rfl
theorem headK_mem {l : List KV} (h : l ≠ []) : ∃ v, (headK l, v) ∈ l := by
 cases l with
 | nil => exact absurd rfl h
 | cons a r => exact ⟨a.2, List.mem_cons_self⟩
/-- A node's children, as their points say. -/
structure Ps (P : List Pg) (l : Nat) (ps : List Pt) : Prop where
 good : Good (kvsOf ps)
 on : ∀ p ∈ ps, On P l p
namespace Ps
variable {P : List Pg} {l : Nat} {ps : List Pt}
theorem key (h : Ps P l ps) {p : Pt} (hp : p ∈ ps) : keyOk p.k = true := by
 obtain ⟨h1, h2, -⟩ := h.on p hp
 obtain ⟨v, hv⟩ := headK_mem h1
 rw [h2] at hv
 exact (h.good.2 _ (kvsOf_mem hp hv)).1
theorem page (h : Ps P l ps) {p : Pt} (hp : p ∈ ps) : p.c < P.length := by
 obtain ⟨-, -, m, h3, -⟩ := h.on p hp
 exact (List.getElem?_eq_some_iff.1 h3).1
/-- Keys rise from child to child. -/
theorem rise : ∀ {ps : List Pt}, Good (kvsOf ps) → (∀ p ∈ ps, On P l p) → (ps.map Pt.k).Pairwise (fun a b => blt a b = true)
 | [], _, _ => List.Pairwise.nil
 | p :: r, hg, ho => by
  rw [kvsOf_cons] at hg
  obtain ⟨g1, g2, g3⟩ := good_app hg
  have ih := rise g2 (fun q hq => ho q (List.mem_cons_of_mem _ hq))
  refine List.pairwise_cons.2 ⟨fun k hk => ?_, ih⟩
  obtain ⟨q, hq, rfl⟩ := List.mem_map.1 hk
  obtain ⟨a1, a2, -⟩ := ho p List.mem_cons_self
  obtain ⟨b1, b2, -⟩ := ho q (List.mem_cons_of_mem _ hq)
  obtain ⟨v, hv⟩ := headK_mem a1
  obtain ⟨u, hu⟩ := headK_mem b1
  rw [← a2, ← b2]
  exact g3 _ hv _ (kvsOf_mem hq hu)
end Ps

/-- What a node with a content is. -/
structure NdOk (n : Nd) : Prop where
 ok : n.ok = true
 fine : n.fine = true
 shape : n.Shape
 ent : ∀ i, i < n.keys.length → n.ent i ≤ 50
 least : 3 * n.keys.length ≤ n.S n.keys.length
theorem leaf_ok {l : List KV} (h : Good l) (hn : l.length ≤ 100000) : NdOk (leafOf l) := by
 have hk : ∀ p ∈ l, keyOk p.1 = true := fun p hp => (h.2 p hp).1
 have hv : ∀ p ∈ l, valOk p.2 = true := fun p hp => (h.2 p hp).2
 have hr : rising (l.map (·.1)) = true := rising_of (List.pairwise_map.2 h.1)
 have hlen : (leafOf l).keys.length = l.length := by simp [leafOf]
 refine ⟨?_, ?_, .inl ⟨rfl, by simp [leafOf], rfl⟩, ?_, ?_⟩
 ·simp only [Nd.ok, nodeOk, leafOf, List.all_map, List.all_nil, hr, Bool.and_true, if_true, List.length_map, List.length_nil, and_self, decide_true, Bool.and_eq_true, List.all_eq_true]
  exact ⟨fun p hp => hk p hp, fun p hp => hv p hp⟩
 ·simp only [Nd.fine, packFine, leafOf, List.all_map, List.all_nil, Bool.and_true, if_true, List.length_map, decide_true, Bool.and_eq_true, List.all_eq_true, decide_eq_true_eq]
  exact ⟨⟨by omega, fun p hp => by have := keyOk_size (hk p hp); simp; omega⟩, fun p hp => by have := valOk_size (hv p hp); simp; omega⟩
 ·intro i hi
  rw [hlen] at hi
  have h1 := (leafOf l).S_succ i
  rw [leaf_S l i (by omega), leaf_S l (i + 1) (by omega), List.take_succ_eq_append_getElem (show i < l.length by omega), List.map_append, List.sum_append] at h1
  have h2 := (e1_le (h.2 _ (List.getElem_mem (show i < l.length by omega)))).2
  simp only [List.map_cons, List.map_nil, List.sum_cons, List.sum_nil] at h1
  omega
 ·rw [hlen, leaf_S l _ (Nat.le_refl _), List.take_length]
  exact sum_ge fun p hp => (e1_le (h.2 p hp)).1
theorem branch_ok {P : List Pg} {l : Nat} {ps : List Pt} (h : Ps P l ps) (hP : P.length ≤ 100000) (h0 : ps ≠ []) (hn : ps.length ≤ 100000) : NdOk (branchOf ps) := by
 have hr : rising (ps.map Pt.k) = true := rising_of (Ps.rise h.good h.on)
 have hlen : (branchOf ps).keys.length = ps.length := by simp [branchOf]
 have hpos : 0 < ps.length := List.length_pos_iff.2 h0
 refine ⟨?_, ?_, .inr ⟨rfl, by simp [branchOf], rfl⟩, ?_, ?_⟩
 ·simp only [Nd.ok, nodeOk, branchOf, List.all_map, List.all_nil, hr, Bool.and_true, List.length_map, List.length_nil, Bool.and_eq_true, List.all_eq_true, if_neg (show ¬ (2 : Int) = 1 by decide), if_true, decide_eq_true_eq]
  refine ⟨⟨fun p hp => h.key hp, fun p hp => ?_⟩, trivial, trivial, hpos⟩
  have := h.page hp
  simp [pageOk]; omega
 ·simp only [Nd.fine, packFine, branchOf, List.all_map, List.all_nil, Bool.and_true, if_neg (show ¬ (2 : Int) = 1 by decide), List.length_map, decide_true, Bool.and_eq_true, List.all_eq_true, decide_eq_true_eq]
  refine ⟨⟨by omega, fun p hp => by have := keyOk_size (h.key hp); simp; omega⟩, fun p hp => ?_⟩
  have := h.page hp
  simp [pageOk]; omega
 ·intro i hi
  rw [hlen] at hi
  have h1 := (branchOf ps).S_succ i
  rw [branch_S ps i (by omega), branch_S ps (i + 1) (by omega), List.take_succ_eq_append_getElem (show i < ps.length by omega), List.map_append, List.sum_append] at h1
  have hm := List.getElem_mem (show i < ps.length by omega)
  have h2 := (e2_le (h.key hm) (by have := h.page hm; omega)).2
  simp only [List.map_cons, List.map_nil, List.sum_cons, List.sum_nil] at h1
  omega
 ·rw [hlen, branch_S ps _ (Nat.le_refl _), List.take_length]
  exact sum_ge fun p hp => (e2_le (h.key hp) (by have := h.page hp; omega)).1
theorem cn_ok {P : List Pg} {l : Nat} {n : Nd} {kvs : List KV} (h : Cn P l n kvs) (hg : Good kvs) (hP : P.length ≤ 100000) (hn : n.keys.length ≤ 100000) : NdOk n := by
 match l, h with
 | 1, h =>
  have h : n = leafOf kvs := h
  subst h
  exact leaf_ok hg (by simpa [leafOf] using hn)
 | l + 2, h =>
  obtain ⟨ps, rfl, rfl, h3, h4⟩ := h
  exact branch_ok (l := l + 1) ⟨hg, h4⟩ hP h3 (by simpa [branchOf] using hn)
theorem cn_kind {P : List Pg} {l : Nat} {n : Nd} {kvs : List KV} (h : Cn P l n kvs) : (n.kind = 1) = (l = 1) ∧ (n.kind = 1 ∨ n.kind = 2) ∧ 1 ≤ l := by
 match l, h with
 | 1, h =>
  have h : n = leafOf kvs := h
  subst h
  exact ⟨by simp [leafOf], .inl rfl, Nat.le_refl _⟩
 | l + 2, h =>
  obtain ⟨ps, rfl, rfl, h3, h4⟩ := h
  exact ⟨by simp [branchOf], .inr rfl, by omega⟩
theorem cn_head {P : List Pg} {l : Nat} {n : Nd} {kvs : List KV} (h : Cn P l n kvs) (h0 : 0 < n.keys.length) : kvs ≠ [] ∧ headK kvs = n.least := by
 match l, h with
 | 1, h =>
  have h : n = leafOf kvs := h
  subst h
  cases kvs with
  | nil => simp [leafOf] at h0
  | cons a r => exact ⟨by simp, rfl⟩
 | l + 2, h =>
  obtain ⟨ps, rfl, rfl, h3, h4⟩ := h
  cases ps with
  | nil => exact absurd rfl h3
  | cons p r =>
   obtain ⟨a, b, -⟩ := h4 p List.mem_cons_self
   rw [kvsOf_cons]
   obtain ⟨kv0, hkv⟩ : ∃ kv0, p.kv = kv0 := ⟨_, rfl⟩
   cases kv0 with
   | nil => exact absurd hkv a
   | cons x y => rw [hkv] at b ⊢; exact ⟨by simp, b⟩
theorem cn_cut {P : List Pg} {l : Nat} {n : Nd} {kvs : List KV} (h : Cn P l n kvs) (c : Nat) (h0 : 0 < c) (h1 : c < n.keys.length) :
  ∃ A B, kvs = A ++ B ∧ Cn P l (n.cut 0 c) A ∧ Cn P l (n.cut c n.keys.length) B ∧ (n.cut 0 c).keys.length = c ∧ (n.cut c n.keys.length).keys.length = n.keys.length - c ∧ (n.cut 0 c).S c = n.S c ∧ (n.cut c n.keys.length).S (n.keys.length - c) = n.S n.keys.length - n.S c := by
 match l, h with
 | 1, h =>
  have h : n = leafOf kvs := h
  subst h
  have hl : (leafOf kvs).keys.length = kvs.length := by simp [leafOf]
  rw [hl] at h1 ⊢
  have ha : (leafOf kvs).cut 0 c = leafOf (kvs.take c) := by simp [Nd.cut, leafOf]
  have hb : (leafOf kvs).cut c kvs.length = leafOf (kvs.drop c) := by
   have : ∀ {α : Type} (f : KV → α), ((kvs.map f).take kvs.length).drop c = (kvs.drop c).map f := by
    intro α f
    rw [← List.length_map f, List.take_length, List.map_drop]
   simp only [Nd.cut, leafOf, this, List.take_nil, List.drop_nil]
  rw [ha, hb]
  refine ⟨kvs.take c, kvs.drop c, (List.take_append_drop c kvs).symm, rfl, rfl, by simp [leafOf]; omega, by simp [leafOf], ?_, ?_⟩
  ·rw [leaf_S _ c (by rw [List.length_take]; omega), leaf_S _ c (by omega), List.take_take, Nat.min_self]
  ·rw [leaf_S _ _ (by rw [List.length_drop]; omega), leaf_S _ _ (Nat.le_refl _), leaf_S _ c (by omega), List.take_length, List.take_of_length_le (by rw [List.length_drop]; omega)]
   have : (kvs.map e1).sum = ((kvs.take c).map e1).sum + ((kvs.drop c).map e1).sum := by rw [← List.sum_append, ← List.map_append, List.take_append_drop]
   omega
 | l + 2, h =>
  obtain ⟨ps, rfl, rfl, h3, h4⟩ := h
  have hl : (branchOf ps).keys.length = ps.length := by simp [branchOf]
  rw [hl] at h1 ⊢
  have ha : (branchOf ps).cut 0 c = branchOf (ps.take c) := by simp [Nd.cut, branchOf]
  have hb : (branchOf ps).cut c ps.length = branchOf (ps.drop c) := by
   have : ∀ {α : Type} (f : Pt → α), ((ps.map f).take ps.length).drop c = (ps.drop c).map f := by
    intro α f
    rw [← List.length_map f, List.take_length, List.map_drop]
   simp only [Nd.cut, branchOf, this, List.take_nil, List.drop_nil]
  rw [ha, hb]
  refine ⟨kvsOf (ps.take c), kvsOf (ps.drop c), by rw [← kvsOf_app, List.take_append_drop], ⟨_, rfl, rfl, ?_, fun p hp => h4 p (List.mem_of_mem_take hp)⟩, ⟨_, rfl, rfl, ?_, fun p hp => h4 p (List.mem_of_mem_drop hp)⟩, by simp [branchOf]; omega, by simp [branchOf], ?_, ?_⟩
  ·intro e; have := congrArg List.length e; rw [List.length_take, List.length_nil] at this; omega
  ·intro e; have := congrArg List.length e; rw [List.length_drop, List.length_nil] at this; omega
  ·rw [branch_S _ c (by rw [List.length_take]; omega), branch_S _ c (by omega), List.take_take, Nat.min_self]
  ·rw [branch_S _ _ (by rw [List.length_drop]; omega), branch_S _ _ (Nat.le_refl _), branch_S _ c (by omega), List.take_length, List.take_of_length_le (by rw [List.length_drop]; omega)]
   have : (ps.map e2).sum = ((ps.take c).map e2).sum + ((ps.drop c).map e2).sum := by rw [← List.sum_append, ← List.map_append, List.take_append_drop]
   omega
end Go.Proofs.YtendgmblgdkiaaaGreat

namespace Go.Proofs.YtendgmblgdkiaaaGreat
open Go.RowKit
open Go.Proofs.YtendgmblgdkiaaaGreatW
set_option linter.unusedVariables false
set_option linter.unusedSimpArgs false

theorem headK_least {l : List KV} (h : Srt l) {x : KV} (hx : x ∈ l) : x.1 = headK l ∨ blt (headK l) x.1 = true := by
 cases l with
 | nil => cases hx
 | cons a r =>
  obtain ⟨h1, -⟩ := List.pairwise_cons.1 h
  rcases List.mem_cons.1 hx with rfl | hx
  ·exact .inl rfl
  ·exact .inr (h1 x hx)
theorem headK_app {A B : List KV} (h : A ≠ []) : headK (A ++ B) = headK A := by
 cases A with
 | nil => exact absurd rfl h
 | cons a r => rfl
theorem child_split {P : List Pg} {l : Nat} {ps : List Pt} (h : Ps P l ps) (h0 : ps ≠ []) (key : BA) (ov : Option BA) :
  ∃ A p C, ps = A ++ p :: C ∧ A.length = childAt key (ps.map Pt.k) ∧ ed key ov (kvsOf ps) = kvsOf A ++ ed key ov p.kv ++ kvsOf C ∧ (∀ v, (key, v) ∈ kvsOf ps → (key, v) ∈ p.kv) := by
 have hpos : 0 < ps.length := List.length_pos_iff.2 h0
 have hle := lb_le key (ps.map Pt.k)
 rw [List.length_map] at hle
 have hi : childAt key (ps.map Pt.k) < ps.length := by
  unfold childAt
  split
  ·rename_i hat
   have := (isAt_lt hat).1
   rwa [List.length_map] at this
  ·omega
 obtain ⟨i, hie⟩ : ∃ i, i = childAt key (ps.map Pt.k) := ⟨_, rfl⟩
 rw [← hie] at hi ⊢
 have hsp : ps = ps.take i ++ ps[i] :: ps.drop (i + 1) := by rw [← List.drop_eq_getElem_cons hi, List.take_append_drop]
 refine ⟨ps.take i, ps[i], ps.drop (i + 1), hsp, by rw [List.length_take]; omega, ?_⟩
 have hg := h.good
 have hkv : kvsOf ps = kvsOf (ps.take i) ++ (ps[i].kv ++ kvsOf (ps.drop (i + 1))) := by
  rw [← kvsOf_cons, ← kvsOf_app, ← hsp]
 rw [hkv] at hg ⊢
 rw [← List.append_assoc]
 obtain ⟨gA, gB, gAB⟩ := good_app hg
 obtain ⟨gp, gC, gpC⟩ := good_app gB
 obtain ⟨o1, o2, -⟩ := h.on ps[i] (List.getElem_mem hi)
 obtain ⟨v0, hv0⟩ := headK_mem o1
 have hrise := rising_of (Ps.rise h.good h.on)
 have hget : ∀ j, (hj : j < ps.length) → (ps.map Pt.k).getD j ByteArray.empty = (ps[j]).k := by
  intro j hj
  simp [List.getD_eq_getElem?_getD, List.getElem?_eq_getElem hj]
 have hkey : (∀ a ∈ kvsOf (ps.take i), blt a.1 key = true) ∧ (∀ c ∈ kvsOf (ps.drop (i + 1)), blt key c.1 = true) → ed key ov (kvsOf (ps.take i) ++ ps[i].kv ++ kvsOf (ps.drop (i + 1))) = kvsOf (ps.take i) ++ ed key ov ps[i].kv ++ kvsOf (ps.drop (i + 1)) ∧ (∀ v, (key, v) ∈ kvsOf (ps.take i) ++ ps[i].kv ++ kvsOf (ps.drop (i + 1)) → (key, v) ∈ ps[i].kv) := by
  rintro ⟨h1, h2⟩
  refine ⟨ed_mid h1 h2, fun v hv => ?_⟩
  simp only [List.mem_append] at hv
  rcases hv with (hv | hv) | hv
  ·have := h1 _ hv; rw [blt_irrefl] at this; cases this
  ·exact hv
  ·have := h2 _ hv; rw [blt_irrefl] at this; cases this
 refine hkey ⟨fun a ha => ?_, fun c hc => ?_⟩
 ·-- what is ahead is less
  have hap : blt a.1 ps[i].k = true := by rw [← o2]; exact gAB a ha _ (List.mem_append_left _ hv0)
  by_cases hat : isAt key (ps.map Pt.k) = true
  ·have e := (isAt_lt hat).2
   have : i = lb key (ps.map Pt.k) := by rw [hie, childAt, if_pos hat]
   rw [← this, hget i hi] at e
   rw [← e]; exact hap
  ·have e : i = lb key (ps.map Pt.k) - 1 := by rw [hie, childAt, if_neg hat]
   have hne : 0 < i := by
    rcases Nat.eq_zero_or_pos i with h | h
    ·rw [h] at ha; simp [kvsOf] at ha
    ·exact h
   have hb := lb_below key (ps.map Pt.k) i om_
   rw [hget i hi] at hb
   exact blt_trans hap hb
 ·-- what is behind is more
  have hpc : blt ps[i].k c.1 = true := by rw [← o2]; exact gpC _ hv0 c hc
  by_cases hat : isAt key (ps.map Pt.k) = true
  ·have e := (isAt_lt hat).2
   have : i = lb key (ps.map Pt.k) := by rw [hie, childAt, if_pos hat]
   rw [← this, hget i hi] at e
   rw [← e]; exact hpc
  ·have e : i = lb key (ps.map Pt.k) - 1 := by rw [hie, childAt, if_neg hat]
   rcases Nat.eq_zero_or_pos (lb key (ps.map Pt.k)) with hz | hz
   ·have hi0 : i = 0 := by omega
    have ha := lb_above key (ps.map Pt.k) hrise i om_ (by rw [List.length_map]; exact hi)
    rw [hget i hi] at ha
    cases hb : blt key ps[i].k with
    | true => exact blt_trans hb hpc
    | false => rw [blt_total hb ha]; exact hpc
   ·have hd : ps.drop (i + 1) ≠ [] := by intro hd; rw [hd] at hc; simp [kvsOf] at hc
    have hl : i + 1 < ps.length := by
     rcases Nat.lt_or_ge (i + 1) ps.length with h | h
     ·exact h
     ·exact absurd (List.drop_eq_nil_of_le h) hd
    have hlb : i + 1 = lb key (ps.map Pt.k) := by omega
    have ha := lb_above key (ps.map Pt.k) hrise (i + 1) om_ (by rw [List.length_map]; exact hl)
    have hne : ¬ (ps.map Pt.k).getD (lb key (ps.map Pt.k)) ByteArray.empty = key := fun h => hat ((isAt_eq _ _ (by rw [List.length_map]; omega)).2 h)
    rw [← hlb] at hne
    rw [hget (i + 1) hl] at ha hne
    have hk : blt key (ps[i + 1]).k = true := by
     cases hb : blt key (ps[i + 1]).k with
     | true => rfl
     | false => exact absurd (blt_total ha hb) hne
    have hdc : ps.drop (i + 1) = ps[i + 1] :: ps.drop (i + 1 + 1) := List.drop_eq_getElem_cons hl
    rw [hdc, kvsOf_cons] at hc gC
    obtain ⟨q1, q2, -⟩ := h.on ps[i + 1] (List.getElem_mem hl)
    rcases headK_least gC.1 hc with h | h
    ·rw [h, headK_app q1, q2]; exact hk
    ·rw [headK_app q1, q2] at h; exact blt_trans hk h

theorem fit_few {n : Nd} (h : NdOk n) (hp : n.pack.size ≤ 240) : n.S n.keys.length ≤ 239 ∧ n.keys.length ≤ 79 := by
 have := n.pack_size
 have h1 := vNum_pos n.keys.length
 have := h.least
 omega
theorem NdOk.fit {n : Nd} (h : NdOk n) (hk : n.kind = 1 ∨ n.kind = 2) (h0 : 0 < n.keys.length) (hl : n.keys.length < 128) (hS : n.S n.keys.length ≤ 239) : n.Fit :=
 ⟨h.fine, hk, h0, by have := n.pack_size; rw [vNum_one hl] at this; omega⟩
/-- The children that writing a node's parts makes. -/
theorem new_pts {P : List Pg} {l : Nat} {n : Nd} {M : List KV} {ns : List Nd} (hC : Cn P l n M) (hM : Good M) (hP : P.length ≤ 90000) (hs : n.Short) (hp : PartsOf n ns) (h2 : ns = [n] → 2 ≤ n.keys.length) :
  (∀ m ∈ ns, m.Fit) ∧ ∃ qs : List Pt, qs.map Pt.k = ns.map Nd.least ∧ (qs.map fun p => (p.c : Int)) = pagesFrom P.length ns.length ∧ kvsOf qs = M ∧ qs ≠ [] ∧ qs.length = ns.length ∧ qs.length ≤ 2 ∧ (∀ q ∈ qs, On (P ++ ns.map Nd.page) l q) := by
 have hk := (cn_kind hC).2.1
 have hok := cn_ok hC hM om_ (by have := hs.few; omega)
 rcases hp with ⟨hp, rfl⟩ | ⟨c, c1, c2, c3, c4, rfl⟩
 ·have h2 := h2 rfl
  obtain ⟨hh1, hh2⟩ := cn_head hC om_
  have hF : n.Fit := ⟨hok.fine, hk, by omega, hp⟩
  refine ⟨by simp [hF], [⟨n.least, P.length, M⟩], rfl, rfl, by simp [kvsOf], by simp, rfl, by simp, ?_⟩
  intro q hq
  obtain rfl := List.mem_singleton.1 hq
  exact ⟨hh1, hh2, n, by simp, hF, h2, hC.pre⟩
 ·obtain ⟨A, B, rfl, hA, hB, l1, l2, s1, s2⟩ := cn_cut hC c om_ om_
  obtain ⟨gA, gB, -⟩ := good_app hM
  have few := hs.few
  have oA := cn_ok hA gA om_ om_
  have oB := cn_ok hB gB om_ om_
  have fA : (n.cut 0 c).Fit := oA.fit (cn_kind hA).2.1 om_ om_ (by rw [l1, s1]; omega)
  have fB : (n.cut c n.keys.length).Fit := oB.fit (cn_kind hB).2.1 om_ om_ (by rw [l2, s2]; omega)
  obtain ⟨a1, a2⟩ := cn_head hA om_
  obtain ⟨b1, b2⟩ := cn_head hB om_
  refine ⟨by simp [fA, fB], [⟨(n.cut 0 c).least, P.length, A⟩, ⟨(n.cut c n.keys.length).least, P.length + 1, B⟩], rfl, rfl, by simp [kvsOf], by simp, rfl, by simp, ?_⟩
  intro q hq
  simp only [List.mem_cons, List.not_mem_nil, or_false] at hq
  rcases hq with rfl | rfl
  ·exact ⟨a1, a2, _, by simp, fA, by omega, hA.pre⟩
  ·exact ⟨b1, b2, _, by simp, fB, by omega, hB.pre⟩
/-- A branch with other children in the middle. -/
theorem swap_ok {P P' : List Pg} {l : Nat} {A B C qs : List Pt} (h : Ps P l (A ++ B ++ C)) (hB : 0 < B.length) (hfit : (branchOf (A ++ B ++ C)).Fit) (hpre : ∃ X, P' = P ++ X) (hP : P'.length ≤ 90000) (hq : ∀ q ∈ qs, On P' l q) (hq0 : qs ≠ []) (hq2 : qs.length ≤ 2) (hg : Good (kvsOf A ++ kvsOf qs ++ kvsOf C)) :
  branchOf (A ++ qs ++ C) = ⟨2, cutIn (branchOf (A ++ B ++ C)).keys A.length (A.length + B.length) (qs.map Pt.k), [], cutIn (branchOf (A ++ B ++ C)).kids A.length (A.length + B.length) (qs.map fun p => (p.c : Int))⟩ ∧
  (branchOf (A ++ qs ++ C)).Short ∧ Ps P' l (A ++ qs ++ C) ∧ kvsOf (A ++ qs ++ C) = kvsOf A ++ kvsOf qs ++ kvsOf C := by
 obtain ⟨X, rfl⟩ := hpre
 rw [List.length_append] at hP
 have hk : kvsOf (A ++ qs ++ C) = kvsOf A ++ kvsOf qs ++ kvsOf C := by rw [kvsOf_app, kvsOf_app]
 have hPs : Ps (P ++ X) l (A ++ qs ++ C) := by
  refine ⟨by rw [hk]; exact hg, fun p hp => ?_⟩
  simp only [List.mem_append] at hp
  rcases hp with (hp | hp) | hp
  ·exact (h.on p (by simp [hp])).pre
  ·exact hq p hp
  ·exact (h.on p (by simp [hp])).pre
 have ho := branch_ok h om_ (by intro e; have := congrArg List.length e; simp only [List.length_append, List.length_nil] at this; omega) (by
  have h1 : (branchOf (A ++ B ++ C)).keys.length = (A ++ B ++ C).length := by simp [branchOf]
  have hle : (branchOf (A ++ B ++ C)).keys.length ≤ (branchOf (A ++ B ++ C)).pack.size := le_packOf 2 (branchOf (A ++ B ++ C)).keys (branchOf (A ++ B ++ C)).vals (branchOf (A ++ B ++ C)).kids
  have := hfit.size
  rw [← h1]
  omega)
 obtain ⟨f1, f2⟩ := fit_few ho hfit.size
 have hl0 : (branchOf (A ++ B ++ C)).keys.length = A.length + B.length + C.length := by simp [branchOf, Nat.add_assoc]
 have hl1 : (branchOf (A ++ qs ++ C)).keys.length = A.length + qs.length + C.length := by simp [branchOf, Nat.add_assoc]
 rw [hl0] at f1 f2
 have hlen : (A ++ qs ++ C).length = A.length + qs.length + C.length := by simp only [List.length_append]
 have hq1 : 0 < qs.length := List.length_pos_iff.2 hq0
 have hn := branch_ok hPs (by rw [List.length_append]; omega) (by intro e; have := congrArg List.length e; simp only [List.length_append, List.length_nil] at this; omega) (by rw [hlen]; omega)
 have s0 := branch_S (A ++ B ++ C) (A.length + B.length + C.length) (by simp; omega)
 have s1 := branch_S (A ++ qs ++ C) (A.length + qs.length + C.length) (by simp; omega)
 rw [List.take_of_length_le (by simp; omega)] at s0 s1
 simp only [List.map_append, List.sum_append] at s0 s1
 have hqs : (qs.map e2).sum ≤ 22 * qs.length := sum_le fun p hp => (e2_le (hPs.key (by simp [hp])) (by have := hPs.page (show p ∈ A ++ qs ++ C by simp [hp]); rw [List.length_append] at this; omega)).2
 have h44 : 22 * qs.length ≤ 44 := by omega
 refine ⟨?_, ⟨hn.fine, hn.shape, hn.ent, by rw [hl1]; omega, by rw [hl1]; omega⟩, hPs, hk⟩
 have hc : ∀ {α : Type} (f : Pt → α), cutIn ((A ++ B ++ C).map f) A.length (A.length + B.length) (qs.map f) = (A ++ qs ++ C).map f := by
  intro α f
  unfold cutIn
  have e1 : ((A ++ B ++ C).map f).take A.length = A.map f := by
   rw [List.map_append, List.map_append, List.append_assoc, List.take_append_of_le_length (by simp), List.take_of_length_le (by simp)]
  have e2 : ((A ++ B ++ C).map f).drop (A.length + B.length) = C.map f := by
   rw [List.map_append, List.drop_append_of_le_length (by simp), List.drop_of_length_le (by simp), List.nil_append]
  rw [e1, e2, List.map_append, List.map_append]
 unfold branchOf
 simp only
 rw [hc, hc]
end Go.Proofs.YtendgmblgdkiaaaGreat

namespace Go.Proofs.YtendgmblgdkiaaaGreat
open Go.RowKit
open Go.Proofs.YtendgmblgdkiaaaGreatW
open PrintWords PrintLast PrintMore
set_option linter.unusedVariables false
set_option linter.unusedSimpArgs false

theorem cap_cell_ {w W : World} {p : Addr} {v : Value} (h : Below w.heap.size w W) (hp : w.cell? p = some v) : W.cell? p = some v := (h.cell (World.block_lt_of_cell? w _ hp)).trans hp
theorem C_one_ {w : World} {g : Nat} {s : BA} (hx : w.heap[g]? = some (.cells #[.string s] 9 (0, 0))) : Kd.C Kd.string w (some ⟨g, 0, none⟩) [s].length [s] := by
 refine Kd.C_of_reads (d := ByteArray.empty) ⟨rfl, by simp, fun _ => ⟨⟨g, 0, none⟩, rfl, fun j hj => ?_⟩⟩
 obtain rfl : j = 0 := by simpa using hj
 exact (cell_of_heap hx 0).trans rfl
def put_lam.T : Bool × List (List Nat × List Nat) := (true, [([], []), ([0], [0]), ([], []), ([2], [2]), ([3], [3]), ([], []), ([], []), ([], []), ([7], [7]), ([4, 5, 6, 8, 4], [4, 5, 6, 8]), ([], []), ([10], [10]), ([11, 9], [11]), ([], []), ([], []), ([], []), ([15], [15]), ([12, 13, 14, 16, 12], [12, 13, 14, 16]), ([1, 9, 17], [1, 9, 17]), ([18, 17, 0, 1, 2, 3, 4, 5, 6, 7, 8, 9, 10, 11, 12, 13, 14, 15, 16, 17, 18], [18])])
def put_lam.B : List Nat := [0, 1, 0, 4, 12, 0, 0, 0, 128, 508, 0, 1024, 4092, 0, 0, 0, 32768, 131068, 262143, 524287]
theorem put_lam.tab : rtab .any (opsOf Tryz.f100 5) = put_lam.T := by kernel_rfl
theorem put_lam.bits : waitsOk put_lam.T.2 put_lam.B = true := by kernel_rfl
set_option maxHeartbeats 4000000 in
set_option maxRecDepth 100000 in
theorem put_lam (w : World) (B : Nat) (v : Value) (n_ : Nd) (key x_ : BA) (p1 p2 : Addr) (hB : B ≤ w.heap.size) (N : NodeV B w v n_) (hk : n_.kind = 1) (hr : rising n_.keys = true) (hv : n_.vals.length = n_.keys.length) (hn : n_.keys.length ≤ 1000)
  (hp1 : w.cell? p1 = some (.string key)) (hp2 : w.cell? p2 = some (.string x_)) :
  Calls Tryz.prog 100 #[v, .pointer (some p1), .pointer (some p2)] w fun e w' => ∃ v', e = .returned v' ∧ NodeV B w' v' ⟨1, putKeys key n_.keys, putVals key x_ n_.keys n_.vals, []⟩ ∧ Below w.heap.size w w' := by
 obtain ⟨A1, a1, A2, a2, A3, a3, rfl, C1, K1, C2, K2, C3, K3⟩ := N.out
 rw [hk]
 have hle := lb_le key n_.keys
 have hlt : isAt key n_.keys = true → lb key n_.keys < n_.keys.length := fun h => (isAt_lt h).1
 have hf := find_f 1 n_.keys n_.vals n_.kids key hr om_ 2000 om_
 obtain ⟨ks_, hks⟩ : ∃ l, l = putKeys key n_.keys := ⟨_, rfl⟩
 obtain ⟨vs_, hvs⟩ : ∃ l, l = putVals key x_ n_.keys n_.vals := ⟨_, rfl⟩
 rw [← hks, ← hvs]
 unfold putKeys at hks
 unfold putVals at hvs
 obtain ⟨i_, hi⟩ : ∃ i, i = lb key n_.keys := ⟨_, rfl⟩
 obtain ⟨is_, his⟩ : ∃ b, b = isAt key n_.keys := ⟨_, rfl⟩
 obtain ⟨j_, hj⟩ : ∃ j : Nat, j = (if is_ then i_ + 1 else i_) := ⟨_, rfl⟩
 rw [← hi] at hf hle hlt hks hvs
 rw [← his] at hf hlt hks hvs
 rw [← hj] at hks hvs
 have hji : i_ ≤ j_ ∧ j_ ≤ n_.keys.length := by cases is_ with | true => have := hlt rfl; simp at hj; omega | false => simp at hj; omega
 have E1 := am_ (show PNd.slices_Replace_string_string.f n_.keys (i_ : Int) (j_ : Int) [key] = some ks_ by rw [hks]; exact repl_f n_.keys _ j_ [key] hji.1 hji.2 (by simp) (by simp; omega))
 have E2 := am_ (show PNd.slices_Replace_string_string.f n_.vals (i_ : Int) (j_ : Int) [x_] = some vs_ by rw [hvs]; exact repl_f n_.vals _ j_ [x_] hji.1 om_ (by simp) (by simp; omega))
 have L1 := am_ (show PCl.slices_Clone_string_string.f n_.keys = some n_.keys from clone_s n_.keys om_)
 have L2 := am_ (show PCl.slices_Clone_string_string.f n_.vals = some n_.vals from clone_s n_.vals om_)
 have HF := am_ hf
 have HJ := am_ hj
 have HIJ := am_ hji
 have HNN := am_ hn
 have HP1 := am_ hp1
 have HP2 := am_ hp2
 replace C1 := am_ C1
 replace K1 := am_ K1
 replace C2 := am_ C2
 replace K2 := am_ K2
 replace C3 := am_ C3
 replace K3 := am_ K3
 have HBs := hi_ hB
 have HTS : Aside0 (∀ q, q ∈ 9 :: Kd.string.E → q ≠ 149) := am_ (by intro q hq; simp [Kd.string, Kd.scalar] at hq; rw [hq]; decide)
 clear N hB hk hr hv hn hp1 hp2 hle hlt hf hks hvs hi his hj hji
 go_enter Tryz.func100, Tryz.ntmps100
 go_upto_region 1 with fail
 have X3 := am_ (blk_alloc (blk_new w (.cells #[.int .i64 1, .slice A1 n_.keys.length a1, .slice A2 n_.vals.length a2, .slice A3 n_.kids.length a3] 149 (0, 0))) (.cells #[.int .i64 0, .slice none 0 0, .slice none 0 0, .slice none 0 0] 149 (0, 0)))
 have XG := am_ (blk_new (w.alloc (.cells #[.int .i64 1, .slice A1 n_.keys.length a1, .slice A2 n_.vals.length a2, .slice A3 n_.kids.length a3] 149 (0, 0))) (.cells #[.int .i64 0, .slice none 0 0, .slice none 0 0, .slice none 0 0] 149 (0, 0)))
 have HB := am_ (below_alloc (below_alloc (Below.refl w.heap.size w) (.cells #[.int .i64 1, .slice A1 n_.keys.length a1, .slice A2 n_.vals.length a2, .slice A3 n_.kids.length a3] 149 (0, 0))) (.cells #[.int .i64 0, .slice none 0 0, .slice none 0 0, .slice none 0 0] 149 (0, 0)))
 simp only [World.size_alloc] at X3 XG
 generalize (w.alloc (.cells #[.int .i64 1, .slice A1 n_.keys.length a1, .slice A2 n_.vals.length a2, .slice A3 n_.kids.length a3] 149 (0, 0))).alloc (.cells #[.int .i64 0, .slice none 0 0, .slice none 0 0, .slice none 0 0] 149 (0, 0)) = w0 at *
 obtain ⟨g3, hg3⟩ : ∃ g, g = w.heap.size := ⟨_, rfl⟩
 obtain ⟨g4, hg4⟩ : ∃ g, g = w.heap.size + 1 := ⟨_, rfl⟩
 have HG := am_ (show w.heap.size ≤ g4 by omega)
 rw [← hg4, ← hg3]
 rw [← hg3] at X3
 rw [← hg4] at XG
 clear hg3 hg4
 have x0 := blk_cell X3.out 0
 have x1 := blk_cell X3.out 1
 have x2 := blk_cell X3.out 2
 have x3 := blk_cell X3.out 3
 have c1 := cap_cell_ HB.out HP1.out
 go_wp2_with fail
 refine (PNd.node_Node_Find.calls 2000 1 A1 a1 n_.keys A2 a2 n_.vals A3 a3 n_.kids key _ _ w0 (Kd.C_below C1.out HB.out) K1.out (Kd.C_below C2.out HB.out) K2.out (Kd.C_below C3.out HB.out) K3.out HF.out).mono ?_
 rintro e w1 ⟨rfl, hb⟩
 replace X3 := am_ (blk_below X3.out hb)
 replace XG := am_ (blk_below XG.out hb)
 replace HB := am_ (below_then HB.out HB.out.size hb)
 clear hb x0 x1 x2 x3 c1
 go_upto_if 15 with fail
 have hi1 : (i_ : Int) ≤ 100000 := by have := HIJ.out; have := HNN.out; omega
 go_cut [7] (fun v wc => v = .int .i64 (j_ : Int) ∧ wc = w1)
 case first =>
  cases is_ with
  | true =>
   go_wp2_with fail
   go_meet
   case rel => exact ⟨by rw [HJ.out]; rfl, rfl⟩
  | false =>
   go_wp2_with fail
   go_meet
   case rel => exact ⟨by rw [HJ.out]; rfl, rfl⟩
 case rest =>
 obtain ⟨rfl, rfl⟩ := hcut
 go_upto_region 5 with fail
 generalize wc = wc at *
 refine start_ (n := 20) (S := fun w' => True) (ds := []) (bz 20 0) kr_ rfl rfl trivial (fun hHeld => ?_); refine with_tabW put_lam.tab put_lam.bits (fun HT_ HW_ => ?_)
 have n0 := am_ (below_drew1 HB.out); have n1 := am_ (blk_drew X3.out); have n3 := am_ (blk_drew XG.out)
 clear HB X3 XG
 have HB := n0; have X3 := n1; have XG := n3
 clear n0 n1 n3
 generalize wc.drew = wc at *
 refine pure_ (i := 0) (N := some 18) (v := ?_) (a' := ?_) (bz 20 1) rfl rfl (any_of HT_.out kr_) (fun _ _ _ h => h) (Or.inl ⟨by rfl, ?_⟩) ?_ ?_
 rotate_left
 ·intro w'
  go_simp
  with_reducible rfl
 rotate_left
 ·simp only [Act.put, List.setIfInBounds_toArray, List.set_cons_zero, List.set_cons_succ, i64_w, i32_w]
  rfl
 refine pure_ (i := 2) (N := some 20) (v := ?_) (a' := ?_) (bz 20 5) rfl rfl (any_of HT_.out kr_) (fun _ _ _ h => h) (Or.inl ⟨by rfl, ?_⟩) ?_ ?_
 rotate_left
 ·intro w'
  go_simp
  with_reducible rfl
 rotate_left
 ·simp only [Act.put, List.setIfInBounds_toArray, List.set_cons_zero, List.set_cons_succ, i64_w, i32_w]
  rfl
 refine pure_ (i := 5) (N := some 23) (v := ?_) (a' := ?_) (bz 20 37) rfl rfl (any_of HT_.out kr_) (fun _ _ _ h => h) (Or.inl ⟨by rfl, ?_⟩) ?_ ?_
 rotate_left
 ·intro w'
  go_simp
  with_reducible rfl
 rotate_left
 ·simp only [Act.put, List.setIfInBounds_toArray, List.set_cons_zero, List.set_cons_succ, i64_w, i32_w]
  rfl
 refine pure_ (i := 6) (N := some 24) (v := ?_) (a' := ?_) (bz 20 101) rfl rfl (any_of HT_.out kr_) (fun _ _ _ h => h) (Or.inl ⟨by rfl, ?_⟩) ?_ ?_
 rotate_left
 ·intro w'
  go_simp
  with_reducible rfl
 rotate_left
 ·simp only [Act.put, List.setIfInBounds_toArray, List.set_cons_zero, List.set_cons_succ, i64_w, i32_w]
  rfl
 refine pure_ (i := 10) (N := some 28) (v := ?_) (a' := ?_) (bz 20 1125) rfl rfl (any_of HT_.out kr_) (fun _ _ _ h => h) (Or.inl ⟨by rfl, ?_⟩) ?_ ?_
 rotate_left
 ·intro w'
  go_simp
  with_reducible rfl
 rotate_left
 ·simp only [Act.put, List.setIfInBounds_toArray, List.set_cons_zero, List.set_cons_succ, i64_w, i32_w]
  rfl
 refine pure_ (i := 13) (N := some 31) (v := ?_) (a' := ?_) (bz 20 9317) rfl rfl (any_of HT_.out kr_) (fun _ _ _ h => h) (Or.inl ⟨by rfl, ?_⟩) ?_ ?_
 rotate_left
 ·intro w'
  go_simp
  with_reducible rfl
 rotate_left
 ·simp only [Act.put, List.setIfInBounds_toArray, List.set_cons_zero, List.set_cons_succ, i64_w, i32_w]
  rfl
 refine pure_ (i := 14) (N := some 32) (v := ?_) (a' := ?_) (bz 20 25701) rfl rfl (any_of HT_.out kr_) (fun _ _ _ h => h) (Or.inl ⟨by rfl, ?_⟩) ?_ ?_
 rotate_left
 ·intro w'
  go_simp
  with_reducible rfl
 rotate_left
 ·simp only [Act.put, List.setIfInBounds_toArray, List.set_cons_zero, List.set_cons_succ, i64_w, i32_w]
  rfl
 refine inv_at [1, 3, 4, 7, 8, 9, 11, 12, 15, 16, 17, 18, 19] (fun a0_ b a w' => ∃ (g26 : Nat) (g34 : Nat) (U22 : Option Addr) (k22 : Nat) (U27 : Option Addr) (k27 : Nat) (U30 : Option Addr) (k30 : Nat) (U35 : Option Addr) (k35 : Nat) (m4_ : Value) (m8_ : Value) (m9_ : Value) (m12_ : Value) (m16_ : Value) (m17_ : Value) (m18_ : Value), a = putSel a0_ b [(1, 19, .int .i64 1), (3, 21, .slice A1 n_.keys.length a1), (4, 22, m4_), (7, 25, .string key), (8, 26, m8_), (9, 27, m9_), (11, 29, .slice A2 n_.vals.length a2), (12, 30, m12_), (15, 33, .string x_), (16, 34, m16_), (17, 35, m17_), (18, 36, m18_)] ∧ (Below w.heap.size w w') ∧ (b 19 = false → w'.heap[g3]? = some (.cells #[.int .i64 1, .slice A1 n_.keys.length a1, .slice A2 n_.vals.length a2, .slice A3 n_.kids.length a3] 149 (0, 0))) ∧ (b 19 = false → w'.heap[g4]? = some (.cells #[.int .i64 0, .slice none 0 0, .slice none 0 0, .slice none 0 0] 149 (0, 0))) ∧ (b 19 = true → w'.heap[g4]? = some (.cells #[.int .i64 1, .slice U27 ks_.length k27, .slice U35 vs_.length k35, .slice none 0 0] 149 (0, 0))) ∧ (b 8 = true → b 9 = false → w'.heap[g26]? = some (.cells #[.string key] 9 (0, 0))) ∧ (b 16 = true → b 17 = false → w'.heap[g34]? = some (.cells #[.string x_] 9 (0, 0))) ∧ (b 4 = true → b 9 = false → Kd.R Kd.string 9 w' w.heap.size (fun _ => True) (.slice U22 n_.keys.length k22) n_.keys) ∧ (b 9 = true → Kd.R Kd.string 9 w' w.heap.size (fun _ => True) (.slice U27 ks_.length k27) ks_) ∧ (b 12 = true → b 17 = false → Kd.R Kd.string 9 w' w.heap.size (fun _ => True) (.slice U30 n_.vals.length k30) n_.vals) ∧ (b 17 = true → Kd.R Kd.string 9 w' w.heap.size (fun _ => True) (.slice U35 vs_.length k35) vs_) ∧ (b 4 = true → b 8 = true → b 9 = false → (.slice U22 n_.keys.length k22 : Value).ownBlock ≠ some g26) ∧ (b 4 = true → b 16 = true → b 9 = false → (.slice U22 n_.keys.length k22 : Value).ownBlock ≠ some g34) ∧ (b 12 = true → b 16 = true → b 17 = false → (.slice U30 n_.vals.length k30 : Value).ownBlock ≠ some g34) ∧ (b 12 = true → b 17 = false → ∀ k_, (.slice U27 ks_.length k27 : Value).ownBlock = some k_ → (.slice U30 n_.vals.length k30 : Value).ownBlock ≠ some k_) ∧ (b 4 = true → (m4_ : Value) = .slice U22 n_.keys.length k22) ∧ (b 8 = true → (m8_ : Value) = .slice (some ⟨g26, 0, none⟩) 1 1) ∧ (b 9 = true → (m9_ : Value) = .slice U27 ks_.length k27) ∧ (b 12 = true → (m12_ : Value) = .slice U30 n_.vals.length k30) ∧ (b 16 = true → (m16_ : Value) = .slice (some ⟨g34, 0, none⟩) 1 1) ∧ (b 17 = true → (m17_ : Value) = .slice U35 vs_.length k35) ∧ (b 18 = true → (m18_ : Value) = .agg #[.int .i64 1, .slice U27 ks_.length k27, .slice U35 vs_.length k35, .slice none 0 0])) HT_.out HW_.out kr_ kr_ ?_ ?_ ?_
 ·exact ⟨0, 0, none, 0, none, 0, none, 0, none, 0, .bool false, .bool false, .bool false, .bool false, .bool false, .bool false, .bool false, by simp only [putSel, Bool.false_eq_true, if_false], HB.out, fun _ => X3.out, fun _ => XG.out, fun h_ => absurd h_ (by decide), fun h_ => absurd h_ (by decide), fun h_ => absurd h_ (by decide), fun h_ => absurd h_ (by decide), fun h_ => absurd h_ (by decide), fun h_ => absurd h_ (by decide), fun h_ => absurd h_ (by decide), fun h_ => absurd h_ (by decide), fun h_ => absurd h_ (by decide), fun h_ => absurd h_ (by decide), fun h_ => absurd h_ (by decide), fun h_ => absurd h_ (by decide), fun h_ => absurd h_ (by decide), fun h_ => absurd h_ (by decide), fun h_ => absurd h_ (by decide), fun h_ => absurd h_ (by decide), fun h_ => absurd h_ (by decide), fun h_ => absurd h_ (by decide)⟩
 ·skip
  clear HB X3 XG
  refine steps_cons ?_ ?_
  ·rintro b a w' ⟨g26, g34, U22, k22, U27, k27, U30, k30, U35, k35, m4_, m8_, m9_, m12_, m16_, m17_, m18_, ha, Q_HB, Q_X3, Q_XG, Q_XS, Q_S26, Q_S34, Q_R22, Q_R27, Q_R30, Q_R35, Q_N1, Q_N2, Q_N3, Q_N4, Q_X4_, Q_X8_, Q_X9_, Q_X12_, Q_X16_, Q_X17_, Q_X18_⟩ hb_ hon hoff
   refine ⟨_, rfl, fun K hK => ?_⟩
   have e18 : a.tmps[18]? = some (.pointer (some ⟨g3, 0, none⟩)) := by rw [ha]; exact (putSel_off rfl).trans rfl
   replace ha := am_ ha
   have HB := am_ Q_HB
   have X3 := am_ (Q_X3 (hoff 19 kr_))
   have XG := am_ (Q_XG (hoff 19 kr_))
   have x0 := blk_cell X3.out 0
   refine value_ (w1 := w') (v := .int .i64 1) (by rfl) rfl ?_ ?_
   ·go_simp
    (try simp only [i64_w])
    try rfl
   refine hK.out _ _ ⟨g26, g34, U22, k22, U27, k27, U30, k30, U35, k35, m4_, m8_, m9_, m12_, m16_, m17_, m18_, (by rw [ha.out]; exact putSel_upk 0 hb_ rfl rfl rfl), Q_HB, Q_X3, Q_XG, fo_ (hoff 19), Q_S26, Q_S34, Q_R22, Q_R27, Q_R30, Q_R35, Q_N1, Q_N2, Q_N3, Q_N4, Q_X4_, Q_X8_, Q_X9_, Q_X12_, Q_X16_, Q_X17_, fo_ (hoff 18)⟩
  refine steps_cons ?_ ?_
  ·rintro b a w' ⟨g26, g34, U22, k22, U27, k27, U30, k30, U35, k35, m4_, m8_, m9_, m12_, m16_, m17_, m18_, ha, Q_HB, Q_X3, Q_XG, Q_XS, Q_S26, Q_S34, Q_R22, Q_R27, Q_R30, Q_R35, Q_N1, Q_N2, Q_N3, Q_N4, Q_X4_, Q_X8_, Q_X9_, Q_X12_, Q_X16_, Q_X17_, Q_X18_⟩ hb_ hon hoff
   refine ⟨_, rfl, fun K hK => ?_⟩
   have e20 : a.tmps[20]? = some (.pointer (some ⟨g3, 1, none⟩)) := by rw [ha]; exact (putSel_off rfl).trans rfl
   replace ha := am_ ha
   have HB := am_ Q_HB
   have X3 := am_ (Q_X3 (hoff 19 kr_))
   have XG := am_ (Q_XG (hoff 19 kr_))
   have x0 := blk_cell X3.out 1
   refine value_ (w1 := w') (v := .slice A1 n_.keys.length a1) (by rfl) rfl ?_ ?_
   ·go_simp
    (try simp only [i64_w])
    try rfl
   refine hK.out _ _ ⟨g26, g34, U22, k22, U27, k27, U30, k30, U35, k35, m4_, m8_, m9_, m12_, m16_, m17_, m18_, (by rw [ha.out]; exact putSel_upk 1 hb_ rfl rfl rfl), Q_HB, Q_X3, Q_XG, fo_ (hoff 19), Q_S26, Q_S34, fun h0_ _ => absurd ((hoff 4 kr_).symm.trans h0_) (by decide), fo_ (hoff 9), fun h0_ _ => absurd ((hoff 12 kr_).symm.trans h0_) (by decide), fo_ (hoff 17), fun h0_ _ _ => absurd ((hoff 4 kr_).symm.trans h0_) (by decide), fun h0_ _ _ => absurd ((hoff 4 kr_).symm.trans h0_) (by decide), fun h0_ _ _ => absurd ((hoff 12 kr_).symm.trans h0_) (by decide), fun h0_ _ => absurd ((hoff 12 kr_).symm.trans h0_) (by decide), fo_ (hoff 4), Q_X8_, fo_ (hoff 9), fo_ (hoff 12), Q_X16_, fo_ (hoff 17), fo_ (hoff 18)⟩
  refine steps_cons ?_ ?_
  ·rintro b a w' ⟨g26, g34, U22, k22, U27, k27, U30, k30, U35, k35, m4_, m8_, m9_, m12_, m16_, m17_, m18_, ha, Q_HB, Q_X3, Q_XG, Q_XS, Q_S26, Q_S34, Q_R22, Q_R27, Q_R30, Q_R35, Q_N1, Q_N2, Q_N3, Q_N4, Q_X4_, Q_X8_, Q_X9_, Q_X12_, Q_X16_, Q_X17_, Q_X18_⟩ hb_ hon hoff
   refine ⟨_, rfl, fun K hK => ?_⟩
   have e21 : a.tmps[21]? = some (.slice A1 n_.keys.length a1) := by rw [ha]; exact putSel_on (e := (3, 21, .slice A1 n_.keys.length a1)) 1 rfl rfl (hon 3 kr_) rfl
   replace ha := am_ ha
   have HB := am_ Q_HB
   have X3 := am_ (Q_X3 (hoff 19 kr_))
   have XG := am_ (Q_XG (hoff 19 kr_))
   refine goes_ Tryz.func103 kr_ rfl #[.slice A1 n_.keys.length a1] (by rfl) rfl rfl (by simp only [List.map_toArray, List.map_cons, List.map_nil, Act.eval, Array.getD_eq_getD_getElem?, Option.getD_some, e21]) ?_
   refine (PCl.slices_Clone_string_string.calls A1 a1 n_.keys n_.keys w' (Kd.C_below C1.out HB.out) K1.out L1.out).mono ?_
   rintro e w1 ⟨v, rfl, hr, hb⟩
   obtain ⟨U, k, rfl⟩ := Kd.R_slice hr
   refine ⟨_, rfl, ?_⟩
   refine hK.out _ _ ⟨g26, g34, U, k, U27, k27, U30, k30, U35, k35, (.slice U n_.keys.length k), m8_, m9_, m12_, m16_, m17_, m18_, (by rw [ha.out]; exact putSel_upk 2 hb_ rfl rfl rfl), below_then HB.out HB.out.size hb, fun _ => blk_below X3.out hb, fun _ => blk_below XG.out hb, fo_ (hoff 19), fun h0_ h1_ => blk_below (Q_S26 h0_ h1_) hb, fun h0_ h1_ => blk_below (Q_S34 h0_ h1_) hb, fun _ _ => Kd.R_lower hr HB.out.size, fo_ (hoff 9), fun h0_ _ => absurd ((hoff 12 kr_).symm.trans h0_) (by decide), fo_ (hoff 17), fun h1_ h2_ h3_ e_ => absurd (Kd.R_base hr _ e_) (by have := blk_lt (Q_S26 h2_ h3_); omega), fun h1_ h2_ h3_ e_ => absurd (Kd.R_base hr _ e_) (by have := blk_lt (Q_S34 h2_ (by first | exact hoff 17 kr_ | assumption)); omega), fun h0_ _ _ => absurd ((hoff 12 kr_).symm.trans h0_) (by decide), fun h0_ _ => absurd ((hoff 12 kr_).symm.trans h0_) (by decide), fun _ => rfl, Q_X8_, fo_ (hoff 9), fo_ (hoff 12), Q_X16_, fo_ (hoff 17), fo_ (hoff 18)⟩
  refine steps_cons ?_ ?_
  ·rintro b a w' ⟨g26, g34, U22, k22, U27, k27, U30, k30, U35, k35, m4_, m8_, m9_, m12_, m16_, m17_, m18_, ha, Q_HB, Q_X3, Q_XG, Q_XS, Q_S26, Q_S34, Q_R22, Q_R27, Q_R30, Q_R35, Q_N1, Q_N2, Q_N3, Q_N4, Q_X4_, Q_X8_, Q_X9_, Q_X12_, Q_X16_, Q_X17_, Q_X18_⟩ hb_ hon hoff
   refine ⟨_, rfl, fun K hK => ?_⟩
   have e1 : a.tmps[1]? = some (.pointer (some p1)) := by rw [ha]; exact (putSel_off rfl).trans rfl
   replace ha := am_ ha
   have HB := am_ Q_HB
   have X3 := am_ (Q_X3 (hoff 19 kr_))
   have XG := am_ (Q_XG (hoff 19 kr_))
   have x0 := cap_cell_ HB.out HP1.out
   refine value_ (w1 := w') (v := .string key) (by rfl) rfl ?_ ?_
   ·go_simp
    (try simp only [i64_w])
    try rfl
   refine hK.out _ _ ⟨g26, g34, U22, k22, U27, k27, U30, k30, U35, k35, m4_, m8_, m9_, m12_, m16_, m17_, m18_, (by rw [ha.out]; exact putSel_upk 3 hb_ rfl rfl rfl), Q_HB, Q_X3, Q_XG, fo_ (hoff 19), fun h0_ _ => absurd ((hoff 8 kr_).symm.trans h0_) (by decide), Q_S34, Q_R22, fo_ (hoff 9), fun h0_ _ => absurd ((hoff 12 kr_).symm.trans h0_) (by decide), fo_ (hoff 17), fun _ h1_ _ => absurd ((hoff 8 kr_).symm.trans h1_) (by decide), Q_N2, fun h0_ _ _ => absurd ((hoff 12 kr_).symm.trans h0_) (by decide), fun h0_ _ => absurd ((hoff 12 kr_).symm.trans h0_) (by decide), Q_X4_, fo_ (hoff 8), fo_ (hoff 9), fo_ (hoff 12), Q_X16_, fo_ (hoff 17), fo_ (hoff 18)⟩
  refine steps_cons ?_ ?_
  ·rintro b a w' ⟨g26, g34, U22, k22, U27, k27, U30, k30, U35, k35, m4_, m8_, m9_, m12_, m16_, m17_, m18_, ha, Q_HB, Q_X3, Q_XG, Q_XS, Q_S26, Q_S34, Q_R22, Q_R27, Q_R30, Q_R35, Q_N1, Q_N2, Q_N3, Q_N4, Q_X4_, Q_X8_, Q_X9_, Q_X12_, Q_X16_, Q_X17_, Q_X18_⟩ hb_ hon hoff
   refine ⟨_, rfl, fun K hK => ?_⟩
   have e25 : a.tmps[25]? = some (.string key) := by rw [ha]; exact putSel_on (e := (7, 25, .string key)) 3 rfl rfl (hon 7 kr_) rfl
   replace ha := am_ ha
   have HB := am_ Q_HB
   have X3 := am_ (Q_X3 (hoff 19 kr_))
   have XG := am_ (Q_XG (hoff 19 kr_))
   refine value_ (w1 := w'.alloc (.cells #[.string key] 9 (0, 0))) (v := .slice (some ⟨w'.heap.size, 0, none⟩) 1 1) (by rfl) rfl ?_ ?_
   ·go_simp
    try rfl
   refine hK.out _ _ ⟨w'.heap.size, g34, U22, k22, U27, k27, U30, k30, U35, k35, m4_, (.slice (some ⟨w'.heap.size, 0, none⟩) 1 1), m9_, m12_, m16_, m17_, m18_, (by rw [ha.out]; exact putSel_upk 4 hb_ rfl rfl rfl), below_alloc HB.out (.cells #[.string key] 9 (0, 0)), fun _ => blk_alloc X3.out (.cells #[.string key] 9 (0, 0)), fun _ => blk_alloc XG.out (.cells #[.string key] 9 (0, 0)), fo_ (hoff 19), fun _ _ => blk_new w' (.cells #[.string key] 9 (0, 0)), fun h0_ h1_ => blk_alloc (Q_S34 h0_ h1_) (.cells #[.string key] 9 (0, 0)), fun h0_ h1_ => Kd.R_alloc (Q_R22 h0_ h1_) _, fo_ (hoff 9), fun h0_ _ => absurd ((hoff 12 kr_).symm.trans h0_) (by decide), fo_ (hoff 17), fun h1_ h2_ h3_ e_ => Nat.lt_irrefl _ (Kd.R_lt (Q_R22 h1_ h3_) _ e_), Q_N2, fun h0_ _ _ => absurd ((hoff 12 kr_).symm.trans h0_) (by decide), fun h0_ _ => absurd ((hoff 12 kr_).symm.trans h0_) (by decide), Q_X4_, fun _ => rfl, fo_ (hoff 9), fo_ (hoff 12), Q_X16_, fo_ (hoff 17), fo_ (hoff 18)⟩
  refine steps_cons ?_ ?_
  ·rintro b a w' ⟨g26, g34, U22, k22, U27, k27, U30, k30, U35, k35, m4_, m8_, m9_, m12_, m16_, m17_, m18_, ha, Q_HB, Q_X3, Q_XG, Q_XS, Q_S26, Q_S34, Q_R22, Q_R27, Q_R30, Q_R35, Q_N1, Q_N2, Q_N3, Q_N4, Q_X4_, Q_X8_, Q_X9_, Q_X12_, Q_X16_, Q_X17_, Q_X18_⟩ hb_ hon hoff
   refine ⟨_, rfl, fun K hK => ?_⟩
   have e22 : a.tmps[22]? = some (m4_) := by rw [ha]; exact putSel_on (e := (4, 22, m4_)) 2 rfl rfl (hon 4 kr_) rfl
   rw [Q_X4_ (hon 4 (by kernel_rfl))] at e22
   have e23 : a.tmps[23]? = some (.int .i64 (i_ : Int)) := by rw [ha]; exact (putSel_off rfl).trans rfl
   have e24 : a.tmps[24]? = some (.int .i64 (j_ : Int)) := by rw [ha]; exact (putSel_off rfl).trans rfl
   have e26 : a.tmps[26]? = some (m8_) := by rw [ha]; exact putSel_on (e := (8, 26, m8_)) 4 rfl rfl (hon 8 kr_) rfl
   rw [Q_X8_ (hon 8 (by kernel_rfl))] at e26
   replace ha := am_ ha
   have HB := am_ Q_HB
   have X3 := am_ (Q_X3 (hoff 19 kr_))
   have XG := am_ (Q_XG (hoff 19 kr_))
   have S26 := am_ (Q_S26 (hon 8 kr_) hb_)
   have R22 := am_ (Q_R22 (hon 4 kr_) hb_)
   have N1 := am_ (Q_N1 (hon 4 kr_) (hon 8 kr_) hb_)
   refine goes_ Tryz.func102 kr_ rfl #[.slice U22 n_.keys.length k22, .int .i64 (i_ : Int), .int .i64 (j_ : Int), .slice (some ⟨g26, 0, none⟩) 1 1] (by rfl) rfl rfl (by simp only [List.map_toArray, List.map_cons, List.map_nil, Act.eval, Array.getD_eq_getD_getElem?, Option.getD_some, e22, e23, e24, e26]) ?_
   refine (replace_own_s (fun k_ => some k_ = (.slice U22 n_.keys.length k22 : Value).ownBlock) (.slice U22 n_.keys.length k22) n_.keys (i_ : Int) (j_ : Int) (some ⟨g26, 0, none⟩) 1 [key] ks_ w w' HB.out (Kd.R_tight rfl R22.out) (fun W_ hk_ => C_one_ (blk_kept S26.out hk_ (fun e_ => N1.out e_.symm))) (Nat.le_refl _) E1.out).mono ?_
   rintro e w1 ⟨v, rfl, hr, hb, hkp⟩
   obtain ⟨U, k, rfl⟩ := Kd.R_slice hr
   refine ⟨_, rfl, ?_⟩
   refine hK.out _ _ ⟨g26, g34, U22, k22, U, k, U30, k30, U35, k35, m4_, m8_, (.slice U ks_.length k), m12_, m16_, m17_, m18_, (by rw [ha.out]; exact putSel_upk 5 hb_ rfl rfl rfl), hb, fun _ => blk_kept X3.out hkp (fun e_ => Kd.R_ne R22.out X3.out (by decide) e_), fun _ => blk_kept XG.out hkp (fun e_ => Kd.R_ne R22.out XG.out (by decide) e_), fo_ (hoff 19), fun _ h1_ => absurd ((up_self b 9).symm.trans h1_) (by decide), fun h1_ h2_ => blk_kept (Q_S34 h1_ h2_) hkp (fun e_ => (Q_N2 (hon 4 kr_) h1_ hb_) e_.symm), fun _ h1_ => absurd ((up_self b 9).symm.trans h1_) (by decide), fun _ => Kd.R_mono hr (fun _ _ => trivial), fun h0_ _ => absurd ((hoff 12 kr_).symm.trans h0_) (by decide), fo_ (hoff 17), fun _ _ h2_ => absurd ((up_self b 9).symm.trans h2_) (by decide), fun _ _ h2_ => absurd ((up_self b 9).symm.trans h2_) (by decide), fun h0_ _ _ => absurd ((hoff 12 kr_).symm.trans h0_) (by decide), fun h0_ _ => absurd ((hoff 12 kr_).symm.trans h0_) (by decide), Q_X4_, Q_X8_, fun _ => rfl, fo_ (hoff 12), Q_X16_, fo_ (hoff 17), fo_ (hoff 18)⟩
  refine steps_cons ?_ ?_
  ·rintro b a w' ⟨g26, g34, U22, k22, U27, k27, U30, k30, U35, k35, m4_, m8_, m9_, m12_, m16_, m17_, m18_, ha, Q_HB, Q_X3, Q_XG, Q_XS, Q_S26, Q_S34, Q_R22, Q_R27, Q_R30, Q_R35, Q_N1, Q_N2, Q_N3, Q_N4, Q_X4_, Q_X8_, Q_X9_, Q_X12_, Q_X16_, Q_X17_, Q_X18_⟩ hb_ hon hoff
   refine ⟨_, rfl, fun K hK => ?_⟩
   have e28 : a.tmps[28]? = some (.pointer (some ⟨g3, 2, none⟩)) := by rw [ha]; exact (putSel_off rfl).trans rfl
   replace ha := am_ ha
   have HB := am_ Q_HB
   have X3 := am_ (Q_X3 (hoff 19 kr_))
   have XG := am_ (Q_XG (hoff 19 kr_))
   have x0 := blk_cell X3.out 2
   refine value_ (w1 := w') (v := .slice A2 n_.vals.length a2) (by rfl) rfl ?_ ?_
   ·go_simp
    (try simp only [i64_w])
    try rfl
   refine hK.out _ _ ⟨g26, g34, U22, k22, U27, k27, U30, k30, U35, k35, m4_, m8_, m9_, m12_, m16_, m17_, m18_, (by rw [ha.out]; exact putSel_upk 6 hb_ rfl rfl rfl), Q_HB, Q_X3, Q_XG, fo_ (hoff 19), Q_S26, Q_S34, Q_R22, Q_R27, fun h0_ _ => absurd ((hoff 12 kr_).symm.trans h0_) (by decide), fo_ (hoff 17), Q_N1, Q_N2, fun h0_ _ _ => absurd ((hoff 12 kr_).symm.trans h0_) (by decide), fun h0_ _ => absurd ((hoff 12 kr_).symm.trans h0_) (by decide), Q_X4_, Q_X8_, Q_X9_, fo_ (hoff 12), Q_X16_, fo_ (hoff 17), fo_ (hoff 18)⟩
  refine steps_cons ?_ ?_
  ·rintro b a w' ⟨g26, g34, U22, k22, U27, k27, U30, k30, U35, k35, m4_, m8_, m9_, m12_, m16_, m17_, m18_, ha, Q_HB, Q_X3, Q_XG, Q_XS, Q_S26, Q_S34, Q_R22, Q_R27, Q_R30, Q_R35, Q_N1, Q_N2, Q_N3, Q_N4, Q_X4_, Q_X8_, Q_X9_, Q_X12_, Q_X16_, Q_X17_, Q_X18_⟩ hb_ hon hoff
   refine ⟨_, rfl, fun K hK => ?_⟩
   have e29 : a.tmps[29]? = some (.slice A2 n_.vals.length a2) := by rw [ha]; exact putSel_on (e := (11, 29, .slice A2 n_.vals.length a2)) 6 rfl rfl (hon 11 kr_) rfl
   replace ha := am_ ha
   have HB := am_ Q_HB
   have X3 := am_ (Q_X3 (hoff 19 kr_))
   have XG := am_ (Q_XG (hoff 19 kr_))
   have R27 := am_ (Q_R27 (hon 9 kr_))
   refine goes_ Tryz.func103 kr_ rfl #[.slice A2 n_.vals.length a2] (by rfl) rfl rfl (by simp only [List.map_toArray, List.map_cons, List.map_nil, Act.eval, Array.getD_eq_getD_getElem?, Option.getD_some, e29]) ?_
   refine (PCl.slices_Clone_string_string.calls A2 a2 n_.vals n_.vals w' (Kd.C_below C2.out HB.out) K2.out L2.out).mono ?_
   rintro e w1 ⟨v, rfl, hr, hb⟩
   obtain ⟨U, k, rfl⟩ := Kd.R_slice hr
   refine ⟨_, rfl, ?_⟩
   refine hK.out _ _ ⟨g26, g34, U22, k22, U27, k27, U, k, U35, k35, m4_, m8_, m9_, (.slice U n_.vals.length k), m16_, m17_, m18_, (by rw [ha.out]; exact putSel_upk 7 hb_ rfl rfl rfl), below_then HB.out HB.out.size hb, fun _ => blk_below X3.out hb, fun _ => blk_below XG.out hb, fo_ (hoff 19), fun _ h1_ => absurd ((hon 9 kr_).symm.trans h1_) (by decide), fun h0_ h1_ => blk_below (Q_S34 h0_ h1_) hb, fun _ h1_ => absurd ((hon 9 kr_).symm.trans h1_) (by decide), fun _ => Kd.R_below R27.out hb, fun _ _ => Kd.R_lower hr HB.out.size, fo_ (hoff 17), fun _ _ h2_ => absurd ((hon 9 kr_).symm.trans h2_) (by decide), fun _ _ h2_ => absurd ((hon 9 kr_).symm.trans h2_) (by decide), fun h1_ h2_ h3_ e_ => absurd (Kd.R_base hr _ e_) (by have := blk_lt (Q_S34 h2_ (by first | exact hoff 17 kr_ | assumption)); omega), fun h1_ h2_ k_ e1_ e2_ => absurd (Kd.R_base hr _ e2_) (by have := Kd.R_lt R27.out _ e1_; omega), Q_X4_, Q_X8_, Q_X9_, fun _ => rfl, Q_X16_, fo_ (hoff 17), fo_ (hoff 18)⟩
  refine steps_cons ?_ ?_
  ·rintro b a w' ⟨g26, g34, U22, k22, U27, k27, U30, k30, U35, k35, m4_, m8_, m9_, m12_, m16_, m17_, m18_, ha, Q_HB, Q_X3, Q_XG, Q_XS, Q_S26, Q_S34, Q_R22, Q_R27, Q_R30, Q_R35, Q_N1, Q_N2, Q_N3, Q_N4, Q_X4_, Q_X8_, Q_X9_, Q_X12_, Q_X16_, Q_X17_, Q_X18_⟩ hb_ hon hoff
   refine ⟨_, rfl, fun K hK => ?_⟩
   have e2 : a.tmps[2]? = some (.pointer (some p2)) := by rw [ha]; exact (putSel_off rfl).trans rfl
   replace ha := am_ ha
   have HB := am_ Q_HB
   have X3 := am_ (Q_X3 (hoff 19 kr_))
   have XG := am_ (Q_XG (hoff 19 kr_))
   have x0 := cap_cell_ HB.out HP2.out
   refine value_ (w1 := w') (v := .string x_) (by rfl) rfl ?_ ?_
   ·go_simp
    (try simp only [i64_w])
    try rfl
   refine hK.out _ _ ⟨g26, g34, U22, k22, U27, k27, U30, k30, U35, k35, m4_, m8_, m9_, m12_, m16_, m17_, m18_, (by rw [ha.out]; exact putSel_upk 8 hb_ rfl rfl rfl), Q_HB, Q_X3, Q_XG, fo_ (hoff 19), Q_S26, fun h0_ _ => absurd ((hoff 16 kr_).symm.trans h0_) (by decide), Q_R22, Q_R27, Q_R30, fo_ (hoff 17), Q_N1, fun _ h1_ _ => absurd ((hoff 16 kr_).symm.trans h1_) (by decide), fun _ h1_ _ => absurd ((hoff 16 kr_).symm.trans h1_) (by decide), Q_N4, Q_X4_, Q_X8_, Q_X9_, Q_X12_, fo_ (hoff 16), fo_ (hoff 17), fo_ (hoff 18)⟩
  refine steps_cons ?_ ?_
  ·rintro b a w' ⟨g26, g34, U22, k22, U27, k27, U30, k30, U35, k35, m4_, m8_, m9_, m12_, m16_, m17_, m18_, ha, Q_HB, Q_X3, Q_XG, Q_XS, Q_S26, Q_S34, Q_R22, Q_R27, Q_R30, Q_R35, Q_N1, Q_N2, Q_N3, Q_N4, Q_X4_, Q_X8_, Q_X9_, Q_X12_, Q_X16_, Q_X17_, Q_X18_⟩ hb_ hon hoff
   refine ⟨_, rfl, fun K hK => ?_⟩
   have e33 : a.tmps[33]? = some (.string x_) := by rw [ha]; exact putSel_on (e := (15, 33, .string x_)) 8 rfl rfl (hon 15 kr_) rfl
   replace ha := am_ ha
   have HB := am_ Q_HB
   have X3 := am_ (Q_X3 (hoff 19 kr_))
   have XG := am_ (Q_XG (hoff 19 kr_))
   refine value_ (w1 := w'.alloc (.cells #[.string x_] 9 (0, 0))) (v := .slice (some ⟨w'.heap.size, 0, none⟩) 1 1) (by rfl) rfl ?_ ?_
   ·go_simp
    try rfl
   refine hK.out _ _ ⟨g26, w'.heap.size, U22, k22, U27, k27, U30, k30, U35, k35, m4_, m8_, m9_, m12_, (.slice (some ⟨w'.heap.size, 0, none⟩) 1 1), m17_, m18_, (by rw [ha.out]; exact putSel_upk 9 hb_ rfl rfl rfl), below_alloc HB.out (.cells #[.string x_] 9 (0, 0)), fun _ => blk_alloc X3.out (.cells #[.string x_] 9 (0, 0)), fun _ => blk_alloc XG.out (.cells #[.string x_] 9 (0, 0)), fo_ (hoff 19), fun h0_ h1_ => blk_alloc (Q_S26 h0_ h1_) (.cells #[.string x_] 9 (0, 0)), fun _ _ => blk_new w' (.cells #[.string x_] 9 (0, 0)), fun h0_ h1_ => Kd.R_alloc (Q_R22 h0_ h1_) _, fun h0_ => Kd.R_alloc (Q_R27 h0_) _, fun h0_ h1_ => Kd.R_alloc (Q_R30 h0_ h1_) _, fo_ (hoff 17), Q_N1, fun h1_ h2_ h3_ e_ => Nat.lt_irrefl _ (Kd.R_lt (Q_R22 h1_ h3_) _ e_), fun h1_ h2_ h3_ e_ => Nat.lt_irrefl _ (Kd.R_lt (Q_R30 h1_ h3_) _ e_), Q_N4, Q_X4_, Q_X8_, Q_X9_, Q_X12_, fun _ => rfl, fo_ (hoff 17), fo_ (hoff 18)⟩
  refine steps_cons ?_ ?_
  ·rintro b a w' ⟨g26, g34, U22, k22, U27, k27, U30, k30, U35, k35, m4_, m8_, m9_, m12_, m16_, m17_, m18_, ha, Q_HB, Q_X3, Q_XG, Q_XS, Q_S26, Q_S34, Q_R22, Q_R27, Q_R30, Q_R35, Q_N1, Q_N2, Q_N3, Q_N4, Q_X4_, Q_X8_, Q_X9_, Q_X12_, Q_X16_, Q_X17_, Q_X18_⟩ hb_ hon hoff
   refine ⟨_, rfl, fun K hK => ?_⟩
   have e30 : a.tmps[30]? = some (m12_) := by rw [ha]; exact putSel_on (e := (12, 30, m12_)) 7 rfl rfl (hon 12 kr_) rfl
   rw [Q_X12_ (hon 12 (by kernel_rfl))] at e30
   have e31 : a.tmps[31]? = some (.int .i64 (i_ : Int)) := by rw [ha]; exact (putSel_off rfl).trans rfl
   have e32 : a.tmps[32]? = some (.int .i64 (j_ : Int)) := by rw [ha]; exact (putSel_off rfl).trans rfl
   have e34 : a.tmps[34]? = some (m16_) := by rw [ha]; exact putSel_on (e := (16, 34, m16_)) 9 rfl rfl (hon 16 kr_) rfl
   rw [Q_X16_ (hon 16 (by kernel_rfl))] at e34
   replace ha := am_ ha
   have HB := am_ Q_HB
   have X3 := am_ (Q_X3 (hoff 19 kr_))
   have XG := am_ (Q_XG (hoff 19 kr_))
   have S34 := am_ (Q_S34 (hon 16 kr_) hb_)
   have R27 := am_ (Q_R27 (hon 9 kr_))
   have R30 := am_ (Q_R30 (hon 12 kr_) hb_)
   have N3 := am_ (Q_N3 (hon 12 kr_) (hon 16 kr_) hb_)
   have N4 := am_ (Q_N4 (hon 12 kr_) hb_)
   refine goes_ Tryz.func102 kr_ rfl #[.slice U30 n_.vals.length k30, .int .i64 (i_ : Int), .int .i64 (j_ : Int), .slice (some ⟨g34, 0, none⟩) 1 1] (by rfl) rfl rfl (by simp only [List.map_toArray, List.map_cons, List.map_nil, Act.eval, Array.getD_eq_getD_getElem?, Option.getD_some, e30, e31, e32, e34]) ?_
   refine (replace_own_s (fun k_ => some k_ = (.slice U30 n_.vals.length k30 : Value).ownBlock) (.slice U30 n_.vals.length k30) n_.vals (i_ : Int) (j_ : Int) (some ⟨g34, 0, none⟩) 1 [x_] vs_ w w' HB.out (Kd.R_tight rfl R30.out) (fun W_ hk_ => C_one_ (blk_kept S34.out hk_ (fun e_ => N3.out e_.symm))) (Nat.le_refl _) E2.out).mono ?_
   rintro e w1 ⟨v, rfl, hr, hb, hkp⟩
   obtain ⟨U, k, rfl⟩ := Kd.R_slice hr
   refine ⟨_, rfl, ?_⟩
   refine hK.out _ _ ⟨g26, g34, U22, k22, U27, k27, U30, k30, U, k, m4_, m8_, m9_, m12_, m16_, (.slice U vs_.length k), m18_, (by rw [ha.out]; exact putSel_upk 10 hb_ rfl rfl rfl), hb, fun _ => blk_kept X3.out hkp (fun e_ => Kd.R_ne R30.out X3.out (by decide) e_), fun _ => blk_kept XG.out hkp (fun e_ => Kd.R_ne R30.out XG.out (by decide) e_), fo_ (hoff 19), fun _ h1_ => absurd ((hon 9 kr_).symm.trans h1_) (by decide), fun _ h1_ => absurd ((up_self b 17).symm.trans h1_) (by decide), fun _ h1_ => absurd ((hon 9 kr_).symm.trans h1_) (by decide), fun _ => Kd.R_mono (Kd.R_kept (Kd.R_tight rfl R27.out) hkp (fun k_ e_ f_ => N4.out k_ e_.symm f_.symm)) (fun _ _ => trivial), fun _ h1_ => absurd ((up_self b 17).symm.trans h1_) (by decide), fun _ => Kd.R_mono hr (fun _ _ => trivial), fun _ _ h2_ => absurd ((hon 9 kr_).symm.trans h2_) (by decide), fun _ _ h2_ => absurd ((hon 9 kr_).symm.trans h2_) (by decide), fun _ _ h2_ => absurd ((up_self b 17).symm.trans h2_) (by decide), fun _ h1_ => absurd ((up_self b 17).symm.trans h1_) (by decide), Q_X4_, Q_X8_, Q_X9_, Q_X12_, Q_X16_, fun _ => rfl, fo_ (hoff 18)⟩
  refine steps_cons ?_ ?_
  ·rintro b a w' ⟨g26, g34, U22, k22, U27, k27, U30, k30, U35, k35, m4_, m8_, m9_, m12_, m16_, m17_, m18_, ha, Q_HB, Q_X3, Q_XG, Q_XS, Q_S26, Q_S34, Q_R22, Q_R27, Q_R30, Q_R35, Q_N1, Q_N2, Q_N3, Q_N4, Q_X4_, Q_X8_, Q_X9_, Q_X12_, Q_X16_, Q_X17_, Q_X18_⟩ hb_ hon hoff
   refine ⟨_, rfl, fun K hK => ?_⟩
   have e19 : a.tmps[19]? = some (.int .i64 1) := by rw [ha]; exact putSel_on (e := (1, 19, .int .i64 1)) 0 rfl rfl (hon 1 kr_) rfl
   have e27 : a.tmps[27]? = some (m9_) := by rw [ha]; exact putSel_on (e := (9, 27, m9_)) 5 rfl rfl (hon 9 kr_) rfl
   rw [Q_X9_ (hon 9 (by kernel_rfl))] at e27
   have e35 : a.tmps[35]? = some (m17_) := by rw [ha]; exact putSel_on (e := (17, 35, m17_)) 10 rfl rfl (hon 17 kr_) rfl
   rw [Q_X17_ (hon 17 (by kernel_rfl))] at e35
   replace ha := am_ ha
   have HB := am_ Q_HB
   have X3 := am_ (Q_X3 (hoff 19 kr_))
   have XG := am_ (Q_XG (hoff 19 kr_))
   have R27 := am_ (Q_R27 (hon 9 kr_))
   have R35 := am_ (Q_R35 (hon 17 kr_))
   refine value_ (w1 := w') (v := .agg #[.int .i64 1, .slice U27 ks_.length k27, .slice U35 vs_.length k35, .slice none 0 0]) (by rfl) rfl ?_ ?_
   ·go_simp
    (try simp only [i64_w])
    try rfl
   refine hK.out _ _ ⟨g26, g34, U22, k22, U27, k27, U30, k30, U35, k35, m4_, m8_, m9_, m12_, m16_, m17_, (.agg #[.int .i64 1, .slice U27 ks_.length k27, .slice U35 vs_.length k35, .slice none 0 0]), (by rw [ha.out]; exact putSel_upk 11 hb_ rfl rfl rfl), Q_HB, Q_X3, Q_XG, fo_ (hoff 19), fun _ h1_ => absurd ((hon 9 kr_).symm.trans h1_) (by decide), fun _ h1_ => absurd ((hon 17 kr_).symm.trans h1_) (by decide), fun _ h1_ => absurd ((hon 9 kr_).symm.trans h1_) (by decide), Q_R27, fun _ h1_ => absurd ((hon 17 kr_).symm.trans h1_) (by decide), Q_R35, fun _ _ h2_ => absurd ((hon 9 kr_).symm.trans h2_) (by decide), fun _ _ h2_ => absurd ((hon 9 kr_).symm.trans h2_) (by decide), fun _ _ h2_ => absurd ((hon 17 kr_).symm.trans h2_) (by decide), fun _ h1_ => absurd ((hon 17 kr_).symm.trans h1_) (by decide), Q_X4_, Q_X8_, Q_X9_, Q_X12_, Q_X16_, Q_X17_, fun _ => rfl⟩
  refine steps_cons ?_ ?_
  ·rintro b a w' ⟨g26, g34, U22, k22, U27, k27, U30, k30, U35, k35, m4_, m8_, m9_, m12_, m16_, m17_, m18_, ha, Q_HB, Q_X3, Q_XG, Q_XS, Q_S26, Q_S34, Q_R22, Q_R27, Q_R30, Q_R35, Q_N1, Q_N2, Q_N3, Q_N4, Q_X4_, Q_X8_, Q_X9_, Q_X12_, Q_X16_, Q_X17_, Q_X18_⟩ hb_ hon hoff
   refine ⟨_, rfl, fun K hK => ?_⟩
   have e4 : a.tmps[4]? = some (.pointer (some ⟨g4, 0, none⟩)) := by rw [ha]; exact (putSel_off rfl).trans rfl
   have e36 : a.tmps[36]? = some (m18_) := by rw [ha]; exact putSel_on (e := (18, 36, m18_)) 11 rfl rfl (hon 18 kr_) rfl
   rw [Q_X18_ (hon 18 (by kernel_rfl))] at e36
   replace ha := am_ ha
   have HB := am_ Q_HB
   have X3 := am_ (Q_X3 hb_)
   have XG := am_ (Q_XG hb_)
   have R27 := am_ (Q_R27 (hon 9 kr_))
   have R35 := am_ (Q_R35 (hon 17 kr_))
   have q0 := blk_cell XG.out 0
   have q1 := blk_cell XG.out 1
   have q2 := blk_cell XG.out 2
   have q3 := blk_cell XG.out 3
   have z0 := blk_frozen XG.out 0
   have z1 := blk_frozen XG.out 1
   have z2 := blk_frozen XG.out 2
   have z3 := blk_frozen XG.out 3
   refine skip_ (w1 := ((((w'.setCell ⟨g4, 0, none⟩ (.int .i64 1)).setCell ⟨g4, 1, none⟩ (.slice U27 ks_.length k27)).setCell ⟨g4, 2, none⟩ (.slice U35 vs_.length k35)).setCell ⟨g4, 3, none⟩ (.slice none 0 0))) (by rfl) rfl ?_ ?_
   ·go_simp
    try rfl
   refine hK.out _ _ ⟨g26, g34, U22, k22, U27, k27, U30, k30, U35, k35, m4_, m8_, m9_, m12_, m16_, m17_, m18_, (by rw [ha.out]; exact putSel_none (v := undef) rfl), (below_set (below_set (below_set (below_set HB.out HG.out) HG.out) HG.out) HG.out), fun h0_ => absurd ((up_self b 19).symm.trans h0_) (by decide), fun h0_ => absurd ((up_self b 19).symm.trans h0_) (by decide), fun _ => (blk_put (blk_put (blk_put (blk_put XG.out 0 _ rfl) 1 _ rfl) 2 _ rfl) 3 _ rfl), fun _ h1_ => absurd ((hon 9 kr_).symm.trans h1_) (by decide), fun _ h1_ => absurd ((hon 17 kr_).symm.trans h1_) (by decide), fun _ h1_ => absurd ((hon 9 kr_).symm.trans h1_) (by decide), fun _ => (Kd.R_set (Kd.R_set (Kd.R_set (Kd.R_set R27.out XG.out HTS.out 0 _) (blk_set XG.out 0 _) HTS.out 1 _) (blk_set (blk_set XG.out 0 _) 1 _) HTS.out 2 _) (blk_set (blk_set (blk_set XG.out 0 _) 1 _) 2 _) HTS.out 3 _), fun _ h1_ => absurd ((hon 17 kr_).symm.trans h1_) (by decide), fun _ => (Kd.R_set (Kd.R_set (Kd.R_set (Kd.R_set R35.out XG.out HTS.out 0 _) (blk_set XG.out 0 _) HTS.out 1 _) (blk_set (blk_set XG.out 0 _) 1 _) HTS.out 2 _) (blk_set (blk_set (blk_set XG.out 0 _) 1 _) 2 _) HTS.out 3 _), fun _ _ h2_ => absurd ((hon 9 kr_).symm.trans h2_) (by decide), fun _ _ h2_ => absurd ((hon 9 kr_).symm.trans h2_) (by decide), fun _ _ h2_ => absurd ((hon 17 kr_).symm.trans h2_) (by decide), fun _ h1_ => absurd ((hon 17 kr_).symm.trans h1_) (by decide), Q_X4_, Q_X8_, Q_X9_, Q_X12_, Q_X16_, Q_X17_, Q_X18_⟩
  exact steps_nil
 ·rintro b a w' hall ⟨g26, g34, U22, k22, U27, k27, U30, k30, U35, k35, m4_, m8_, m9_, m12_, m16_, m17_, m18_, ha, Q_HB, Q_X3, Q_XG, Q_XS, Q_S26, Q_S34, Q_R22, Q_R27, Q_R30, Q_R35, Q_N1, Q_N2, Q_N3, Q_N4, Q_X4_, Q_X8_, Q_X9_, Q_X12_, Q_X16_, Q_X17_, Q_X18_⟩
  clear HB X3 XG
  have hb1_ := hall 1 kr_
  have hb3_ := hall 3 kr_
  have hb4_ := hall 4 kr_
  have hb7_ := hall 7 kr_
  have hb8_ := hall 8 kr_
  have hb9_ := hall 9 kr_
  have hb11_ := hall 11 kr_
  have hb12_ := hall 12 kr_
  have hb15_ := hall 15 kr_
  have hb16_ := hall 16 kr_
  have hb17_ := hall 17 kr_
  have hb18_ := hall 18 kr_
  have hb19_ := hall 19 kr_
  subst ha
  obtain rfl := Q_X4_ hb4_
  obtain rfl := Q_X8_ hb8_
  obtain rfl := Q_X9_ hb9_
  obtain rfl := Q_X12_ hb12_
  obtain rfl := Q_X16_ hb16_
  obtain rfl := Q_X17_ hb17_
  obtain rfl := Q_X18_ hb18_
  simp only [putSel, hb1_, hb3_, hb4_, hb7_, hb8_, hb9_, hb11_, hb12_, hb15_, hb16_, hb17_, hb18_, hb19_, if_true, Act.put, List.setIfInBounds_toArray, List.set_cons_zero, List.set_cons_succ]
  have HB := am_ Q_HB
  clear Q_HB
  clear Q_X3
  clear Q_XG
  have XS := am_ (Q_XS hb19_)
  clear Q_XS
  clear Q_S26
  clear Q_S34
  clear Q_R22
  have R27 := am_ (Q_R27 hb9_)
  clear Q_R27
  clear Q_R30
  have R35 := am_ (Q_R35 hb17_)
  clear Q_R35
  clear Q_N1
  clear Q_N2
  clear Q_N3
  clear Q_N4
  clear hall hb1_ hb3_ hb4_ hb7_ hb8_ hb9_ hb11_ hb12_ hb15_ hb16_ hb17_ hb18_ hb19_
  go_wp2_with fail
  refine bodyPost_ret (results_single rfl (.cell g4 149 #[.int .i64 1, .slice U27 ks_.length k27, .slice U35 vs_.length k35, .slice none 0 0] (0, 0) _ rfl XS.out rfl rfl rfl .nil)) rfl ?_
  exact ⟨_, rfl, ⟨_, _, _, rfl, Kd.R_lower R27.out HBs.out, Kd.R_lower R35.out HBs.out, Kd.R_nil _ _ _ _ _⟩, HB.out⟩
end Go.Proofs.YtendgmblgdkiaaaGreat

namespace Go.Proofs.YtendgmblgdkiaaaGreat
open Go.RowKit
open Go.Proofs.YtendgmblgdkiaaaGreatW
open PrintWords PrintLast PrintMore
set_option linter.unusedVariables false
set_option linter.unusedSimpArgs false

/-- The literal as a value. -/
def cloV (ov : Option BA) (p1 p2 : Addr) : Value :=
 match ov with
 | some _ => .func (.func 100) #[] #[.pointer (some p1), .pointer (some p2)]
 | none => .func (.func 106) #[] #[.pointer (some p1)]
/-- Its captured cells. -/
structure Caps (F : Nat → Prop) (ov : Option BA) (key : BA) (p1 p2 : Addr) (w : World) : Prop where
 c1 : w.cell? p1 = some (.string key)
 c2 : ∀ v, ov = some v → w.cell? p2 = some (.string v) ∧ ¬ F p2.block
 n1 : ¬ F p1.block
theorem Caps.keep {F : Nat → Prop} {ov : Option BA} {key : BA} {p1 p2 : Addr} {w w' : World} (h : Caps F ov key p1 p2 w) (k : Keep F w w') : Caps F ov key p1 p2 w' := by
 have hc : ∀ {p : Addr} {v : Value}, w.cell? p = some v → ¬ F p.block → w'.cell? p = some v := fun {p v} hp hn => by
  rw [k.cell (World.block_lt_of_cell? w p hp) hn]; exact hp
 exact ⟨hc h.c1 h.n1, fun v e => ⟨hc (h.c2 v e).1 (h.c2 v e).2, (h.c2 v e).2⟩, h.n1⟩

theorem do_put (F : Nat → Prop) (w : World) (B : Nat) (v : Value) (kvs : List KV) (key x : BA) (p1 p2 : Addr) (hB : B ≤ w.heap.size) (N : NodeV B w v (leafOf kvs)) (hS : Srt kvs) (hn : kvs.length ≤ 1000) (hc : Caps F (some x) key p1 p2 w) :
  Calls Tryz.prog 100 #[v, .pointer (some p1), .pointer (some p2)] w fun e w' => ∃ v', e = .returned v' ∧ NodeV B w' v' (leafOf (ed key (some x) kvs)) ∧ Below w.heap.size w w' := by
 have hr : rising (kvs.map (·.1)) = true := rising_of (List.pairwise_map.2 hS)
 have hp := put_leaf key x kvs hS
 refine (put_lam w B v (leafOf kvs) key x p1 p2 hB N rfl hr (by simp [leafOf]) (by simp [leafOf]; omega) hc.c1 (hc.c2 x rfl).1).mono ?_
 rintro e w' ⟨v', rfl, N', hb⟩
 refine ⟨v', rfl, ?_, hb⟩
 rw [← hp]
 exact N'
theorem isAt_mem {key v : BA} {l : List KV} (h : Srt l) (hm : (key, v) ∈ l) : isAt key (l.map (·.1)) = true := by
 cases hi : isAt key (l.map (·.1)) with
 | true => rfl
 | false =>
  obtain ⟨f1, f2⟩ := filters key l h
  rw [hi] at f2
  have hm' : (key, v) ∈ l.take (lb key (l.map (·.1))) ++ l.drop (lb key (l.map (·.1))) := by rw [List.take_append_drop]; exact hm
  rcases List.mem_append.1 hm' with hx | hx
  ·rw [← f1] at hx
   have := (List.mem_filter.1 hx).2
   simp [blt_irrefl] at this
  ·have hx : (key, v) ∈ l.filter (fun p => blt key p.1) := by rw [f2]; exact hx
   have := (List.mem_filter.1 hx).2
   simp [blt_irrefl] at this
theorem do_del (F : Nat → Prop) (w : World) (B : Nat) (v : Value) (kvs : List KV) (key : BA) (p1 p2 : Addr) (hB : B ≤ w.heap.size) (N : NodeV B w v (leafOf kvs)) (hS : Srt kvs) (hn : kvs.length ≤ 1000) (hm : ∃ v, (key, v) ∈ kvs) (hc : Caps F none key p1 p2 w) :
  Calls Tryz.prog 106 #[v, .pointer (some p1)] w fun e w' => ∃ v', e = .returned v' ∧ NodeV B w' v' (leafOf (ed key none kvs)) ∧ Below w.heap.size w w' := by
 obtain ⟨A1, c1, A2, c2, A3, c3, rfl, C1, k1, C2, k2, C3, k3⟩ := N.out
 obtain ⟨u, hu⟩ := hm
 have hat := isAt_mem hS hu
 have hr : rising (kvs.map (·.1)) = true := rising_of (List.pairwise_map.2 hS)
 have hf := del_f 1 (leafOf kvs).keys (leafOf kvs).vals (leafOf kvs).kids key hr (by simp [leafOf]) (by simp [leafOf]; omega) hat 2000 (by simp [leafOf]; omega)
 have hp := del_leaf key kvs hS hat
 refine (PNd.tree_Tree_DeleteLam1.calls 2000 1 A1 c1 (leafOf kvs).keys A2 c2 (leafOf kvs).vals A3 c3 (leafOf kvs).kids key _ _ _ _ p1 w hc.c1 C1 k1 C2 k2 C3 k3 hf).mono ?_
 rintro e w' ⟨v1, v2, v3, rfl, g1, g2, g3, hb⟩
 refine ⟨_, rfl, ?_, hb⟩
 rw [← hp]
 exact ⟨v1, v2, v3, rfl, Kd.R_lower (Kd.R_mono g1 (fun _ _ => trivial)) hB, Kd.R_lower (Kd.R_mono g2 (fun _ _ => trivial)) hB, Kd.R_lower (Kd.R_mono g3 (fun _ _ => trivial)) hB⟩
/-- An edited leaf is not long. -/
theorem ed_short {kvs : List KV} {key : BA} {ov : Option BA} (hG : Good kvs) (hk : keyOk key = true) (hv : ∀ v, ov = some v → valOk v = true) (hS : (kvs.map e1).sum ≤ 239) : (leafOf (ed key ov kvs)).Short ∧ (ed key ov kvs).length ≤ 80 := by
 have h3 : 3 * kvs.length ≤ (kvs.map e1).sum := sum_ge fun p hp => (e1_le (hG.2 p hp)).1
 have hl := ed_len key ov kvs
 have hg := ed_good hG hk hv
 have ho := leaf_ok hg om_
 have hs : ((ed key ov kvs).map e1).sum ≤ (kvs.map e1).sum + 50 := by
  cases ov with
  | none => have := ed_sum key none kvs; simp only at this; omega
  | some v => have := ed_sum key (some v) kvs; have := (e1_le (p := (key, v)) ⟨hk, hv v rfl⟩).2; simp only at *; omega
 have hlen : (leafOf (ed key ov kvs)).keys.length = (ed key ov kvs).length := by simp [leafOf]
 have hSe := leaf_S (ed key ov kvs) _ (Nat.le_refl _)
 rw [List.take_length] at hSe
 exact ⟨⟨ho.fine, ho.shape, ho.ent, by rw [hlen, hSe]; omega, by rw [hlen]; omega⟩, by omega⟩

/-- What a walk carries along beside the node that it has read. -/
structure Mid (B : Nat) (w : World) (t b : Nat) (L : Loc) (h : Nat) (r : Rt) (key : BA) (ov : Option BA) (p1 p2 : Addr) (n : Nd) (A1 : Option Addr) (c1 : Nat) (A2 : Option Addr) (c2 : Nat) (A3 : Option Addr) (c3 : Nat) (g : Nat) (D : Dk) (P : List Pg) (wx : World) : Prop where
 ts : TS B wx t b L h D P r
 kp : Keep (fun k => L.foot k ∨ k = b) w wx
 nv : NodeV B wx (.agg #[.int .i64 n.kind, .slice A1 n.keys.length c1, .slice A2 n.vals.length c2, .slice A3 n.kids.length c3]) n
 bx : wx.heap[g]? = some (.cells #[.int .i64 n.kind, .slice A1 n.keys.length c1, .slice A2 n.vals.length c2, .slice A3 n.kids.length c3] 149 (0, 0))
 gB : B ≤ g
 cap : Caps (fun k => L.foot k ∨ k = b) ov key p1 p2 wx
theorem Mid.step {B : Nat} {w : World} {t b : Nat} {L : Loc} {h : Nat} {r : Rt} {key : BA} {ov : Option BA} {p1 p2 : Addr} {n : Nd} {A1 : Option Addr} {c1 : Nat} {A2 : Option Addr} {c2 : Nat} {A3 : Option Addr} {c3 g : Nat} {D D' : Dk} {P P' : List Pg} {wx wy : World} (M : Mid B w t b L h r key ov p1 p2 n A1 c1 A2 c2 A3 c3 g D P wx)
  (T : TS B wy t b L h D' P' r) (k : Keep (fun k => L.foot k ∨ k = b) wx wy) : Mid B w t b L h r key ov p1 p2 n A1 c1 A2 c2 A3 c3 g D' P' wy :=
 ⟨T, M.kp.trans k, M.nv.keep k M.ts.lo, k.heap M.bx (fun hf => by have := M.ts.lo _ hf; have := M.gB; omega), M.gB, M.cap.keep k⟩
theorem Mid.below {B : Nat} {w : World} {t b : Nat} {L : Loc} {h : Nat} {r : Rt} {key : BA} {ov : Option BA} {p1 p2 : Addr} {n : Nd} {A1 : Option Addr} {c1 : Nat} {A2 : Option Addr} {c2 : Nat} {A3 : Option Addr} {c3 g : Nat} {D : Dk} {P : List Pg} {wx wy : World} (M : Mid B w t b L h r key ov p1 p2 n A1 c1 A2 c2 A3 c3 g D P wx)
  (hb : Below wx.heap.size wx wy) : Mid B w t b L h r key ov p1 p2 n A1 c1 A2 c2 A3 c3 g D P wy := M.step (M.ts.below hb) (Keep.below hb)
end Go.Proofs.YtendgmblgdkiaaaGreat

namespace Go.Proofs.YtendgmblgdkiaaaGreat
open Go.RowKit
open Go.Proofs.YtendgmblgdkiaaaGreatW
open PrintWords PrintLast PrintMore
set_option linter.unusedVariables false
set_option linter.unusedSimpArgs false

/-- What change comes to. -/
def ChPost (B : Nat) (w : World) (t b : Nat) (L : Loc) (h : Nat) (D : Dk) (P : List Pg) (r : Rt) (key : BA) (ov : Option BA) (lv : Nat) (n : Nd) (kvs : List KV) (e : Ending) (w' : World) : Prop :=
 ∃ D' P', TS B w' t b L h D' P' r ∧ AppOk h D P D' P' ∧ Keep (fun k => L.foot k ∨ k = b) w w' ∧
  ((∃ v l n', e = .returned (.tuple #[v, .int .i64 0]) ∧ NodesV B w' v l ∧ PartsOf n' l ∧ n'.Short ∧ Cn P' lv n' (ed key ov kvs) ∧ D'.down = false ∧ P'.length ≤ P.length + 2 * (lv - 1) ∧ (∀ v, ov = some v → n.keys.length ≤ n'.keys.length) ∧ (2 ≤ lv → 1 ≤ n'.keys.length ∧ P.length < P'.length)) ∨
   (∃ er, e = .returned (.tuple #[.slice none 0 0, .int .i64 er]) ∧ Bad D D' P' er ∧ P'.length < P.length + 2 * (lv - 1)))
/-- What it is asked for. -/
structure ChPre (B : Nat) (w : World) (t b : Nat) (L : Loc) (h : Nat) (D : Dk) (P : List Pg) (r : Rt) (key : BA) (ov : Option BA) (p1 p2 : Addr) (lv page : Nat) (n : Nd) (kvs : List KV) : Prop where
 base : B ≤ w.heap.size
 ts : TS B w t b L h D P r
 up : D.down = false
 cap : Caps (fun k => L.foot k ∨ k = b) ov key p1 p2 w
 pg : P[page]? = some n.page
 fit : n.Fit
 cn : Cn P lv n kvs
 good : Good kvs
 kok : keyOk key = true
 vok : ∀ v, ov = some v → valOk v = true
 del : ov = none → ∃ v, (key, v) ∈ kvs
 low : lv ≤ 1000
 two : 2 ≤ lv → 2 ≤ n.keys.length

set_option maxHeartbeats 2000000 in
set_option maxRecDepth 100000 in
theorem change_leaf (B : Nat) (w : World) (t b : Nat) (L : Loc) (h : Nat) (D : Dk) (P : List Pg) (r : Rt) (key : BA) (ov : Option BA) (p1 p2 : Addr) (page : Nat) (n : Nd) (kvs : List KV) (H : ChPre B w t b L h D P r key ov p1 p2 1 page n kvs) :
  Calls Tryz.prog 151 #[.pointer (some ⟨t, 0, none⟩), .int .i64 page, .int .i64 1, .string key, cloV ov p1 p2] w (ChPost B w t b L h D P r key ov 1 n kvs) := by
 have HH := hi_ H
 have hn : n = leafOf kvs := H.cn
 subst hn
 have hroom := H.ts.st.room
 have hmost := room_le H.ts.st.d.ok
 have hlen : (leafOf kvs).keys.length = kvs.length := by simp [leafOf]
 have hlp : (leafOf kvs).keys.length ≤ (leafOf kvs).pack.size := le_packOf 1 (leafOf kvs).keys (leafOf kvs).vals (leafOf kvs).kids
 have hok := leaf_ok H.good (by have := H.fit.size; omega)
 have hff := fit_few hok H.fit.size
 rw [hlen] at hff
 have HS := hi_ (ed_short (ov := ov) H.good H.kok H.vok (by have := hff.1; rw [leaf_S _ _ (Nat.le_refl _), List.take_length] at this; exact this))
 have HF := hi_ hff
 have CR := tree_read w t b L h D P r H.ts.st H.ts.tr H.up page 1 1 (leafOf kvs).keys (leafOf kvs).vals (leafOf kvs).kids H.pg hok.ok (H.fit.some) (by simp)
 clear H hroom hmost hok hff hlen
 go_enter Tryz.func151, Tryz.ntmps151
 go_wp2_with fail
 refine CR.mono ?_
 clear CR
 rintro e w1 ⟨v1, v2, v3, rfl, g1, g2, g3, hb⟩
 have NV := hi_ (show NodeV w.heap.size w1 (.agg #[.int .i64 1, v1, v2, v3]) (leafOf kvs) from ⟨v1, v2, v3, rfl, g1, g2, g3⟩)
 obtain ⟨A1, c1, rfl⟩ := Kd.R_slice g1
 obtain ⟨A2, c2, rfl⟩ := Kd.R_slice g2
 obtain ⟨A3, c3, rfl⟩ := Kd.R_slice g3
 have hB1 := hi_ hb
 clear g1 g2 g3 hb
 go_upto_region 5 with fail
 have hB2 := hi_ (below_alloc hB1.out (.cells #[.int .i64 1, .slice A1 (leafOf kvs).keys.length c1, .slice A2 (leafOf kvs).vals.length c2, .slice A3 (leafOf kvs).kids.length c3] 149 (0, 0)))
 have N2 := hi_ (NV.out.below (below_alloc (Below.refl w1.heap.size w1) (.cells #[.int .i64 1, .slice A1 (leafOf kvs).keys.length c1, .slice A2 (leafOf kvs).vals.length c2, .slice A3 (leafOf kvs).kids.length c3] 149 (0, 0))))
 have hG := hi_ (heap_alloc_self w1 (.cells #[.int .i64 1, .slice A1 (leafOf kvs).keys.length c1, .slice A2 (leafOf kvs).vals.length c2, .slice A3 (leafOf kvs).kids.length c3] 149 (0, 0)))
 generalize w1.alloc (.cells #[.int .i64 1, .slice A1 (leafOf kvs).keys.length c1, .slice A2 (leafOf kvs).vals.length c2, .slice A3 (leafOf kvs).kids.length c3] 149 (0, 0)) = w2 at *
 have x0 := blk_cell hG.out 0
 have x1 := blk_cell hG.out 1
 have x2 := blk_cell hG.out 2
 have x3 := blk_cell hG.out 3
 cases ov with
 | some x =>
  unfold cloV
  go_wp2_with fail
  refine (do_put (fun k => L.foot k ∨ k = b) w2 B _ kvs key x p1 p2 (Nat.le_trans HH.out.base hB2.out.size) (N2.out.lower HH.out.base) HH.out.good.1 (by have := HF.out; omega) (HH.out.cap.keep (Keep.below hB2.out))).mono ?_
  rintro e w3 ⟨v', rfl, N3, hb⟩
  have N3 := hi_ N3
  have hB3 := hi_ (below_then hB2.out hB2.out.size hb)
  clear hb x0 x1 x2 x3
  go_wp2_with fail
  refine (tree_parts w3 B v' _ (Nat.le_trans HH.out.base hB3.out.size) N3.out HS.out.1).mono ?_
  rintro e w4 ⟨v'', l, rfl, hpo, NL, hb⟩
  have NL := hi_ NL
  have hpo := hi_ hpo
  have hB4 := hi_ (below_then hB3.out hB3.out.size hb)
  clear hb
  go_wp2_with fail
  go_ret2
  exact ⟨D, P, HH.out.ts.below hB4.out, AppOk.refl HH.out.ts.st.room HH.out.ts.st.holds, Keep.below hB4.out, .inl ⟨_, l, _, rfl, NL.out, hpo.out, HS.out.1, rfl, HH.out.up, by omega, (fun v e => by have := ed_more key x kvs HH.out.good.1; simpa [leafOf] using this), fun h => by omega⟩⟩
 | none =>
  unfold cloV
  go_wp2_with fail
  refine (do_del (fun k => L.foot k ∨ k = b) w2 B _ kvs key p1 p2 (Nat.le_trans HH.out.base hB2.out.size) (N2.out.lower HH.out.base) HH.out.good.1 (by have := HF.out; omega) (HH.out.del rfl) (HH.out.cap.keep (Keep.below hB2.out))).mono ?_
  rintro e w3 ⟨v', rfl, N3, hb⟩
  have N3 := hi_ N3
  have hB3 := hi_ (below_then hB2.out hB2.out.size hb)
  clear hb x0 x1 x2 x3
  go_wp2_with fail
  refine (tree_parts w3 B v' _ (Nat.le_trans HH.out.base hB3.out.size) N3.out HS.out.1).mono ?_
  rintro e w4 ⟨v'', l, rfl, hpo, NL, hb⟩
  have NL := hi_ NL
  have hpo := hi_ hpo
  have hB4 := hi_ (below_then hB3.out hB3.out.size hb)
  clear hb
  go_wp2_with fail
  go_ret2
  exact ⟨D, P, HH.out.ts.below hB4.out, AppOk.refl HH.out.ts.st.room HH.out.ts.st.holds, Keep.below hB4.out, .inl ⟨_, l, _, rfl, NL.out, hpo.out, HS.out.1, rfl, HH.out.up, by omega, (fun v e => by cases e), fun h => by omega⟩⟩
end Go.Proofs.YtendgmblgdkiaaaGreat

namespace Go.Proofs.YtendgmblgdkiaaaGreat
open Go.RowKit
open Go.Proofs.YtendgmblgdkiaaaGreatW
open PrintWords PrintLast PrintMore
set_option linter.unusedVariables false
set_option linter.unusedSimpArgs false

theorem concat_fs (x y : List BA) (hx : x.length ≤ 1000) (hy : y.length ≤ 1000) : PCc.slices_Concat_string_string.f 10 [x, y] = some (x ++ y) := by
 have w1 : wrap64 ((0 : Int) + (x.length : Int)) = (x.length : Int) := by unfold wrap64; omega
 have w2 : wrap64 ((x.length : Int) + (y.length : Int)) = ((x.length + y.length : Nat) : Int) := by unfold wrap64; omega
 have r0 : PCc.rd_L1 [x, y] 0 = x := rfl
 have r1 : PCc.rd_L1 [x, y] 1 = y := rfl
 have z1 : wrap64 (0 + 1) = 1 := by unfold wrap64; omega
 have z2 : wrap64 (1 + 1) = 2 := by unfold wrap64; omega
 have e0 : ∀ k, PCc.slices_Concat_string_string.l0 (k + 1) [x, y] 0 [x, y] 2 0 = PCc.slices_Concat_string_string.l0 k [x, y] (x.length : Int) [x, y] 2 1 := by
  intro k
  rw [PCc.slices_Concat_string_string.l0, if_pos (by decide), if_pos (by decide), if_pos (by simp), r0, w1, if_neg (by omega), z1]
 have e1 : ∀ k, PCc.slices_Concat_string_string.l0 (k + 1) [x, y] (x.length : Int) [x, y] 2 1 = PCc.slices_Concat_string_string.l0 k [x, y] ((x.length + y.length : Nat) : Int) [x, y] 2 2 := by
  intro k
  rw [PCc.slices_Concat_string_string.l0, if_pos (by decide), if_pos (by decide), if_pos (by simp), r1, w2, if_neg (by omega), z2]
 have e2 : ∀ k, PCc.slices_Concat_string_string.l0 (k + 1) [x, y] ((x.length + y.length : Nat) : Int) [x, y] 2 2 = PCc.slices_Concat_string_string.l1 k [] [x, y] 2 0 := by
  intro k
  rw [PCc.slices_Concat_string_string.l0, if_neg (by decide)]
  unfold PCc.slices_Grow_string_string.f growF_s
  rw [if_pos ⟨rfl, by omega, by omega⟩]
  rfl
 have f0 : ∀ k, PCc.slices_Concat_string_string.l1 (k + 1) [] [x, y] 2 0 = PCc.slices_Concat_string_string.l1 k x [x, y] 2 1 := by
  intro k
  rw [PCc.slices_Concat_string_string.l1, if_pos (by decide), if_pos (by decide), if_pos (by simp), r0, if_pos (by simp; omega), z1]
  rfl
 have f1 : ∀ k, PCc.slices_Concat_string_string.l1 (k + 1) x [x, y] 2 1 = PCc.slices_Concat_string_string.l1 k (x ++ y) [x, y] 2 2 := by
  intro k
  rw [PCc.slices_Concat_string_string.l1, if_pos (by decide), if_pos (by decide), if_pos (by simp), r1, if_pos (by omega), z2]
 have f2 : ∀ k, PCc.slices_Concat_string_string.l1 (k + 1) (x ++ y) [x, y] 2 2 = some (x ++ y) := by
  intro k
  rw [PCc.slices_Concat_string_string.l1, if_neg (by decide)]
 show PCc.slices_Concat_string_string.l0 10 [x, y] 0 [x, y] 2 0 = _
 rw [e0, e1, e2, f0, f1, f2]
theorem two_s {w : World} {g : Nat} {A B : Option Addr} {c d : Nat} {x y : List BA} (hg : w.heap[g]? = some (.cells #[.slice A x.length c, .slice B y.length d] 22 (0, 0))) (hx : Kd.C Kd.string w A x.length x) (hc : x.length ≤ c) (hy : Kd.C Kd.string w B y.length y) (hd : y.length ≤ d) :
  Kd.C (Kd.slice 9 Kd.string) w (some ⟨g, 0, none⟩) [x, y].length [x, y] := by
 refine ⟨rfl, by simp, fun _ => ⟨⟨g, 0, none⟩, rfl, fun j p hj => ?_⟩⟩
 match j, hj with
 | 0, hj =>
  obtain rfl : x = p := by simpa using hj
  refine ⟨[.slice A x.length c], rfl, ⟨A, c, rfl, hc, hx⟩, fun i u hu => ?_⟩
  match i, hu with
  | 0, hu =>
   obtain rfl : Value.slice A x.length c = u := by simpa using hu
   exact (cell_of_heap hg 0).trans rfl
 | 1, hj =>
  obtain rfl : y = p := by simpa using hj
  refine ⟨[.slice B y.length d], rfl, ⟨B, d, rfl, hd, hy⟩, fun i u hu => ?_⟩
  match i, hu with
  | 0, hu =>
   obtain rfl : Value.slice B y.length d = u := by simpa using hu
   exact (cell_of_heap hg 1).trans rfl
theorem concat_s (w : World) (g : Nat) (A : Option Addr) (c : Nat) (x : List BA) (B : Option Addr) (d : Nat) (y : List BA) (hg : w.heap[g]? = some (.cells #[.slice A x.length c, .slice B y.length d] 22 (0, 0))) (hx : Kd.C Kd.string w A x.length x) (hc : x.length ≤ c) (hy : Kd.C Kd.string w B y.length y) (hd : y.length ≤ d) (lx : x.length ≤ 1000) (ly : y.length ≤ 1000) :
  Calls Tryz.prog 227 #[.slice (some ⟨g, 0, none⟩) 2 2] w fun e w' => ∃ v : Value, e = .returned v ∧ Kd.R Kd.string 9 w' w.heap.size (fun _ => True) v (x ++ y) ∧ Below w.heap.size w w' :=
 PCc.slices_Concat_string_string.calls 10 (some ⟨g, 0, none⟩) 2 [x, y] (x ++ y) w (two_s hg hx hc hy hd) (Nat.le_refl _) (concat_fs x y lx ly)
theorem concat_fi (x y : List Int) (hx : x.length ≤ 1000) (hy : y.length ≤ 1000) : PCc.slices_Concat_int_int.f 10 [x, y] = some (x ++ y) := by
 have w1 : wrap64 ((0 : Int) + (x.length : Int)) = (x.length : Int) := by unfold wrap64; omega
 have w2 : wrap64 ((x.length : Int) + (y.length : Int)) = ((x.length + y.length : Nat) : Int) := by unfold wrap64; omega
 have r0 : PCc.rd_L3 [x, y] 0 = x := rfl
 have r1 : PCc.rd_L3 [x, y] 1 = y := rfl
 have z1 : wrap64 (0 + 1) = 1 := by unfold wrap64; omega
 have z2 : wrap64 (1 + 1) = 2 := by unfold wrap64; omega
 have e0 : ∀ k, PCc.slices_Concat_int_int.l0 (k + 1) [x, y] 0 [x, y] 2 0 = PCc.slices_Concat_int_int.l0 k [x, y] (x.length : Int) [x, y] 2 1 := by
  intro k
  rw [PCc.slices_Concat_int_int.l0, if_pos (by decide), if_pos (by decide), if_pos (by simp), r0, w1, if_neg (by omega), z1]
 have e1 : ∀ k, PCc.slices_Concat_int_int.l0 (k + 1) [x, y] (x.length : Int) [x, y] 2 1 = PCc.slices_Concat_int_int.l0 k [x, y] ((x.length + y.length : Nat) : Int) [x, y] 2 2 := by
  intro k
  rw [PCc.slices_Concat_int_int.l0, if_pos (by decide), if_pos (by decide), if_pos (by simp), r1, w2, if_neg (by omega), z2]
 have e2 : ∀ k, PCc.slices_Concat_int_int.l0 (k + 1) [x, y] ((x.length + y.length : Nat) : Int) [x, y] 2 2 = PCc.slices_Concat_int_int.l1 k [] [x, y] 2 0 := by
  intro k
  rw [PCc.slices_Concat_int_int.l0, if_neg (by decide)]
  unfold PCc.slices_Grow_int_int.f growF_i
  rw [if_pos ⟨rfl, by omega, by omega⟩]
  rfl
 have f0 : ∀ k, PCc.slices_Concat_int_int.l1 (k + 1) [] [x, y] 2 0 = PCc.slices_Concat_int_int.l1 k x [x, y] 2 1 := by
  intro k
  rw [PCc.slices_Concat_int_int.l1, if_pos (by decide), if_pos (by decide), if_pos (by simp), r0, if_pos (by simp; omega), z1]
  rfl
 have f1 : ∀ k, PCc.slices_Concat_int_int.l1 (k + 1) x [x, y] 2 1 = PCc.slices_Concat_int_int.l1 k (x ++ y) [x, y] 2 2 := by
  intro k
  rw [PCc.slices_Concat_int_int.l1, if_pos (by decide), if_pos (by decide), if_pos (by simp), r1, if_pos (by omega), z2]
 have f2 : ∀ k, PCc.slices_Concat_int_int.l1 (k + 1) (x ++ y) [x, y] 2 2 = some (x ++ y) := by
  intro k
  rw [PCc.slices_Concat_int_int.l1, if_neg (by decide)]
 show PCc.slices_Concat_int_int.l0 10 [x, y] 0 [x, y] 2 0 = _
 rw [e0, e1, e2, f0, f1, f2]
theorem two_i {w : World} {g : Nat} {A B : Option Addr} {c d : Nat} {x y : List Int} (hg : w.heap[g]? = some (.cells #[.slice A x.length c, .slice B y.length d] 84 (0, 0))) (hx : Kd.C (Kd.int .i64) w A x.length x) (hc : x.length ≤ c) (hy : Kd.C (Kd.int .i64) w B y.length y) (hd : y.length ≤ d) :
  Kd.C (Kd.slice 3 (Kd.int .i64)) w (some ⟨g, 0, none⟩) [x, y].length [x, y] := by
 refine ⟨rfl, by simp, fun _ => ⟨⟨g, 0, none⟩, rfl, fun j p hj => ?_⟩⟩
 match j, hj with
 | 0, hj =>
  obtain rfl : x = p := by simpa using hj
  refine ⟨[.slice A x.length c], rfl, ⟨A, c, rfl, hc, hx⟩, fun i u hu => ?_⟩
  match i, hu with
  | 0, hu =>
   obtain rfl : Value.slice A x.length c = u := by simpa using hu
   exact (cell_of_heap hg 0).trans rfl
 | 1, hj =>
  obtain rfl : y = p := by simpa using hj
  refine ⟨[.slice B y.length d], rfl, ⟨B, d, rfl, hd, hy⟩, fun i u hu => ?_⟩
  match i, hu with
  | 0, hu =>
   obtain rfl : Value.slice B y.length d = u := by simpa using hu
   exact (cell_of_heap hg 1).trans rfl
theorem concat_i (w : World) (g : Nat) (A : Option Addr) (c : Nat) (x : List Int) (B : Option Addr) (d : Nat) (y : List Int) (hg : w.heap[g]? = some (.cells #[.slice A x.length c, .slice B y.length d] 84 (0, 0))) (hx : Kd.C (Kd.int .i64) w A x.length x) (hc : x.length ≤ c) (hy : Kd.C (Kd.int .i64) w B y.length y) (hd : y.length ≤ d) (lx : x.length ≤ 1000) (ly : y.length ≤ 1000) :
  Calls Tryz.prog 228 #[.slice (some ⟨g, 0, none⟩) 2 2] w fun e w' => ∃ v : Value, e = .returned v ∧ Kd.R (Kd.int .i64) 3 w' w.heap.size (fun _ => True) v (x ++ y) ∧ Below w.heap.size w w' :=
 PCc.slices_Concat_int_int.calls 10 (some ⟨g, 0, none⟩) 2 [x, y] (x ++ y) w (two_i hg hx hc hy hd) (Nat.le_refl _) (concat_fi x y lx ly)

def Nd.join (a b : Nd) : Nd := ⟨a.kind, a.keys ++ b.keys, a.vals ++ b.vals, a.kids ++ b.kids⟩
def node_Join.T : Bool × List (List Nat × List Nat) := (true, [([], []), ([0], [0]), ([], []), ([2], [2]), ([], []), ([4], [4]), ([3, 5], [3, 5]), ([6], [6]), ([], []), ([8], [8]), ([], []), ([10], [10]), ([9, 11], [9, 11]), ([12, 7], [12]), ([], []), ([14], [14]), ([], []), ([16], [16]), ([15, 17], [15, 17]), ([18, 13], [18]), ([1, 7, 13, 19], [1, 7, 13, 19]), ([20, 19, 0, 1, 2, 3, 4, 5, 6, 7, 8, 9, 10, 11, 12, 13, 14, 15, 16, 17, 18, 19, 20], [20])])
def node_Join.B : List Nat := [0, 1, 0, 4, 0, 16, 60, 124, 0, 256, 0, 1024, 3840, 8188, 0, 16384, 0, 65536, 245760, 524284, 1048575, 2097151]
theorem node_Join.tab : rtab .any (opsOf Tryz.f191 1) = node_Join.T := by kernel_rfl
theorem node_Join.bits : waitsOk node_Join.T.2 node_Join.B = true := by kernel_rfl
set_option maxHeartbeats 2000000 in
set_option maxRecDepth 100000 in
theorem node_Join (w : World) (B : Nat) (va vb : Value) (m_ n_ : Nd) (hB : B ≤ w.heap.size) (NA : NodeV B w va m_) (NB : NodeV B w vb n_) (la : m_.keys.length ≤ 1000 ∧ m_.vals.length ≤ 1000 ∧ m_.kids.length ≤ 1000) (lb : n_.keys.length ≤ 1000 ∧ n_.vals.length ≤ 1000 ∧ n_.kids.length ≤ 1000) :
  Calls Tryz.prog 191 #[va, vb] w fun e w' => ∃ v, e = .returned v ∧ NodeV B w' v (m_.join n_) ∧ Below w.heap.size w w' := by
 obtain ⟨A1, c1, A2, c2, A3, c3, rfl, CA1, KA1, CA2, KA2, CA3, KA3⟩ := NA.out
 obtain ⟨B1, d1, B2, d2, B3, d3, rfl, CB1, KB1, CB2, KB2, CB3, KB3⟩ := NB.out
 obtain ⟨LA1, LA2, LA3⟩ := la
 obtain ⟨LB1, LB2, LB3⟩ := lb
 replace CA1 := am_ CA1
 replace KA1 := am_ KA1
 replace LA1 := am_ LA1
 replace CA2 := am_ CA2
 replace KA2 := am_ KA2
 replace LA2 := am_ LA2
 replace CA3 := am_ CA3
 replace KA3 := am_ KA3
 replace LA3 := am_ LA3
 replace CB1 := am_ CB1
 replace KB1 := am_ KB1
 replace LB1 := am_ LB1
 replace CB2 := am_ CB2
 replace KB2 := am_ KB2
 replace LB2 := am_ LB2
 replace CB3 := am_ CB3
 replace KB3 := am_ KB3
 replace LB3 := am_ LB3
 have HBs := hi_ hB
 clear NA NB hB
 have HTS : Aside0 (∀ q, q ∈ 9 :: Kd.string.E → q ≠ 149) := am_ (by intro q hq; simp [Kd.string, Kd.scalar] at hq; rw [hq]; decide)
 have HTI : Aside0 (∀ q, q ∈ 3 :: (Kd.int .i64).E → q ≠ 149) := am_ (by intro q hq; simp [Kd.int, Kd.scalar] at hq; rw [hq]; decide)
 go_enter Tryz.func191, Tryz.ntmps191
 go_upto_region 1 with fail
 have XA := am_ (blk_alloc (blk_alloc (blk_new w (.cells #[.int .i64 m_.kind, .slice A1 m_.keys.length c1, .slice A2 m_.vals.length c2, .slice A3 m_.kids.length c3] 149 (0, 0))) (.cells #[.int .i64 n_.kind, .slice B1 n_.keys.length d1, .slice B2 n_.vals.length d2, .slice B3 n_.kids.length d3] 149 (0, 0))) (.cells #[.int .i64 0, .slice none 0 0, .slice none 0 0, .slice none 0 0] 149 (0, 0)))
 have XB := am_ (blk_alloc (blk_new (w.alloc (.cells #[.int .i64 m_.kind, .slice A1 m_.keys.length c1, .slice A2 m_.vals.length c2, .slice A3 m_.kids.length c3] 149 (0, 0))) (.cells #[.int .i64 n_.kind, .slice B1 n_.keys.length d1, .slice B2 n_.vals.length d2, .slice B3 n_.kids.length d3] 149 (0, 0))) (.cells #[.int .i64 0, .slice none 0 0, .slice none 0 0, .slice none 0 0] 149 (0, 0)))
 have XG := am_ (blk_new ((w.alloc (.cells #[.int .i64 m_.kind, .slice A1 m_.keys.length c1, .slice A2 m_.vals.length c2, .slice A3 m_.kids.length c3] 149 (0, 0))).alloc (.cells #[.int .i64 n_.kind, .slice B1 n_.keys.length d1, .slice B2 n_.vals.length d2, .slice B3 n_.kids.length d3] 149 (0, 0))) (.cells #[.int .i64 0, .slice none 0 0, .slice none 0 0, .slice none 0 0] 149 (0, 0)))
 have HB := am_ (below_alloc (below_alloc (below_alloc (Below.refl w.heap.size w) (.cells #[.int .i64 m_.kind, .slice A1 m_.keys.length c1, .slice A2 m_.vals.length c2, .slice A3 m_.kids.length c3] 149 (0, 0))) (.cells #[.int .i64 n_.kind, .slice B1 n_.keys.length d1, .slice B2 n_.vals.length d2, .slice B3 n_.kids.length d3] 149 (0, 0))) (.cells #[.int .i64 0, .slice none 0 0, .slice none 0 0, .slice none 0 0] 149 (0, 0)))
 simp only [World.size_alloc] at XA XB XG
 generalize ((w.alloc (.cells #[.int .i64 m_.kind, .slice A1 m_.keys.length c1, .slice A2 m_.vals.length c2, .slice A3 m_.kids.length c3] 149 (0, 0))).alloc (.cells #[.int .i64 n_.kind, .slice B1 n_.keys.length d1, .slice B2 n_.vals.length d2, .slice B3 n_.kids.length d3] 149 (0, 0))).alloc (.cells #[.int .i64 0, .slice none 0 0, .slice none 0 0, .slice none 0 0] 149 (0, 0)) = w0 at *
 obtain ⟨ga, hga⟩ : ∃ ga, ga = w.heap.size := ⟨_, rfl⟩
 obtain ⟨gb, hgb⟩ : ∃ gb, gb = w.heap.size + 1 := ⟨_, rfl⟩
 obtain ⟨g, hg⟩ : ∃ g, g = w.heap.size + 1 + 1 := ⟨_, rfl⟩
 have HG := am_ (show w.heap.size ≤ g by omega)
 rw [← hg, ← hgb, ← hga]
 rw [← hga] at XA
 rw [← hgb] at XB
 rw [← hg] at XG
 clear hg hgb hga
 refine start_ (n := 22) (S := fun w' => True) (ds := []) (bz 22 0) kr_ rfl rfl trivial (fun hHeld => ?_); refine with_tabW node_Join.tab node_Join.bits (fun HT_ HW_ => ?_)
 have n0 := am_ (below_drew1 HB.out); have n1 := am_ (blk_drew XA.out); have n2 := am_ (blk_drew XB.out); have n3 := am_ (blk_drew XG.out)
 clear HB XA XB XG
 have HB := n0; have XA := n1; have XB := n2; have XG := n3
 clear n0 n1 n2 n3
 generalize w0.drew = w0 at *
 refine pure_ (i := 0) (N := some 5) (v := ?_) (a' := ?_) (bz 22 1) rfl rfl (any_of HT_.out kr_) (fun _ _ _ h => h) (Or.inl ⟨by rfl, ?_⟩) ?_ ?_
 rotate_left
 ·intro w'
  go_simp
  with_reducible rfl
 rotate_left
 ·simp only [Act.put, List.setIfInBounds_toArray, List.set_cons_zero, List.set_cons_succ, i64_w, i32_w]
  rfl
 refine pure_ (i := 2) (N := some 7) (v := ?_) (a' := ?_) (bz 22 5) rfl rfl (any_of HT_.out kr_) (fun _ _ _ h => h) (Or.inl ⟨by rfl, ?_⟩) ?_ ?_
 rotate_left
 ·intro w'
  go_simp
  with_reducible rfl
 rotate_left
 ·simp only [Act.put, List.setIfInBounds_toArray, List.set_cons_zero, List.set_cons_succ, i64_w, i32_w]
  rfl
 refine pure_ (i := 4) (N := some 9) (v := ?_) (a' := ?_) (bz 22 21) rfl rfl (any_of HT_.out kr_) (fun _ _ _ h => h) (Or.inl ⟨by rfl, ?_⟩) ?_ ?_
 rotate_left
 ·intro w'
  go_simp
  with_reducible rfl
 rotate_left
 ·simp only [Act.put, List.setIfInBounds_toArray, List.set_cons_zero, List.set_cons_succ, i64_w, i32_w]
  rfl
 refine pure_ (i := 8) (N := some 13) (v := ?_) (a' := ?_) (bz 22 277) rfl rfl (any_of HT_.out kr_) (fun _ _ _ h => h) (Or.inl ⟨by rfl, ?_⟩) ?_ ?_
 rotate_left
 ·intro w'
  go_simp
  with_reducible rfl
 rotate_left
 ·simp only [Act.put, List.setIfInBounds_toArray, List.set_cons_zero, List.set_cons_succ, i64_w, i32_w]
  rfl
 refine pure_ (i := 10) (N := some 15) (v := ?_) (a' := ?_) (bz 22 1301) rfl rfl (any_of HT_.out kr_) (fun _ _ _ h => h) (Or.inl ⟨by rfl, ?_⟩) ?_ ?_
 rotate_left
 ·intro w'
  go_simp
  with_reducible rfl
 rotate_left
 ·simp only [Act.put, List.setIfInBounds_toArray, List.set_cons_zero, List.set_cons_succ, i64_w, i32_w]
  rfl
 refine pure_ (i := 14) (N := some 19) (v := ?_) (a' := ?_) (bz 22 17685) rfl rfl (any_of HT_.out kr_) (fun _ _ _ h => h) (Or.inl ⟨by rfl, ?_⟩) ?_ ?_
 rotate_left
 ·intro w'
  go_simp
  with_reducible rfl
 rotate_left
 ·simp only [Act.put, List.setIfInBounds_toArray, List.set_cons_zero, List.set_cons_succ, i64_w, i32_w]
  rfl
 refine pure_ (i := 16) (N := some 21) (v := ?_) (a' := ?_) (bz 22 83221) rfl rfl (any_of HT_.out kr_) (fun _ _ _ h => h) (Or.inl ⟨by rfl, ?_⟩) ?_ ?_
 rotate_left
 ·intro w'
  go_simp
  with_reducible rfl
 rotate_left
 ·simp only [Act.put, List.setIfInBounds_toArray, List.set_cons_zero, List.set_cons_succ, i64_w, i32_w]
  rfl
 refine inv_at [1, 3, 5, 6, 7, 9, 11, 12, 13, 15, 17, 18, 19, 20, 21] (fun a0_ b a w' => ∃ (g11 : Nat) (g17 : Nat) (g23 : Nat) (U12 : Option Addr) (k12 : Nat) (U18 : Option Addr) (k18 : Nat) (U24 : Option Addr) (k24 : Nat) (m6_ : Value) (m7_ : Value) (m12_ : Value) (m13_ : Value) (m18_ : Value) (m19_ : Value) (m20_ : Value), a = putSel a0_ b [(1, 6, .int .i64 m_.kind), (3, 8, .slice A1 m_.keys.length c1), (5, 10, .slice B1 n_.keys.length d1), (6, 11, m6_), (7, 12, m7_), (9, 14, .slice A2 m_.vals.length c2), (11, 16, .slice B2 n_.vals.length d2), (12, 17, m12_), (13, 18, m13_), (15, 20, .slice A3 m_.kids.length c3), (17, 22, .slice B3 n_.kids.length d3), (18, 23, m18_), (19, 24, m19_), (20, 25, m20_)] ∧ (Below w.heap.size w w') ∧ (b 21 = false → w'.heap[ga]? = some (.cells #[.int .i64 m_.kind, .slice A1 m_.keys.length c1, .slice A2 m_.vals.length c2, .slice A3 m_.kids.length c3] 149 (0, 0))) ∧ (b 21 = false → w'.heap[gb]? = some (.cells #[.int .i64 n_.kind, .slice B1 n_.keys.length d1, .slice B2 n_.vals.length d2, .slice B3 n_.kids.length d3] 149 (0, 0))) ∧ (b 21 = false → w'.heap[g]? = some (.cells #[.int .i64 0, .slice none 0 0, .slice none 0 0, .slice none 0 0] 149 (0, 0))) ∧ (b 21 = true → w'.heap[g]? = some (.cells #[.int .i64 m_.kind, .slice U12 (m_.keys ++ n_.keys).length k12, .slice U18 (m_.vals ++ n_.vals).length k18, .slice U24 (m_.kids ++ n_.kids).length k24] 149 (0, 0))) ∧ (b 6 = true → b 21 = false → w.heap.size ≤ g11 ∧ w'.heap[g11]? = some (.cells #[.slice A1 m_.keys.length c1, .slice B1 n_.keys.length d1] 22 (0, 0))) ∧ (b 7 = true → Kd.R Kd.string 9 w' w.heap.size (fun _ => True) (.slice U12 (m_.keys ++ n_.keys).length k12) (m_.keys ++ n_.keys)) ∧ (b 12 = true → b 21 = false → w.heap.size ≤ g17 ∧ w'.heap[g17]? = some (.cells #[.slice A2 m_.vals.length c2, .slice B2 n_.vals.length d2] 22 (0, 0))) ∧ (b 13 = true → Kd.R Kd.string 9 w' w.heap.size (fun _ => True) (.slice U18 (m_.vals ++ n_.vals).length k18) (m_.vals ++ n_.vals)) ∧ (b 18 = true → b 21 = false → w.heap.size ≤ g23 ∧ w'.heap[g23]? = some (.cells #[.slice A3 m_.kids.length c3, .slice B3 n_.kids.length d3] 84 (0, 0))) ∧ (b 19 = true → Kd.R (Kd.int .i64) 3 w' w.heap.size (fun _ => True) (.slice U24 (m_.kids ++ n_.kids).length k24) (m_.kids ++ n_.kids)) ∧ (b 6 = true → (m6_ : Value) = .slice (some ⟨g11, 0, none⟩) 2 2) ∧ (b 7 = true → (m7_ : Value) = .slice U12 (m_.keys ++ n_.keys).length k12) ∧ (b 12 = true → (m12_ : Value) = .slice (some ⟨g17, 0, none⟩) 2 2) ∧ (b 13 = true → (m13_ : Value) = .slice U18 (m_.vals ++ n_.vals).length k18) ∧ (b 18 = true → (m18_ : Value) = .slice (some ⟨g23, 0, none⟩) 2 2) ∧ (b 19 = true → (m19_ : Value) = .slice U24 (m_.kids ++ n_.kids).length k24) ∧ (b 20 = true → (m20_ : Value) = .agg #[.int .i64 m_.kind, .slice U12 (m_.keys ++ n_.keys).length k12, .slice U18 (m_.vals ++ n_.vals).length k18, .slice U24 (m_.kids ++ n_.kids).length k24])) HT_.out HW_.out kr_ kr_ ?_ ?_ ?_
 ·exact ⟨0, 0, 0, none, 0, none, 0, none, 0, .bool false, .bool false, .bool false, .bool false, .bool false, .bool false, .bool false, by simp only [putSel, Bool.false_eq_true, if_false], HB.out, fun _ => XA.out, fun _ => XB.out, fun _ => XG.out, fun h_ => absurd h_ (by decide), fun h_ => absurd h_ (by decide), fun h_ => absurd h_ (by decide), fun h_ => absurd h_ (by decide), fun h_ => absurd h_ (by decide), fun h_ => absurd h_ (by decide), fun h_ => absurd h_ (by decide), fun h_ => absurd h_ (by decide), fun h_ => absurd h_ (by decide), fun h_ => absurd h_ (by decide), fun h_ => absurd h_ (by decide), fun h_ => absurd h_ (by decide), fun h_ => absurd h_ (by decide), fun h_ => absurd h_ (by decide)⟩
 ·skip
  clear HB XA XB XG
  refine steps_cons ?_ ?_
  ·rintro b a w' ⟨g11, g17, g23, U12, k12, U18, k18, U24, k24, m6_, m7_, m12_, m13_, m18_, m19_, m20_, ha, Q_HB, Q_XA, Q_XB, Q_XG, Q_XS, Q_S11, Q_R12, Q_S17, Q_R18, Q_S23, Q_R24, Q_X6_, Q_X7_, Q_X12_, Q_X13_, Q_X18_, Q_X19_, Q_X20_⟩ hb_ hon hoff
   refine ⟨_, rfl, fun K hK => ?_⟩
   have e5 : a.tmps[5]? = some (.pointer (some ⟨ga, 0, none⟩)) := by rw [ha]; exact (putSel_off rfl).trans rfl
   replace ha := am_ ha
   have HB := am_ Q_HB
   have XA := am_ (Q_XA (hoff 21 kr_))
   have XB := am_ (Q_XB (hoff 21 kr_))
   have XG := am_ (Q_XG (hoff 21 kr_))
   have x0 := blk_cell XA.out 0
   refine value_ (w1 := w') (v := .int .i64 m_.kind) (by rfl) rfl ?_ ?_
   ·go_simp
    (try simp only [i64_w])
    try rfl
   refine hK.out _ _ ⟨g11, g17, g23, U12, k12, U18, k18, U24, k24, m6_, m7_, m12_, m13_, m18_, m19_, m20_, (by rw [ha.out]; exact putSel_upk 0 hb_ rfl rfl rfl), Q_HB, Q_XA, Q_XB, Q_XG, fo_ (hoff 21), Q_S11, Q_R12, Q_S17, Q_R18, Q_S23, Q_R24, Q_X6_, Q_X7_, Q_X12_, Q_X13_, Q_X18_, Q_X19_, fo_ (hoff 20)⟩
  refine steps_cons ?_ ?_
  ·rintro b a w' ⟨g11, g17, g23, U12, k12, U18, k18, U24, k24, m6_, m7_, m12_, m13_, m18_, m19_, m20_, ha, Q_HB, Q_XA, Q_XB, Q_XG, Q_XS, Q_S11, Q_R12, Q_S17, Q_R18, Q_S23, Q_R24, Q_X6_, Q_X7_, Q_X12_, Q_X13_, Q_X18_, Q_X19_, Q_X20_⟩ hb_ hon hoff
   refine ⟨_, rfl, fun K hK => ?_⟩
   have e7 : a.tmps[7]? = some (.pointer (some ⟨ga, 1, none⟩)) := by rw [ha]; exact (putSel_off rfl).trans rfl
   replace ha := am_ ha
   have HB := am_ Q_HB
   have XA := am_ (Q_XA (hoff 21 kr_))
   have XB := am_ (Q_XB (hoff 21 kr_))
   have XG := am_ (Q_XG (hoff 21 kr_))
   have x0 := blk_cell XA.out 1
   refine value_ (w1 := w') (v := .slice A1 m_.keys.length c1) (by rfl) rfl ?_ ?_
   ·go_simp
    (try simp only [i64_w])
    try rfl
   refine hK.out _ _ ⟨g11, g17, g23, U12, k12, U18, k18, U24, k24, m6_, m7_, m12_, m13_, m18_, m19_, m20_, (by rw [ha.out]; exact putSel_upk 1 hb_ rfl rfl rfl), Q_HB, Q_XA, Q_XB, Q_XG, fo_ (hoff 21), fun h0_ _ => absurd ((hoff 6 kr_).symm.trans h0_) (by decide), fo_ (hoff 7), Q_S17, fo_ (hoff 13), Q_S23, fo_ (hoff 19), fo_ (hoff 6), fo_ (hoff 7), Q_X12_, fo_ (hoff 13), Q_X18_, fo_ (hoff 19), fo_ (hoff 20)⟩
  refine steps_cons ?_ ?_
  ·rintro b a w' ⟨g11, g17, g23, U12, k12, U18, k18, U24, k24, m6_, m7_, m12_, m13_, m18_, m19_, m20_, ha, Q_HB, Q_XA, Q_XB, Q_XG, Q_XS, Q_S11, Q_R12, Q_S17, Q_R18, Q_S23, Q_R24, Q_X6_, Q_X7_, Q_X12_, Q_X13_, Q_X18_, Q_X19_, Q_X20_⟩ hb_ hon hoff
   refine ⟨_, rfl, fun K hK => ?_⟩
   have e9 : a.tmps[9]? = some (.pointer (some ⟨gb, 1, none⟩)) := by rw [ha]; exact (putSel_off rfl).trans rfl
   replace ha := am_ ha
   have HB := am_ Q_HB
   have XA := am_ (Q_XA (hoff 21 kr_))
   have XB := am_ (Q_XB (hoff 21 kr_))
   have XG := am_ (Q_XG (hoff 21 kr_))
   have x0 := blk_cell XB.out 1
   refine value_ (w1 := w') (v := .slice B1 n_.keys.length d1) (by rfl) rfl ?_ ?_
   ·go_simp
    (try simp only [i64_w])
    try rfl
   refine hK.out _ _ ⟨g11, g17, g23, U12, k12, U18, k18, U24, k24, m6_, m7_, m12_, m13_, m18_, m19_, m20_, (by rw [ha.out]; exact putSel_upk 2 hb_ rfl rfl rfl), Q_HB, Q_XA, Q_XB, Q_XG, fo_ (hoff 21), fun h0_ _ => absurd ((hoff 6 kr_).symm.trans h0_) (by decide), fo_ (hoff 7), Q_S17, fo_ (hoff 13), Q_S23, fo_ (hoff 19), fo_ (hoff 6), fo_ (hoff 7), Q_X12_, fo_ (hoff 13), Q_X18_, fo_ (hoff 19), fo_ (hoff 20)⟩
  refine steps_cons ?_ ?_
  ·rintro b a w' ⟨g11, g17, g23, U12, k12, U18, k18, U24, k24, m6_, m7_, m12_, m13_, m18_, m19_, m20_, ha, Q_HB, Q_XA, Q_XB, Q_XG, Q_XS, Q_S11, Q_R12, Q_S17, Q_R18, Q_S23, Q_R24, Q_X6_, Q_X7_, Q_X12_, Q_X13_, Q_X18_, Q_X19_, Q_X20_⟩ hb_ hon hoff
   refine ⟨_, rfl, fun K hK => ?_⟩
   have e8 : a.tmps[8]? = some (.slice A1 m_.keys.length c1) := by rw [ha]; exact putSel_on (e := (3, 8, .slice A1 m_.keys.length c1)) 1 rfl rfl (hon 3 kr_) rfl
   have e10 : a.tmps[10]? = some (.slice B1 n_.keys.length d1) := by rw [ha]; exact putSel_on (e := (5, 10, .slice B1 n_.keys.length d1)) 2 rfl rfl (hon 5 kr_) rfl
   replace ha := am_ ha
   have HB := am_ Q_HB
   have XA := am_ (Q_XA (hoff 21 kr_))
   have XB := am_ (Q_XB (hoff 21 kr_))
   have XG := am_ (Q_XG (hoff 21 kr_))
   refine value_ (w1 := w'.alloc (.cells #[.slice A1 m_.keys.length c1, .slice B1 n_.keys.length d1] 22 (0, 0))) (v := .slice (some ⟨w'.heap.size, 0, none⟩) 2 2) (by rfl) rfl ?_ ?_
   ·go_simp
    try rfl
   refine hK.out _ _ ⟨w'.heap.size, g17, g23, U12, k12, U18, k18, U24, k24, (.slice (some ⟨w'.heap.size, 0, none⟩) 2 2), m7_, m12_, m13_, m18_, m19_, m20_, (by rw [ha.out]; exact putSel_upk 3 hb_ rfl rfl rfl), below_alloc HB.out (.cells #[.slice A1 m_.keys.length c1, .slice B1 n_.keys.length d1] 22 (0, 0)), fun _ => blk_alloc XA.out (.cells #[.slice A1 m_.keys.length c1, .slice B1 n_.keys.length d1] 22 (0, 0)), fun _ => blk_alloc XB.out (.cells #[.slice A1 m_.keys.length c1, .slice B1 n_.keys.length d1] 22 (0, 0)), fun _ => blk_alloc XG.out (.cells #[.slice A1 m_.keys.length c1, .slice B1 n_.keys.length d1] 22 (0, 0)), fo_ (hoff 21), fun _ _ => ⟨HB.out.size, blk_new w' (.cells #[.slice A1 m_.keys.length c1, .slice B1 n_.keys.length d1] 22 (0, 0))⟩, fo_ (hoff 7), fun h0_ h1_ => ⟨(Q_S17 h0_ h1_).1, blk_alloc (Q_S17 h0_ h1_).2 (.cells #[.slice A1 m_.keys.length c1, .slice B1 n_.keys.length d1] 22 (0, 0))⟩, fo_ (hoff 13), fun h0_ h1_ => ⟨(Q_S23 h0_ h1_).1, blk_alloc (Q_S23 h0_ h1_).2 (.cells #[.slice A1 m_.keys.length c1, .slice B1 n_.keys.length d1] 22 (0, 0))⟩, fo_ (hoff 19), fun _ => rfl, fo_ (hoff 7), Q_X12_, fo_ (hoff 13), Q_X18_, fo_ (hoff 19), fo_ (hoff 20)⟩
  refine steps_cons ?_ ?_
  ·rintro b a w' ⟨g11, g17, g23, U12, k12, U18, k18, U24, k24, m6_, m7_, m12_, m13_, m18_, m19_, m20_, ha, Q_HB, Q_XA, Q_XB, Q_XG, Q_XS, Q_S11, Q_R12, Q_S17, Q_R18, Q_S23, Q_R24, Q_X6_, Q_X7_, Q_X12_, Q_X13_, Q_X18_, Q_X19_, Q_X20_⟩ hb_ hon hoff
   refine ⟨_, rfl, fun K hK => ?_⟩
   have e11 : a.tmps[11]? = some (m6_) := by rw [ha]; exact putSel_on (e := (6, 11, m6_)) 3 rfl rfl (hon 6 kr_) rfl
   rw [Q_X6_ (hon 6 (by kernel_rfl))] at e11
   replace ha := am_ ha
   have HB := am_ Q_HB
   have XA := am_ (Q_XA (hoff 21 kr_))
   have XB := am_ (Q_XB (hoff 21 kr_))
   have XG := am_ (Q_XG (hoff 21 kr_))
   have S11 := am_ (Q_S11 (hon 6 kr_) (hoff 21 kr_))
   refine goes_ Tryz.func227 kr_ rfl #[.slice (some ⟨g11, 0, none⟩) 2 2] (by rfl) rfl rfl (by simp only [List.map_toArray, List.map_cons, List.map_nil, Act.eval, Array.getD_eq_getD_getElem?, Option.getD_some, e11]) ?_
   refine (concat_s w' g11 A1 c1 m_.keys B1 d1 n_.keys S11.out.2 (Kd.C_below CA1.out HB.out) KA1.out (Kd.C_below CB1.out HB.out) KB1.out LA1.out LB1.out).mono ?_
   rintro e w1 ⟨v, rfl, hr, hb⟩
   obtain ⟨U, k, rfl⟩ := Kd.R_slice hr
   refine ⟨_, rfl, ?_⟩
   refine hK.out _ _ ⟨g11, g17, g23, U, k, U18, k18, U24, k24, m6_, (.slice U (m_.keys ++ n_.keys).length k), m12_, m13_, m18_, m19_, m20_, (by rw [ha.out]; exact putSel_upk 4 hb_ rfl rfl rfl), below_then HB.out HB.out.size hb, fun _ => blk_below XA.out hb, fun _ => blk_below XB.out hb, fun _ => blk_below XG.out hb, fo_ (hoff 21), fun _ _ => ⟨S11.out.1, blk_below S11.out.2 hb⟩, fun _ => Kd.R_lower hr HB.out.size, fun h0_ h1_ => ⟨(Q_S17 h0_ h1_).1, blk_below (Q_S17 h0_ h1_).2 hb⟩, fo_ (hoff 13), fun h0_ h1_ => ⟨(Q_S23 h0_ h1_).1, blk_below (Q_S23 h0_ h1_).2 hb⟩, fo_ (hoff 19), Q_X6_, fun _ => rfl, Q_X12_, fo_ (hoff 13), Q_X18_, fo_ (hoff 19), fo_ (hoff 20)⟩
  refine steps_cons ?_ ?_
  ·rintro b a w' ⟨g11, g17, g23, U12, k12, U18, k18, U24, k24, m6_, m7_, m12_, m13_, m18_, m19_, m20_, ha, Q_HB, Q_XA, Q_XB, Q_XG, Q_XS, Q_S11, Q_R12, Q_S17, Q_R18, Q_S23, Q_R24, Q_X6_, Q_X7_, Q_X12_, Q_X13_, Q_X18_, Q_X19_, Q_X20_⟩ hb_ hon hoff
   refine ⟨_, rfl, fun K hK => ?_⟩
   have e13 : a.tmps[13]? = some (.pointer (some ⟨ga, 2, none⟩)) := by rw [ha]; exact (putSel_off rfl).trans rfl
   replace ha := am_ ha
   have HB := am_ Q_HB
   have XA := am_ (Q_XA (hoff 21 kr_))
   have XB := am_ (Q_XB (hoff 21 kr_))
   have XG := am_ (Q_XG (hoff 21 kr_))
   have x0 := blk_cell XA.out 2
   refine value_ (w1 := w') (v := .slice A2 m_.vals.length c2) (by rfl) rfl ?_ ?_
   ·go_simp
    (try simp only [i64_w])
    try rfl
   refine hK.out _ _ ⟨g11, g17, g23, U12, k12, U18, k18, U24, k24, m6_, m7_, m12_, m13_, m18_, m19_, m20_, (by rw [ha.out]; exact putSel_upk 5 hb_ rfl rfl rfl), Q_HB, Q_XA, Q_XB, Q_XG, fo_ (hoff 21), Q_S11, Q_R12, fun h0_ _ => absurd ((hoff 12 kr_).symm.trans h0_) (by decide), fo_ (hoff 13), Q_S23, fo_ (hoff 19), Q_X6_, Q_X7_, fo_ (hoff 12), fo_ (hoff 13), Q_X18_, fo_ (hoff 19), fo_ (hoff 20)⟩
  refine steps_cons ?_ ?_
  ·rintro b a w' ⟨g11, g17, g23, U12, k12, U18, k18, U24, k24, m6_, m7_, m12_, m13_, m18_, m19_, m20_, ha, Q_HB, Q_XA, Q_XB, Q_XG, Q_XS, Q_S11, Q_R12, Q_S17, Q_R18, Q_S23, Q_R24, Q_X6_, Q_X7_, Q_X12_, Q_X13_, Q_X18_, Q_X19_, Q_X20_⟩ hb_ hon hoff
   refine ⟨_, rfl, fun K hK => ?_⟩
   have e15 : a.tmps[15]? = some (.pointer (some ⟨gb, 2, none⟩)) := by rw [ha]; exact (putSel_off rfl).trans rfl
   replace ha := am_ ha
   have HB := am_ Q_HB
   have XA := am_ (Q_XA (hoff 21 kr_))
   have XB := am_ (Q_XB (hoff 21 kr_))
   have XG := am_ (Q_XG (hoff 21 kr_))
   have x0 := blk_cell XB.out 2
   refine value_ (w1 := w') (v := .slice B2 n_.vals.length d2) (by rfl) rfl ?_ ?_
   ·go_simp
    (try simp only [i64_w])
    try rfl
   refine hK.out _ _ ⟨g11, g17, g23, U12, k12, U18, k18, U24, k24, m6_, m7_, m12_, m13_, m18_, m19_, m20_, (by rw [ha.out]; exact putSel_upk 6 hb_ rfl rfl rfl), Q_HB, Q_XA, Q_XB, Q_XG, fo_ (hoff 21), Q_S11, Q_R12, fun h0_ _ => absurd ((hoff 12 kr_).symm.trans h0_) (by decide), fo_ (hoff 13), Q_S23, fo_ (hoff 19), Q_X6_, Q_X7_, fo_ (hoff 12), fo_ (hoff 13), Q_X18_, fo_ (hoff 19), fo_ (hoff 20)⟩
  refine steps_cons ?_ ?_
  ·rintro b a w' ⟨g11, g17, g23, U12, k12, U18, k18, U24, k24, m6_, m7_, m12_, m13_, m18_, m19_, m20_, ha, Q_HB, Q_XA, Q_XB, Q_XG, Q_XS, Q_S11, Q_R12, Q_S17, Q_R18, Q_S23, Q_R24, Q_X6_, Q_X7_, Q_X12_, Q_X13_, Q_X18_, Q_X19_, Q_X20_⟩ hb_ hon hoff
   refine ⟨_, rfl, fun K hK => ?_⟩
   have e14 : a.tmps[14]? = some (.slice A2 m_.vals.length c2) := by rw [ha]; exact putSel_on (e := (9, 14, .slice A2 m_.vals.length c2)) 5 rfl rfl (hon 9 kr_) rfl
   have e16 : a.tmps[16]? = some (.slice B2 n_.vals.length d2) := by rw [ha]; exact putSel_on (e := (11, 16, .slice B2 n_.vals.length d2)) 6 rfl rfl (hon 11 kr_) rfl
   replace ha := am_ ha
   have HB := am_ Q_HB
   have XA := am_ (Q_XA (hoff 21 kr_))
   have XB := am_ (Q_XB (hoff 21 kr_))
   have XG := am_ (Q_XG (hoff 21 kr_))
   refine value_ (w1 := w'.alloc (.cells #[.slice A2 m_.vals.length c2, .slice B2 n_.vals.length d2] 22 (0, 0))) (v := .slice (some ⟨w'.heap.size, 0, none⟩) 2 2) (by rfl) rfl ?_ ?_
   ·go_simp
    try rfl
   refine hK.out _ _ ⟨g11, w'.heap.size, g23, U12, k12, U18, k18, U24, k24, m6_, m7_, (.slice (some ⟨w'.heap.size, 0, none⟩) 2 2), m13_, m18_, m19_, m20_, (by rw [ha.out]; exact putSel_upk 7 hb_ rfl rfl rfl), below_alloc HB.out (.cells #[.slice A2 m_.vals.length c2, .slice B2 n_.vals.length d2] 22 (0, 0)), fun _ => blk_alloc XA.out (.cells #[.slice A2 m_.vals.length c2, .slice B2 n_.vals.length d2] 22 (0, 0)), fun _ => blk_alloc XB.out (.cells #[.slice A2 m_.vals.length c2, .slice B2 n_.vals.length d2] 22 (0, 0)), fun _ => blk_alloc XG.out (.cells #[.slice A2 m_.vals.length c2, .slice B2 n_.vals.length d2] 22 (0, 0)), fo_ (hoff 21), fun h0_ h1_ => ⟨(Q_S11 h0_ h1_).1, blk_alloc (Q_S11 h0_ h1_).2 (.cells #[.slice A2 m_.vals.length c2, .slice B2 n_.vals.length d2] 22 (0, 0))⟩, fun h0_ => Kd.R_alloc (Q_R12 h0_) _, fun _ _ => ⟨HB.out.size, blk_new w' (.cells #[.slice A2 m_.vals.length c2, .slice B2 n_.vals.length d2] 22 (0, 0))⟩, fo_ (hoff 13), fun h0_ h1_ => ⟨(Q_S23 h0_ h1_).1, blk_alloc (Q_S23 h0_ h1_).2 (.cells #[.slice A2 m_.vals.length c2, .slice B2 n_.vals.length d2] 22 (0, 0))⟩, fo_ (hoff 19), Q_X6_, Q_X7_, fun _ => rfl, fo_ (hoff 13), Q_X18_, fo_ (hoff 19), fo_ (hoff 20)⟩
  refine steps_cons ?_ ?_
  ·rintro b a w' ⟨g11, g17, g23, U12, k12, U18, k18, U24, k24, m6_, m7_, m12_, m13_, m18_, m19_, m20_, ha, Q_HB, Q_XA, Q_XB, Q_XG, Q_XS, Q_S11, Q_R12, Q_S17, Q_R18, Q_S23, Q_R24, Q_X6_, Q_X7_, Q_X12_, Q_X13_, Q_X18_, Q_X19_, Q_X20_⟩ hb_ hon hoff
   refine ⟨_, rfl, fun K hK => ?_⟩
   have e17 : a.tmps[17]? = some (m12_) := by rw [ha]; exact putSel_on (e := (12, 17, m12_)) 7 rfl rfl (hon 12 kr_) rfl
   rw [Q_X12_ (hon 12 (by kernel_rfl))] at e17
   replace ha := am_ ha
   have HB := am_ Q_HB
   have XA := am_ (Q_XA (hoff 21 kr_))
   have XB := am_ (Q_XB (hoff 21 kr_))
   have XG := am_ (Q_XG (hoff 21 kr_))
   have S11 := am_ (Q_S11 (hon 6 kr_) (hoff 21 kr_))
   have R12 := am_ (Q_R12 (hon 7 kr_))
   have S17 := am_ (Q_S17 (hon 12 kr_) (hoff 21 kr_))
   refine goes_ Tryz.func227 kr_ rfl #[.slice (some ⟨g17, 0, none⟩) 2 2] (by rfl) rfl rfl (by simp only [List.map_toArray, List.map_cons, List.map_nil, Act.eval, Array.getD_eq_getD_getElem?, Option.getD_some, e17]) ?_
   refine (concat_s w' g17 A2 c2 m_.vals B2 d2 n_.vals S17.out.2 (Kd.C_below CA2.out HB.out) KA2.out (Kd.C_below CB2.out HB.out) KB2.out LA2.out LB2.out).mono ?_
   rintro e w1 ⟨v, rfl, hr, hb⟩
   obtain ⟨U, k, rfl⟩ := Kd.R_slice hr
   refine ⟨_, rfl, ?_⟩
   refine hK.out _ _ ⟨g11, g17, g23, U12, k12, U, k, U24, k24, m6_, m7_, m12_, (.slice U (m_.vals ++ n_.vals).length k), m18_, m19_, m20_, (by rw [ha.out]; exact putSel_upk 8 hb_ rfl rfl rfl), below_then HB.out HB.out.size hb, fun _ => blk_below XA.out hb, fun _ => blk_below XB.out hb, fun _ => blk_below XG.out hb, fo_ (hoff 21), fun _ _ => ⟨S11.out.1, blk_below S11.out.2 hb⟩, fun _ => Kd.R_below R12.out hb, fun _ _ => ⟨S17.out.1, blk_below S17.out.2 hb⟩, fun _ => Kd.R_lower hr HB.out.size, fun h0_ h1_ => ⟨(Q_S23 h0_ h1_).1, blk_below (Q_S23 h0_ h1_).2 hb⟩, fo_ (hoff 19), Q_X6_, Q_X7_, Q_X12_, fun _ => rfl, Q_X18_, fo_ (hoff 19), fo_ (hoff 20)⟩
  refine steps_cons ?_ ?_
  ·rintro b a w' ⟨g11, g17, g23, U12, k12, U18, k18, U24, k24, m6_, m7_, m12_, m13_, m18_, m19_, m20_, ha, Q_HB, Q_XA, Q_XB, Q_XG, Q_XS, Q_S11, Q_R12, Q_S17, Q_R18, Q_S23, Q_R24, Q_X6_, Q_X7_, Q_X12_, Q_X13_, Q_X18_, Q_X19_, Q_X20_⟩ hb_ hon hoff
   refine ⟨_, rfl, fun K hK => ?_⟩
   have e19 : a.tmps[19]? = some (.pointer (some ⟨ga, 3, none⟩)) := by rw [ha]; exact (putSel_off rfl).trans rfl
   replace ha := am_ ha
   have HB := am_ Q_HB
   have XA := am_ (Q_XA (hoff 21 kr_))
   have XB := am_ (Q_XB (hoff 21 kr_))
   have XG := am_ (Q_XG (hoff 21 kr_))
   have x0 := blk_cell XA.out 3
   refine value_ (w1 := w') (v := .slice A3 m_.kids.length c3) (by rfl) rfl ?_ ?_
   ·go_simp
    (try simp only [i64_w])
    try rfl
   refine hK.out _ _ ⟨g11, g17, g23, U12, k12, U18, k18, U24, k24, m6_, m7_, m12_, m13_, m18_, m19_, m20_, (by rw [ha.out]; exact putSel_upk 9 hb_ rfl rfl rfl), Q_HB, Q_XA, Q_XB, Q_XG, fo_ (hoff 21), Q_S11, Q_R12, Q_S17, Q_R18, fun h0_ _ => absurd ((hoff 18 kr_).symm.trans h0_) (by decide), fo_ (hoff 19), Q_X6_, Q_X7_, Q_X12_, Q_X13_, fo_ (hoff 18), fo_ (hoff 19), fo_ (hoff 20)⟩
  refine steps_cons ?_ ?_
  ·rintro b a w' ⟨g11, g17, g23, U12, k12, U18, k18, U24, k24, m6_, m7_, m12_, m13_, m18_, m19_, m20_, ha, Q_HB, Q_XA, Q_XB, Q_XG, Q_XS, Q_S11, Q_R12, Q_S17, Q_R18, Q_S23, Q_R24, Q_X6_, Q_X7_, Q_X12_, Q_X13_, Q_X18_, Q_X19_, Q_X20_⟩ hb_ hon hoff
   refine ⟨_, rfl, fun K hK => ?_⟩
   have e21 : a.tmps[21]? = some (.pointer (some ⟨gb, 3, none⟩)) := by rw [ha]; exact (putSel_off rfl).trans rfl
   replace ha := am_ ha
   have HB := am_ Q_HB
   have XA := am_ (Q_XA (hoff 21 kr_))
   have XB := am_ (Q_XB (hoff 21 kr_))
   have XG := am_ (Q_XG (hoff 21 kr_))
   have x0 := blk_cell XB.out 3
   refine value_ (w1 := w') (v := .slice B3 n_.kids.length d3) (by rfl) rfl ?_ ?_
   ·go_simp
    (try simp only [i64_w])
    try rfl
   refine hK.out _ _ ⟨g11, g17, g23, U12, k12, U18, k18, U24, k24, m6_, m7_, m12_, m13_, m18_, m19_, m20_, (by rw [ha.out]; exact putSel_upk 10 hb_ rfl rfl rfl), Q_HB, Q_XA, Q_XB, Q_XG, fo_ (hoff 21), Q_S11, Q_R12, Q_S17, Q_R18, fun h0_ _ => absurd ((hoff 18 kr_).symm.trans h0_) (by decide), fo_ (hoff 19), Q_X6_, Q_X7_, Q_X12_, Q_X13_, fo_ (hoff 18), fo_ (hoff 19), fo_ (hoff 20)⟩
  refine steps_cons ?_ ?_
  ·rintro b a w' ⟨g11, g17, g23, U12, k12, U18, k18, U24, k24, m6_, m7_, m12_, m13_, m18_, m19_, m20_, ha, Q_HB, Q_XA, Q_XB, Q_XG, Q_XS, Q_S11, Q_R12, Q_S17, Q_R18, Q_S23, Q_R24, Q_X6_, Q_X7_, Q_X12_, Q_X13_, Q_X18_, Q_X19_, Q_X20_⟩ hb_ hon hoff
   refine ⟨_, rfl, fun K hK => ?_⟩
   have e20 : a.tmps[20]? = some (.slice A3 m_.kids.length c3) := by rw [ha]; exact putSel_on (e := (15, 20, .slice A3 m_.kids.length c3)) 9 rfl rfl (hon 15 kr_) rfl
   have e22 : a.tmps[22]? = some (.slice B3 n_.kids.length d3) := by rw [ha]; exact putSel_on (e := (17, 22, .slice B3 n_.kids.length d3)) 10 rfl rfl (hon 17 kr_) rfl
   replace ha := am_ ha
   have HB := am_ Q_HB
   have XA := am_ (Q_XA (hoff 21 kr_))
   have XB := am_ (Q_XB (hoff 21 kr_))
   have XG := am_ (Q_XG (hoff 21 kr_))
   refine value_ (w1 := w'.alloc (.cells #[.slice A3 m_.kids.length c3, .slice B3 n_.kids.length d3] 84 (0, 0))) (v := .slice (some ⟨w'.heap.size, 0, none⟩) 2 2) (by rfl) rfl ?_ ?_
   ·go_simp
    try rfl
   refine hK.out _ _ ⟨g11, g17, w'.heap.size, U12, k12, U18, k18, U24, k24, m6_, m7_, m12_, m13_, (.slice (some ⟨w'.heap.size, 0, none⟩) 2 2), m19_, m20_, (by rw [ha.out]; exact putSel_upk 11 hb_ rfl rfl rfl), below_alloc HB.out (.cells #[.slice A3 m_.kids.length c3, .slice B3 n_.kids.length d3] 84 (0, 0)), fun _ => blk_alloc XA.out (.cells #[.slice A3 m_.kids.length c3, .slice B3 n_.kids.length d3] 84 (0, 0)), fun _ => blk_alloc XB.out (.cells #[.slice A3 m_.kids.length c3, .slice B3 n_.kids.length d3] 84 (0, 0)), fun _ => blk_alloc XG.out (.cells #[.slice A3 m_.kids.length c3, .slice B3 n_.kids.length d3] 84 (0, 0)), fo_ (hoff 21), fun h0_ h1_ => ⟨(Q_S11 h0_ h1_).1, blk_alloc (Q_S11 h0_ h1_).2 (.cells #[.slice A3 m_.kids.length c3, .slice B3 n_.kids.length d3] 84 (0, 0))⟩, fun h0_ => Kd.R_alloc (Q_R12 h0_) _, fun h0_ h1_ => ⟨(Q_S17 h0_ h1_).1, blk_alloc (Q_S17 h0_ h1_).2 (.cells #[.slice A3 m_.kids.length c3, .slice B3 n_.kids.length d3] 84 (0, 0))⟩, fun h0_ => Kd.R_alloc (Q_R18 h0_) _, fun _ _ => ⟨HB.out.size, blk_new w' (.cells #[.slice A3 m_.kids.length c3, .slice B3 n_.kids.length d3] 84 (0, 0))⟩, fo_ (hoff 19), Q_X6_, Q_X7_, Q_X12_, Q_X13_, fun _ => rfl, fo_ (hoff 19), fo_ (hoff 20)⟩
  refine steps_cons ?_ ?_
  ·rintro b a w' ⟨g11, g17, g23, U12, k12, U18, k18, U24, k24, m6_, m7_, m12_, m13_, m18_, m19_, m20_, ha, Q_HB, Q_XA, Q_XB, Q_XG, Q_XS, Q_S11, Q_R12, Q_S17, Q_R18, Q_S23, Q_R24, Q_X6_, Q_X7_, Q_X12_, Q_X13_, Q_X18_, Q_X19_, Q_X20_⟩ hb_ hon hoff
   refine ⟨_, rfl, fun K hK => ?_⟩
   have e23 : a.tmps[23]? = some (m18_) := by rw [ha]; exact putSel_on (e := (18, 23, m18_)) 11 rfl rfl (hon 18 kr_) rfl
   rw [Q_X18_ (hon 18 (by kernel_rfl))] at e23
   replace ha := am_ ha
   have HB := am_ Q_HB
   have XA := am_ (Q_XA (hoff 21 kr_))
   have XB := am_ (Q_XB (hoff 21 kr_))
   have XG := am_ (Q_XG (hoff 21 kr_))
   have S11 := am_ (Q_S11 (hon 6 kr_) (hoff 21 kr_))
   have R12 := am_ (Q_R12 (hon 7 kr_))
   have S17 := am_ (Q_S17 (hon 12 kr_) (hoff 21 kr_))
   have R18 := am_ (Q_R18 (hon 13 kr_))
   have S23 := am_ (Q_S23 (hon 18 kr_) (hoff 21 kr_))
   refine goes_ Tryz.func228 kr_ rfl #[.slice (some ⟨g23, 0, none⟩) 2 2] (by rfl) rfl rfl (by simp only [List.map_toArray, List.map_cons, List.map_nil, Act.eval, Array.getD_eq_getD_getElem?, Option.getD_some, e23]) ?_
   refine (concat_i w' g23 A3 c3 m_.kids B3 d3 n_.kids S23.out.2 (Kd.C_below CA3.out HB.out) KA3.out (Kd.C_below CB3.out HB.out) KB3.out LA3.out LB3.out).mono ?_
   rintro e w1 ⟨v, rfl, hr, hb⟩
   obtain ⟨U, k, rfl⟩ := Kd.R_slice hr
   refine ⟨_, rfl, ?_⟩
   refine hK.out _ _ ⟨g11, g17, g23, U12, k12, U18, k18, U, k, m6_, m7_, m12_, m13_, m18_, (.slice U (m_.kids ++ n_.kids).length k), m20_, (by rw [ha.out]; exact putSel_upk 12 hb_ rfl rfl rfl), below_then HB.out HB.out.size hb, fun _ => blk_below XA.out hb, fun _ => blk_below XB.out hb, fun _ => blk_below XG.out hb, fo_ (hoff 21), fun _ _ => ⟨S11.out.1, blk_below S11.out.2 hb⟩, fun _ => Kd.R_below R12.out hb, fun _ _ => ⟨S17.out.1, blk_below S17.out.2 hb⟩, fun _ => Kd.R_below R18.out hb, fun _ _ => ⟨S23.out.1, blk_below S23.out.2 hb⟩, fun _ => Kd.R_lower hr HB.out.size, Q_X6_, Q_X7_, Q_X12_, Q_X13_, Q_X18_, fun _ => rfl, fo_ (hoff 20)⟩
  refine steps_cons ?_ ?_
  ·rintro b a w' ⟨g11, g17, g23, U12, k12, U18, k18, U24, k24, m6_, m7_, m12_, m13_, m18_, m19_, m20_, ha, Q_HB, Q_XA, Q_XB, Q_XG, Q_XS, Q_S11, Q_R12, Q_S17, Q_R18, Q_S23, Q_R24, Q_X6_, Q_X7_, Q_X12_, Q_X13_, Q_X18_, Q_X19_, Q_X20_⟩ hb_ hon hoff
   refine ⟨_, rfl, fun K hK => ?_⟩
   have e6 : a.tmps[6]? = some (.int .i64 m_.kind) := by rw [ha]; exact putSel_on (e := (1, 6, .int .i64 m_.kind)) 0 rfl rfl (hon 1 kr_) rfl
   have e12 : a.tmps[12]? = some (m7_) := by rw [ha]; exact putSel_on (e := (7, 12, m7_)) 4 rfl rfl (hon 7 kr_) rfl
   rw [Q_X7_ (hon 7 (by kernel_rfl))] at e12
   have e18 : a.tmps[18]? = some (m13_) := by rw [ha]; exact putSel_on (e := (13, 18, m13_)) 8 rfl rfl (hon 13 kr_) rfl
   rw [Q_X13_ (hon 13 (by kernel_rfl))] at e18
   have e24 : a.tmps[24]? = some (m19_) := by rw [ha]; exact putSel_on (e := (19, 24, m19_)) 12 rfl rfl (hon 19 kr_) rfl
   rw [Q_X19_ (hon 19 (by kernel_rfl))] at e24
   replace ha := am_ ha
   have HB := am_ Q_HB
   have XA := am_ (Q_XA (hoff 21 kr_))
   have XB := am_ (Q_XB (hoff 21 kr_))
   have XG := am_ (Q_XG (hoff 21 kr_))
   have S11 := am_ (Q_S11 (hon 6 kr_) (hoff 21 kr_))
   have R12 := am_ (Q_R12 (hon 7 kr_))
   have S17 := am_ (Q_S17 (hon 12 kr_) (hoff 21 kr_))
   have R18 := am_ (Q_R18 (hon 13 kr_))
   have S23 := am_ (Q_S23 (hon 18 kr_) (hoff 21 kr_))
   have R24 := am_ (Q_R24 (hon 19 kr_))
   refine value_ (w1 := w') (v := .agg #[.int .i64 m_.kind, .slice U12 (m_.keys ++ n_.keys).length k12, .slice U18 (m_.vals ++ n_.vals).length k18, .slice U24 (m_.kids ++ n_.kids).length k24]) (by rfl) rfl ?_ ?_
   ·go_simp
    (try simp only [i64_w])
    try rfl
   refine hK.out _ _ ⟨g11, g17, g23, U12, k12, U18, k18, U24, k24, m6_, m7_, m12_, m13_, m18_, m19_, (.agg #[.int .i64 m_.kind, .slice U12 (m_.keys ++ n_.keys).length k12, .slice U18 (m_.vals ++ n_.vals).length k18, .slice U24 (m_.kids ++ n_.kids).length k24]), (by rw [ha.out]; exact putSel_upk 13 hb_ rfl rfl rfl), Q_HB, Q_XA, Q_XB, Q_XG, fo_ (hoff 21), Q_S11, Q_R12, Q_S17, Q_R18, Q_S23, Q_R24, Q_X6_, Q_X7_, Q_X12_, Q_X13_, Q_X18_, Q_X19_, fun _ => rfl⟩
  refine steps_cons ?_ ?_
  ·rintro b a w' ⟨g11, g17, g23, U12, k12, U18, k18, U24, k24, m6_, m7_, m12_, m13_, m18_, m19_, m20_, ha, Q_HB, Q_XA, Q_XB, Q_XG, Q_XS, Q_S11, Q_R12, Q_S17, Q_R18, Q_S23, Q_R24, Q_X6_, Q_X7_, Q_X12_, Q_X13_, Q_X18_, Q_X19_, Q_X20_⟩ hb_ hon hoff
   refine ⟨_, rfl, fun K hK => ?_⟩
   have e4 : a.tmps[4]? = some (.pointer (some ⟨g, 0, none⟩)) := by rw [ha]; exact (putSel_off rfl).trans rfl
   have e25 : a.tmps[25]? = some (m20_) := by rw [ha]; exact putSel_on (e := (20, 25, m20_)) 13 rfl rfl (hon 20 kr_) rfl
   rw [Q_X20_ (hon 20 (by kernel_rfl))] at e25
   replace ha := am_ ha
   have HB := am_ Q_HB
   have XA := am_ (Q_XA hb_)
   have XB := am_ (Q_XB hb_)
   have XG := am_ (Q_XG hb_)
   have S11 := am_ (Q_S11 (hon 6 kr_) hb_)
   have R12 := am_ (Q_R12 (hon 7 kr_))
   have S17 := am_ (Q_S17 (hon 12 kr_) hb_)
   have R18 := am_ (Q_R18 (hon 13 kr_))
   have S23 := am_ (Q_S23 (hon 18 kr_) hb_)
   have R24 := am_ (Q_R24 (hon 19 kr_))
   have q0 := blk_cell XG.out 0
   have q1 := blk_cell XG.out 1
   have q2 := blk_cell XG.out 2
   have q3 := blk_cell XG.out 3
   have z0 := blk_frozen XG.out 0
   have z1 := blk_frozen XG.out 1
   have z2 := blk_frozen XG.out 2
   have z3 := blk_frozen XG.out 3
   refine skip_ (w1 := ((((w'.setCell ⟨g, 0, none⟩ (.int .i64 m_.kind)).setCell ⟨g, 1, none⟩ (.slice U12 (m_.keys ++ n_.keys).length k12)).setCell ⟨g, 2, none⟩ (.slice U18 (m_.vals ++ n_.vals).length k18)).setCell ⟨g, 3, none⟩ (.slice U24 (m_.kids ++ n_.kids).length k24))) (by rfl) rfl ?_ ?_
   ·go_simp
    try rfl
   refine hK.out _ _ ⟨g11, g17, g23, U12, k12, U18, k18, U24, k24, m6_, m7_, m12_, m13_, m18_, m19_, m20_, (by rw [ha.out]; exact putSel_none (v := undef) rfl), (below_set (below_set (below_set (below_set HB.out HG.out) HG.out) HG.out) HG.out), fun h0_ => absurd ((up_self b 21).symm.trans h0_) (by decide), fun h0_ => absurd ((up_self b 21).symm.trans h0_) (by decide), fun h0_ => absurd ((up_self b 21).symm.trans h0_) (by decide), fun _ => (blk_put (blk_put (blk_put (blk_put XG.out 0 _ rfl) 1 _ rfl) 2 _ rfl) 3 _ rfl), fun _ h1_ => absurd ((up_self b 21).symm.trans h1_) (by decide), fun _ => (Kd.R_set (Kd.R_set (Kd.R_set (Kd.R_set R12.out XG.out HTS.out 0 _) (blk_set XG.out 0 _) HTS.out 1 _) (blk_set (blk_set XG.out 0 _) 1 _) HTS.out 2 _) (blk_set (blk_set (blk_set XG.out 0 _) 1 _) 2 _) HTS.out 3 _), fun _ h1_ => absurd ((up_self b 21).symm.trans h1_) (by decide), fun _ => (Kd.R_set (Kd.R_set (Kd.R_set (Kd.R_set R18.out XG.out HTS.out 0 _) (blk_set XG.out 0 _) HTS.out 1 _) (blk_set (blk_set XG.out 0 _) 1 _) HTS.out 2 _) (blk_set (blk_set (blk_set XG.out 0 _) 1 _) 2 _) HTS.out 3 _), fun _ h1_ => absurd ((up_self b 21).symm.trans h1_) (by decide), fun _ => (Kd.R_set (Kd.R_set (Kd.R_set (Kd.R_set R24.out XG.out HTI.out 0 _) (blk_set XG.out 0 _) HTI.out 1 _) (blk_set (blk_set XG.out 0 _) 1 _) HTI.out 2 _) (blk_set (blk_set (blk_set XG.out 0 _) 1 _) 2 _) HTI.out 3 _), Q_X6_, Q_X7_, Q_X12_, Q_X13_, Q_X18_, Q_X19_, Q_X20_⟩
  exact steps_nil
 ·rintro b a w' hall ⟨g11, g17, g23, U12, k12, U18, k18, U24, k24, m6_, m7_, m12_, m13_, m18_, m19_, m20_, ha, Q_HB, Q_XA, Q_XB, Q_XG, Q_XS, Q_S11, Q_R12, Q_S17, Q_R18, Q_S23, Q_R24, Q_X6_, Q_X7_, Q_X12_, Q_X13_, Q_X18_, Q_X19_, Q_X20_⟩
  clear HB XA XB XG
  have hb1_ := hall 1 kr_
  have hb3_ := hall 3 kr_
  have hb5_ := hall 5 kr_
  have hb6_ := hall 6 kr_
  have hb7_ := hall 7 kr_
  have hb9_ := hall 9 kr_
  have hb11_ := hall 11 kr_
  have hb12_ := hall 12 kr_
  have hb13_ := hall 13 kr_
  have hb15_ := hall 15 kr_
  have hb17_ := hall 17 kr_
  have hb18_ := hall 18 kr_
  have hb19_ := hall 19 kr_
  have hb20_ := hall 20 kr_
  have hb21_ := hall 21 kr_
  subst ha
  obtain rfl := Q_X6_ hb6_
  obtain rfl := Q_X7_ hb7_
  obtain rfl := Q_X12_ hb12_
  obtain rfl := Q_X13_ hb13_
  obtain rfl := Q_X18_ hb18_
  obtain rfl := Q_X19_ hb19_
  obtain rfl := Q_X20_ hb20_
  simp only [putSel, hb1_, hb3_, hb5_, hb6_, hb7_, hb9_, hb11_, hb12_, hb13_, hb15_, hb17_, hb18_, hb19_, hb20_, hb21_, if_true, Act.put, List.setIfInBounds_toArray, List.set_cons_zero, List.set_cons_succ]
  have HB := am_ Q_HB
  clear Q_HB
  clear Q_XA
  clear Q_XB
  clear Q_XG
  have XS := am_ (Q_XS hb21_)
  clear Q_XS
  clear Q_S11
  have R12 := am_ (Q_R12 hb7_)
  clear Q_R12
  clear Q_S17
  have R18 := am_ (Q_R18 hb13_)
  clear Q_R18
  clear Q_S23
  have R24 := am_ (Q_R24 hb19_)
  clear Q_R24
  clear hall hb1_ hb3_ hb5_ hb6_ hb7_ hb9_ hb11_ hb12_ hb13_ hb15_ hb17_ hb18_ hb19_ hb20_ hb21_
  go_wp2_with fail
  refine bodyPost_ret (results_single rfl (.cell g 149 #[.int .i64 m_.kind, .slice U12 (m_.keys ++ n_.keys).length k12, .slice U18 (m_.vals ++ n_.vals).length k18, .slice U24 (m_.kids ++ n_.kids).length k24] (0, 0) _ rfl XS.out rfl rfl rfl .nil)) rfl ?_
  refine ⟨_, rfl, ⟨_, _, _, rfl, ?_, ?_, ?_⟩, HB.out⟩
  ·exact Kd.R_lower R12.out HBs.out
  ·exact Kd.R_lower R18.out HBs.out
  ·exact Kd.R_lower R24.out HBs.out
end Go.Proofs.YtendgmblgdkiaaaGreat

namespace Go.Proofs.YtendgmblgdkiaaaGreat
open Go.RowKit
open Go.Proofs.YtendgmblgdkiaaaGreatW
open PrintWords PrintLast PrintMore
set_option linter.unusedVariables false
set_option linter.unusedSimpArgs false

theorem kid_cell {w : World} {ad : Addr} {ps : List Pt} (hC : Kd.C (Kd.int .i64) w (some ad) (branchOf ps).kids.length (branchOf ps).kids) {i : Nat} {p : Pt} (hi : ps[i]? = some p) : w.cell? (ad.add i) = some (.int .i64 (p.c : Int)) := by
 obtain ⟨hl, he⟩ := List.getElem?_eq_some_iff.1 hi
 have hlen : (branchOf ps).kids.length = ps.length := List.length_map _
 obtain ⟨ad', c, e, hcl, hcK, hcc⟩ := Kd.C_get hC 0 (i : Int) om_ om_
 cases e
 have hkd : (branchOf ps).kids.getD i 0 = (p.c : Int) := by
  simp [branchOf, List.getD_eq_getElem?_getD, hi]
 have hK : c = [.int .i64 (p.c : Int)] := by
  simp only [Kd.int, Kd.scalar, Int.toNat_natCast, hkd] at hcK
  exact hcK
 have := hcc 0 (.int .i64 (p.c : Int)) (by rw [hK]; rfl)
 simpa [Kd.int, Kd.scalar] using this
end Go.Proofs.YtendgmblgdkiaaaGreat

namespace Go.Proofs.YtendgmblgdkiaaaGreat
open Go.RowKit
open Go.Proofs.YtendgmblgdkiaaaGreatW
open PrintWords PrintLast PrintMore
set_option linter.unusedVariables false
set_option linter.unusedSimpArgs false

theorem join_cn {P : List Pg} {l : Nat} {a b : Nd} {A B : List KV} (ha : Cn P l a A) (hb : Cn P l b B) : Cn P l (a.join b) (A ++ B) := by
 match l, ha, hb with
 | 1, ha, hb =>
  have ha : a = leafOf A := ha
  have hb : b = leafOf B := hb
  subst ha
  subst hb
  show _ = _
  simp [Nd.join, leafOf]
 | l + 2, ha, hb =>
  obtain ⟨ps, rfl, rfl, h3, h4⟩ := ha
  obtain ⟨qs, rfl, rfl, h5, h6⟩ := hb
  refine ⟨ps ++ qs, by simp [Nd.join, branchOf], (kvsOf_app ps qs).symm, by intro e; exact h3 (List.append_eq_nil_iff.1 e).1, fun p hp => ?_⟩
  rcases List.mem_append.1 hp with h | h
  ·exact h4 p h
  ·exact h6 p h
theorem join_S {P : List Pg} {l : Nat} {a b : Nd} {A B : List KV} (ha : Cn P l a A) (hb : Cn P l b B) : (a.join b).S (a.join b).keys.length = a.S a.keys.length + b.S b.keys.length := by
 match l, ha, hb with
 | 1, ha, hb =>
  have ha : a = leafOf A := ha
  have hb : b = leafOf B := hb
  subst ha
  subst hb
  have e : (leafOf A).join (leafOf B) = leafOf (A ++ B) := by simp [Nd.join, leafOf]
  have hl : ∀ l : List KV, (leafOf l).keys.length = l.length := fun l => by simp [leafOf]
  rw [e, hl, hl, hl, leaf_S _ _ (Nat.le_refl _), leaf_S _ _ (Nat.le_refl _), leaf_S _ _ (Nat.le_refl _), List.take_length, List.take_length, List.take_length, List.map_append, List.sum_append]
 | l + 2, ha, hb =>
  obtain ⟨ps, rfl, rfl, h3, h4⟩ := ha
  obtain ⟨qs, rfl, rfl, h5, h6⟩ := hb
  have e : (branchOf ps).join (branchOf qs) = branchOf (ps ++ qs) := by simp [Nd.join, branchOf]
  have hl : ∀ l : List Pt, (branchOf l).keys.length = l.length := fun l => by simp [branchOf]
  rw [e, hl, hl, hl, branch_S _ _ (Nat.le_refl _), branch_S _ _ (Nat.le_refl _), branch_S _ _ (Nat.le_refl _), List.take_length, List.take_length, List.take_length, List.map_append, List.sum_append]
theorem join_ok {P : List Pg} {l : Nat} {a b : Nd} {A B : List KV} (ha : Cn P l a A) (hb : Cn P l b B) (hG : Good (A ++ B)) (hP : P.length ≤ 100000) (hm : a.S a.keys.length + b.S b.keys.length ≤ 340) (hf : a.keys.length + b.keys.length < 128) : Cn P l (a.join b) (A ++ B) ∧ (a.join b).Short := by
 have hc := join_cn ha hb
 have hl : (a.join b).keys.length = a.keys.length + b.keys.length := List.length_append
 have ho := cn_ok hc hG hP om_
 exact ⟨hc, ho.fine, ho.shape, ho.ent, by rw [join_S ha hb]; exact hm, by omega⟩
theorem short_one {n : Nd} (h : n.Short) (h1 : n.keys.length ≤ 1) : n.S n.keys.length ≤ 50 := by
 rcases Nat.eq_zero_or_pos n.keys.length with h0 | h0
 ·rw [h0, Nd.S_zero]; omega
 ·have e : n.keys.length = 0 + 1 := by omega
  rw [e, Nd.S_succ, Nd.S_zero]
  have := h.ent 0 h0
  omega
theorem shape_lens {n : Nd} (h : n.Shape) (hk : n.keys.length ≤ 1000) : n.keys.length ≤ 1000 ∧ n.vals.length ≤ 1000 ∧ n.kids.length ≤ 1000 := by
 rcases h with ⟨-, h2, h3⟩ | ⟨-, h2, h3⟩
 ·exact ⟨hk, by omega, by rw [h3]; simp⟩
 ·exact ⟨hk, by rw [h3]; simp, by omega⟩
theorem lens_ok {n : Nd} (h : NdOk n) (hk : n.keys.length ≤ 1000) : n.keys.length ≤ 1000 ∧ n.vals.length ≤ 1000 ∧ n.kids.length ≤ 1000 := shape_lens h.shape hk
/-- The cells that joining reads. -/
def Jac (g h : Nat) (a0 a1 a2 a3 b0 b1 b2 b3 : Value) (w : World) : Prop :=
 w.cell? ⟨g, 0, none⟩ = some a0 ∧ w.cell? ⟨g, 1, none⟩ = some a1 ∧ w.cell? ⟨g, 2, none⟩ = some a2 ∧ w.cell? ⟨g, 3, none⟩ = some a3 ∧ w.cell? ⟨h, 0, none⟩ = some b0 ∧ w.cell? ⟨h, 1, none⟩ = some b1 ∧ w.cell? ⟨h, 2, none⟩ = some b2 ∧ w.cell? ⟨h, 3, none⟩ = some b3
theorem Jac.below {g h : Nat} {a0 a1 a2 a3 b0 b1 b2 b3 : Value} {w w' : World} (H : Jac g h a0 a1 a2 a3 b0 b1 b2 b3 w) (hb : Below w.heap.size w w') : Jac g h a0 a1 a2 a3 b0 b1 b2 b3 w' := by
 have hc : ∀ {p : Addr} {v : Value}, w.cell? p = some v → w'.cell? p = some v := fun {p v} hp => by
  rw [World.cell?_of_block (w := w) (hb.block p.block (World.block_lt_of_cell? w p hp))]; exact hp
 obtain ⟨h1, h2, h3, h4, h5, h6, h7, h8⟩ := H
 exact ⟨hc h1, hc h2, hc h3, hc h4, hc h5, hc h6, hc h7, hc h8⟩
theorem Jac.drewN {g h : Nat} {a0 a1 a2 a3 b0 b1 b2 b3 : Value} {w : World} (H : Jac g h a0 a1 a2 a3 b0 b1 b2 b3 w) (n : Nat) : Jac g h a0 a1 a2 a3 b0 b1 b2 b3 (w.drewN n) := H
theorem Jac.drew {g h : Nat} {a0 a1 a2 a3 b0 b1 b2 b3 : Value} {w : World} (H : Jac g h a0 a1 a2 a3 b0 b1 b2 b3 w) : Jac g h a0 a1 a2 a3 b0 b1 b2 b3 w.drew := H
end Go.Proofs.YtendgmblgdkiaaaGreat
