/- Words, written by the kit's print and by programs of mine. -/
import Derived.Test.YtendgmblgdkiaaaGreatGInternFull0
import Derived.Test.YtendgmblgdkiaaaGreatProg
import Derived.Test.YtendgmblgdkiaaaGreatGInternFull13
import Derived.Test.YtendgmblgdkiaaaGreatGInternFull4
import Derived.Test.YtendgmblgdkiaaaGreatGInternFull16
import Derived.Test.YtendgmblgdkiaaaGreatGInternFull14
namespace Go.Proofs.YtendgmblgdkiaaaGreatW
open Go.RowKit
open PrintWords PrintLast
namespace PrintWords
/-- The printed texts' repeated steps, as lemmas whose hypothesis is shown by default. -/
theorem bl_ {a : Prop} (h : a := by repeat (first | (with_reducible first | exact HB.out | apply below_alloc | apply pw_below_drewN | apply below_drew1 | refine below_set ?_ (Aside0.out (by with_reducible assumption)) | refine below_set ?_ (IsS223.ge (Aside0.out (by with_reducible assumption)))) | exact HB.out)) : a := h
theorem bk_ {a : Prop} (h : a := by (with_reducible repeat (first | refine blk_drewN ?_ _ | refine blk_drew ?_ | refine blk_alloc ?_ _)); exact (Aside0.out (by with_reducible assumption))) : a := h
theorem cl_ {a : Prop} (h : a := by repeat (first | exact (Kd.C_below (Aside0.out (by with_reducible assumption)) HB.out) | (with_reducible refine Kd.C_alloc ?_ _) | (with_reducible refine Kd.C_drewN ?_ _) | (with_reducible refine Kd.C_drew ?_))) : a := h
theorem er_ {a : Prop} (h : a := by first | rfl | (simp [errW_none, errW_some] <;> rfl) | (simp [*, errW_none, errW_some] <;> rfl)) : a := h
theorem is_ {a : Prop} (h : a := by repeat (first | (with_reducible first | exact (Aside0.out (by with_reducible assumption)) | apply IsS223.alloc | apply IsS223.drewN | apply IsS223.drew | apply IsS223.set_0 | apply IsS223.set_1 | refine IsS223.far ?_ (Aside0.out (by with_reducible assumption)) _) | exact (Aside0.out (by with_reducible assumption)))) : a := h
theorem kb_ {a : Prop} (h : a := by repeat (first | (with_reducible first | exact HK.out | apply KeepBut.set_ | apply keep_drewN | apply keep_drew | apply keep_alloc) | exact HK.out)) : a := h
theorem eq_ {a : Prop} (h : a := by first | rfl | exact leq_flip _ _ | exact congrArg Value.bool (leq_flip _ _) | (simp; done) | (simp [*]; done)) : a := h
theorem as_ {a : Prop} (h : a := by first | (with_reducible assumption) | assumption) : a := h
theorem ar_ {a : Prop} (h : a := by (try simp only [List.map_toArray, List.map_cons, List.map_nil]); first | done | rfl | (simp only [List.length_drop, List.length_take]; rfl)) : a := h
def bz (n m : Nat) : Array Bool := ((List.range n).map fun i => m.testBit i).toArray
theorem rx_ {p a : Prop} (h0 : Aside0 p) (h : p → a := by intro h_; (with_reducible repeat (first | apply Kd.R_alloc | apply Kd.R_drewN | apply Kd.R_drew)); exact h_) : a := h h0.out
theorem bx_ {p a : Prop} (h0 : Aside0 p) (h : p → a := by intro h_; (with_reducible repeat (first | refine blk_drewN ?_ _ | refine blk_drew ?_ | refine blk_alloc ?_ _)); exact h_) : a := h h0.out
theorem bf_ {p q a : Prop} (h1 : Aside0 q) (h0 : Aside0 p) (h : q → p → a := by intro n_ h_; (with_reducible repeat (first | refine blk_drewN ?_ _ | refine blk_drew ?_ | refine blk_alloc ?_ _ | refine blk_far ?_ n_ _)); exact h_) : a := h h1.out h0.out
theorem bp_ {p a : Prop} (h0 : Aside0 p) (h : p → a := by intro h_; (repeat (first | (with_reducible refine blk_drewN ?_ _) | (with_reducible refine blk_drew ?_) | (with_reducible refine blk_alloc ?_ _) | apply blk_put)); exact h_; all_goals rfl) : a := h h0.out
theorem bi_ {α β : Type} {x : Option α} {f : α → Option β} {r : β} (h : x.bind f = some r) : ∃ a, Aside0 (x = some a) ∧ f a = some r := by
  obtain ⟨a, h1, h2⟩ := Option.bind_eq_some_iff.mp h
  exact ⟨a, ⟨h1⟩, h2⟩
theorem no_ {P : Program} {ops : Array Oper} {Q : Exit → Act → World → Prop} {md : Region.Mode} {S : World → Prop} {ds : List Nat} (N : Option Tmp) {fuel : Nat} {l : Array Bool} {a a' : Act} {v : Value} {w : World} (h : wpAnyLast P md ops Q S ds fuel l a' w) (ha : Act.put a N v = a' := by simp only [Act.put, List.setIfInBounds_toArray, List.set_cons_zero, List.set_cons_succ, i64_w, i32_w]; rfl) : wpAnyLast P md ops Q S ds fuel l (Act.put a N v) w := norm_ ha h
theorem pu_ {a b c g : Prop} (f : a → b → c → g) (hc : c) (ha : a := by intro w'; go_simp; with_reducible rfl) (hb : b := by simp only [Act.put, List.setIfInBounds_toArray, List.set_cons_zero, List.set_cons_succ, i64_w, i32_w]; rfl) : g := f ha hb hc
theorem bw_ {p : Prop} {w w' : World} {g : Nat} {o : Obj} (h0 : Aside0 p) (hb : Below w.heap.size w w') (h : p → w.heap[g]? = some o := by intro h_; (with_reducible repeat (first | refine blk_drewN ?_ _ | refine blk_drew ?_ | refine blk_alloc ?_ _)); exact h_) : w'.heap[g]? = some o := blk_below (h h0.out) hb
theorem nl_ {p : Prop} {w : World} {g g' : Nat} {o : Obj} (hg : g' = w.heap.size) (h0 : Aside0 p) (h : p → w.heap[g]? = some o := by intro h_; (with_reducible repeat (first | refine blk_drewN ?_ _ | refine blk_drew ?_ | refine blk_alloc ?_ _)); exact h_) : g ≠ g' := by rw [hg]; exact Nat.ne_of_lt (blk_lt (h h0.out))
theorem ng_ {p : Prop} {w : World} {g g' : Nat} {o : Obj} (hg : g' = w.heap.size) (h0 : Aside0 p) (h : p → w.heap[g]? = some o := by intro h_; (with_reducible repeat (first | refine blk_drewN ?_ _ | refine blk_drew ?_ | refine blk_alloc ?_ _)); exact h_) : g' ≠ g := by rw [hg]; exact Nat.ne_of_gt (blk_lt (h h0.out))
theorem sz_ {w W : World} {g : Nat} (hg : g = W.heap.size) (h : w.heap.size ≤ W.heap.size := by exact (below_size bl_)) : w.heap.size ≤ g := by rw [hg]; exact h
theorem be_ {P : Program} {ops : Array Oper} {Q : Exit → Act → World → Prop} {rest : List Oper} {o : Oper} {a : Act} {W : World} {N : Tmp} {cs : Array Value} {t : TypeId}
    (h : ∀ g, g = W.heap.size → ∀ w1, w1.heap[g]? = some (.cells cs t (0, 0)) → Below W.heap.size W w1 → wpList P ops Q rest (a.put o.dst (.pointer (some ⟨g, 0, none⟩))) w1)
    (hd : o.dst = some N := by rfl) (hgd : o.guard = none := by rfl) (hrun : (execOp a.eval o).run P W = .ok (.value (.pointer (some ⟨W.heap.size, 0, none⟩))) (W.alloc (.cells cs t (0, 0))) := by first | (go_simp; done) | (go_simp; rfl)) : wpList P ops Q (o :: rest) a W := box_event hgd hd hrun h
theorem e1_ {a : Prop} (h : a := by first | rfl | (simp; done) | (simp [*]; done)) : a := h
theorem dr_ {a : Prop} (h : a := by repeat (first | exact Drawn0.refl _ | apply Drawn0.step)) : a := h
theorem ni_ {a : Prop} (h : a := by first | exact Kd.R_nil _ _ _ _ _ | exact Kd.N_nil _ _ _ _ _ | exact Kd.V_nil _ _ _ _ _ | exact Kd.Q_nil _ _ _ _ _ | exact Kd.S_nil _ _ _ _ _) : a := h
theorem bc_ {w : World} {g : Nat} {t : TypeId} {cs : Array Value} {v : Value} (h : Aside0 (w.heap[g]? = some (.cells cs t (0, 0)))) (i : Nat) (e : cs[i]? = some v := by rfl) : w.cell? ⟨g, i, none⟩ = some v := (blk_cell h.out i).trans e
theorem am_ {p : Prop} (h : p) : Aside0 p := ⟨h⟩
theorem fo_ {c x y z : Bool} {p : Prop} (h : c = true → x = y) (hc : c = true := by kernel_rfl) (hd : y ≠ z := by decide) : x = z → p := fun h0 => absurd ((h hc).symm.trans h0) hd
end PrintWords
end Go.Proofs.YtendgmblgdkiaaaGreatW