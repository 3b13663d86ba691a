/- Where a disk's slots lie; what Open finds, plain. -/
import Derived.Test.YtcbefilcdelplaaRtP
import Derived.Test.YtcbefilcdelplaaDiskB
import Derived.Test.YtcbefilcdelplaaDiskC
import Derived.Test.YtcbefilcdelplaaPagesQ
namespace Go.Proofs.Ytcbefilcdelplaa
open Go.RowKit
open Proot (Rt)
set_option linter.unusedVariables false
set_option linter.unusedSimpArgs false

def mx3 (a b c : Int) : Int := mx (mx a b) c
theorem max_mx3 (ats : Array TypeId) (ty : TypeId) (k k' k'' : IntKind) (x y z : Int) : Builtin.max_ ats ty #[.int k x, .int k' y, .int k'' z] = pure (.int k (mx3 x y z)) := by
  simp only [Builtin.max_, List.foldlM_cons, List.foldlM_nil, Builtin.max2, gt_iff_lt]; rfl

def rcells (r : Rt) : Array Value := #[.int .u64 r.epoch, .int .i64 r.half, .int .i64 r.page, .int .i64 r.next, .int .i64 r.count, .int .i64 r.height]

/-- What Open knows: the root found so far, where it is, the greatest number for an epoch. -/
structure Found where
  out : Rt
  now : Int
  most : Int
def Found.start : Found := ⟨Rt.zero, -1, 0⟩
def Found.wins (f : Found) (s : ByteArray) : Bool := (Proot.parse s).2 && decide (f.out.epoch < (Proot.parse s).1.epoch)
def Found.one (f : Found) (i : Int) (s : ByteArray) : Found :=
  ⟨if f.wins s then (Proot.parse s).1 else f.out, if f.wins s then i else f.now, mx3 f.most (Proot.first s) (Proot.again s)⟩
def Dk.found (D : Dk) : Nat → Found
  | 0 => Found.start
  | k + 1 => (D.found k).one (k : Int) (D.sec k)

def slotCells (L : Loc) (now most : Int) : Array Value := #[.pointer (some ⟨L.a, 0, none⟩), .int .i64 now, .int .u64 most]
/-- The slots of a disk. -/
def SlotsAt (w : World) (S : Nat) (L : Loc) (now most : Int) : Prop := w.heap[S]? = some (.cells (slotCells L now most) 112 (0, 0))

namespace SlotsAt
variable {w w' : World} {S : Nat} {L : Loc} {now most : Int}
theorem lt (h : SlotsAt w S L now most) : S < w.heap.size := lt_of_heap h
theorem below (h : SlotsAt w S L now most) (k : Below w.heap.size w w') : SlotsAt w' S L now most := (k.block _ h.lt).trans h
theorem keep {F : Nat → Prop} (h : SlotsAt w S L now most) (k : Keep F w w') (hf : ¬ F S) : SlotsAt w' S L now most := (k.block _ h.lt hf).trans h
theorem alloc (h : SlotsAt w S L now most) (o : Obj) : SlotsAt (w.alloc o) S L now most := heap_alloc_old h o
theorem drewN (h : SlotsAt w S L now most) (n : Nat) : SlotsAt (w.drewN n) S L now most := h
theorem cell0 (h : SlotsAt w S L now most) : w.cell? ⟨S, 0, none⟩ = some (.pointer (some ⟨L.a, 0, none⟩)) := (cell_of_heap h 0).trans rfl
theorem cell1 (h : SlotsAt w S L now most) : w.cell? ⟨S, 1, none⟩ = some (.int .i64 now) := (cell_of_heap h 1).trans rfl
theorem cell2 (h : SlotsAt w S L now most) : w.cell? ⟨S, 2, none⟩ = some (.int .u64 most) := (cell_of_heap h 2).trans rfl
theorem frz (h : SlotsAt w S L now most) (i : Nat) : w.frozen? ⟨S, i, none⟩ = false := frozen_of_heap h i
theorem setNow (h : SlotsAt w S L now most) (x : Int) : SlotsAt (w.setCell ⟨S, 1, none⟩ (.int .i64 x)) S L x most := heap_setCell_same h 1 _
theorem setMost (h : SlotsAt w S L now most) (x : Int) : SlotsAt (w.setCell ⟨S, 2, none⟩ (.int .u64 x)) S L now x := heap_setCell_same h 2 _
theorem setCell (h : SlotsAt w S L now most) {p : Addr} (hp : S ≠ p.block) (v : Value) : SlotsAt (w.setCell p v) S L now most := by
  unfold SlotsAt at *
  rw [Below.heap_setCell _ _ _ _ hp]; exact h
end SlotsAt

/-- A root in a block of its own. -/
def RootIn (w : World) (b : Nat) (r : Rt) : Prop := w.heap[b]? = some (.cells (rcells r) 50 (0, 0))
namespace RootIn
variable {w w' : World} {b : Nat} {r : Rt}
theorem lt (h : RootIn w b r) : b < w.heap.size := lt_of_heap h
theorem below (h : RootIn w b r) (k : Below w.heap.size w w') : RootIn w' b r := (k.block _ h.lt).trans h
theorem keep {F : Nat → Prop} (h : RootIn w b r) (k : Keep F w w') (hf : ¬ F b) : RootIn w' b r := (k.block _ h.lt hf).trans h
theorem alloc (h : RootIn w b r) (o : Obj) : RootIn (w.alloc o) b r := heap_alloc_old h o
theorem cells (h : RootIn w b r) : w.cell? ⟨b, 0, none⟩ = some (.int .u64 r.epoch) ∧ w.cell? ⟨b, 1, none⟩ = some (.int .i64 r.half) ∧ w.cell? ⟨b, 2, none⟩ = some (.int .i64 r.page) ∧ w.cell? ⟨b, 3, none⟩ = some (.int .i64 r.next) ∧ w.cell? ⟨b, 4, none⟩ = some (.int .i64 r.count) ∧ w.cell? ⟨b, 5, none⟩ = some (.int .i64 r.height) :=
  ⟨(cell_of_heap h 0).trans rfl, (cell_of_heap h 1).trans rfl, (cell_of_heap h 2).trans rfl, (cell_of_heap h 3).trans rfl, (cell_of_heap h 4).trans rfl, (cell_of_heap h 5).trans rfl⟩
theorem frz (h : RootIn w b r) (i : Nat) : w.frozen? ⟨b, i, none⟩ = false := frozen_of_heap h i
theorem setCell (h : RootIn w b r) {p : Addr} (hp : b ≠ p.block) (v : Value) : RootIn (w.setCell p v) b r := by
  unfold RootIn at *
  rw [Below.heap_setCell _ _ _ _ hp]; exact h
end RootIn

/-- All six cells of a root are written. -/
def setRoot (w : World) (b : Nat) (r : Rt) : World :=
  (((((w.setCell ⟨b, 0, none⟩ (.int .u64 r.epoch)).setCell ⟨b, 1, none⟩ (.int .i64 r.half)).setCell ⟨b, 2, none⟩ (.int .i64 r.page)).setCell ⟨b, 3, none⟩ (.int .i64 r.next)).setCell ⟨b, 4, none⟩ (.int .i64 r.count)).setCell ⟨b, 5, none⟩ (.int .i64 r.height)
theorem setRoot_in {w : World} {b : Nat} {r0 : Rt} (h : RootIn w b r0) (r : Rt) : RootIn (setRoot w b r) b r :=
  heap_setCell_same (heap_setCell_same (heap_setCell_same (heap_setCell_same (heap_setCell_same (heap_setCell_same h 0 _) 1 _) 2 _) 3 _) 4 _) 5 _
theorem setRoot_other {w : World} {b c : Nat} {r : Rt} (hne : c ≠ b) : (setRoot w b r).heap[c]? = w.heap[c]? := by
  unfold setRoot
  rw [Below.heap_setCell _ _ _ _ hne, Below.heap_setCell _ _ _ _ hne, Below.heap_setCell _ _ _ _ hne, Below.heap_setCell _ _ _ _ hne, Below.heap_setCell _ _ _ _ hne, Below.heap_setCell _ _ _ _ hne]

theorem setRoot_keep (w : World) (b : Nat) (r : Rt) : Keep (fun c => c = b) w (setRoot w b r) := by
  unfold setRoot
  exact (((((((Keep.refl (fun c => c = b) w).setCell (.inl rfl) _).setCell (.inl rfl) _).setCell (.inl rfl) _).setCell (.inl rfl) _).setCell (.inl rfl) _).setCell (.inl rfl) _)

/-- Within Open: nothing that was there has turned; the result's cell, the slots, the root found. -/
structure OpenAt (w : World) (L : Loc) (f : Found) (wr : World) : Prop where
  bel : Below w.heap.size w wr
  res : RootIn wr w.heap.size Rt.zero
  slots : SlotsAt wr (w.heap.size + 1) L f.now f.most
  out : RootIn wr (w.heap.size + 1 + 1) f.out

namespace OpenAt
variable {w wr wr' : World} {L : Loc} {f : Found}
theorem below (h : OpenAt w L f wr) (k : Below wr.heap.size wr wr') : OpenAt w L f wr' :=
  ⟨bel_then h.bel k, h.res.below k, h.slots.below k, h.out.below k⟩
theorem drewN (h : OpenAt w L f wr) (n : Nat) : OpenAt w L f (wr.drewN n) := ⟨bel_drewN h.bel n, h.res, h.slots, h.out⟩
theorem alloc (h : OpenAt w L f wr) (o : Obj) : OpenAt w L f (wr.alloc o) := h.below ((Below.refl _ _).alloc (Nat.le_refl _) o)
theorem setMost (h : OpenAt w L f wr) (x : Int) : OpenAt w L { f with most := x } (wr.setCell ⟨w.heap.size + 1, 2, none⟩ (.int .u64 x)) :=
  ⟨h.bel.setCell (by simp) _, h.res.setCell (by simp) _, h.slots.setMost x, h.out.setCell (by simp) _⟩
theorem setNow (h : OpenAt w L f wr) (x : Int) : OpenAt w L { f with now := x } (wr.setCell ⟨w.heap.size + 1, 1, none⟩ (.int .i64 x)) :=
  ⟨h.bel.setCell (by simp) _, h.res.setCell (by simp) _, h.slots.setNow x, h.out.setCell (by simp) _⟩
theorem setOut (h : OpenAt w L f wr) (r : Rt) : OpenAt w L { f with out := r } (setRoot wr (w.heap.size + 1 + 1) r) :=
  ⟨((((((h.bel.setCell (show w.heap.size ≤ _ by simp; omega) _).setCell (show w.heap.size ≤ _ by simp; omega) _).setCell (show w.heap.size ≤ _ by simp; omega) _).setCell (show w.heap.size ≤ _ by simp; omega) _).setCell (show w.heap.size ≤ _ by simp; omega) _).setCell (show w.heap.size ≤ _ by simp; omega) _), by
    have := h.res
    unfold RootIn at *
    rw [setRoot_other (by omega)]; exact this, by
    have := h.slots
    unfold SlotsAt at *
    rw [setRoot_other (by omega)]; exact this, setRoot_in h.out r⟩
theorem start (w : World) (L : Loc) : OpenAt w L Found.start (((w.alloc (.cells (rcells Rt.zero) 50 (0, 0))).alloc (.cells (slotCells L (-1) 0) 112 (0, 0))).alloc (.cells (rcells Rt.zero) 50 (0, 0))) := by
  refine ⟨bel_alloc (bel_alloc (bel_alloc (Below.refl _ _) _) _) _, heap_alloc_old (heap_alloc_old (heap_alloc_self w _) _) _, ?_, ?_⟩
  · have := heap_alloc_self (w.alloc (.cells (rcells Rt.zero) 50 (0, 0))) (.cells (slotCells L (-1) 0) 112 (0, 0))
    rw [World.size_alloc] at this
    exact heap_alloc_old this _
  · have := heap_alloc_self ((w.alloc (.cells (rcells Rt.zero) 50 (0, 0))).alloc (.cells (slotCells L (-1) 0) 112 (0, 0))) (.cells (rcells Rt.zero) 50 (0, 0))
    rw [World.size_alloc, World.size_alloc] at this
    exact this
end OpenAt

theorem found_len {D : Dk} (h : D.Ok) {k : Nat} (hk : k < D.now.length) : (D.sec k).size = 256 := sec_size h hk
end Go.Proofs.Ytcbefilcdelplaa
