/- Pages over a disk: where they lie in memory, what the calls answer. -/
import Derived.Test.YtcbefilcdelplaaDiskC
import Derived.Test.YtcbefilcdelplaaRef
namespace Go.Proofs.Ytcbefilcdelplaa
open Go.RowKit
set_option linter.unusedVariables false
set_option linter.unusedSimpArgs false

/-- Pages: which half, how many are in use; over the disk at L. -/
def PagesAt (w : World) (b : Nat) (L : Loc) (h n : Nat) : Prop :=
  w.heap[b]? = some (.cells #[.pointer (some ⟨L.a, 0, none⟩), .int .i64 (h : Int), .int .i64 (n : Int)] 103 (0, 0))

namespace PagesAt
variable {w w' : World} {b : Nat} {L : Loc} {h n : Nat}
theorem lt (p : PagesAt w b L h n) : b < w.heap.size := lt_of_heap p
theorem c0 (p : PagesAt w b L h n) : w.cell? ⟨b, 0, none⟩ = some (.pointer (some ⟨L.a, 0, none⟩)) := (cell_of_heap p 0).trans rfl
theorem c1 (p : PagesAt w b L h n) : w.cell? ⟨b, 1, none⟩ = some (.int .i64 (h : Int)) := (cell_of_heap p 1).trans rfl
theorem c2 (p : PagesAt w b L h n) : w.cell? ⟨b, 2, none⟩ = some (.int .i64 (n : Int)) := (cell_of_heap p 2).trans rfl
theorem frz (p : PagesAt w b L h n) (i : Nat) : w.frozen? ⟨b, i, none⟩ = false := frozen_of_heap p i
theorem foot (p : PagesAt w b L h n) {D : Dk} (d : DiskAt w L D) : ¬ L.foot b := by
  rintro (rfl | rfl | rfl)
  · have := d.head; rw [p] at this; simp [Dk.head] at this
  · obtain ⟨r, hr⟩ := d.rows; rw [p] at hr; simp at hr
  · obtain ⟨e, c, hm, _⟩ := d.map; rw [p] at hm; simp at hm
theorem keep {F : Nat → Prop} (p : PagesAt w b L h n) (k : Keep F w w') (hf : ¬ F b) : PagesAt w' b L h n := k.heap p hf
theorem below (p : PagesAt w b L h n) (k : Below w.heap.size w w') : PagesAt w' b L h n := (k.block b p.lt).trans p
theorem alloc (p : PagesAt w b L h n) (o : Obj) : PagesAt (w.alloc o) b L h n := heap_alloc_old p o
theorem drew (p : PagesAt w b L h n) : PagesAt w.drew b L h n := p
theorem drewN (p : PagesAt w b L h n) (m : Nat) : PagesAt (w.drewN m) b L h n := p
theorem two (p : PagesAt w b L h n) : w.cell? ⟨b, 0, none⟩ = some (.pointer (some ⟨L.a, 0, none⟩)) ∧ w.cell? ⟨b, 2, none⟩ = some (.int .i64 (n : Int)) := ⟨p.c0, p.c2⟩
theorem setNext (p : PagesAt w b L h n) (m : Nat) : PagesAt (w.setCell ⟨b, 2, none⟩ (.int .i64 (m : Int))) b L h m := (heap_setCell_same p 2 _).trans rfl
end PagesAt

namespace Dk
def room (D : Dk) : Nat := (D.now.length - 2) / 2
def sector (D : Dk) (h n : Nat) : Nat := 2 + h * D.room + n
end Dk

/-- A page's kind and payload out of a sector; the error. -/
def pgParse (s : ByteArray) : Int × ByteArray × Int :=
  let size := (s.get! 5).toNat
  if 240 < size then (0, ByteArray.empty, 8)
  else if s = sectorOf (s.get! 4).toNat (s.extract 6 (6 + size)) then ((s.get! 4).toNat, s.extract 6 (6 + size), 0) else (0, ByteArray.empty, 8)

def Dk.pgRead (D : Dk) (h next : Nat) (n : Int) : Int × ByteArray × Int :=
  if n < 0 ∨ (next : Int) ≤ n then (0, ByteArray.empty, 1)
  else
    let r := D.read (D.sector h n.toNat)
    if r.2 ≠ 0 then (0, ByteArray.empty, r.2) else pgParse r.1

/-- The disk, how many pages, the number, the error. -/
def Dk.pgAppend (D : Dk) (h next : Nat) (kind : Int) (s : ByteArray) : Dk × Nat × Int × Int :=
  if kind < 0 ∨ 255 < kind ∨ 240 < s.size then (D, next, -1, 1)
  else if D.room = next then (D, next, -1, 5)
  else
    let r := D.write (D.sector h next) (sectorOf kind s)
    if r.2 ≠ 0 then (r.1, next, -1, r.2) else (r.1, next + 1, next, 0)

theorem quietS {P : Program} {f : FuncId} {args : Array Value} {w : World} {n : Nat} {v : Value}
    (h : Calls P f args (w.drewN n) fun e w' => e = .returned v ∧ w.drewN n = w') : Calls P f args (w.drewN n) fun e w'' => e = .returned v ∧ ∃ m, w'' = w.drewN m :=
  h.mono fun _ _ ⟨he, hm⟩ => ⟨he, n, hm.symm⟩

end Go.Proofs.Ytcbefilcdelplaa
