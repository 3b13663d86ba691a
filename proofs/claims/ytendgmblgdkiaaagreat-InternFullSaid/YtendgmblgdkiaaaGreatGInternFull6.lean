/- The disk as plain data ('Dk'), where it lies in memory ('DiskAt'), and what each store does to it. -/
import Derived.Test.YtendgmblgdkiaaaGreatGInternFull0
import Derived.Test.YtendgmblgdkiaaaGreatProg
import Derived.Test.YtendgmblgdkiaaaGreatGInternFull3
import Derived.MapKept
namespace Go.Proofs.YtendgmblgdkiaaaGreat
open Go.RowKit
set_option linter.unusedVariables false
set_option linter.unusedSimpArgs false

/-- A disk of sectors: what is there, what loose sectors were (in the order in which they came loose), how many writes went well, how many there may be yet, is it down. -/
structure Dk where
 now : List ByteArray
 was : List (Nat × ByteArray)
 writes : Int
 halt : Int
 down : Bool

/-- Where it lies: its struct's block, its sectors' block and capacity, its map's block. -/
structure Loc where
 a : Nat
 n : Nat
 c : Nat
 m : Nat

/-- A sector. -/
def Dk.sec (D : Dk) (i : Nat) : ByteArray := D.now.getD i ByteArray.empty

def Loc.foot (L : Loc) (k : Nat) : Prop := k = L.a ∨ k = L.n ∨ k = L.m

def Dk.head (D : Dk) (L : Loc) : Array Value :=
 #[.slice (some ⟨L.n, 0, none⟩) D.now.length L.c, .map (some L.m), .int .i64 D.writes, .int .i64 D.halt, .bool D.down]

def strs (l : List ByteArray) : List Value := l.map Value.string

/-- The map's entries. -/
def MapIs (es : Array MapEntry) (l : List (Nat × ByteArray)) : Prop :=
 es.toList.map (fun e => (e.key, e.val)) = l.map fun p => (Value.int .i64 p.1, Value.string p.2)

/-- What holds of every disk. -/
structure Dk.Ok (D : Dk) : Prop where
 least : 2 ≤ D.now.length
 most : D.now.length ≤ 65536
 now : ∀ s ∈ D.now, s.size = 256
 nodup : (D.was.map (·.1)).Nodup
 keys : ∀ p ∈ D.was, p.1 < D.now.length
 was : ∀ p ∈ D.was, p.2.size = 256
 halt : -1 ≤ D.halt
 haltle : D.halt ≤ 9223372036854775807

structure DiskAt (w : World) (L : Loc) (D : Dk) : Prop where
 head : w.heap[L.a]? = some (.cells (D.head L) 191 (0, 0))
 rows : ∃ rest, w.heap[L.n]? = some (.cells (strs D.now ++ rest).toArray 9 (0, 0))
 map : ∃ es clock, w.heap[L.m]? = some (.map es clock) ∧ MapKept.Stamped es clock ∧ MapIs es D.was
 an : L.a ≠ L.n
 am : L.a ≠ L.m
 nm : L.n ≠ L.m
 ok : D.Ok

namespace DiskAt
variable {w w' : World} {L : Loc} {D D' : Dk}
theorem lt_a (h : DiskAt w L D) : L.a < w.heap.size := lt_of_heap h.head
theorem lt_n (h : DiskAt w L D) : L.n < w.heap.size := by obtain ⟨_, h⟩ := h.rows; exact lt_of_heap h
theorem lt_m (h : DiskAt w L D) : L.m < w.heap.size := by obtain ⟨_, _, h, _⟩ := h.map; exact lt_of_heap h
theorem foot_lt (h : DiskAt w L D) {k : Nat} (hk : L.foot k) : k < w.heap.size := by
 rcases hk with rfl | rfl | rfl
 ·exact h.lt_a
 ·exact h.lt_n
 ·exact h.lt_m
/-- What leaves the three blocks as they are leaves the disk. -/
theorem same (h : DiskAt w L D) (hb : ∀ k, L.foot k → w'.heap[k]? = w.heap[k]?) : DiskAt w' L D :=
 ⟨(hb _ (.inl rfl)).trans h.head, let ⟨r, hr⟩ := h.rows; ⟨r, (hb _ (.inr (.inl rfl))).trans hr⟩,
  let ⟨e, c, h1, h2⟩ := h.map; ⟨e, c, (hb _ (.inr (.inr rfl))).trans h1, h2⟩, h.an, h.am, h.nm, h.ok⟩
theorem keep {F : Nat → Prop} (h : DiskAt w L D) (k : Keep F w w') (hf : ∀ i, L.foot i → ¬ F i) : DiskAt w' L D :=
 h.same fun i hi => k.block i (h.foot_lt hi) (hf i hi)
theorem below (h : DiskAt w L D) (k : Below w.heap.size w w') : DiskAt w' L D := h.same fun i hi => k.block i (h.foot_lt hi)
theorem drewN (h : DiskAt w L D) (n : Nat) : DiskAt (w.drewN n) L D := h.same fun _ _ => rfl
theorem drew (h : DiskAt w L D) : DiskAt w.drew L D := h.same fun _ _ => rfl
theorem alloc (h : DiskAt w L D) (o : Obj) : DiskAt (w.alloc o) L D := h.same fun _ hk => Below.heap_alloc _ _ _ (h.foot_lt hk)
theorem setCell (h : DiskAt w L D) {a : Addr} (ha : ¬ L.foot a.block) (v : Value) : DiskAt (w.setCell a v) L D :=
 h.same fun _ hk => Below.heap_setCell _ _ _ _ (fun e => ha (e ▸ hk))

theorem cell0 (h : DiskAt w L D) : w.cell? ⟨L.a, 0, none⟩ = some (.slice (some ⟨L.n, 0, none⟩) D.now.length L.c) := (cell_of_heap h.head 0).trans rfl
theorem cell1 (h : DiskAt w L D) : w.cell? ⟨L.a, 1, none⟩ = some (.map (some L.m)) := (cell_of_heap h.head 1).trans rfl
theorem cell2 (h : DiskAt w L D) : w.cell? ⟨L.a, 2, none⟩ = some (.int .i64 D.writes) := (cell_of_heap h.head 2).trans rfl
theorem cell3 (h : DiskAt w L D) : w.cell? ⟨L.a, 3, none⟩ = some (.int .i64 D.halt) := (cell_of_heap h.head 3).trans rfl
theorem cell4 (h : DiskAt w L D) : w.cell? ⟨L.a, 4, none⟩ = some (.bool D.down) := (cell_of_heap h.head 4).trans rfl
theorem frz (h : DiskAt w L D) (i : Nat) : w.frozen? ⟨L.a, i, none⟩ = false := frozen_of_heap h.head i
theorem cellN (h : DiskAt w L D) {i : Nat} (hi : i < D.now.length) : w.cell? ⟨L.n, i, none⟩ = some (.string (D.sec i)) := by
 obtain ⟨r, hr⟩ := h.rows
 rw [cell_of_heap hr i]
 simp [strs, Dk.sec, hi, List.getElem?_append, List.getElem?_eq_getElem hi]
theorem frzN (h : DiskAt w L D) (i : Nat) : w.frozen? ⟨L.n, i, none⟩ = false := by
 obtain ⟨r, hr⟩ := h.rows
 exact frozen_of_heap hr i

theorem setHead (h : DiskAt w L D) (i : Nat) (v : Value) (hh : (D.head L).setIfInBounds i v = D'.head L) (hn : D'.now = D.now) (hw : D'.was = D.was) (hok : D'.Ok) : DiskAt (w.setCell ⟨L.a, i, none⟩ v) L D' := by
 refine ⟨?_, ?_, ?_, h.an, h.am, h.nm, hok⟩
 ·rw [heap_setCell_same h.head, hh]
 ·obtain ⟨r, hr⟩ := h.rows
  exact ⟨r, by rw [hn]; exact heap_setCell_ne hr _ _ (Ne.symm h.an)⟩
 ·obtain ⟨e, c, h1, h2⟩ := h.map
  exact ⟨e, c, heap_setCell_ne h1 _ _ (Ne.symm h.am), by rw [hw]; exact h2⟩
theorem setDown (h : DiskAt w L D) (b : Bool) : DiskAt (w.setCell ⟨L.a, 4, none⟩ (.bool b)) L { D with down := b } :=
 h.setHead 4 _ rfl rfl rfl ⟨h.ok.least, h.ok.most, h.ok.now, h.ok.nodup, h.ok.keys, h.ok.was, h.ok.halt, h.ok.haltle⟩
theorem setHalt (h : DiskAt w L D) (x : Int) (hx : -1 ≤ x) (hx2 : x ≤ 9223372036854775807) : DiskAt (w.setCell ⟨L.a, 3, none⟩ (.int .i64 x)) L { D with halt := x } :=
 h.setHead 3 _ rfl rfl rfl ⟨h.ok.least, h.ok.most, h.ok.now, h.ok.nodup, h.ok.keys, h.ok.was, hx, hx2⟩
theorem setWrites (h : DiskAt w L D) (x : Int) : DiskAt (w.setCell ⟨L.a, 2, none⟩ (.int .i64 x)) L { D with writes := x } :=
 h.setHead 2 _ rfl rfl rfl ⟨h.ok.least, h.ok.most, h.ok.now, h.ok.nodup, h.ok.keys, h.ok.was, h.ok.halt, h.ok.haltle⟩
theorem setNow (h : DiskAt w L D) (i : Nat) (s : ByteArray) (hs : s.size = 256) : DiskAt (w.setCell ⟨L.n, i, none⟩ (.string s)) L { D with now := D.now.set i s } := by
 by_cases hi : i < D.now.length
 ·refine ⟨?_, ?_, ?_, h.an, h.am, h.nm, ⟨by simpa using h.ok.least, by simpa using h.ok.most, ?_, h.ok.nodup, by simpa using h.ok.keys, h.ok.was, h.ok.halt, h.ok.haltle⟩⟩
  ·rw [heap_setCell_ne h.head _ _ h.an]; simp [Dk.head]
  ·obtain ⟨r, hr⟩ := h.rows
   refine ⟨r, ?_⟩
   rw [heap_setCell_same hr]
   simp [strs, List.map_set, List.set_append, hi]
  ·obtain ⟨e, c, h1, h2⟩ := h.map
   exact ⟨e, c, heap_setCell_ne h1 _ _ (Ne.symm h.nm), h2⟩
  ·intro t ht
   rcases List.mem_or_eq_of_mem_set ht with ht | rfl
   ·exact h.ok.now t ht
   ·exact hs
 ·obtain ⟨r, hr⟩ := h.rows
  have e : D.now.set i s = D.now := List.set_eq_of_length_le om_
  rw [e]
  refine ⟨heap_setCell_ne h.head _ _ h.an, ?_, ?_, h.an, h.am, h.nm, h.ok⟩
  ·refine ⟨r.set (i - D.now.length) (.string s), ?_⟩
   rw [heap_setCell_same hr]
   simp [strs, List.set_append, hi]
  ·obtain ⟨e, c, h1, h2⟩ := h.map
   exact ⟨e, c, heap_setCell_ne h1 _ _ (Ne.symm h.nm), h2⟩
end DiskAt

/-! ### The calls, as plain functions -/
namespace Dk
def is (D : Dk) (i : Int) : Bool := decide (0 ≤ i) && decide (i < D.now.length)
def read (D : Dk) (i : Int) : ByteArray × Int :=
 if D.down then (ByteArray.empty, 6) else if D.is i then (D.sec i.toNat, 0) else (ByteArray.empty, 7)
def turn (D : Dk) : Dk × Bool :=
 if D.halt = 0 then ({ D with down := true }, false) else ({ D with halt := if D.halt < 0 then -1 else D.halt - 1, writes := wrap64 (D.writes + 1) }, true)
def fill (s : ByteArray) : ByteArray := s ++ zeros (256 - s.size)
def loosen (D : Dk) (i : Nat) : Dk := if i ∈ D.was.map (·.1) then D else { D with was := D.was ++ [(i, D.sec i)] }
def put (D : Dk) (i : Nat) (s : ByteArray) : Dk := { D.loosen i with now := (D.loosen i).now.set i (fill s) }
def write (D : Dk) (i : Int) (s : ByteArray) : Dk × Int :=
 if D.down then (D, 6) else if D.is i = false then (D, 7) else if 256 < s.size then (D, 1) else if D.turn.2 = false then (D.turn.1, 6) else (D.turn.1.put i.toNat s, 0)
def flush (D : Dk) : Dk × Int :=
 if D.down then (D, 6) else if D.turn.2 = false then (D.turn.1, 6) else ({ D.turn.1 with was := [] }, 0)
def make (n : Int) : Dk := { now := List.replicate (min (max n 2) 65536).toNat (zeros 256), was := [], writes := 0, halt := -1, down := false }
end Dk

end Go.Proofs.YtendgmblgdkiaaaGreat
