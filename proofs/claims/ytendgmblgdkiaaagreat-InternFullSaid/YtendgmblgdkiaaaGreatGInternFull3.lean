/- What a call may turn of memory: 'Keep F w w'': outside the blocks of F nothing that was there has turned. Plain laws on worlds; no program. Nodes as plain data: which may be, and their bytes. No program. -/
import Derived.Test.YtendgmblgdkiaaaGreatGInternFull0
import Derived.WalkKit
import Derived.Below
import Derived.Deep.Draws
namespace Go.Proofs.YtendgmblgdkiaaaGreat
open Go.RowKit
set_option linter.unusedVariables false
set_option linter.unusedSimpArgs false

/-- Outside of F nothing that was there has turned. -/
structure Keep (F : Nat → Prop) (w w' : World) : Prop where
 os : w'.os = w.os
 tape : w'.tape = w.tape
 output : w'.output = w.output
 size : w.heap.size ≤ w'.heap.size
 block : ∀ k, k < w.heap.size → ¬ F k → w'.heap[k]? = w.heap[k]?

namespace Keep
variable {F G : Nat → Prop} {w w' w'' : World}
theorem refl (F : Nat → Prop) (w : World) : Keep F w w := ⟨rfl, rfl, rfl, Nat.le_refl _, fun _ _ _ => rfl⟩
theorem trans (h : Keep F w w') (k : Keep F w' w'') : Keep F w w'' :=
 ⟨k.os.trans h.os, k.tape.trans h.tape, k.output.trans h.output, Nat.le_trans h.size k.size, fun i hi hf => (k.block i (Nat.lt_of_lt_of_le hi h.size) hf).trans (h.block i hi hf)⟩
theorem mono (h : Keep F w w') (hg : ∀ k, k < w.heap.size → F k → G k) : Keep G w w' :=
 ⟨h.os, h.tape, h.output, h.size, fun i hi hf => h.block i hi (fun x => hf (hg i hi x))⟩
/-- What comes behind may also turn whatever was not there ahead. -/
theorem andThen (h : Keep F w w') (k : Keep G w' w'') (hg : ∀ i, i < w.heap.size → G i → F i) : Keep F w w'' :=
 ⟨k.os.trans h.os, k.tape.trans h.tape, k.output.trans h.output, Nat.le_trans h.size k.size, fun i hi hf => (k.block i (Nat.lt_of_lt_of_le hi h.size) (fun x => hf (hg i hi x))).trans (h.block i hi hf)⟩
theorem below (h : Below w.heap.size w w') : Keep F w w' := ⟨h.os, h.tape, h.output, h.size, fun k hk _ => h.block k hk⟩
theorem toBelow (h : Keep (fun _ => False) w w') : Below w.heap.size w w' := ⟨h.os, h.tape, h.output, h.size, fun k hk => h.block k hk id⟩
theorem drewN (h : Keep F w w') (n : Nat) : Keep F w (w'.drewN n) := ⟨h.os, h.tape, h.output, h.size, h.block⟩
theorem drew (h : Keep F w w') : Keep F w w'.drew := ⟨h.os, h.tape, h.output, h.size, h.block⟩
theorem alloc (h : Keep F w w') (o : Obj) : Keep F w (w'.alloc o) :=
 h.andThen (G := fun _ => False) ⟨rfl, rfl, rfl, by simp, fun k hk _ => Below.heap_alloc _ _ _ hk⟩ (fun _ _ x => x.elim)
theorem setCell (h : Keep F w w') {p : Addr} (hp : F p.block ∨ w.heap.size ≤ p.block) (u : Value) : Keep F w (w'.setCell p u) :=
 h.andThen (G := fun k => k = p.block) ⟨rfl, rfl, rfl, by simp [World.setCell], fun k _ hk => Below.heap_setCell _ _ _ _ hk⟩
  (fun i hi x => by subst x; rcases hp with hp | hp; exact hp; omega)
theorem grown {row : Option Nat} (h : Keep F w w') (hg : w'.grownBy w'' row) (hr : ∀ k, row = some k → F k ∨ w.heap.size ≤ k) : Keep F w w'' :=
 h.andThen (G := fun k => row = some k) ⟨hg.os, hg.tape, hg.output, hg.size, fun k hk hne => hg.block k hk (fun e => hne e.symm)⟩
  (fun i hi x => by rcases hr i x with h | h; exact h; omega)
theorem cell (h : Keep F w w') {p : Addr} (hp : p.block < w.heap.size) (hf : ¬ F p.block) : w'.cell? p = w.cell? p := World.cell?_of_block (w := w) (h.block p.block hp hf)
theorem frozen (h : Keep F w w') {p : Addr} (hp : p.block < w.heap.size) (hf : ¬ F p.block) : w'.frozen? p = w.frozen? p := World.frozen?_of_block (w := w) (h.block p.block hp hf)
theorem heap (h : Keep F w w') {b : Nat} {o : Obj} (hb : w.heap[b]? = some o) (hf : ¬ F b) : w'.heap[b]? = some o :=
 (h.block b (Array.getElem?_eq_some_iff.1 hb).1 hf).trans hb
end Keep

/-- A block that is there is below the heap's size. -/
theorem lt_of_heap {w : World} {b : Nat} {o : Obj} (h : w.heap[b]? = some o) : b < w.heap.size := (Array.getElem?_eq_some_iff.1 h).1
theorem heap_alloc_self (w : World) (o : Obj) : (w.alloc o).heap[w.heap.size]? = some o := by
 show (w.heap.push o)[w.heap.size]? = some o
 simp
theorem heap_alloc_old {w : World} {b : Nat} {o : Obj} (h : w.heap[b]? = some o) (o' : Obj) : (w.alloc o').heap[b]? = some o := (Below.heap_alloc w o' b (lt_of_heap h)).trans h
theorem cell_of_heap {w : World} {b : Nat} {cs : Array Value} {t : TypeId} {fr : Nat × Nat} (h : w.heap[b]? = some (.cells cs t fr)) (i : Nat) : w.cell? ⟨b, i, none⟩ = cs[i]? := by
 simp [World.cell?, h]
theorem frozen_of_heap {w : World} {b : Nat} {cs : Array Value} {t : TypeId} (h : w.heap[b]? = some (.cells cs t (0, 0))) (i : Nat) : w.frozen? ⟨b, i, none⟩ = false := by
 simp [World.frozen?, h]
theorem heap_setCell_same {w : World} {b : Nat} {cs : Array Value} {t : TypeId} {fr : Nat × Nat} (h : w.heap[b]? = some (.cells cs t fr)) (i : Nat) (v : Value) : (w.setCell ⟨b, i, none⟩ v).heap[b]? = some (.cells (cs.setIfInBounds i v) t fr) := by
 simp [World.setCell, Array.getElem?_modify, h]
theorem heap_setCell_ne {w : World} {b c : Nat} {o : Obj} (h : w.heap[b]? = some o) (i : Nat) (v : Value) (hne : b ≠ c) : (w.setCell ⟨c, i, none⟩ v).heap[b]? = some o := by
 rw [Below.heap_setCell _ _ _ _ hne]; exact h
theorem cell_new1 (w : World) (m : Nat) (v : Value) (t : TypeId) (fr : Nat × Nat) (hm : w.heap.size = m) : (w.alloc (.cells #[v] t fr)).cell? ⟨m, 0, none⟩ = some v := by
 subst hm; rw [cell_of_heap (heap_alloc_self w _)]; rfl
/-- So many zero bytes. -/
def zeros (n : Nat) : ByteArray := ⟨Array.replicate n 0⟩
theorem zeros_size (n : Nat) : (zeros n).size = n := by simp [zeros, ByteArray.size]

/-- The greater, and the smaller, of two whole numbers. -/
def mx (a b : Int) : Int := if a < b then b else a
def mn (a b : Int) : Int := if b < a then b else a
theorem mx_eq (a b : Int) : mx a b = max a b := by unfold mx; split <;> omega
theorem mn_eq (a b : Int) : mn a b = min a b := by unfold mn; split <;> omega
theorem max_mx (ats : Array TypeId) (ty : TypeId) (k k' : IntKind) (x y : Int) : Builtin.max_ ats ty #[.int k x, .int k' y] = pure (.int k (mx x y)) := by
 simp only [Builtin.max_, List.foldlM_cons, List.foldlM_nil, Builtin.max2, gt_iff_lt]; rfl
theorem min_mn (ats : Array TypeId) (ty : TypeId) (k k' : IntKind) (x y : Int) : Builtin.min_ ats ty #[.int k x, .int k' y] = pure (.int k (mn x y)) := by
 simp only [Builtin.min_, List.foldlM_cons, List.foldlM_nil, Builtin.min2]; rfl

theorem ret_int {k : IntKind} {a b : Int} (h : a = b) : Ending.returned (.int k a) = .returned (.int k b) := by rw [h]
theorem ret_str {a b : ByteArray} (h : a = b) : Ending.returned (.string a) = .returned (.string b) := by rw [h]
end Go.Proofs.YtendgmblgdkiaaaGreat

namespace Go.Proofs.YtendgmblgdkiaaaGreat
open Go.RowKit
set_option linter.unusedVariables false
set_option linter.unusedSimpArgs false

def keyOk (s : ByteArray) : Bool := decide (0 < s.size ∧ s.size ≤ 16)
def valOk (s : ByteArray) : Bool := decide (s.size ≤ 32)
def pageOk (x : Int) : Bool := decide (0 ≤ x ∧ x ≤ 2147483647)
/-- The order of texts. -/
def blt (a b : ByteArray) : Bool := Op.bytesLess a.toList b.toList
def rising : List ByteArray → Bool
 | [] => true
 | [_] => true
 | a :: b :: r => blt a b && rising (b :: r)
def nodeOk (kind : Int) (keys vals : List ByteArray) (kids : List Int) : Bool :=
 keys.all keyOk && vals.all valOk && kids.all pageOk && rising keys &&
  (if kind = 1 then decide (vals.length = keys.length ∧ kids.length = 0) else if kind = 2 then decide (kids.length = keys.length ∧ vals.length = 0 ∧ 0 < keys.length) else false)

/-- A number's bytes. -/
def vNumL (x : Nat) : List UInt8 := if h : x < 128 then [UInt8.ofNat x] else UInt8.ofNat (x % 128 + 128) :: vNumL (x / 128)
termination_by x
decreasing_by omega
def vNum (x : Nat) : ByteArray := ⟨(vNumL x).toArray⟩
def vText (s : ByteArray) : ByteArray := vNum s.size ++ s
/-- An entry's bytes. -/
def entryOf (kind : Int) (k v : ByteArray) (c : Int) : ByteArray := if kind = 1 then vText k ++ vText v else vText k ++ vNum c.toNat
/-- The first so many entries' bytes. -/
def entriesOf (kind : Int) (keys vals : List ByteArray) (kids : List Int) : Nat → ByteArray
 | 0 => ByteArray.empty
 | n + 1 => entriesOf kind keys vals kids n ++ entryOf kind (keys.getD n ByteArray.empty) (vals.getD n ByteArray.empty) (kids.getD n 0)
def packOf (kind : Int) (keys vals : List ByteArray) (kids : List Int) : ByteArray := vNum keys.length ++ entriesOf kind keys vals kids keys.length
/-- What Pack is asked for. -/
def packFine (kind : Int) (keys vals : List ByteArray) (kids : List Int) : Bool :=
 decide (keys.length ≤ 1000000) && keys.all (fun s => decide (s.size ≤ 1000)) && vals.all (fun s => decide (s.size ≤ 1000)) && kids.all pageOk &&
  (if kind = 1 then decide (vals.length = keys.length) else decide (kids.length = keys.length))
end Go.Proofs.YtendgmblgdkiaaaGreat
