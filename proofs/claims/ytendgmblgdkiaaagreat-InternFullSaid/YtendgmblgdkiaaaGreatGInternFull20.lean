/- Rows of cells: what a copy, a clear leaves. Plain laws on worlds; no program's text. -/
import Derived.Test.YtendgmblgdkiaaaGreatGInternFull0
import Derived.Test.YtendgmblgdkiaaaGreatGInternFull13
import Derived.Test.YtendgmblgdkiaaaGreatGInternFull16
import Derived.Test.YtendgmblgdkiaaaGreatGInternFull3
import Derived.Shelf.Spec.SlicesInsert
import Derived.Lib.Overlaps
namespace Go.Proofs.YtendgmblgdkiaaaGreat
open Go.RowKit
open Go.Proofs.YtendgmblgdkiaaaGreatW
open PrintWords (Kd)
set_option linter.unusedVariables false
set_option linter.unusedSimpArgs false

theorem heap_setCells_ne (b : Nat) : ∀ (vs : List Value) (o : Nat) (w : World) (k : Nat), k ≠ b → (w.setCells b o vs).heap[k]? = w.heap[k]?
 | [], _, _, _, _ => rfl
 | v :: r, o, w, k, h => by
  rw [World.setCells, heap_setCells_ne b r (o + 1) _ k h]
  exact Below.heap_setCell w ⟨b, o, none⟩ v k h
theorem size_setCells (b : Nat) : ∀ (vs : List Value) (o : Nat) (w : World), (w.setCells b o vs).heap.size = w.heap.size
 | [], _, _ => rfl
 | v :: r, o, w => by rw [World.setCells, size_setCells b r (o + 1)]; simp [World.setCell]
theorem row_setCells (b : Nat) (t : TypeId) : ∀ (vs : List Value) (o : Nat) (w : World) (cur : Array Value), w.heap[b]? = some (.cells cur t (0, 0)) → ∃ cur', (w.setCells b o vs).heap[b]? = some (.cells cur' t (0, 0)) ∧ cur'.size = cur.size
 | [], _, _, cur, h => ⟨cur, h, rfl⟩
 | v :: r, o, w, cur, h => by
  obtain ⟨cur', h1, h2⟩ := row_setCells b t r (o + 1) (w.setCell ⟨b, o, none⟩ v) (cur.setIfInBounds o v) (heap_setCell_same h o v)
  exact ⟨cur', h1, by simpa using h2⟩
theorem misc_setCells (b : Nat) : ∀ (vs : List Value) (o : Nat) (w : World), (w.setCells b o vs).os = w.os ∧ (w.setCells b o vs).tape = w.tape ∧ (w.setCells b o vs).output = w.output
 | [], _, _ => ⟨rfl, rfl, rfl⟩
 | v :: r, o, w => by
  rw [World.setCells]
  exact misc_setCells b r (o + 1) _
theorem below_setCells {B : Nat} {w0 w : World} (h : Below B w0 w) {b : Nat} (hb : B ≤ b) (o : Nat) (vs : List Value) : Below B w0 (w.setCells b o vs) := by
 obtain ⟨h1, h2, h3⟩ := misc_setCells b vs o w
 exact ⟨h1.trans h.os, h2.trans h.tape, h3.trans h.output, by rw [size_setCells]; exact h.size, fun k hk => (heap_setCells_ne b vs o w k om_).trans (h.block k hk)⟩
/-- A row of elements of one cell: its block, its capacity, its elements. -/
structure RowIs (w : World) (b : Nat) (t : TypeId) (c : Nat) (cs : List Value) : Prop where
 cap : c ≤ 9223372036854775807
 len : cs.length ≤ c
 blk : ∃ cur, w.heap[b]? = some (.cells cur t (0, 0)) ∧ cur.size = c
 cell : ∀ (k : Nat) (v : Value), cs[k]? = some v → w.cell? ⟨b, k, none⟩ = some v
namespace RowIs
variable {w : World} {b c : Nat} {t : TypeId} {cs : List Value}
theorem lt (h : RowIs w b t c cs) : b < w.heap.size := by obtain ⟨_, hb, _⟩ := h.blk; exact lt_of_heap hb
theorem some_ (h : RowIs w b t c cs) (k : Nat) (hk : k < c) : (w.cell? ⟨b, k, none⟩).isSome = true := by
 obtain ⟨cur, hb, hs⟩ := h.blk
 rw [cell_of_heap hb k, Array.getElem?_eq_getElem (by omega)]; rfl
theorem frz (h : RowIs w b t c cs) (k : Nat) : w.frozen? ⟨b, k, none⟩ = false := by
 obtain ⟨cur, hb, _⟩ := h.blk
 exact frozen_of_heap hb k
theorem shape (h : RowIs w b t c cs) : w.shape? b = some (t, c) := by
 obtain ⟨cur, hb, hs⟩ := h.blk
 simp [World.shape?, hb, hs]
/-- The row, as one of the call's own. -/
theorem own (h : RowIs w b t c cs) {base : Nat} (hb : base ≤ b) : w.ownsRow base t 1 (.slice (some ⟨b, 0, none⟩) cs.length c) cs.length cs := by
 obtain ⟨cur, hh, hs⟩ := h.blk
 refine ⟨by omega, .inr ⟨b, c, cur, rfl, hb, hh, h.len, by unfold maxLen; exact h.cap, by omega, ?_⟩⟩
 apply List.ext_getElem?
 intro k
 rw [Nat.mul_one]
 have hl := h.len
 by_cases hk : k < cs.length
 ·rw [List.getElem?_take_of_lt hk]
  have := h.cell k _ (List.getElem?_eq_getElem hk)
  rw [cell_of_heap hh k] at this
  rw [List.getElem?_eq_getElem hk, ← this]
  simp
 ·rw [List.getElem?_eq_none (by simp; omega), List.getElem?_eq_none (by omega)]
end RowIs
/-- A row of the call's own: none, or a block's. -/
theorem row_of_own {w : World} {base n : Nat} {t : TypeId} {v : Value} {cs : List Value} (h : w.ownsRow base t 1 v n cs) : (v = .slice none 0 0 ∧ cs = [] ∧ n = 0) ∨ ∃ g c, v = .slice (some ⟨g, 0, none⟩) cs.length c ∧ n = cs.length ∧ base ≤ g ∧ RowIs w g t c cs := by
 obtain ⟨hl, h | ⟨g, c, cur, rfl, hg, hh, hn, hc, hs, ht⟩⟩ := h
 ·obtain ⟨rfl, rfl⟩ := h
  exact .inl ⟨rfl, List.length_eq_zero_iff.1 om_, rfl⟩
 ·have e : n = cs.length := by omega
  subst e
  refine .inr ⟨g, c, rfl, rfl, hg, ⟨by unfold maxLen at hc; exact hc, hn, ⟨cur, hh, by omega⟩, fun k v hk => ?_⟩⟩
  rw [cell_of_heap hh k]
  have hlt := (List.getElem?_eq_some_iff.1 hk).1
  rw [← ht, Nat.mul_one, List.getElem?_take_of_lt hlt] at hk
  simpa using hk
theorem cells_in' (b : Nat) (vs : List Value) (o : Nat) (w : World) (j : Nat) (v : Value) (hj : vs[j]? = some v) (h : ∀ j, j < vs.length → (w.cell? ⟨b, o + j, none⟩).isSome = true) : (w.setCells b o vs).cell? ⟨b, o + j, none⟩ = some v := by
 obtain ⟨hl, he⟩ := List.getElem?_eq_some_iff.1 hj
 rw [World.cell?_setCells_in b vs o w h j hl, he]
theorem kept_setCells {w w1 : World} {P : Nat → Prop} (h : PrintWords.Kept w w1 P) {b : Nat} (hb : P b ∨ w.heap.size ≤ b) (o : Nat) (vs : List Value) : PrintWords.Kept w (w1.setCells b o vs) P :=
 ⟨by rw [size_setCells]; exact h.1, fun i hi hn => (heap_setCells_ne b vs o w1 i (fun e => by subst e; rcases hb with hb | hb; exact hn hb; omega)).trans (h.2 i hi hn)⟩
theorem run_overlaps_apart2 {P : Program} (w : World) (tS tR e : TypeId) (ht : P.underlying tS = some (.slice e)) (size : Nat) (hz : ∀ w, (Go.sizeOf e).run P w = .ok size w)
  (a b : Addr) (la ca lb cb : Nat) (hne : a.block ≠ b.block) (tA tB : TypeId) (kA kB : Nat)
  (hsa : w.shape? a.block = some (tA, kA + 1)) (hsb : w.shape? b.block = some (tB, kB))
  (hfb : w.frozen? b = false) (hfe : w.frozen? { block := b.block, off := kB } = false) :
  (Extern.SlicesOverlaps.overlaps #[tS, tS] #[tR] #[.slice (some a) la ca, .slice (some b) lb cb]).run P w = .ok (.bool false) w := by
 have hnb : (a.block != b.block) = true := by simpa using hne
 have hnb' : (a.block == b.block) = false := by simpa using hne
 change Sem.run P (α := Value) (do
  let some t := (#[tS, tS] : Array TypeId)[0]? | stuck "slices.overlaps: no parameter types"
  let .slice elem ← underlying t | stuck "slices.overlaps: slice type expected"
  let size ← sizeOf elem
  match (some a : Option Addr), (some b : Option Addr) with
  | some a, some b =>
   if la = 0 ∨ lb = 0 ∨ size = 0 then pure (Value.bool false)
   else if a.block != b.block && (← frozen a) && (← frozen b) then unsupported .addressObserved
   else do
    if a.block != b.block then do
     noView a; noView b
     if ← mayBeOne a b then return Value.bool ((← choose (.extern "sameAddr.stringBytes" 2)) == 1)
    pure (Value.bool (a.block == b.block && a.off < b.off + lb * size && b.off < a.off + la * size))
  | _, _ => pure (Value.bool false)) w = _
 by_cases h0 : la = 0 ∨ lb = 0 ∨ size = 0
 ·simp [run_underlying ht, hz, h0]
 ·cases hfa : w.frozen? a <;> cases hga : w.frozen? { block := a.block, off := kA + 1 } <;>
   simp [run_underlying ht, hz, h0, hnb, hnb', frozen, noView, viewAt, mayBeOne, stringish, shape, Sem.run, hsa, hsb, hfa, hga, hfb, hfe]

theorem run_clear_zero {P : Program} (W : World) (t e ty : TypeId) (ht : P.underlying t = some (.slice e)) (ad : Option Addr) (c : Nat) :
  (Builtin.clear_ #[t] ty #[.slice ad 0 c]).run P W = .ok (.tuple #[]) W := by
 cases ad <;> simp [Builtin.clear_, run_underlying ht]
end Go.Proofs.YtendgmblgdkiaaaGreat
