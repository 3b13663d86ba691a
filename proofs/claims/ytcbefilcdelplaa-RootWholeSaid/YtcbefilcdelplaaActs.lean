/- A row of calls among the arguments, opened. -/
import Derived.Test.YtcbefilcdelplaaLaw5A
import Derived.ChangeSlices
import Derived.SliceStrings
import Derived.Deep.Grids
import Derived.Lib.SmallJoins
namespace Go.Proofs.Ytcbefilcdelplaa
open Go.RowKit Go.ChangeShapes Go.WideShapes Go.Joins
set_option linter.unusedVariables false
set_option linter.unusedSimpArgs false

/-- A call. -/
structure Act where
  kind : Int
  i : Int
  s : ByteArray
  cv : Value
  ch : List Int
instance : Inhabited Act := ⟨⟨0, 0, ByteArray.empty, .bool false, []⟩⟩

def inI64 (x : Int) : Prop := -9223372036854775808 ≤ x ∧ x ≤ 9223372036854775807
def sliceOk (v : Value) : Prop := ∀ a n c, v = .slice a n c → n ≤ c ∧ n ≤ 9223372036854775807

/-- It lies from an offset on. -/
structure ActCells (w : World) (b off : Nat) (A : Act) : Prop where
  c0 : w.cell? ⟨b, off, none⟩ = some (.int .i64 A.kind)
  c1 : w.cell? ⟨b, off + 1, none⟩ = some (.int .i64 A.i)
  c2 : w.cell? ⟨b, off + 2, none⟩ = some (.string A.s)
  c3 : w.cell? ⟨b, off + 3, none⟩ = some A.cv
  ints : IntsAt w A.cv A.ch
  cap : sliceOk A.cv
  ik : inI64 A.i

def ActsAt (w : World) (v : Value) (l : List Act) : Prop :=
  ∃ a c, v = .slice a l.length c ∧ l.length ≤ 9223372036854775807 ∧ ∀ i (hi : i < l.length), ∃ b off, a = some ⟨b, off, none⟩ ∧ ActCells w b (off + i * 4) l[i]

theorem IntsAt.at {w w' : World} {v : Value} {l : List Int} (h : IntsAt w v l) (hb : ∀ p x, w.cell? p = some x → w'.cell? p = some x) : IntsAt w' v l := by
  rcases h with h | ⟨b, off, c, hv, hc⟩
  · exact .inl h
  · exact .inr ⟨b, off, c, hv, fun i hi => hb _ _ (hc i hi)⟩
theorem IntsAt.lt {w : World} {v : Value} {l : List Int} (h : IntsAt w v l) : ∀ b off n c, v = .slice (some ⟨b, off, none⟩) n c → w.heap.size ≤ b → l = [] := by
  intro b off n c hv hb
  rcases h with h | ⟨b', off', c', hv', hc⟩
  · exact h.1
  · rw [hv'] at hv
    simp only [Value.slice.injEq, Option.some.injEq, Addr.mk.injEq] at hv
    obtain ⟨⟨rfl, rfl, _⟩, _⟩ := hv
    cases l with
    | nil => rfl
    | cons x l =>
      have := World.block_lt_of_cell? w _ (hc 0 (by simp))
      simp at this
      omega
theorem ActCells.at {w w' : World} {b off : Nat} {A : Act} (h : ActCells w b off A) (hb : ∀ p x, w.cell? p = some x → w'.cell? p = some x) : ActCells w' b off A :=
  ⟨hb _ _ h.c0, hb _ _ h.c1, hb _ _ h.c2, hb _ _ h.c3, h.ints.at hb, h.cap, h.ik⟩
theorem ActsAt.at {w w' : World} {v : Value} {l : List Act} (h : ActsAt w v l) (hb : ∀ p x, w.cell? p = some x → w'.cell? p = some x) : ActsAt w' v l := by
  obtain ⟨a, c, hv, hl, hc⟩ := h
  exact ⟨a, c, hv, hl, fun i hi => by obtain ⟨b, off, ha, h⟩ := hc i hi; exact ⟨b, off, ha, h.at hb⟩⟩
theorem below_cells {w w' : World} (h : Below w.heap.size w w') : ∀ p x, w.cell? p = some x → w'.cell? p = some x := by
  intro p x hx
  rw [World.cell?_of_block (w := w) (h.block p.block (World.block_lt_of_cell? w _ hx))]
  exact hx

variable {H : Type} {enc : TypeId × Value → H} {w : World}

theorem open_choice {fuel : Nat} {v : Value} {x : DataW H × List MemPlace} (h : DataW.trod enc Try.prog w 0 (fun _ => true) true fuel 59 [v] = some x) : ∃ l, IntsAt w v l ∧ sliceOk v := by
  rcases open_ints Try.underlying59 Try.underlying3 (by kernel_rfl) h with ⟨hcs, hx⟩ | ⟨a, len, cap, zs, hcs, _, hl, hm, hz, hx, hcell, hwf⟩
  · obtain rfl : v = .slice none 0 0 := by simpa using hcs
    exact ⟨[], .inl ⟨rfl, _, _, rfl⟩, fun a n c h => by simp at h; omega⟩
  · obtain rfl : v = .slice (some a) len cap := by simpa using hcs
    have hm' : cap ≤ 9223372036854775807 := by have : maxLen = 9223372036854775807 := by rfl
                                               omega
    refine ⟨zs.take len, ?_, fun a n c h => by simp only [Value.slice.injEq] at h; obtain ⟨_, rfl, rfl⟩ := h; exact ⟨hl, by omega⟩⟩
    simp only [if_true] at hz
    by_cases h0 : len = 0
    · subst h0
      exact .inl ⟨by simp, _, _, rfl⟩
    · obtain ⟨b, off, spot⟩ := a
      have hs : spot = none := by
        have := hcell 0 (by omega)
        simpa [Addr.add] using World.cell?_spot this
      subst hs
      have ht : (zs.take len).length = len := by rw [List.length_take]; omega
      refine .inr ⟨b, off, cap, by rw [ht], fun i hi => ?_⟩
      rw [ht] at hi
      have := hcell i (by omega)
      rw [add_plain] at this
      rw [this]
      simp [List.getD_eq_getElem?_getD, List.getElem?_take, hi]

theorem list4 {α : Type} {l : List α} (h : l.length = 4) : ∃ a b c d, l = [a, b, c, d] := by
  match l, h with
  | [a, b, c, d], _ => exact ⟨a, b, c, d, rfl⟩

theorem open_act {fuel b off : Nat} {cs : List Value} {x : DataW H × List MemPlace} (hc : w.cells? 0 ⟨b, off, none⟩ 4 = some cs) (h : DataW.trod enc Try.prog w 0 (fun _ => true) true fuel 69 cs = some x) :
    ∃ A, ActCells w b off A := by
  obtain ⟨y0, y1, y2, y3, n, hx, hlen, h0, h1, h2, h3⟩ := trod_struct4 Try.underlying69 h
  have hl : cs.length = 4 := hlen.trans (by kernel_rfl)
  obtain ⟨v0, v1, v2, v3, rfl⟩ : ∃ v0 v1 v2 v3, cs = [v0, v1, v2, v3] := list4 hl
  have k1 : Try.prog.cellsOf 3 = 1 := by kernel_rfl
  have k2 : Try.prog.cellsOf 9 = 1 := by kernel_rfl
  have k3 : Try.prog.cellsOf 59 = 1 := by kernel_rfl
  simp only [k1, k2, k3, List.drop, List.take] at h0 h1 h2 h3
  obtain ⟨m0, e0, _, w0⟩ := DataW.trod_int Try.underlying3 h0
  obtain ⟨m1, e1, _, w1⟩ := DataW.trod_int Try.underlying3 h1
  obtain ⟨s, e2, _, w2⟩ := DataW.trod_string Try.underlying9 h2
  obtain ⟨l, hl1, hl2⟩ := open_choice h3
  have e : IntKind.i64.min = -9223372036854775808 := rfl
  have hw1 : inI64 m1 := by simpa [Lit.wf, inI64, e] using w1
  obtain ⟨_, _, hcell⟩ := World.cells?_some hc
  have e0' : v0 = .int .i64 m0 := by simpa using e0
  have e1' : v1 = .int .i64 m1 := by simpa using e1
  have e2' : v2 = .string s := by simpa using e2
  subst e0' e1' e2'
  have q0 := hcell 0 (by omega)
  have q1 := hcell 1 (by omega)
  have q2 := hcell 2 (by omega)
  have q3 := hcell 3 (by omega)
  rw [add_plain] at q0 q1 q2 q3
  exact ⟨⟨m0, m1, s, v3, l⟩, q0, q1, q2, q3, hl1, hl2, hw1⟩

theorem open_acts {fuel : Nat} {v : Value} {x : DataW H × List MemPlace} (h : DataW.trod enc Try.prog w 0 (fun _ => true) true fuel 67 [v] = some x) : ∃ l, ActsAt w v l := by
  rcases DataW.trod_slice Try.underlying67 h with ⟨hcs, hx⟩ | ⟨a, len, cap, elems, rest, n, _, hcs, hx, hb, hl, hm, hlen, hel, hsp, hns⟩
  · obtain rfl : v = .slice none 0 0 := by simpa using hcs
    exact ⟨[], none, 0, rfl, by simp, fun i hi => by simp at hi⟩
  · obtain rfl : v = .slice (some a) len cap := by simpa using hcs
    have hm' : cap ≤ 9223372036854775807 := by have : maxLen = 9223372036854775807 := by rfl
                                               omega
    have kc : Try.prog.cellsOf 69 = 4 := by kernel_rfl
    have hel' : ∀ i, i < len → ∃ cs y, w.cells? 0 (a.add (i * 4)) 4 = some cs ∧ DataW.trod enc Try.prog w 0 (fun _ => true) true n 69 cs = some y := by
      intro i hi
      have h1 := hel i hi
      rw [kc, List.getElem?_eq_getElem (by omega), Option.bind_eq_some_iff] at h1
      obtain ⟨cs', hcs', hy⟩ := h1
      exact ⟨cs', _, hcs', hy⟩
    have each : ∀ i, i < len → ∃ A : Act, ∃ b off, a = ⟨b, off, none⟩ ∧ ActCells w b (off + i * 4) A := by
      intro i hi
      obtain ⟨cs', y, hcs', hy⟩ := hel' i hi
      obtain ⟨b, off, spot⟩ := a
      have hs : spot = none := by
        obtain ⟨cs0, _, hcs0, _⟩ := hel' 0 (by omega)
        obtain ⟨_, hl', hc⟩ := World.cells?_some hcs0
        have h0 := hc 0 (by omega)
        rw [List.getElem?_eq_getElem (by omega)] at h0
        simpa [Addr.add] using World.cell?_spot h0
      subst hs
      rw [add_plain] at hcs'
      obtain ⟨A, hA⟩ := open_act hcs' hy
      exact ⟨A, b, off, rfl, hA⟩
    obtain ⟨f, hf⟩ := Deep.choose_lt (p := fun i (A : Act) => ∃ b off, a = ⟨b, off, none⟩ ∧ ActCells w b (off + i * 4) A) each
    refine ⟨(List.range len).map f, some a, cap, by simp, by simp; omega, fun i hi => ?_⟩
    have hi' : i < len := by simpa using hi
    obtain ⟨b, off, ha, hA⟩ := hf i hi'
    exact ⟨b, off, by rw [ha], by simpa using hA⟩
end Go.Proofs.Ytcbefilcdelplaa
