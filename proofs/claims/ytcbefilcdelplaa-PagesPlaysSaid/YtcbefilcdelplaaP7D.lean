/- A row of pages' calls among the arguments, opened. -/
import Derived.Test.YtcbefilcdelplaaP7C
import Derived.ChangeSlices
import Derived.SliceStrings
import Derived.Deep.Grids
import Derived.Lib.SmallJoins
namespace Go.Proofs.Ytcbefilcdelplaa
open Go.RowKit Go.ChangeShapes Go.WideShapes Go.Joins
set_option linter.unusedVariables false
set_option linter.unusedSimpArgs false

variable {H : Type} {enc : TypeId × Value → H} {w : World}

theorem list5x {α : Type} {l : List α} (h : l.length = 5) : ∃ a b c d e, l = [a, b, c, d, e] := by
  match l, h with
  | [a, b, c, d, e], _ => exact ⟨a, b, c, d, e, rfl⟩

theorem trod_struct5 {t : TypeId} {f0 f1 f2 f3 f4 : Field} {fuel base : Nat} {spare : Nat → Bool} {held : Bool} {cs : List Value} {x : DataW H × List MemPlace} (ht : Try.prog.underlying t = some (.struct #[f0, f1, f2, f3, f4])) (h : DataW.trod enc Try.prog w base spare held fuel t cs = some x) :
    ∃ y0 y1 y2 y3 y4 n, cs.length = Try.prog.cellsOf t ∧ DataW.trod enc Try.prog w base spare held n f0.type ((cs.drop f0.offset).take (Try.prog.cellsOf f0.type)) = some y0 ∧
      DataW.trod enc Try.prog w base spare held n f1.type ((cs.drop f1.offset).take (Try.prog.cellsOf f1.type)) = some y1 ∧ DataW.trod enc Try.prog w base spare held n f2.type ((cs.drop f2.offset).take (Try.prog.cellsOf f2.type)) = some y2 ∧
      DataW.trod enc Try.prog w base spare held n f3.type ((cs.drop f3.offset).take (Try.prog.cellsOf f3.type)) = some y3 ∧ DataW.trod enc Try.prog w base spare held n f4.type ((cs.drop f4.offset).take (Try.prog.cellsOf f4.type)) = some y4 := by
  obtain ⟨xs, n, _, rfl, hl, hlen, hf⟩ := DataW.trod_struct ht h
  match xs, hlen with
  | [y0, y1, y2, y3, y4], _ => exact ⟨y0, y1, y2, y3, y4, n, hl, by simpa using hf 0 f0 rfl, by simpa using hf 1 f1 rfl, by simpa using hf 2 f2 rfl, by simpa using hf 3 f3 rfl, by simpa using hf 4 f4 rfl⟩

theorem open_act7 {fuel b off : Nat} {cs : List Value} {x : DataW H × List MemPlace} (hc : w.cells? 0 ⟨b, off, none⟩ 5 = some cs) (h : DataW.trod enc Try.prog w 0 (fun _ => true) true fuel 87 cs = some x) :
    ∃ A, ActCells7 w b off A := by
  obtain ⟨y0, y1, y2, y3, y4, n, hlen, h0, h1, h2, h3, h4⟩ := trod_struct5 Try.underlying87 h
  have hl : cs.length = 5 := hlen.trans (by kernel_rfl)
  obtain ⟨v0, v1, v2, v3, v4, rfl⟩ : ∃ v0 v1 v2 v3 v4, cs = [v0, v1, v2, v3, v4] := list5x hl
  have k1 : Try.prog.cellsOf 3 = 1 := by kernel_rfl
  have k2 : Try.prog.cellsOf 9 = 1 := by kernel_rfl
  have k3 : Try.prog.cellsOf 59 = 1 := by kernel_rfl
  simp only [k1, k2, k3, List.drop, List.take] at h0 h1 h2 h3 h4
  obtain ⟨m0, e0, _, w0⟩ := DataW.trod_int Try.underlying3 h0
  obtain ⟨m1, e1, _, w1⟩ := DataW.trod_int Try.underlying3 h1
  obtain ⟨m2, e2, _, w2⟩ := DataW.trod_int Try.underlying3 h2
  obtain ⟨s, e3, _, w3⟩ := DataW.trod_string Try.underlying9 h3
  obtain ⟨l, hl1, hl2⟩ := open_choice h4
  obtain ⟨_, _, hcell⟩ := World.cells?_some hc
  have e0' : v0 = .int .i64 m0 := by simpa using e0
  have e1' : v1 = .int .i64 m1 := by simpa using e1
  have e2' : v2 = .int .i64 m2 := by simpa using e2
  have e3' : v3 = .string s := by simpa using e3
  subst e0' e1' e2' e3'
  have q0 := hcell 0 (by omega)
  have q1 := hcell 1 (by omega)
  have q2 := hcell 2 (by omega)
  have q3 := hcell 3 (by omega)
  have q4 := hcell 4 (by omega)
  rw [add_plain] at q0 q1 q2 q3 q4
  exact ⟨⟨m0, m1, m2, s, v4, l⟩, q0, q1, q2, q3, q4, hl1, hl2⟩

theorem open_acts7 {fuel : Nat} {v : Value} {x : DataW H × List MemPlace} (h : DataW.trod enc Try.prog w 0 (fun _ => true) true fuel 83 [v] = some x) : ∃ l, ActsAt7 w v l := by
  rcases DataW.trod_slice Try.underlying83 h with ⟨hcs, hx⟩ | ⟨a, len, cap, elems, rest, n, _, hcs, hx, hb, hl, hm, hlen, hel, hsp, hns⟩
  · obtain rfl : v = .slice none 0 0 := by simpa using hcs
    exact ⟨[], none, 0, rfl, by simp, fun i hi => by simp at hi⟩
  · obtain rfl : v = .slice (some a) len cap := by simpa using hcs
    have hm' : cap ≤ 9223372036854775807 := by have : maxLen = 9223372036854775807 := by rfl
                                               omega
    have kc : Try.prog.cellsOf 87 = 5 := by kernel_rfl
    have hel' : ∀ i, i < len → ∃ cs y, w.cells? 0 (a.add (i * 5)) 5 = some cs ∧ DataW.trod enc Try.prog w 0 (fun _ => true) true n 87 cs = some y := by
      intro i hi
      have h1 := hel i hi
      rw [kc, List.getElem?_eq_getElem (by omega), Option.bind_eq_some_iff] at h1
      obtain ⟨cs', hcs', hy⟩ := h1
      exact ⟨cs', _, hcs', hy⟩
    have each : ∀ i, i < len → ∃ A : Act7, ∃ b off, a = ⟨b, off, none⟩ ∧ ActCells7 w b (off + i * 5) A := by
      intro i hi
      obtain ⟨cs', y, hcs', hy⟩ := hel' i hi
      obtain ⟨b, off, spot⟩ := a
      have hs : spot = none := by
        obtain ⟨cs0, _, hcs0, _⟩ := hel' 0 (by omega)
        obtain ⟨_, hl', hc⟩ := World.cells?_some hcs0
        have h0 := hc 0 (by omega)
        rw [List.getElem?_eq_getElem (by omega)] at h0
        simpa [Addr.add] using World.cell?_spot h0
      subst hs
      rw [add_plain] at hcs'
      obtain ⟨A, hA⟩ := open_act7 hcs' hy
      exact ⟨A, b, off, rfl, hA⟩
    obtain ⟨f, hf⟩ := Deep.choose_lt (p := fun i (A : Act7) => ∃ b off, a = ⟨b, off, none⟩ ∧ ActCells7 w b (off + i * 5) A) each
    refine ⟨(List.range len).map f, some a, cap, by simp, by simp; omega, fun i hi => ?_⟩
    have hi' : i < len := by simpa using hi
    obtain ⟨b, off, ha, hA⟩ := hf i hi'
    exact ⟨b, off, by rw [ha], by simpa using hA⟩
end Go.Proofs.Ytcbefilcdelplaa
