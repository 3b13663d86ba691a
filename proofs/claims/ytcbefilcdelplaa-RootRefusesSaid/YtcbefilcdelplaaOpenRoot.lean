/- A root that comes in: its six cells. -/
import Derived.Test.YtcbefilcdelplaaProg
import Derived.WalkKit
import Derived.ProofKit
import Derived.OpenShut
import Derived.ChangeOld
import Derived.Below
import Derived.Lib.SmallJoins
namespace Go.Proofs.Ytcbefilcdelplaa
open Go.ChangeShapes Go.WideShapes Go.ChangeAt Go.RowKit Go.Joins
set_option linter.unusedVariables false
set_option linter.unusedSimpArgs false

section
variable {H : Type} {enc : TypeId × Value → H} {w : World} {base : Nat} {spare : Nat → Bool} {held : Bool}
theorem cellsI : Try.prog.cellsOf 3 = 1 := by kernel_rfl
theorem cellsU : Try.prog.cellsOf 48 = 1 := by kernel_rfl
theorem cellsR : Try.prog.cellsOf 50 = 6 := by kernel_rfl
set_option maxRecDepth 100000 in
theorem open_root {r : Reach} {b0 : Nat} {v : Value} {d : DataW H} {p : List MemPlace} (hv : Value.okWide Try.prog w r b0 50 v) (h : DataW.Trod enc Try.prog w base spare held 50 v d p) :
    ∃ ep hf pg nx ct hg : Int, v = .agg #[.int .u64 ep, .int .i64 hf, .int .i64 pg, .int .i64 nx, .int .i64 ct, .int .i64 hg] := by
  obtain ⟨cs, rfl, hsz⟩ := okWide_struct Try.underlying50 hv
  obtain ⟨l⟩ := cs
  match l, hsz.trans cellsR with
  | [c0, c1, c2, c3, c4, c5], _ =>
    obtain ⟨fuel, hfuel⟩ := h
    obtain ⟨xs, n, _, hx, _, hlen, hgg⟩ := DataW.trod_struct Try.underlying50 hfuel
    match xs, hlen with
    | [y0, y1, y2, y3, y4, y5], _ =>
      have g0 : DataW.trod enc Try.prog w base spare held n 48 (([c0, c1, c2, c3, c4, c5].drop 0).take (Try.prog.cellsOf 48)) = some y0 := hgg 0 _ rfl
      rw [cellsU] at g0
      have g1 : DataW.trod enc Try.prog w base spare held n 3 (([c0, c1, c2, c3, c4, c5].drop 1).take (Try.prog.cellsOf 3)) = some y1 := hgg 1 _ rfl
      rw [cellsI] at g1
      have g2 : DataW.trod enc Try.prog w base spare held n 3 (([c0, c1, c2, c3, c4, c5].drop 2).take (Try.prog.cellsOf 3)) = some y2 := hgg 2 _ rfl
      rw [cellsI] at g2
      have g3 : DataW.trod enc Try.prog w base spare held n 3 (([c0, c1, c2, c3, c4, c5].drop 3).take (Try.prog.cellsOf 3)) = some y3 := hgg 3 _ rfl
      rw [cellsI] at g3
      have g4 : DataW.trod enc Try.prog w base spare held n 3 (([c0, c1, c2, c3, c4, c5].drop 4).take (Try.prog.cellsOf 3)) = some y4 := hgg 4 _ rfl
      rw [cellsI] at g4
      have g5 : DataW.trod enc Try.prog w base spare held n 3 (([c0, c1, c2, c3, c4, c5].drop 5).take (Try.prog.cellsOf 3)) = some y5 := hgg 5 _ rfl
      rw [cellsI] at g5
      obtain ⟨ep, e0, _, _⟩ := DataW.trod_int Try.underlying48 (show DataW.trod enc Try.prog w base spare held n 48 [c0] = some y0 from g0)
      obtain ⟨hf, e1, _, _⟩ := DataW.trod_int Try.underlying3 (show DataW.trod enc Try.prog w base spare held n 3 [c1] = some y1 from g1)
      obtain ⟨pg, e2, _, _⟩ := DataW.trod_int Try.underlying3 (show DataW.trod enc Try.prog w base spare held n 3 [c2] = some y2 from g2)
      obtain ⟨nx, e3, _, _⟩ := DataW.trod_int Try.underlying3 (show DataW.trod enc Try.prog w base spare held n 3 [c3] = some y3 from g3)
      obtain ⟨ct, e4, _, _⟩ := DataW.trod_int Try.underlying3 (show DataW.trod enc Try.prog w base spare held n 3 [c4] = some y4 from g4)
      obtain ⟨hg', e5, _, _⟩ := DataW.trod_int Try.underlying3 (show DataW.trod enc Try.prog w base spare held n 3 [c5] = some y5 from g5)
      simp at e0 e1 e2 e3 e4 e5
      subst e0 e1 e2 e3 e4 e5
      exact ⟨ep, hf, pg, nx, ct, hg', rfl⟩
end
end Go.Proofs.Ytcbefilcdelplaa
