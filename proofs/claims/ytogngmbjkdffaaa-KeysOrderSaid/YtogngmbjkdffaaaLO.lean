/- A key that comes in: its seven cells. -/
import Derived.Test.YtogngmbjkdffaaaProg
import Derived.WalkKit
import Derived.ProofKit
import Derived.OpenShut
import Derived.ChangeOld
import Derived.Below
import Derived.Lib.SmallJoins
namespace Go.Proofs.Ytogngmbjkdffaaa.PKeysAll
open Go.ChangeShapes Go.WideShapes Go.ChangeAt Go.RowKit Go.Joins
set_option linter.unusedVariables false
set_option linter.unusedSimpArgs false

variable {H : Type} {enc : TypeId × Value → H} {w : World} {base : Nat} {spare : Nat → Bool} {held : Bool}

theorem cells3 : Try.prog.cellsOf 3 = 1 := by kernel_rfl
theorem cells22 : Try.prog.cellsOf 22 = 1 := by kernel_rfl
theorem cells24 : Try.prog.cellsOf 24 = 2 := by kernel_rfl
theorem cells26 : Try.prog.cellsOf 26 = 7 := by kernel_rfl

theorem open_key {r : Reach} {b0 : Nat} {v : Value} {d : DataW H} {p : List MemPlace} (hv : Value.okWide Try.prog w r b0 26 v) (h : DataW.Trod enc Try.prog w base spare held 26 v d p) :
    ∃ kind rev fact a b sum n : Int, v = .agg #[.int .i64 kind, .int .i64 rev, .int .i64 fact, .int .i64 a, .int .i64 b, .int .u32 sum, .int .i64 n] ∧ 0 ≤ sum ∧ sum < 4294967296 := by
  obtain ⟨cs, rfl, hsz⟩ := okWide_struct Try.underlying26 hv
  obtain ⟨l⟩ := cs
  match l, hsz.trans cells26 with
  | [c0, c1, c2, c3, c4, c5, c6], _ =>
    obtain ⟨fuel, hf⟩ := h
    obtain ⟨xs, n, _, hx, _, hlen, hg⟩ := DataW.trod_struct Try.underlying26 hf
    match xs, hlen with
    | [y0, y1, y2, y3, y4, y5], _ =>
      have g0 : DataW.trod enc Try.prog w base spare held n 3 (([c0, c1, c2, c3, c4, c5, c6].drop 0).take (Try.prog.cellsOf 3)) = some y0 := hg 0 _ rfl
      rw [cells3] at g0
      have g1 : DataW.trod enc Try.prog w base spare held n 3 (([c0, c1, c2, c3, c4, c5, c6].drop 1).take (Try.prog.cellsOf 3)) = some y1 := hg 1 _ rfl
      rw [cells3] at g1
      have g2 : DataW.trod enc Try.prog w base spare held n 3 (([c0, c1, c2, c3, c4, c5, c6].drop 2).take (Try.prog.cellsOf 3)) = some y2 := hg 2 _ rfl
      rw [cells3] at g2
      have g3 : DataW.trod enc Try.prog w base spare held n 3 (([c0, c1, c2, c3, c4, c5, c6].drop 3).take (Try.prog.cellsOf 3)) = some y3 := hg 3 _ rfl
      rw [cells3] at g3
      have g4 : DataW.trod enc Try.prog w base spare held n 3 (([c0, c1, c2, c3, c4, c5, c6].drop 4).take (Try.prog.cellsOf 3)) = some y4 := hg 4 _ rfl
      rw [cells3] at g4
      have g5 : DataW.trod enc Try.prog w base spare held n 24 (([c0, c1, c2, c3, c4, c5, c6].drop 5).take (Try.prog.cellsOf 24)) = some y5 := hg 5 _ rfl
      rw [cells24] at g5
      obtain ⟨kind, e0, _, _⟩ := DataW.trod_int Try.underlying3 (show DataW.trod enc Try.prog w base spare held n 3 [c0] = some y0 from g0)
      obtain ⟨rev, e1, _, _⟩ := DataW.trod_int Try.underlying3 (show DataW.trod enc Try.prog w base spare held n 3 [c1] = some y1 from g1)
      obtain ⟨fact, e2, _, _⟩ := DataW.trod_int Try.underlying3 (show DataW.trod enc Try.prog w base spare held n 3 [c2] = some y2 from g2)
      obtain ⟨a, e3, _, _⟩ := DataW.trod_int Try.underlying3 (show DataW.trod enc Try.prog w base spare held n 3 [c3] = some y3 from g3)
      obtain ⟨b, e4, _, _⟩ := DataW.trod_int Try.underlying3 (show DataW.trod enc Try.prog w base spare held n 3 [c4] = some y4 from g4)
      obtain ⟨xs2, n2, _, _, _, hlen2, hg2⟩ := DataW.trod_struct Try.underlying24 (show DataW.trod enc Try.prog w base spare held n 24 [c5, c6] = some y5 from g5)
      match xs2, hlen2 with
      | [z0, z1], _ =>
        have k0 : DataW.trod enc Try.prog w base spare held n2 22 (([c5, c6].drop 0).take (Try.prog.cellsOf 22)) = some z0 := hg2 0 _ rfl
        rw [cells22] at k0
        have k1 : DataW.trod enc Try.prog w base spare held n2 3 (([c5, c6].drop 1).take (Try.prog.cellsOf 3)) = some z1 := hg2 1 _ rfl
        rw [cells3] at k1
        obtain ⟨sum, e5, _, w5⟩ := DataW.trod_int Try.underlying22 (show DataW.trod enc Try.prog w base spare held n2 22 [c5] = some z0 from k0)
        obtain ⟨m, e6, _, _⟩ := DataW.trod_int Try.underlying3 (show DataW.trod enc Try.prog w base spare held n2 3 [c6] = some z1 from k1)
        simp at e0 e1 e2 e3 e4 e5 e6
        subst e0 e1 e2 e3 e4 e5 e6
        have hx : 0 ≤ sum ∧ sum < 4294967296 := by have h_ := w5; have e_ : IntKind.u32.min = 0 := rfl; have e2_ : IntKind.u32.max = 4294967295 := rfl; simp [Lit.wf, e_, e2_] at h_; omega
        exact ⟨kind, rev, fact, a, b, sum, m, rfl, hx.1, hx.2⟩
end Go.Proofs.Ytogngmbjkdffaaa.PKeysAll
