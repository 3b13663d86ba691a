/- Where there is no room for a text nothing changes: dowserlaw14.InternFull answers true for every input, and turns nothing that was there. No condition. -/
import Derived.Test.YtendgmblgdkiaaaGreatGInternFull0
import Derived.Test.YtendgmblgdkiaaaGreatGInternFull37
import Derived.Test.YtendgmblgdkiaaaGreatRows
import Derived.Test.YtendgmblgdkiaaaGreatGInternFull1
import Derived.Test.YtendgmblgdkiaaaGreatGInternFull2
import Derived.WalkKit
import Derived.ProofKit
import Derived.OpenShut
import Derived.ShutString
import Derived.ChangeOld
import Derived.Below
import Derived.Lib.SmallJoins
namespace Go.Proofs.YtendgmblgdkiaaaGreat.lawInternFull
open Go.ChangeShapes Go.WideShapes Go.ChangeAt Go.RowKit Go.Joins
open Go.ChangeMaps (open_string shut_string)
set_option linter.unusedVariables false
set_option linter.unusedSimpArgs false

theorem own : ownKnob Tryz.prog.godebug = none := by kernel_rfl
theorem laidOut : laidOutB Tryz.prog = true := by kernel_rfl

set_option maxRecDepth 100000 in
set_option maxHeartbeats 1000000 in
theorem lifted (os : Os) (started : os.Started) (H : Type) (enc : TypeId × Value → H) :
  ReturnsInHanded {} Tryz.checked os 11 .any (Rows.internFullSpec.pre6 enc Tryz.prog Tryz.f11 Rows.internFullRow.domain false) (Rows.internFullSpec.post enc Tryz.prog Tryz.f11 false true false false) := by
 refine returnsInHanded_of_change (C := Tryz.checked) own started kr_ Tryz.func11
  (ChangeSpec.witness6 (enc := enc) (C := Tryz.checked) false ⟨#[], #[.int .i64 0, .int .i64 0], []⟩ 8 kr_ kr_ kr_ kr_) ?_
 intro W base args ds gs before hval0 hW hcnd hsz
 have hval : ∀ (j : Nat) t v, Tryz.f11.params[j]? = some t → args[j]? = some v → Value.okWide Tryz.prog W .any base t v := hval0
 have hW' := hW
 obtain ⟨p, q, hA0, hV, rfl, hfz, hnd⟩ := hW
 have hA : DataW.TrodAll enc Tryz.prog W 0 (fun _ => true) true Tryz.f11.params.toList args.toList ds p := hA0
 rw [Tryz.params11] at hA hval
 obtain ⟨v0, vs0, d0, ds0, p0, q0, hargs, rfl, rfl, h0, r0⟩ := trodAll_cons hA
 obtain ⟨v1, vs1, d1, ds1, p1, q1, rfl, rfl, rfl, h1, r1⟩ := trodAll_cons r0
 obtain ⟨rfl, rfl, rfl⟩ := trodAll_nil r1
 obtain rfl : args = #[v0, v1] := by cases args; simp_all
 obtain ⟨rfl, rfl⟩ := trodVars_none hV
 have k0 := h0
 have lt0 : ∀ x ∈ p0, x.block < W.heap.size := by obtain ⟨m, hm⟩ := k0; exact DataW.trod_lt m _ _ _ hm
 have k1 := h1
 have lt1 : ∀ x ∈ p1, x.block < W.heap.size := by obtain ⟨m, hm⟩ := k1; exact DataW.trod_lt m _ _ _ hm
 have a0 : ∀ W', Below W.heap.size W W' → DataW.Trod enc Tryz.prog W' 0 (fun b => decide (b < W.heap.size)) true 3 v0 d0 p0 := fun W' bel => Below.trod laidOut kr_ (of_decide_eq_true kr_) k0 bel lt0
 have a1 : ∀ W', Below W.heap.size W W' → DataW.Trod enc Tryz.prog W' 0 (fun b => decide (b < W.heap.size)) true 3 v1 d1 p1 := fun W' bel => Below.trod laidOut kr_ (of_decide_eq_true kr_) k1 bel lt1
 obtain ⟨room, rfl, rfl, rfl, w_room⟩ := open_int Tryz.underlying3 (hval 0 3 v0 rfl rfl) h0
 obtain ⟨n, rfl, rfl, rfl, w_n⟩ := open_int Tryz.underlying3 (hval 1 3 v1 rfl rfl) h1
 clear hA0 hval0
 refine (full_walk W room n).mono fun e W' ⟨he, bel⟩ => ?_
 subst he
 exact ⟨_, rfl, _, _, _, [], _, [], hW', trodAll_mk1 (shut_bool Tryz.underlying4 _), (trodAll_cons_mk (a0 W' bel) (trodAll_cons_mk (a1 W' bel) trodAll_mk0)), rfl, bel.frame _, fun h => by cases h⟩

theorem gIn : (Rows.internFullRow.inPlace == Tryz.prog.inPlace 11) = true := by kernel_rfl
theorem gUn : (Rows.internFullRow.unfollowed == Tryz.prog.unfollowed 11) = true := by kernel_rfl
theorem gRe : (Rows.internFullRow.recurses == Tryz.prog.recurses 11) = true := by kernel_rfl
theorem gNa : (Rows.internFullRow.named == Tryz.prog.varsNamed 11) = true := by kernel_rfl
theorem closed : joinedFacts Tryz.prog 11 Tryz.f11 Rows.internFullSpec Rows.internFullRow = true := by
 unfold joinedFacts
 simp only [Bool.and_eq_true]
 repeat' apply And.intro
 all_goals first
  | (with_reducible exact Facts.may)
  | (with_reducible exact Facts.laid)
  | (with_reducible exact Facts.rowed)
  | (with_reducible exact Facts.heard)
  | (with_reducible exact gIn)
  | (with_reducible exact gUn)
  | (with_reducible exact gRe)
  | (with_reducible exact gNa)
  | kernel_rfl
theorem holds : Rows.InternFullSaid :=
 OpenClaim.holds_of_wide 11 Tryz.f11 rfl rfl rfl rfl rfl rfl rfl ⟨rfl, rfl, rfl, rfl, rfl⟩ rfl rfl rfl rfl rfl kr_ Tryz.func11 closed
  (of_decide_eq_true kr_) (by unfold Func.isWrapper; rw [if_neg (of_decide_eq_false (by kernel_rfl))]; exact ⟨rfl, rfl⟩)
  (fun os started H enc _ => lifted os started H enc)

#print axioms holds
end Go.Proofs.YtendgmblgdkiaaaGreat.lawInternFull
