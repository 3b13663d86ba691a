/- Texts that have one sum are kept beside one another, and told apart: dowserlaw14.InternTwins answers true for every input, and turns nothing that was there. No condition. -/
import Derived.Test.YtendgmblgdkiaaaGreatGInternTwins0
import Derived.Test.YtendgmblgdkiaaaGreatGInternTwins38
import Derived.Test.YtendgmblgdkiaaaGreatRows
import Derived.Test.YtendgmblgdkiaaaGreatGInternTwins1
import Derived.Test.YtendgmblgdkiaaaGreatGInternTwins2
import Derived.WalkKit
import Derived.ProofKit
import Derived.OpenShut
import Derived.ShutString
import Derived.ChangeOld
import Derived.Below
import Derived.Lib.SmallJoins
namespace Go.Proofs.YtendgmblgdkiaaaGreat.lawInternTwins
open Go.ChangeShapes Go.WideShapes Go.ChangeAt Go.RowKit Go.Joins
open Go.ChangeMaps (open_string shut_string)
set_option linter.unusedVariables false
set_option linter.unusedSimpArgs false

theorem own : ownKnob Tryz.prog.godebug = none := by kernel_rfl
theorem laidOut : laidOutB Tryz.prog = true := by kernel_rfl

set_option maxRecDepth 100000 in
set_option maxHeartbeats 1000000 in
theorem lifted (os : Os) (started : os.Started) (H : Type) (enc : TypeId × Value → H) :
  ReturnsInHanded {} Tryz.checked os 9 .any (Rows.internTwinsSpec.pre6 enc Tryz.prog Tryz.f9 Rows.internTwinsRow.domain false) (Rows.internTwinsSpec.post enc Tryz.prog Tryz.f9 false true false false) := by
 refine returnsInHanded_of_change (C := Tryz.checked) own started kr_ Tryz.func9
  (ChangeSpec.witness6 (enc := enc) (C := Tryz.checked) false ⟨#[], #[.string ByteArray.empty, .int .u32 0], []⟩ 8 kr_ kr_ kr_ kr_) ?_
 intro W base args ds gs before hval0 hW hcnd hsz
 have hval : ∀ (j : Nat) t v, Tryz.f9.params[j]? = some t → args[j]? = some v → Value.okWide Tryz.prog W .any base t v := hval0
 have hW' := hW
 obtain ⟨p, q, hA0, hV, rfl, hfz, hnd⟩ := hW
 have hA : DataW.TrodAll enc Tryz.prog W 0 (fun _ => true) true Tryz.f9.params.toList args.toList ds p := hA0
 rw [Tryz.params9] at hA hval
 obtain ⟨v0, vs0, d0, ds0, p0, q0, hargs, rfl, rfl, h0, r0⟩ := trodAll_cons hA
 obtain ⟨v1, vs1, d1, ds1, p1, q1, rfl, rfl, rfl, h1, r1⟩ := trodAll_cons r0
 obtain ⟨rfl, rfl, rfl⟩ := trodAll_nil r1
 obtain rfl : args = #[v0, v1] := by cases args; simp_all
 obtain ⟨rfl, rfl⟩ := trodVars_none hV
 have k0 := h0
 have lt0 : ∀ x ∈ p0, x.block < W.heap.size := by obtain ⟨m, hm⟩ := k0; exact DataW.trod_lt m _ _ _ hm
 have k1 := h1
 have lt1 : ∀ x ∈ p1, x.block < W.heap.size := by obtain ⟨m, hm⟩ := k1; exact DataW.trod_lt m _ _ _ hm
 have a0 : ∀ W', Below W.heap.size W W' → DataW.Trod enc Tryz.prog W' 0 (fun b => decide (b < W.heap.size)) true 9 v0 d0 p0 := fun W' bel => Below.trod laidOut kr_ (of_decide_eq_true kr_) k0 bel lt0
 have a1 : ∀ W', Below W.heap.size W W' → DataW.Trod enc Tryz.prog W' 0 (fun b => decide (b < W.heap.size)) true 72 v1 d1 p1 := fun W' bel => Below.trod laidOut kr_ (of_decide_eq_true kr_) k1 bel lt1
 obtain ⟨s, rfl, rfl, rfl, w_s⟩ := open_string Tryz.underlying9 (hval 0 9 v0 rfl rfl) h0
 obtain ⟨x, rfl, rfl, rfl, w_x⟩ := open_int Tryz.underlying72 (hval 1 72 v1 rfl rfl) h1
 have h_x : 0 ≤ x ∧ x < 4294967296 := by have h_ := w_x; have e_ : IntKind.u32.min = 0 := rfl; have e2_ : IntKind.u32.max = 4294967295 := rfl; simp [Lit.wf, e_, e2_] at h_; omega
 obtain ⟨n, rfl⟩ : ∃ n : Nat, x = (n : Int) := ⟨x.toNat, by omega⟩
 clear hA0 hval0
 refine (twins_walk W s n om_).mono fun e W' ⟨he, bel⟩ => ?_
 subst he
 exact ⟨_, rfl, _, _, _, [], _, [], hW', trodAll_mk1 (shut_bool Tryz.underlying4 _), (trodAll_cons_mk (a0 W' bel) (trodAll_cons_mk (a1 W' bel) trodAll_mk0)), rfl, bel.frame _, fun h => by cases h⟩

theorem gIn : (Rows.internTwinsRow.inPlace == Tryz.prog.inPlace 9) = true := by kernel_rfl
theorem gUn : (Rows.internTwinsRow.unfollowed == Tryz.prog.unfollowed 9) = true := by kernel_rfl
theorem gRe : (Rows.internTwinsRow.recurses == Tryz.prog.recurses 9) = true := by kernel_rfl
theorem gNa : (Rows.internTwinsRow.named == Tryz.prog.varsNamed 9) = true := by kernel_rfl
theorem closed : joinedFacts Tryz.prog 9 Tryz.f9 Rows.internTwinsSpec Rows.internTwinsRow = true := by
 unfold joinedFacts
 simp only [Bool.and_eq_true]
 repeat' apply And.intro
 all_goals first
  | (with_reducible exact Facts.may)
  | (with_reducible exact Facts.laid)
  | (with_reducible exact Facts.rowed)
  | (with_reducible exact Facts.heard)
  | (with_reducible exact gIn)
  | (with_reducible exact gUn)
  | (with_reducible exact gRe)
  | (with_reducible exact gNa)
  | kernel_rfl
theorem holds : Rows.InternTwinsSaid :=
 OpenClaim.holds_of_wide 9 Tryz.f9 rfl rfl rfl rfl rfl rfl rfl ⟨rfl, rfl, rfl, rfl, rfl⟩ rfl rfl rfl rfl rfl kr_ Tryz.func9 closed
  (of_decide_eq_true kr_) (by unfold Func.isWrapper; rw [if_neg (of_decide_eq_false (by kernel_rfl))]; exact ⟨rfl, rfl⟩)
  (fun os started H enc _ => lifted os started H enc)

#print axioms holds
end Go.Proofs.YtendgmblgdkiaaaGreat.lawInternTwins
