-- written for this seat by its own program (doctor.sh) with the kit's printer
import Derived.Test.YtogngmbjkdffaaaPKeysAllx0
import Derived.Test.YtogngmbjkdffaaaPKeysAllx1
import Derived.Test.YtogngmbjkdffaaaPKeysAllx7
import Derived.Test.YtogngmbjkdffaaaPKeysAllx8
import Derived.Test.YtogngmbjkdffaaaPKeysAllx10
namespace Go.Proofs.Ytogngmbjkdffaaa.PKeysAll
open Go.RowKit Go.Proofs.YtogngmbjkdffaaaW.PrintWords Go.Proofs.YtogngmbjkdffaaaW.PrintLast Go.Proofs.YtogngmbjkdffaaaW.PrintMore
attribute [local go_sem] max2_int min2_int max_two min_two max_three min_three max_four min_four   -- for this text's walks alone
set_option linter.unusedVariables false
set_option linter.unusedSimpArgs false

attribute [local go_sem high] eqA24
/-! ### dowserlaw21_KeysValues: function 6 -/
mutual
def dowserlaw21_KeysValues.j0 : Nat → ByteArray → Bool → Option (Bool)
  | 0, _, _ => none
  | k + 1, x2, x59 => if x59 = true then (some false) else ((dowserlaw01_Cut.f x2 8).bind fun t262 => ((keys_Counted.f k t262).bind fun bt263 => (if (t262.size : Int) = 4 then (if 0 < (t262.size : Int) then (if (bt263.2 != (decide ((bt t262 0) < 128))) = true then (dowserlaw21_KeysValues.j1 k t262 true) else (if bt263.2 = true then ((keys_Count.f bt263.1).bind fun t265 => (if t265.toList = t262.toList then (dowserlaw21_KeysValues.j1 k t262 false) else (dowserlaw21_KeysValues.j1 k t262 true))) else (dowserlaw21_KeysValues.j1 k t262 (bt263.1 != 0)))) else (none)) else (if (bt263.2 != false) = true then (dowserlaw21_KeysValues.j1 k t262 true) else (if bt263.2 = true then ((keys_Count.f bt263.1).bind fun t266 => (if t266.toList = t262.toList then (dowserlaw21_KeysValues.j1 k t262 false) else (dowserlaw21_KeysValues.j1 k t262 true))) else (dowserlaw21_KeysValues.j1 k t262 (bt263.1 != 0)))))))
def dowserlaw21_KeysValues.j1 : Nat → ByteArray → Bool → Option (Bool)
  | 0, _, _ => none
  | k + 1, x2, x93 => if x93 = true then (some false) else ((keys_Ref.f k x2).bind fun bt267 => (if (x2.size : Int) = 6 then (if 0 < (x2.size : Int) then (if (bt267.2.2 == ((bt x2 0) == 115)) = true then (if bt267.2.2 = true then ((keys_Value.f bt267.1 bt267.2.1).bind fun t271 => (some (t271.toList == x2.toList))) else (some true)) else (some false)) else (none)) else (if (bt267.2.2 == false) = true then (if bt267.2.2 = true then ((keys_Value.f bt267.1 bt267.2.1).bind fun t272 => (some (t272.toList == x2.toList))) else (some true)) else (some false))))
end
def dowserlaw21_KeysValues.f (k : Nat) (a0_0 : Int) (a0_1 : Int) (a1 : Int) (a2 : ByteArray) : Option (Bool) := (dowserlaw21_awake.f k).bind fun t251 => (if t251 = true then ((keys_Value.f a0_0 (Go.bits .and .i64 a0_1 255)).bind fun t252 => ((keys_Ref.f k t252).bind fun bt253 => ((keys_Count.f (mx 0 (mn a1 2147483647))).bind fun t257 => ((keys_Counted.f k t257).bind fun bt258 => (if bt253.2.2 = true then (if (!(bt253.1 == a0_0) || (!(bt253.2.1 == (Go.bits .and .i64 a0_1 255)))) = true then (dowserlaw21_KeysValues.j0 k a2 true) else (if bt258.2 = true then (if bt258.1 = (mx 0 (mn a1 2147483647)) then ((keys_Count.f (mx 0 (mn a1 2147483647))).bind fun t260 => ((dowserref02_Four.f (mx 0 (mn a1 2147483647))).bind fun t261 => (dowserlaw21_KeysValues.j0 k a2 (t260.toList != t261.toList)))) else (dowserlaw21_KeysValues.j0 k a2 true)) else (dowserlaw21_KeysValues.j0 k a2 true))) else (dowserlaw21_KeysValues.j0 k a2 true)))))) else (some false))
theorem dowserlaw21_KeysValues.mono_l : ∀ k, (∀ y0 y1, LeO (dowserlaw21_KeysValues.j0 k y0 y1) (dowserlaw21_KeysValues.j0 (k + 1) y0 y1)) ∧ (∀ y0 y1, LeO (dowserlaw21_KeysValues.j1 k y0 y1) (dowserlaw21_KeysValues.j1 (k + 1) y0 y1))
  | 0 => ⟨fun _ _ r h => by simp [dowserlaw21_KeysValues.j0] at h, fun _ _ r h => by simp [dowserlaw21_KeysValues.j1] at h⟩
  | k + 1 => by
    obtain ⟨ih0, ih1⟩ := dowserlaw21_KeysValues.mono_l k
    refine ⟨?_, ?_⟩
    · intro y0 y1
      unfold dowserlaw21_KeysValues.j0
      repeat' first
      | (with_reducible exact ih0 _ _)
      | (with_reducible exact ih1 _ _)
      | (with_reducible exact dowserlaw21_awake.mono _)
      | (with_reducible exact keys_Counted.mono _ _)
      | (with_reducible exact keys_Ref.mono _ _)
      | (with_reducible exact LeO.refl _)
      | (with_reducible exact LeO.none _)
      | (with_reducible refine LeO.ite ?_ ?_)
      | (with_reducible refine LeO.bind ?_ (fun _ => ?_))
      | exact ih0 _ _
      | exact ih1 _ _
      | exact dowserlaw21_awake.mono _
      | exact keys_Counted.mono _ _
      | exact keys_Ref.mono _ _
      | exact LeO.none _
      | refine LeO.ite ?_ ?_
      | refine LeO.bind ?_ (fun _ => ?_)
    · intro y0 y1
      unfold dowserlaw21_KeysValues.j1
      repeat' first
      | (with_reducible exact ih0 _ _)
      | (with_reducible exact ih1 _ _)
      | (with_reducible exact dowserlaw21_awake.mono _)
      | (with_reducible exact keys_Counted.mono _ _)
      | (with_reducible exact keys_Ref.mono _ _)
      | (with_reducible exact LeO.refl _)
      | (with_reducible exact LeO.none _)
      | (with_reducible refine LeO.ite ?_ ?_)
      | (with_reducible refine LeO.bind ?_ (fun _ => ?_))
      | exact ih0 _ _
      | exact ih1 _ _
      | exact dowserlaw21_awake.mono _
      | exact keys_Counted.mono _ _
      | exact keys_Ref.mono _ _
      | exact LeO.none _
      | refine LeO.ite ?_ ?_
      | refine LeO.bind ?_ (fun _ => ?_)
theorem dowserlaw21_KeysValues.mono : ∀ a0 a1 a2 a3 k, LeO (dowserlaw21_KeysValues.f k a0 a1 a2 a3) (dowserlaw21_KeysValues.f (k + 1) a0 a1 a2 a3) := by
  intro a0 a1 a2 a3 k
  obtain ⟨ih0, ih1⟩ := dowserlaw21_KeysValues.mono_l k
  unfold dowserlaw21_KeysValues.f
  repeat' first
      | (with_reducible exact ih0 _ _)
      | (with_reducible exact ih1 _ _)
      | (with_reducible exact dowserlaw21_awake.mono _)
      | (with_reducible exact keys_Counted.mono _ _)
      | (with_reducible exact keys_Ref.mono _ _)
      | (with_reducible exact LeO.refl _)
      | (with_reducible exact LeO.none _)
      | (with_reducible refine LeO.ite ?_ ?_)
      | (with_reducible refine LeO.bind ?_ (fun _ => ?_))
      | exact ih0 _ _
      | exact ih1 _ _
      | exact dowserlaw21_awake.mono _
      | exact keys_Counted.mono _ _
      | exact keys_Ref.mono _ _
      | exact LeO.none _
      | refine LeO.ite ?_ ?_
      | refine LeO.bind ?_ (fun _ => ?_)
set_option maxHeartbeats 8000000 in
set_option maxRecDepth 100000 in
theorem dowserlaw21_KeysValues.calls (k : Nat) (a0_0 : Int) (a0_1 : Int) (a1 : Int) (a2 : ByteArray) (r : Bool) (w : World) (h : dowserlaw21_KeysValues.f k a0_0 a0_1 a1 a2 = some r) :
    Calls Try.prog 6 #[.agg #[.int .u32 a0_0, .int .i64 a0_1], .int .i64 a1, .string a2] w fun e w' => e = .returned (.bool r) ∧ Below w.heap.size w w' := by
  have hu24 := Try.underlying24
  have HB := Aside0.mk (Below.refl w.heap.size w)
  have H : ((dowserlaw21_awake.f k).bind fun t251 => (if t251 = true then ((keys_Value.f a0_0 (Go.bits .and .i64 a0_1 255)).bind fun t252 => ((keys_Ref.f k t252).bind fun bt253 => ((keys_Count.f (mx 0 (mn a1 2147483647))).bind fun t257 => ((keys_Counted.f k t257).bind fun bt258 => (if bt253.2.2 = true then (if (!(bt253.1 == a0_0) || (!(bt253.2.1 == (Go.bits .and .i64 a0_1 255)))) = true then (dowserlaw21_KeysValues.j0 k a2 true) else (if bt258.2 = true then (if bt258.1 = (mx 0 (mn a1 2147483647)) then ((keys_Count.f (mx 0 (mn a1 2147483647))).bind fun t260 => ((dowserref02_Four.f (mx 0 (mn a1 2147483647))).bind fun t261 => (dowserlaw21_KeysValues.j0 k a2 (t260.toList != t261.toList)))) else (dowserlaw21_KeysValues.j0 k a2 true)) else (dowserlaw21_KeysValues.j0 k a2 true))) else (dowserlaw21_KeysValues.j0 k a2 true)))))) else (some false))) = some r := h
  clear h
  replace H := Option.bind_eq_some_iff.mp H
  obtain ⟨t251, A40, H⟩ := H
  replace H : (if t251 = true then ((keys_Value.f a0_0 (Go.bits .and .i64 a0_1 255)).bind fun t252 => ((keys_Ref.f k t252).bind fun bt253 => ((keys_Count.f (mx 0 (mn a1 2147483647))).bind fun t257 => ((keys_Counted.f k t257).bind fun bt258 => (if bt253.2.2 = true then (if (!(bt253.1 == a0_0) || (!(bt253.2.1 == (Go.bits .and .i64 a0_1 255)))) = true then (dowserlaw21_KeysValues.j0 k a2 true) else (if bt258.2 = true then (if bt258.1 = (mx 0 (mn a1 2147483647)) then ((keys_Count.f (mx 0 (mn a1 2147483647))).bind fun t260 => ((dowserref02_Four.f (mx 0 (mn a1 2147483647))).bind fun t261 => (dowserlaw21_KeysValues.j0 k a2 (t260.toList != t261.toList)))) else (dowserlaw21_KeysValues.j0 k a2 true)) else (dowserlaw21_KeysValues.j0 k a2 true))) else (dowserlaw21_KeysValues.j0 k a2 true)))))) else (some false)) = some r := H
  have A4 := Aside0.mk A40
  clear A40
  by_cases c5 : t251 = true
  · subst c5
    have H1 : ((keys_Value.f a0_0 (Go.bits .and .i64 a0_1 255)).bind fun t252 => ((keys_Ref.f k t252).bind fun bt253 => ((keys_Count.f (mx 0 (mn a1 2147483647))).bind fun t257 => ((keys_Counted.f k t257).bind fun bt258 => (if bt253.2.2 = true then (if (!(bt253.1 == a0_0) || (!(bt253.2.1 == (Go.bits .and .i64 a0_1 255)))) = true then (dowserlaw21_KeysValues.j0 k a2 true) else (if bt258.2 = true then (if bt258.1 = (mx 0 (mn a1 2147483647)) then ((keys_Count.f (mx 0 (mn a1 2147483647))).bind fun t260 => ((dowserref02_Four.f (mx 0 (mn a1 2147483647))).bind fun t261 => (dowserlaw21_KeysValues.j0 k a2 (t260.toList != t261.toList)))) else (dowserlaw21_KeysValues.j0 k a2 true)) else (dowserlaw21_KeysValues.j0 k a2 true))) else (dowserlaw21_KeysValues.j0 k a2 true)))))) = some r := by rw [if_pos rfl] at H; exact H
    clear H
    have H := H1
    clear H1
    obtain ⟨ji6, hji6⟩ : ∃ j_ : Int, (mn a1 2147483647) = j_ := ⟨_, rfl⟩
    replace H : ((keys_Value.f a0_0 (Go.bits .and .i64 a0_1 255)).bind fun t252 => ((keys_Ref.f k t252).bind fun bt253 => ((keys_Count.f (mx 0 (ji6))).bind fun t257 => ((keys_Counted.f k t257).bind fun bt258 => (if bt253.2.2 = true then (if (!(bt253.1 == a0_0) || (!(bt253.2.1 == (Go.bits .and .i64 a0_1 255)))) = true then (dowserlaw21_KeysValues.j0 k a2 true) else (if bt258.2 = true then (if bt258.1 = (mx 0 (ji6)) then ((keys_Count.f (mx 0 (ji6))).bind fun t260 => ((dowserref02_Four.f (mx 0 (ji6))).bind fun t261 => (dowserlaw21_KeysValues.j0 k a2 (t260.toList != t261.toList)))) else (dowserlaw21_KeysValues.j0 k a2 true)) else (dowserlaw21_KeysValues.j0 k a2 true))) else (dowserlaw21_KeysValues.j0 k a2 true)))))) = some r := by first | (rw [hji6] at H; exact H) | (simp only [hji6] at H ⊢; exact H)
    (try rw [hji6] at A4)
    (try (have hji6h : ji6 ≤ 2147483647 := by (rw [← hji6]; unfold mn; (repeat' split) <;> omega)))
    (try (have hji6g : ji6 ≤ 64 := by omega))
    have hji6_ : (if 2147483647 < a1 then 2147483647 else a1) = ji6 := hji6
    obtain ⟨ji7, hji7⟩ : ∃ j_ : Int, (mx 0 (ji6)) = j_ := ⟨_, rfl⟩
    replace H : ((keys_Value.f a0_0 (Go.bits .and .i64 a0_1 255)).bind fun t252 => ((keys_Ref.f k t252).bind fun bt253 => ((keys_Count.f (ji7)).bind fun t257 => ((keys_Counted.f k t257).bind fun bt258 => (if bt253.2.2 = true then (if (!(bt253.1 == a0_0) || (!(bt253.2.1 == (Go.bits .and .i64 a0_1 255)))) = true then (dowserlaw21_KeysValues.j0 k a2 true) else (if bt258.2 = true then (if bt258.1 = (ji7) then ((keys_Count.f (ji7)).bind fun t260 => ((dowserref02_Four.f (ji7)).bind fun t261 => (dowserlaw21_KeysValues.j0 k a2 (t260.toList != t261.toList)))) else (dowserlaw21_KeysValues.j0 k a2 true)) else (dowserlaw21_KeysValues.j0 k a2 true))) else (dowserlaw21_KeysValues.j0 k a2 true)))))) = some r := by first | (rw [hji7] at H; exact H) | (simp only [hji7] at H ⊢; exact H)
    (try rw [hji7] at A4)
    have hji7_ : (if 0 < (ji6) then (ji6) else 0) = ji7 := hji7
    replace H := Option.bind_eq_some_iff.mp H
    obtain ⟨t252, A80, H⟩ := H
    replace H : ((keys_Ref.f k t252).bind fun bt253 => ((keys_Count.f (ji7)).bind fun t257 => ((keys_Counted.f k t257).bind fun bt258 => (if bt253.2.2 = true then (if (!(bt253.1 == a0_0) || (!(bt253.2.1 == (Go.bits .and .i64 a0_1 255)))) = true then (dowserlaw21_KeysValues.j0 k a2 true) else (if bt258.2 = true then (if bt258.1 = (ji7) then ((keys_Count.f (ji7)).bind fun t260 => ((dowserref02_Four.f (ji7)).bind fun t261 => (dowserlaw21_KeysValues.j0 k a2 (t260.toList != t261.toList)))) else (dowserlaw21_KeysValues.j0 k a2 true)) else (dowserlaw21_KeysValues.j0 k a2 true))) else (dowserlaw21_KeysValues.j0 k a2 true))))) = some r := H
    have A8 := Aside0.mk A80
    clear A80
    replace H := Option.bind_eq_some_iff.mp H
    obtain ⟨⟨t253, t254, t255⟩, A90, H⟩ := H
    replace H : ((keys_Count.f (ji7)).bind fun t257 => ((keys_Counted.f k t257).bind fun bt258 => (if t255 = true then (if (!(t253 == a0_0) || (!(t254 == (Go.bits .and .i64 a0_1 255)))) = true then (dowserlaw21_KeysValues.j0 k a2 true) else (if bt258.2 = true then (if bt258.1 = (ji7) then ((keys_Count.f (ji7)).bind fun t260 => ((dowserref02_Four.f (ji7)).bind fun t261 => (dowserlaw21_KeysValues.j0 k a2 (t260.toList != t261.toList)))) else (dowserlaw21_KeysValues.j0 k a2 true)) else (dowserlaw21_KeysValues.j0 k a2 true))) else (dowserlaw21_KeysValues.j0 k a2 true)))) = some r := H
    have A9 := Aside0.mk A90
    clear A90
    replace H := Option.bind_eq_some_iff.mp H
    obtain ⟨t257, A100, H⟩ := H
    replace H : ((keys_Counted.f k t257).bind fun bt258 => (if t255 = true then (if (!(t253 == a0_0) || (!(t254 == (Go.bits .and .i64 a0_1 255)))) = true then (dowserlaw21_KeysValues.j0 k a2 true) else (if bt258.2 = true then (if bt258.1 = (ji7) then ((keys_Count.f (ji7)).bind fun t260 => ((dowserref02_Four.f (ji7)).bind fun t261 => (dowserlaw21_KeysValues.j0 k a2 (t260.toList != t261.toList)))) else (dowserlaw21_KeysValues.j0 k a2 true)) else (dowserlaw21_KeysValues.j0 k a2 true))) else (dowserlaw21_KeysValues.j0 k a2 true))) = some r := H
    have A10 := Aside0.mk A100
    clear A100
    replace H := Option.bind_eq_some_iff.mp H
    obtain ⟨⟨t258, t259⟩, A110, H⟩ := H
    replace H : (if t255 = true then (if (!(t253 == a0_0) || (!(t254 == (Go.bits .and .i64 a0_1 255)))) = true then (dowserlaw21_KeysValues.j0 k a2 true) else (if t259 = true then (if t258 = (ji7) then ((keys_Count.f (ji7)).bind fun t260 => ((dowserref02_Four.f (ji7)).bind fun t261 => (dowserlaw21_KeysValues.j0 k a2 (t260.toList != t261.toList)))) else (dowserlaw21_KeysValues.j0 k a2 true)) else (dowserlaw21_KeysValues.j0 k a2 true))) else (dowserlaw21_KeysValues.j0 k a2 true)) = some r := H
    have A11 := Aside0.mk A110
    clear A110
    have HC12 := Aside0.mk H
    clear H
    go_enter Try.func6, Try.ntmps6
    go_upto_region 7 with (first | ((with_reducible refine gate_dst (N := 3) rfl ?_); refine box_event ?hg (N := 3) ?hd (cs := #[.int .u32 a0_0, .int .i64 a0_1]) (t := 24) ?hr ?_; (case hd => rfl); (case hg => rfl); (case hr => first | (go_simp; done) | (go_simp; rfl)); intro gb250 hg w13 hbox hb; have n0_ := Aside0.mk (below_step (by repeat (first | (with_reducible first | exact HB.out | apply below_alloc | apply pw_below_drewN | apply below_drew1) | exact HB.out)) hb); have n1_ := Aside0.mk (hbox); have n2_ := Aside0.mk ((by rw [hg]; exact (below_size (by repeat (first | (with_reducible first | exact HB.out | apply below_alloc | apply pw_below_drewN | apply below_drew1) | exact HB.out))) : w.heap.size ≤ gb250)); have n3_ := Aside0.mk ((by rw [hg]; exact (below_size (by repeat (first | (with_reducible first | exact HB.out | apply below_alloc | apply pw_below_drewN | apply below_drew1) | exact HB.out))) : w.heap.size ≤ gb250)); clear HB; have HB := n0_; have BK250 := n1_; have GW250 := n2_; have GE250 := n3_; clear n0_ n1_ n2_ n3_; clear hb hbox hg) | ((with_reducible refine gate_callee (f := 7) rfl ?_); refine goesL_ (some 15) rfl rfl Try.func7 (by kernel_rfl) rfl #[] rfl (by (try simp only [List.map_toArray, List.map_cons, List.map_nil]); first | done | rfl | (simp only [List.length_drop, List.length_take]; rfl)) ?_; (with_reducible refine (dowserlaw21_awake.calls k  true _ A4.out).mono ?_); rintro e w14 ⟨rfl, hb⟩; refine ⟨_, rfl, ?_⟩; have n0_ := Aside0.mk (blk_below (g := gb250) (o := .cells #[.int .u32 a0_0, .int .i64 a0_1] 24 (0, 0)) (by (with_reducible repeat (first | refine blk_drewN ?_ _ | refine blk_drew ?_ | refine blk_alloc ?_ _)); exact BK250.out) hb); have n1_ := Aside0.mk (below_step (by repeat (first | (with_reducible first | exact HB.out | apply below_alloc | apply pw_below_drewN | apply below_drew1 | refine below_set ?_ GE250.out) | exact HB.out)) hb); clear BK250; clear HB; have BK250 := n0_; have HB := n1_; clear n0_ n1_; (try clear hb); (try clear hb2); (try clear hk); (try clear hi); have hcz15_0 : w14.cell? ⟨gb250, 0, none⟩ = some (.int .u32 a0_0) := (blk_cell BK250.out 0).trans rfl; have hcz15_1 : w14.cell? ⟨gb250, 1, none⟩ = some (.int .i64 a0_1) := (blk_cell BK250.out 1).trans rfl; have hfz15_0 := blk_frozen BK250.out 0; have hfz15_1 := blk_frozen BK250.out 1) | ((with_reducible refine gate_callee (f := 19) rfl ?_); refine goesL_ (some 26) rfl rfl Try.func19 (by kernel_rfl) rfl #[.agg #[.int .u32 a0_0, .int .i64 (Go.bits .and .i64 a0_1 255)]] rfl (by (try simp only [List.map_toArray, List.map_cons, List.map_nil]); first | done | rfl | (simp only [List.length_drop, List.length_take]; rfl)) ?_; (with_reducible refine (keys_Value.calls a0_0 (Go.bits .and .i64 a0_1 255) t252 _ A8.out).mono ?_); rintro e w16 ⟨rfl, hb⟩; refine ⟨_, rfl, ?_⟩; have n0_ := Aside0.mk (blk_below (g := gb250) (o := .cells #[.int .u32 a0_0, .int .i64 (Go.bits .and .i64 a0_1 255)] 24 (0, 0)) (by (with_reducible repeat (first | refine blk_drewN ?_ _ | refine blk_drew ?_ | refine blk_alloc ?_ _)); refine blk_put (cs := #[.int .u32 a0_0, .int .i64 a0_1]) ?_ 1 _ rfl; (with_reducible repeat (first | refine blk_drewN ?_ _ | refine blk_drew ?_ | refine blk_alloc ?_ _)); exact BK250.out) hb); have n1_ := Aside0.mk (below_step (by repeat (first | (with_reducible first | exact HB.out | apply below_alloc | apply pw_below_drewN | apply below_drew1 | refine below_set ?_ GE250.out) | exact HB.out)) hb); clear BK250; clear HB; have BK250 := n0_; have HB := n1_; clear n0_ n1_; (try clear hb); (try clear hb2); (try clear hk); (try clear hi)) | ((with_reducible refine gate_callee (f := 18) rfl ?_); refine goesL_ (some 27) rfl rfl Try.func18 (by kernel_rfl) rfl #[.string t252] rfl (by (try simp only [List.map_toArray, List.map_cons, List.map_nil]); first | done | rfl | (simp only [List.length_drop, List.length_take]; rfl)) ?_; (with_reducible refine (keys_Ref.calls k t252 t253 t254 t255 _ A9.out).mono ?_); rintro e w17 ⟨rfl, hb⟩; refine ⟨_, rfl, ?_⟩; have n0_ := Aside0.mk (blk_below (g := gb250) (o := .cells #[.int .u32 a0_0, .int .i64 (Go.bits .and .i64 a0_1 255)] 24 (0, 0)) (by (with_reducible repeat (first | refine blk_drewN ?_ _ | refine blk_drew ?_ | refine blk_alloc ?_ _)); exact BK250.out) hb); have n1_ := Aside0.mk (below_step (by repeat (first | (with_reducible first | exact HB.out | apply below_alloc | apply pw_below_drewN | apply below_drew1 | refine below_set ?_ GE250.out) | exact HB.out)) hb); clear BK250; clear HB; have BK250 := n0_; have HB := n1_; clear n0_ n1_; (try clear hb); (try clear hb2); (try clear hk); (try clear hi)) | ((with_reducible refine gate_dst (N := 7) rfl ?_); refine box_event ?hg (N := 7) ?hd (cs := #[.int .u32 0, .int .i64 0]) (t := 24) ?hr ?_; (case hd => rfl); (case hg => rfl); (case hr => first | (go_simp; done) | (go_simp; rfl)); intro gb256 hg w18 hbox hb; have n0_ := Aside0.mk (blk_below (g := gb250) (o := .cells #[.int .u32 a0_0, .int .i64 (Go.bits .and .i64 a0_1 255)] 24 (0, 0)) (by (with_reducible repeat (first | refine blk_drewN ?_ _ | refine blk_drew ?_ | refine blk_alloc ?_ _)); exact BK250.out) hb); have n1_ := Aside0.mk (below_step (by repeat (first | (with_reducible first | exact HB.out | apply below_alloc | apply pw_below_drewN | apply below_drew1 | refine below_set ?_ GE250.out) | exact HB.out)) hb); have n2_ := Aside0.mk (hbox); have n3_ := Aside0.mk ((by rw [hg]; exact (below_size (by repeat (first | (with_reducible first | exact HB.out | apply below_alloc | apply pw_below_drewN | apply below_drew1 | refine below_set ?_ GE250.out) | exact HB.out))) : w.heap.size ≤ gb256)); have n4_ := Aside0.mk ((by rw [hg]; exact (below_size (by repeat (first | (with_reducible first | exact HB.out | apply below_alloc | apply pw_below_drewN | apply below_drew1 | refine below_set ?_ GE250.out) | exact HB.out))) : w.heap.size ≤ gb256)); have n5_ := Aside0.mk ((by rw [hg]; exact Nat.ne_of_lt (blk_lt (g := gb250) (o := .cells #[.int .u32 a0_0, .int .i64 (Go.bits .and .i64 a0_1 255)] 24 (0, 0)) (by (with_reducible repeat (first | refine blk_drewN ?_ _ | refine blk_drew ?_ | refine blk_alloc ?_ _)); exact BK250.out)) : gb250 ≠ gb256)); have n6_ := Aside0.mk ((by rw [hg]; exact Nat.ne_of_gt (blk_lt (g := gb250) (o := .cells #[.int .u32 a0_0, .int .i64 (Go.bits .and .i64 a0_1 255)] 24 (0, 0)) (by (with_reducible repeat (first | refine blk_drewN ?_ _ | refine blk_drew ?_ | refine blk_alloc ?_ _)); exact BK250.out)) : gb256 ≠ gb250)); clear BK250; clear HB; have BK250 := n0_; have HB := n1_; have BK256 := n2_; have GW256 := n3_; have GE256 := n4_; have NB250_256 := n5_; have NB256_250 := n6_; clear n0_ n1_ n2_ n3_ n4_ n5_ n6_; clear hb hbox hg; have hnb19 := NB256_250.out; have hnc19 := NB250_256.out; have hcz20_0 : w18.cell? ⟨gb256, 0, none⟩ = some (.int .u32 0) := (blk_cell BK256.out 0).trans rfl; have hcz20_1 : w18.cell? ⟨gb256, 1, none⟩ = some (.int .i64 0) := (blk_cell BK256.out 1).trans rfl; have hfz20_0 := blk_frozen BK256.out 0; have hfz20_1 := blk_frozen BK256.out 1) | ((with_reducible refine gate_callee (f := 21) rfl ?_); refine goesL_ (some 32) rfl rfl Try.func21 (by kernel_rfl) rfl #[.int .i64 ji7] rfl (by (try simp only [List.map_toArray, List.map_cons, List.map_nil]); first | done | (simp only [hji7]; rfl) | rfl | (simp only [List.length_drop, List.length_take]; rfl)) ?_; (with_reducible refine (keys_Count.calls ji7 t257 _ A10.out).mono ?_); rintro e w21 ⟨rfl, hb⟩; refine ⟨_, rfl, ?_⟩; have n0_ := Aside0.mk (blk_below (g := gb250) (o := .cells #[.int .u32 a0_0, .int .i64 (Go.bits .and .i64 a0_1 255)] 24 (0, 0)) (by (with_reducible repeat (first | refine blk_drewN ?_ _ | refine blk_drew ?_ | refine blk_alloc ?_ _)); refine blk_far ?_ NB250_256.out _; (with_reducible repeat (first | refine blk_drewN ?_ _ | refine blk_drew ?_ | refine blk_alloc ?_ _)); refine blk_far ?_ NB250_256.out _; (with_reducible repeat (first | refine blk_drewN ?_ _ | refine blk_drew ?_ | refine blk_alloc ?_ _)); exact BK250.out) hb); have n1_ := Aside0.mk (blk_below (g := gb256) (o := .cells #[.int .u32 t253, .int .i64 t254] 24 (0, 0)) (by (with_reducible repeat (first | refine blk_drewN ?_ _ | refine blk_drew ?_ | refine blk_alloc ?_ _)); refine blk_put (cs := #[.int .u32 t253, .int .i64 0]) ?_ 1 _ rfl; (with_reducible repeat (first | refine blk_drewN ?_ _ | refine blk_drew ?_ | refine blk_alloc ?_ _)); refine blk_put (cs := #[.int .u32 0, .int .i64 0]) ?_ 0 _ rfl; (with_reducible repeat (first | refine blk_drewN ?_ _ | refine blk_drew ?_ | refine blk_alloc ?_ _)); exact BK256.out) hb); have n2_ := Aside0.mk (below_step (by repeat (first | (with_reducible first | exact HB.out | apply below_alloc | apply pw_below_drewN | apply below_drew1 | refine below_set ?_ GE250.out | refine below_set ?_ GE256.out) | exact HB.out)) hb); clear BK250; clear BK256; clear HB; have BK250 := n0_; have BK256 := n1_; have HB := n2_; clear n0_ n1_ n2_; (try clear hb); (try clear hb2); (try clear hk); (try clear hi)) | ((with_reducible refine gate_callee (f := 20) rfl ?_); refine goesL_ (some 33) rfl rfl Try.func20 (by kernel_rfl) rfl #[.string t257] rfl (by (try simp only [List.map_toArray, List.map_cons, List.map_nil]); first | done | rfl | (simp only [List.length_drop, List.length_take]; rfl)) ?_; (with_reducible refine (keys_Counted.calls k t257 t258 t259 _ A11.out).mono ?_); rintro e w' ⟨rfl, ⟨nd, rfl⟩⟩; refine ⟨_, rfl, ?_⟩))
    (try simp only [Act.put, List.setIfInBounds_toArray, List.set_cons_zero, List.set_cons_succ])
    go_cut [59] (fun v59 wc => ∃ (kq : Nat) (x59_11 : Bool), v59 = .bool x59_11 ∧ Aside0 (dowserlaw21_KeysValues.j0 kq a2 x59_11 = some r) ∧ Aside0 (kq ≤ k) ∧ Aside0 (wc.heap[gb250]? = some (.cells #[.int .u32 a0_0, .int .i64 (Go.bits .and .i64 a0_1 255)] 24 (0, 0))) ∧ Aside0 (wc.heap[gb256]? = some (.cells #[.int .u32 t253, .int .i64 t254] 24 (0, 0))) ∧ Aside0 (Below w.heap.size w wc))
    case first =>
      have H := HC12.out
      clear HC12
      by_cases c22 : t255 = true
      · subst c22
        have H1 : (if (!(t253 == a0_0) || (!(t254 == (Go.bits .and .i64 a0_1 255)))) = true then (dowserlaw21_KeysValues.j0 k a2 true) else (if t259 = true then (if t258 = (ji7) then ((keys_Count.f (ji7)).bind fun t260 => ((dowserref02_Four.f (ji7)).bind fun t261 => (dowserlaw21_KeysValues.j0 k a2 (t260.toList != t261.toList)))) else (dowserlaw21_KeysValues.j0 k a2 true)) else (dowserlaw21_KeysValues.j0 k a2 true))) = some r := by rw [if_pos rfl] at H; exact H
        clear H
        have H := H1
        clear H1
        by_cases c23 : (!(t253 == a0_0) || (!(t254 == (Go.bits .and .i64 a0_1 255)))) = true
        · rw [if_pos c23] at H
          have c23b0 : (!(t253 == a0_0) || (!(t254 == (Go.bits .and .i64 a0_1 255)))) = true := c23
          clear c23
          (first | rw [c23b0] | (simp only [i64_w, i32_w]; rw [c23b0]) | skip)
          have H' := Aside0.mk H
          clear H
          have hnb24 := NB256_250.out
          have hnc24 := NB250_256.out
          have hcz25_0 : w21.cell? ⟨gb256, 0, none⟩ = some (.int .u32 t253) := (blk_cell BK256.out 0).trans rfl
          have hcz25_1 : w21.cell? ⟨gb256, 1, none⟩ = some (.int .i64 t254) := (blk_cell BK256.out 1).trans rfl
          have hfz25_0 := blk_frozen BK256.out 0
          have hfz25_1 := blk_frozen BK256.out 1
          have hcz26_0 : w21.cell? ⟨gb250, 0, none⟩ = some (.int .u32 a0_0) := (blk_cell BK250.out 0).trans rfl
          have hcz26_1 : w21.cell? ⟨gb250, 1, none⟩ = some (.int .i64 (Go.bits .and .i64 a0_1 255)) := (blk_cell BK250.out 1).trans rfl
          have hfz26_0 := blk_frozen BK250.out 0
          have hfz26_1 := blk_frozen BK250.out 1
          go_wp2
          go_meet
          case rel => exact ⟨_, (true), (by first | rfl | (simp; done) | (simp [*]; done)), H', ⟨by first | omega | exact Nat.le_refl _⟩, ⟨by (with_reducible repeat (first | refine blk_drewN ?_ _ | refine blk_drew ?_ | refine blk_alloc ?_ _)); exact BK250.out⟩, ⟨by (with_reducible repeat (first | refine blk_drewN ?_ _ | refine blk_drew ?_ | refine blk_alloc ?_ _)); exact BK256.out⟩, ⟨by repeat (first | (with_reducible first | exact HB.out | apply below_alloc | apply pw_below_drewN | apply below_drew1 | refine below_set ?_ GE250.out | refine below_set ?_ GE256.out) | exact HB.out)⟩⟩
        · rw [if_neg c23] at H
          have c23b0 : (!(t253 == a0_0) || (!(t254 == (Go.bits .and .i64 a0_1 255)))) = false := by simpa using c23
          clear c23
          (first | rw [c23b0] | (simp only [i64_w, i32_w]; rw [c23b0]) | skip)
          by_cases c27 : t259 = true
          · subst c27
            have H1 : (if t258 = (ji7) then ((keys_Count.f (ji7)).bind fun t260 => ((dowserref02_Four.f (ji7)).bind fun t261 => (dowserlaw21_KeysValues.j0 k a2 (t260.toList != t261.toList)))) else (dowserlaw21_KeysValues.j0 k a2 true)) = some r := by rw [if_pos rfl] at H; exact H
            clear H
            have H := H1
            clear H1
            by_cases c28 : t258 = (ji7)
            · rw [if_pos c28] at H
              have c28b0 : (t258 == (ji7)) = true := beq_iff_eq.mpr c28
              have c28b1 : (t258 != (ji7)) = false := bne_eq_false_iff_eq.mpr c28
              clear c28
              replace H := Option.bind_eq_some_iff.mp H
              obtain ⟨t260, A290, H⟩ := H
              replace H : ((dowserref02_Four.f (ji7)).bind fun t261 => (dowserlaw21_KeysValues.j0 k a2 (t260.toList != t261.toList))) = some r := H
              have A29 := Aside0.mk A290
              clear A290
              replace H := Option.bind_eq_some_iff.mp H
              obtain ⟨t261, A300, H⟩ := H
              replace H : (dowserlaw21_KeysValues.j0 k a2 (t260.toList != t261.toList)) = some r := H
              have A30 := Aside0.mk A300
              clear A300
              have H' := Aside0.mk H
              clear H
              have hnb31 := NB256_250.out
              have hnc31 := NB250_256.out
              have hcz32_0 : w21.cell? ⟨gb256, 0, none⟩ = some (.int .u32 t253) := (blk_cell BK256.out 0).trans rfl
              have hcz32_1 : w21.cell? ⟨gb256, 1, none⟩ = some (.int .i64 t254) := (blk_cell BK256.out 1).trans rfl
              have hfz32_0 := blk_frozen BK256.out 0
              have hfz32_1 := blk_frozen BK256.out 1
              have hcz33_0 : w21.cell? ⟨gb250, 0, none⟩ = some (.int .u32 a0_0) := (blk_cell BK250.out 0).trans rfl
              have hcz33_1 : w21.cell? ⟨gb250, 1, none⟩ = some (.int .i64 (Go.bits .and .i64 a0_1 255)) := (blk_cell BK250.out 1).trans rfl
              have hfz33_0 := blk_frozen BK250.out 0
              have hfz33_1 := blk_frozen BK250.out 1
              go_wp2_with (first | (go_at_call 21; (with_reducible refine (keys_Count.calls ji7 t260 _ A29.out).mono ?_); rintro e w34 ⟨rfl, hb⟩; have n0_ := Aside0.mk (blk_below (g := gb250) (o := .cells #[.int .u32 a0_0, .int .i64 (Go.bits .and .i64 a0_1 255)] 24 (0, 0)) (by (with_reducible repeat (first | refine blk_drewN ?_ _ | refine blk_drew ?_ | refine blk_alloc ?_ _)); exact BK250.out) hb); have n1_ := Aside0.mk (blk_below (g := gb256) (o := .cells #[.int .u32 t253, .int .i64 t254] 24 (0, 0)) (by (with_reducible repeat (first | refine blk_drewN ?_ _ | refine blk_drew ?_ | refine blk_alloc ?_ _)); exact BK256.out) hb); have n2_ := Aside0.mk (below_step (by repeat (first | (with_reducible first | exact HB.out | apply below_alloc | apply pw_below_drewN | apply below_drew1 | refine below_set ?_ GE250.out | refine below_set ?_ GE256.out) | exact HB.out)) hb); clear BK250; clear BK256; clear HB; have BK250 := n0_; have BK256 := n1_; have HB := n2_; clear n0_ n1_ n2_; (try clear hb); (try clear hb2); (try clear hk); (try clear hi)) | (go_at_call 22; (with_reducible refine (dowserref02_Four.calls ji7 t261 _ A30.out).mono ?_); rintro e w35 ⟨rfl, hb⟩; have n0_ := Aside0.mk (blk_below (g := gb250) (o := .cells #[.int .u32 a0_0, .int .i64 (Go.bits .and .i64 a0_1 255)] 24 (0, 0)) (by (with_reducible repeat (first | refine blk_drewN ?_ _ | refine blk_drew ?_ | refine blk_alloc ?_ _)); exact BK250.out) hb); have n1_ := Aside0.mk (blk_below (g := gb256) (o := .cells #[.int .u32 t253, .int .i64 t254] 24 (0, 0)) (by (with_reducible repeat (first | refine blk_drewN ?_ _ | refine blk_drew ?_ | refine blk_alloc ?_ _)); exact BK256.out) hb); have n2_ := Aside0.mk (below_step (by repeat (first | (with_reducible first | exact HB.out | apply below_alloc | apply pw_below_drewN | apply below_drew1 | refine below_set ?_ GE250.out | refine below_set ?_ GE256.out) | exact HB.out)) hb); clear BK250; clear BK256; clear HB; have BK250 := n0_; have BK256 := n1_; have HB := n2_; clear n0_ n1_ n2_; (try clear hb); (try clear hb2); (try clear hk); (try clear hi)))
              go_meet
              case rel => exact ⟨_, ((t260.toList != t261.toList)), (by first | rfl | (simp; done) | (simp [*]; done)), H', ⟨by first | omega | exact Nat.le_refl _⟩, ⟨by (with_reducible repeat (first | refine blk_drewN ?_ _ | refine blk_drew ?_ | refine blk_alloc ?_ _)); exact BK250.out⟩, ⟨by (with_reducible repeat (first | refine blk_drewN ?_ _ | refine blk_drew ?_ | refine blk_alloc ?_ _)); exact BK256.out⟩, ⟨by repeat (first | (with_reducible first | exact HB.out | apply below_alloc | apply pw_below_drewN | apply below_drew1 | refine below_set ?_ GE250.out | refine below_set ?_ GE256.out) | exact HB.out)⟩⟩
            · rw [if_neg c28] at H
              have c28b0 : (t258 == (ji7)) = false := beq_eq_false_iff_ne.mpr c28
              have c28b1 : (t258 != (ji7)) = true := bne_iff_ne.mpr c28
              have H' := Aside0.mk H
              clear H
              have hnb36 := NB256_250.out
              have hnc36 := NB250_256.out
              have hcz37_0 : w21.cell? ⟨gb256, 0, none⟩ = some (.int .u32 t253) := (blk_cell BK256.out 0).trans rfl
              have hcz37_1 : w21.cell? ⟨gb256, 1, none⟩ = some (.int .i64 t254) := (blk_cell BK256.out 1).trans rfl
              have hfz37_0 := blk_frozen BK256.out 0
              have hfz37_1 := blk_frozen BK256.out 1
              have hcz38_0 : w21.cell? ⟨gb250, 0, none⟩ = some (.int .u32 a0_0) := (blk_cell BK250.out 0).trans rfl
              have hcz38_1 : w21.cell? ⟨gb250, 1, none⟩ = some (.int .i64 (Go.bits .and .i64 a0_1 255)) := (blk_cell BK250.out 1).trans rfl
              have hfz38_0 := blk_frozen BK250.out 0
              have hfz38_1 := blk_frozen BK250.out 1
              go_wp2
              go_meet
              case rel => exact ⟨_, (true), (by first | rfl | (simp; done) | (simp [*]; done)), H', ⟨by first | omega | exact Nat.le_refl _⟩, ⟨by (with_reducible repeat (first | refine blk_drewN ?_ _ | refine blk_drew ?_ | refine blk_alloc ?_ _)); exact BK250.out⟩, ⟨by (with_reducible repeat (first | refine blk_drewN ?_ _ | refine blk_drew ?_ | refine blk_alloc ?_ _)); exact BK256.out⟩, ⟨by repeat (first | (with_reducible first | exact HB.out | apply below_alloc | apply pw_below_drewN | apply below_drew1 | refine below_set ?_ GE250.out | refine below_set ?_ GE256.out) | exact HB.out)⟩⟩
          · replace c27 := Bool.eq_false_iff.mpr c27
            subst c27
            have H1 : (dowserlaw21_KeysValues.j0 k a2 true) = some r := by rw [if_neg (show ¬ (false = true) by decide)] at H; exact H
            clear H
            have H := H1
            clear H1
            have H' := Aside0.mk H
            clear H
            have hnb39 := NB256_250.out
            have hnc39 := NB250_256.out
            have hcz40_0 : w21.cell? ⟨gb256, 0, none⟩ = some (.int .u32 t253) := (blk_cell BK256.out 0).trans rfl
            have hcz40_1 : w21.cell? ⟨gb256, 1, none⟩ = some (.int .i64 t254) := (blk_cell BK256.out 1).trans rfl
            have hfz40_0 := blk_frozen BK256.out 0
            have hfz40_1 := blk_frozen BK256.out 1
            have hcz41_0 : w21.cell? ⟨gb250, 0, none⟩ = some (.int .u32 a0_0) := (blk_cell BK250.out 0).trans rfl
            have hcz41_1 : w21.cell? ⟨gb250, 1, none⟩ = some (.int .i64 (Go.bits .and .i64 a0_1 255)) := (blk_cell BK250.out 1).trans rfl
            have hfz41_0 := blk_frozen BK250.out 0
            have hfz41_1 := blk_frozen BK250.out 1
            go_wp2
            go_meet
            case rel => exact ⟨_, (true), (by first | rfl | (simp; done) | (simp [*]; done)), H', ⟨by first | omega | exact Nat.le_refl _⟩, ⟨by (with_reducible repeat (first | refine blk_drewN ?_ _ | refine blk_drew ?_ | refine blk_alloc ?_ _)); exact BK250.out⟩, ⟨by (with_reducible repeat (first | refine blk_drewN ?_ _ | refine blk_drew ?_ | refine blk_alloc ?_ _)); exact BK256.out⟩, ⟨by repeat (first | (with_reducible first | exact HB.out | apply below_alloc | apply pw_below_drewN | apply below_drew1 | refine below_set ?_ GE250.out | refine below_set ?_ GE256.out) | exact HB.out)⟩⟩
      · replace c22 := Bool.eq_false_iff.mpr c22
        subst c22
        have H1 : (dowserlaw21_KeysValues.j0 k a2 true) = some r := by rw [if_neg (show ¬ (false = true) by decide)] at H; exact H
        clear H
        have H := H1
        clear H1
        have H' := Aside0.mk H
        clear H
        go_wp2
        go_meet
        case rel => exact ⟨_, (true), (by first | rfl | (simp; done) | (simp [*]; done)), H', ⟨by first | omega | exact Nat.le_refl _⟩, ⟨by (with_reducible repeat (first | refine blk_drewN ?_ _ | refine blk_drew ?_ | refine blk_alloc ?_ _)); exact BK250.out⟩, ⟨by (with_reducible repeat (first | refine blk_drewN ?_ _ | refine blk_drew ?_ | refine blk_alloc ?_ _)); exact BK256.out⟩, ⟨by repeat (first | (with_reducible first | exact HB.out | apply below_alloc | apply pw_below_drewN | apply below_drew1 | refine below_set ?_ GE250.out | refine below_set ?_ GE256.out) | exact HB.out)⟩⟩
    case rest =>
      clear HC12
      try clear c1
      try clear c2
      try clear p2
      try clear c3
      try clear c5
      try clear c6
      try clear c7
      try clear c18
      try clear c19
      try clear c20
      try clear c21
      try clear c22
      try clear c23
      try clear c23b0
      try clear c24
      try clear c27
      try clear c28
      try clear c28b0
      try clear c28b1
      try clear c31
      try clear c36
      try clear c39
      try clear hcz15_0
      try clear hcz15_1
      try clear hcz20_0
      try clear hcz20_1
      try clear hcz25_0
      try clear hcz25_1
      try clear hcz26_0
      try clear hcz26_1
      try clear hcz32_0
      try clear hcz32_1
      try clear hcz33_0
      try clear hcz33_1
      try clear hcz37_0
      try clear hcz37_1
      try clear hcz38_0
      try clear hcz38_1
      try clear hcz40_0
      try clear hcz40_1
      try clear hcz41_0
      try clear hcz41_1
      try clear hfz15_0
      try clear hfz15_1
      try clear hfz20_0
      try clear hfz20_1
      try clear hfz25_0
      try clear hfz25_1
      try clear hfz26_0
      try clear hfz26_1
      try clear hfz32_0
      try clear hfz32_1
      try clear hfz33_0
      try clear hfz33_1
      try clear hfz37_0
      try clear hfz37_1
      try clear hfz38_0
      try clear hfz38_1
      try clear hfz40_0
      try clear hfz40_1
      try clear hfz41_0
      try clear hfz41_1
      obtain ⟨kq, x59_11, rfl, HA, HJ11, BK250, BK256, HB⟩ := hcut
      cases kq with
      | zero => exact absurd HA.out (by simp [dowserlaw21_KeysValues.j0])
      | succ kj11 =>
        have H := HA.out
        clear HA
        simp only [dowserlaw21_KeysValues.j0] at H
        by_cases c42 : x59_11 = true
        · subst c42
          have H1 : (some false) = some r := by rw [if_pos rfl] at H; exact H
          clear H
          have H := H1
          clear H1
          obtain rfl := Option.some.inj H
          go_wp2
          go_ret
          exact ⟨by first | rfl | (simp [errW_none, errW_some] <;> rfl) | (simp only [← hji6, ← hji7]; first | rfl | (simp [errW_none, errW_some] <;> rfl)) | (simp [*, errW_none, errW_some] <;> rfl), by repeat (first | (with_reducible first | exact HB.out | apply below_alloc | apply pw_below_drewN | apply below_drew1 | refine below_set ?_ GE250.out | refine below_set ?_ GE256.out) | exact HB.out)⟩
        · replace c42 := Bool.eq_false_iff.mpr c42
          subst c42
          have H1 : ((dowserlaw01_Cut.f a2 8).bind fun t262 => ((keys_Counted.f kj11 t262).bind fun bt263 => (if (t262.size : Int) = 4 then (if 0 < (t262.size : Int) then (if (bt263.2 != (decide ((bt t262 0) < 128))) = true then (dowserlaw21_KeysValues.j1 kj11 t262 true) else (if bt263.2 = true then ((keys_Count.f bt263.1).bind fun t265 => (if t265.toList = t262.toList then (dowserlaw21_KeysValues.j1 kj11 t262 false) else (dowserlaw21_KeysValues.j1 kj11 t262 true))) else (dowserlaw21_KeysValues.j1 kj11 t262 (bt263.1 != 0)))) else (none)) else (if (bt263.2 != false) = true then (dowserlaw21_KeysValues.j1 kj11 t262 true) else (if bt263.2 = true then ((keys_Count.f bt263.1).bind fun t266 => (if t266.toList = t262.toList then (dowserlaw21_KeysValues.j1 kj11 t262 false) else (dowserlaw21_KeysValues.j1 kj11 t262 true))) else (dowserlaw21_KeysValues.j1 kj11 t262 (bt263.1 != 0))))))) = some r := by rw [if_neg (show ¬ (false = true) by decide)] at H; exact H
          clear H
          have H := H1
          clear H1
          replace H := Option.bind_eq_some_iff.mp H
          obtain ⟨t262, A430, H⟩ := H
          replace H : ((keys_Counted.f kj11 t262).bind fun bt263 => (if (t262.size : Int) = 4 then (if 0 < (t262.size : Int) then (if (bt263.2 != (decide ((bt t262 0) < 128))) = true then (dowserlaw21_KeysValues.j1 kj11 t262 true) else (if bt263.2 = true then ((keys_Count.f bt263.1).bind fun t265 => (if t265.toList = t262.toList then (dowserlaw21_KeysValues.j1 kj11 t262 false) else (dowserlaw21_KeysValues.j1 kj11 t262 true))) else (dowserlaw21_KeysValues.j1 kj11 t262 (bt263.1 != 0)))) else (none)) else (if (bt263.2 != false) = true then (dowserlaw21_KeysValues.j1 kj11 t262 true) else (if bt263.2 = true then ((keys_Count.f bt263.1).bind fun t266 => (if t266.toList = t262.toList then (dowserlaw21_KeysValues.j1 kj11 t262 false) else (dowserlaw21_KeysValues.j1 kj11 t262 true))) else (dowserlaw21_KeysValues.j1 kj11 t262 (bt263.1 != 0)))))) = some r := H
          have A43 := Aside0.mk A430
          clear A430
          replace H := Option.bind_eq_some_iff.mp H
          obtain ⟨⟨t263, t264⟩, A440, H⟩ := H
          replace H : (if (t262.size : Int) = 4 then (if 0 < (t262.size : Int) then (if (t264 != (decide ((bt t262 0) < 128))) = true then (dowserlaw21_KeysValues.j1 kj11 t262 true) else (if t264 = true then ((keys_Count.f t263).bind fun t265 => (if t265.toList = t262.toList then (dowserlaw21_KeysValues.j1 kj11 t262 false) else (dowserlaw21_KeysValues.j1 kj11 t262 true))) else (dowserlaw21_KeysValues.j1 kj11 t262 (t263 != 0)))) else (none)) else (if (t264 != false) = true then (dowserlaw21_KeysValues.j1 kj11 t262 true) else (if t264 = true then ((keys_Count.f t263).bind fun t266 => (if t266.toList = t262.toList then (dowserlaw21_KeysValues.j1 kj11 t262 false) else (dowserlaw21_KeysValues.j1 kj11 t262 true))) else (dowserlaw21_KeysValues.j1 kj11 t262 (t263 != 0))))) = some r := H
          have A44 := Aside0.mk A440
          clear A440
          have HC45 := Aside0.mk H
          clear H
          go_upto_region 11 with (first | ((with_reducible refine gate_callee (f := 12) rfl ?_); refine goesL_ (some 61) rfl rfl Try.func12 (by kernel_rfl) rfl #[.string a2, .int .i64 8] rfl (by (try simp only [List.map_toArray, List.map_cons, List.map_nil]); first | done | rfl | (simp only [List.length_drop, List.length_take]; rfl)) ?_; (with_reducible refine (dowserlaw01_Cut.calls a2 8 t262 _ A43.out).mono ?_); rintro e w' ⟨rfl, ⟨nd, rfl⟩⟩; refine ⟨_, rfl, ?_⟩) | ((with_reducible refine gate_callee (f := 20) rfl ?_); refine goesL_ (some 64) rfl rfl Try.func20 (by kernel_rfl) rfl #[.string t262] rfl (by (try simp only [List.map_toArray, List.map_cons, List.map_nil]); first | done | rfl | (simp only [List.length_drop, List.length_take]; rfl)) ?_; (with_reducible refine (keys_Counted.calls kj11 t262 t263 t264 _ A44.out).mono ?_); rintro e w' ⟨rfl, ⟨nd, rfl⟩⟩; refine ⟨_, rfl, ?_⟩))
          (try simp only [Act.put, List.setIfInBounds_toArray, List.set_cons_zero, List.set_cons_succ])
          go_cut [93] (fun v93 wc => ∃ (kq : Nat) (x93_44 : Bool), v93 = .bool x93_44 ∧ Aside0 (dowserlaw21_KeysValues.j1 kq t262 x93_44 = some r) ∧ Aside0 (kq ≤ kj11) ∧ Aside0 (wc.heap[gb250]? = some (.cells #[.int .u32 a0_0, .int .i64 (Go.bits .and .i64 a0_1 255)] 24 (0, 0))) ∧ Aside0 (wc.heap[gb256]? = some (.cells #[.int .u32 t253, .int .i64 t254] 24 (0, 0))) ∧ Aside0 (Below w.heap.size w wc))
          case first =>
            have H := HC45.out
            clear HC45
            by_cases c46 : (t262.size : Int) = 4
            · rw [if_pos c46] at H
              have c46b0 : ((t262.size : Int) == 4) = true := beq_iff_eq.mpr c46
              have c46b1 : ((t262.size : Int) != 4) = false := bne_eq_false_iff_eq.mpr c46
              clear c46
              (first | rw [c46b0] | (simp only [i64_w, i32_w]; rw [c46b0]) | skip)
              by_cases c47 : 0 < (t262.size : Int)
              · rw [if_pos c47] at H
                have c47b0 : decide (0 < (t262.size : Int)) = true := decide_eq_true c47
                have c47b1 : decide (0 < t262.size) = true := decide_eq_true (by omega)
                clear c47
                by_cases c49 : (t264 != (decide ((bt t262 0) < 128))) = true
                · rw [if_pos c49] at H
                  have c49b0 : (t264 != (decide ((bt t262 0) < 128))) = true := c49
                  (try (have c49b1 : decide (t264 = (decide ((bt t262 0) < 128))) = false := by simpa using c49))
                  (try (have c49b2 : (t264 == (decide ((bt t262 0) < 128))) = false := by simpa using c49))
                  (try (have c49b3 : ¬ (t264 = (decide ((bt t262 0) < 128))) := by simpa using c49))
                  clear c49
                  have H' := Aside0.mk H
                  clear H
                  have p48 : 0 ≤ (0 : Int) := (by omega)
                  have q48 : 0 < t262.size := (by have : (0 : Int) < (t262.size : Int) := of_decide_eq_true (by first | (with_reducible assumption) | assumption); omega)
                  have hx48 : ∀ h : 0 < t262.size, ((t262[0]'h).toNat : Int) = bt t262 0 := bt_at t262 0
                  clear p48
                  have qi48 : (0 < (t262.size : Int)) = True := eq_true (of_decide_eq_true (by first | (with_reducible assumption) | assumption))
                  replace q48 := eq_true q48
                  go_wp2
                  go_meet
                  case rel => exact ⟨_, (true), (by first | rfl | (simp; done) | (simp [*]; done)), H', ⟨by have := HJ11.out; first | omega | exact Nat.le_refl _⟩, ⟨by (with_reducible repeat (first | refine blk_drewN ?_ _ | refine blk_drew ?_ | refine blk_alloc ?_ _)); exact BK250.out⟩, ⟨by (with_reducible repeat (first | refine blk_drewN ?_ _ | refine blk_drew ?_ | refine blk_alloc ?_ _)); exact BK256.out⟩, ⟨by repeat (first | (with_reducible first | exact HB.out | apply below_alloc | apply pw_below_drewN | apply below_drew1 | refine below_set ?_ GE250.out | refine below_set ?_ GE256.out) | exact HB.out)⟩⟩
                · rw [if_neg c49] at H
                  have c49b0 : (t264 != (decide ((bt t262 0) < 128))) = false := by simpa using c49
                  (try (have c49b1 : decide (t264 = (decide ((bt t262 0) < 128))) = true := by simpa using c49))
                  (try (have c49b2 : (t264 == (decide ((bt t262 0) < 128))) = true := by simpa using c49))
                  clear c49
                  by_cases c50 : t264 = true
                  · subst c50
                    have H1 : ((keys_Count.f t263).bind fun t265 => (if t265.toList = t262.toList then (dowserlaw21_KeysValues.j1 kj11 t262 false) else (dowserlaw21_KeysValues.j1 kj11 t262 true))) = some r := by rw [if_pos rfl] at H; exact H
                    clear H
                    have H := H1
                    clear H1
                    replace H := Option.bind_eq_some_iff.mp H
                    obtain ⟨t265, A510, H⟩ := H
                    replace H : (if t265.toList = t262.toList then (dowserlaw21_KeysValues.j1 kj11 t262 false) else (dowserlaw21_KeysValues.j1 kj11 t262 true)) = some r := H
                    have A51 := Aside0.mk A510
                    clear A510
                    by_cases c52 : t265.toList = t262.toList
                    · rw [if_pos c52] at H
                      have c52b0 : (t265.toList == t262.toList) = true := beq_iff_eq.mpr c52
                      have c52b1 : (t265.toList != t262.toList) = false := bne_eq_false_iff_eq.mpr c52
                      clear c52
                      have H' := Aside0.mk H
                      clear H
                      have p48 : 0 ≤ (0 : Int) := (by omega)
                      have q48 : 0 < t262.size := (by have : (0 : Int) < (t262.size : Int) := of_decide_eq_true (by first | (with_reducible assumption) | assumption); omega)
                      have hx48 : ∀ h : 0 < t262.size, ((t262[0]'h).toNat : Int) = bt t262 0 := bt_at t262 0
                      clear p48
                      have qi48 : (0 < (t262.size : Int)) = True := eq_true (of_decide_eq_true (by first | (with_reducible assumption) | assumption))
                      replace q48 := eq_true q48
                      go_wp2_with (first | (go_at_call 21; (with_reducible refine (keys_Count.calls t263 t265 _ A51.out).mono ?_); rintro e w53 ⟨rfl, hb⟩; have n0_ := Aside0.mk (blk_below (g := gb250) (o := .cells #[.int .u32 a0_0, .int .i64 (Go.bits .and .i64 a0_1 255)] 24 (0, 0)) (by (with_reducible repeat (first | refine blk_drewN ?_ _ | refine blk_drew ?_ | refine blk_alloc ?_ _)); exact BK250.out) hb); have n1_ := Aside0.mk (blk_below (g := gb256) (o := .cells #[.int .u32 t253, .int .i64 t254] 24 (0, 0)) (by (with_reducible repeat (first | refine blk_drewN ?_ _ | refine blk_drew ?_ | refine blk_alloc ?_ _)); exact BK256.out) hb); have n2_ := Aside0.mk (below_step (by repeat (first | (with_reducible first | exact HB.out | apply below_alloc | apply pw_below_drewN | apply below_drew1 | refine below_set ?_ GE250.out | refine below_set ?_ GE256.out) | exact HB.out)) hb); clear BK250; clear BK256; clear HB; have BK250 := n0_; have BK256 := n1_; have HB := n2_; clear n0_ n1_ n2_; (try clear hb); (try clear hb2); (try clear hk); (try clear hi)))
                      go_meet
                      case rel => exact ⟨_, (false), (by first | rfl | (simp; done) | (simp [*]; done)), H', ⟨by have := HJ11.out; first | omega | exact Nat.le_refl _⟩, ⟨by (with_reducible repeat (first | refine blk_drewN ?_ _ | refine blk_drew ?_ | refine blk_alloc ?_ _)); exact BK250.out⟩, ⟨by (with_reducible repeat (first | refine blk_drewN ?_ _ | refine blk_drew ?_ | refine blk_alloc ?_ _)); exact BK256.out⟩, ⟨by repeat (first | (with_reducible first | exact HB.out | apply below_alloc | apply pw_below_drewN | apply below_drew1 | refine below_set ?_ GE250.out | refine below_set ?_ GE256.out) | exact HB.out)⟩⟩
                    · rw [if_neg c52] at H
                      have c52b0 : (t265.toList == t262.toList) = false := beq_eq_false_iff_ne.mpr c52
                      have c52b1 : (t265.toList != t262.toList) = true := bne_iff_ne.mpr c52
                      have H' := Aside0.mk H
                      clear H
                      have p48 : 0 ≤ (0 : Int) := (by omega)
                      have q48 : 0 < t262.size := (by have : (0 : Int) < (t262.size : Int) := of_decide_eq_true (by first | (with_reducible assumption) | assumption); omega)
                      have hx48 : ∀ h : 0 < t262.size, ((t262[0]'h).toNat : Int) = bt t262 0 := bt_at t262 0
                      clear p48
                      have qi48 : (0 < (t262.size : Int)) = True := eq_true (of_decide_eq_true (by first | (with_reducible assumption) | assumption))
                      replace q48 := eq_true q48
                      go_wp2_with (first | (go_at_call 21; (with_reducible refine (keys_Count.calls t263 t265 _ A51.out).mono ?_); rintro e w54 ⟨rfl, hb⟩; have n0_ := Aside0.mk (blk_below (g := gb250) (o := .cells #[.int .u32 a0_0, .int .i64 (Go.bits .and .i64 a0_1 255)] 24 (0, 0)) (by (with_reducible repeat (first | refine blk_drewN ?_ _ | refine blk_drew ?_ | refine blk_alloc ?_ _)); exact BK250.out) hb); have n1_ := Aside0.mk (blk_below (g := gb256) (o := .cells #[.int .u32 t253, .int .i64 t254] 24 (0, 0)) (by (with_reducible repeat (first | refine blk_drewN ?_ _ | refine blk_drew ?_ | refine blk_alloc ?_ _)); exact BK256.out) hb); have n2_ := Aside0.mk (below_step (by repeat (first | (with_reducible first | exact HB.out | apply below_alloc | apply pw_below_drewN | apply below_drew1 | refine below_set ?_ GE250.out | refine below_set ?_ GE256.out) | exact HB.out)) hb); clear BK250; clear BK256; clear HB; have BK250 := n0_; have BK256 := n1_; have HB := n2_; clear n0_ n1_ n2_; (try clear hb); (try clear hb2); (try clear hk); (try clear hi)))
                      go_meet
                      case rel => exact ⟨_, (true), (by first | rfl | (simp; done) | (simp [*]; done)), H', ⟨by have := HJ11.out; first | omega | exact Nat.le_refl _⟩, ⟨by (with_reducible repeat (first | refine blk_drewN ?_ _ | refine blk_drew ?_ | refine blk_alloc ?_ _)); exact BK250.out⟩, ⟨by (with_reducible repeat (first | refine blk_drewN ?_ _ | refine blk_drew ?_ | refine blk_alloc ?_ _)); exact BK256.out⟩, ⟨by repeat (first | (with_reducible first | exact HB.out | apply below_alloc | apply pw_below_drewN | apply below_drew1 | refine below_set ?_ GE250.out | refine below_set ?_ GE256.out) | exact HB.out)⟩⟩
                  · replace c50 := Bool.eq_false_iff.mpr c50
                    subst c50
                    have H1 : (dowserlaw21_KeysValues.j1 kj11 t262 (t263 != 0)) = some r := by rw [if_neg (show ¬ (false = true) by decide)] at H; exact H
                    clear H
                    have H := H1
                    clear H1
                    have H' := Aside0.mk H
                    clear H
                    have p48 : 0 ≤ (0 : Int) := (by omega)
                    have q48 : 0 < t262.size := (by have : (0 : Int) < (t262.size : Int) := of_decide_eq_true (by first | (with_reducible assumption) | assumption); omega)
                    have hx48 : ∀ h : 0 < t262.size, ((t262[0]'h).toNat : Int) = bt t262 0 := bt_at t262 0
                    clear p48
                    have qi48 : (0 < (t262.size : Int)) = True := eq_true (of_decide_eq_true (by first | (with_reducible assumption) | assumption))
                    replace q48 := eq_true q48
                    go_wp2
                    go_meet
                    case rel => exact ⟨_, ((t263 != 0)), (by first | rfl | (simp; done) | (simp [*]; done)), H', ⟨by have := HJ11.out; first | omega | exact Nat.le_refl _⟩, ⟨by (with_reducible repeat (first | refine blk_drewN ?_ _ | refine blk_drew ?_ | refine blk_alloc ?_ _)); exact BK250.out⟩, ⟨by (with_reducible repeat (first | refine blk_drewN ?_ _ | refine blk_drew ?_ | refine blk_alloc ?_ _)); exact BK256.out⟩, ⟨by repeat (first | (with_reducible first | exact HB.out | apply below_alloc | apply pw_below_drewN | apply below_drew1 | refine below_set ?_ GE250.out | refine below_set ?_ GE256.out) | exact HB.out)⟩⟩
              · rw [if_neg c47] at H
                exact absurd H (by simp)
            · rw [if_neg c46] at H
              have c46b0 : ((t262.size : Int) == 4) = false := beq_eq_false_iff_ne.mpr c46
              have c46b1 : ((t262.size : Int) != 4) = true := bne_iff_ne.mpr c46
              (first | rw [c46b0] | (simp only [i64_w, i32_w]; rw [c46b0]) | skip)
              by_cases c55 : (t264 != false) = true
              · rw [if_pos c55] at H
                have c55b0 : (t264 != false) = true := c55
                (try (have c55b1 : decide (t264 = false) = false := by simpa using c55))
                (try (have c55b2 : (t264 == false) = false := by simpa using c55))
                (try (have c55b3 : ¬ (t264 = false) := by simpa using c55))
                clear c55
                have H' := Aside0.mk H
                clear H
                go_wp2
                go_meet
                case rel => exact ⟨_, (true), (by first | rfl | (simp; done) | (simp [*]; done)), H', ⟨by have := HJ11.out; first | omega | exact Nat.le_refl _⟩, ⟨by (with_reducible repeat (first | refine blk_drewN ?_ _ | refine blk_drew ?_ | refine blk_alloc ?_ _)); exact BK250.out⟩, ⟨by (with_reducible repeat (first | refine blk_drewN ?_ _ | refine blk_drew ?_ | refine blk_alloc ?_ _)); exact BK256.out⟩, ⟨by repeat (first | (with_reducible first | exact HB.out | apply below_alloc | apply pw_below_drewN | apply below_drew1 | refine below_set ?_ GE250.out | refine below_set ?_ GE256.out) | exact HB.out)⟩⟩
              · rw [if_neg c55] at H
                have c55b0 : (t264 != false) = false := by simpa using c55
                (try (have c55b1 : decide (t264 = false) = true := by simpa using c55))
                (try (have c55b2 : (t264 == false) = true := by simpa using c55))
                clear c55
                by_cases c56 : t264 = true
                · subst c56
                  have H1 : ((keys_Count.f t263).bind fun t266 => (if t266.toList = t262.toList then (dowserlaw21_KeysValues.j1 kj11 t262 false) else (dowserlaw21_KeysValues.j1 kj11 t262 true))) = some r := by rw [if_pos rfl] at H; exact H
                  clear H
                  have H := H1
                  clear H1
                  replace H := Option.bind_eq_some_iff.mp H
                  obtain ⟨t266, A570, H⟩ := H
                  replace H : (if t266.toList = t262.toList then (dowserlaw21_KeysValues.j1 kj11 t262 false) else (dowserlaw21_KeysValues.j1 kj11 t262 true)) = some r := H
                  have A57 := Aside0.mk A570
                  clear A570
                  by_cases c58 : t266.toList = t262.toList
                  · rw [if_pos c58] at H
                    have c58b0 : (t266.toList == t262.toList) = true := beq_iff_eq.mpr c58
                    have c58b1 : (t266.toList != t262.toList) = false := bne_eq_false_iff_eq.mpr c58
                    clear c58
                    have H' := Aside0.mk H
                    clear H
                    go_wp2_with (first | (go_at_call 21; (with_reducible refine (keys_Count.calls t263 t266 _ A57.out).mono ?_); rintro e w59 ⟨rfl, hb⟩; have n0_ := Aside0.mk (blk_below (g := gb250) (o := .cells #[.int .u32 a0_0, .int .i64 (Go.bits .and .i64 a0_1 255)] 24 (0, 0)) (by (with_reducible repeat (first | refine blk_drewN ?_ _ | refine blk_drew ?_ | refine blk_alloc ?_ _)); exact BK250.out) hb); have n1_ := Aside0.mk (blk_below (g := gb256) (o := .cells #[.int .u32 t253, .int .i64 t254] 24 (0, 0)) (by (with_reducible repeat (first | refine blk_drewN ?_ _ | refine blk_drew ?_ | refine blk_alloc ?_ _)); exact BK256.out) hb); have n2_ := Aside0.mk (below_step (by repeat (first | (with_reducible first | exact HB.out | apply below_alloc | apply pw_below_drewN | apply below_drew1 | refine below_set ?_ GE250.out | refine below_set ?_ GE256.out) | exact HB.out)) hb); clear BK250; clear BK256; clear HB; have BK250 := n0_; have BK256 := n1_; have HB := n2_; clear n0_ n1_ n2_; (try clear hb); (try clear hb2); (try clear hk); (try clear hi)))
                    go_meet
                    case rel => exact ⟨_, (false), (by first | rfl | (simp; done) | (simp [*]; done)), H', ⟨by have := HJ11.out; first | omega | exact Nat.le_refl _⟩, ⟨by (with_reducible repeat (first | refine blk_drewN ?_ _ | refine blk_drew ?_ | refine blk_alloc ?_ _)); exact BK250.out⟩, ⟨by (with_reducible repeat (first | refine blk_drewN ?_ _ | refine blk_drew ?_ | refine blk_alloc ?_ _)); exact BK256.out⟩, ⟨by repeat (first | (with_reducible first | exact HB.out | apply below_alloc | apply pw_below_drewN | apply below_drew1 | refine below_set ?_ GE250.out | refine below_set ?_ GE256.out) | exact HB.out)⟩⟩
                  · rw [if_neg c58] at H
                    have c58b0 : (t266.toList == t262.toList) = false := beq_eq_false_iff_ne.mpr c58
                    have c58b1 : (t266.toList != t262.toList) = true := bne_iff_ne.mpr c58
                    have H' := Aside0.mk H
                    clear H
                    go_wp2_with (first | (go_at_call 21; (with_reducible refine (keys_Count.calls t263 t266 _ A57.out).mono ?_); rintro e w60 ⟨rfl, hb⟩; have n0_ := Aside0.mk (blk_below (g := gb250) (o := .cells #[.int .u32 a0_0, .int .i64 (Go.bits .and .i64 a0_1 255)] 24 (0, 0)) (by (with_reducible repeat (first | refine blk_drewN ?_ _ | refine blk_drew ?_ | refine blk_alloc ?_ _)); exact BK250.out) hb); have n1_ := Aside0.mk (blk_below (g := gb256) (o := .cells #[.int .u32 t253, .int .i64 t254] 24 (0, 0)) (by (with_reducible repeat (first | refine blk_drewN ?_ _ | refine blk_drew ?_ | refine blk_alloc ?_ _)); exact BK256.out) hb); have n2_ := Aside0.mk (below_step (by repeat (first | (with_reducible first | exact HB.out | apply below_alloc | apply pw_below_drewN | apply below_drew1 | refine below_set ?_ GE250.out | refine below_set ?_ GE256.out) | exact HB.out)) hb); clear BK250; clear BK256; clear HB; have BK250 := n0_; have BK256 := n1_; have HB := n2_; clear n0_ n1_ n2_; (try clear hb); (try clear hb2); (try clear hk); (try clear hi)))
                    go_meet
                    case rel => exact ⟨_, (true), (by first | rfl | (simp; done) | (simp [*]; done)), H', ⟨by have := HJ11.out; first | omega | exact Nat.le_refl _⟩, ⟨by (with_reducible repeat (first | refine blk_drewN ?_ _ | refine blk_drew ?_ | refine blk_alloc ?_ _)); exact BK250.out⟩, ⟨by (with_reducible repeat (first | refine blk_drewN ?_ _ | refine blk_drew ?_ | refine blk_alloc ?_ _)); exact BK256.out⟩, ⟨by repeat (first | (with_reducible first | exact HB.out | apply below_alloc | apply pw_below_drewN | apply below_drew1 | refine below_set ?_ GE250.out | refine below_set ?_ GE256.out) | exact HB.out)⟩⟩
                · replace c56 := Bool.eq_false_iff.mpr c56
                  subst c56
                  have H1 : (dowserlaw21_KeysValues.j1 kj11 t262 (t263 != 0)) = some r := by rw [if_neg (show ¬ (false = true) by decide)] at H; exact H
                  clear H
                  have H := H1
                  clear H1
                  have H' := Aside0.mk H
                  clear H
                  go_wp2
                  go_meet
                  case rel => exact ⟨_, ((t263 != 0)), (by first | rfl | (simp; done) | (simp [*]; done)), H', ⟨by have := HJ11.out; first | omega | exact Nat.le_refl _⟩, ⟨by (with_reducible repeat (first | refine blk_drewN ?_ _ | refine blk_drew ?_ | refine blk_alloc ?_ _)); exact BK250.out⟩, ⟨by (with_reducible repeat (first | refine blk_drewN ?_ _ | refine blk_drew ?_ | refine blk_alloc ?_ _)); exact BK256.out⟩, ⟨by repeat (first | (with_reducible first | exact HB.out | apply below_alloc | apply pw_below_drewN | apply below_drew1 | refine below_set ?_ GE250.out | refine below_set ?_ GE256.out) | exact HB.out)⟩⟩
          case rest =>
            clear HC45
            try clear c1
            try clear c2
            try clear p2
            try clear c3
            try clear c4
            try clear p4
            try clear q4
            try clear hx4
            try clear qi4
            try clear c5
            try clear c6
            try clear c7
            try clear c12
            try clear c18
            try clear c19
            try clear c20
            try clear c21
            try clear c22
            try clear c23
            try clear c23b0
            try clear c24
            try clear c27
            try clear c28
            try clear c28b0
            try clear c28b1
            try clear c31
            try clear c36
            try clear c39
            try clear c42
            try clear c46
            try clear c46b0
            try clear c46b1
            try clear c47
            try clear c47b0
            try clear c47b1
            try clear p48
            try clear q48
            try clear hx48
            try clear qi48
            try clear c49
            try clear c49b0
            try clear c49b1
            try clear c49b2
            try clear c50
            try clear c52
            try clear c52b0
            try clear c52b1
            try clear c55
            try clear c55b0
            try clear c55b1
            try clear c55b2
            try clear c56
            try clear c58
            try clear c58b0
            try clear c58b1
            try clear hcz15_0
            try clear hcz15_1
            try clear hcz20_0
            try clear hcz20_1
            try clear hcz25_0
            try clear hcz25_1
            try clear hcz26_0
            try clear hcz26_1
            try clear hcz32_0
            try clear hcz32_1
            try clear hcz33_0
            try clear hcz33_1
            try clear hcz37_0
            try clear hcz37_1
            try clear hcz38_0
            try clear hcz38_1
            try clear hcz40_0
            try clear hcz40_1
            try clear hcz41_0
            try clear hcz41_1
            try clear hfz15_0
            try clear hfz15_1
            try clear hfz20_0
            try clear hfz20_1
            try clear hfz25_0
            try clear hfz25_1
            try clear hfz26_0
            try clear hfz26_1
            try clear hfz32_0
            try clear hfz32_1
            try clear hfz33_0
            try clear hfz33_1
            try clear hfz37_0
            try clear hfz37_1
            try clear hfz38_0
            try clear hfz38_1
            try clear hfz40_0
            try clear hfz40_1
            try clear hfz41_0
            try clear hfz41_1
            try clear p2
            try clear p48
            try clear q48
            obtain ⟨kq, x93_44, rfl, HA, HJ44, BK250, BK256, HB⟩ := hcut
            cases kq with
            | zero => exact absurd HA.out (by simp [dowserlaw21_KeysValues.j1])
            | succ kj44 =>
              have H := HA.out
              clear HA
              simp only [dowserlaw21_KeysValues.j1] at H
              by_cases c61 : x93_44 = true
              · subst c61
                have H1 : (some false) = some r := by rw [if_pos rfl] at H; exact H
                clear H
                have H := H1
                clear H1
                obtain rfl := Option.some.inj H
                go_wp2
                go_ret
                exact ⟨by first | rfl | (simp [errW_none, errW_some] <;> rfl) | (simp only [← hji6, ← hji7]; first | rfl | (simp [errW_none, errW_some] <;> rfl)) | (simp [*, errW_none, errW_some] <;> rfl), by repeat (first | (with_reducible first | exact HB.out | apply below_alloc | apply pw_below_drewN | apply below_drew1 | refine below_set ?_ GE250.out | refine below_set ?_ GE256.out) | exact HB.out)⟩
              · replace c61 := Bool.eq_false_iff.mpr c61
                subst c61
                have H1 : ((keys_Ref.f kj44 t262).bind fun bt267 => (if (t262.size : Int) = 6 then (if 0 < (t262.size : Int) then (if (bt267.2.2 == ((bt t262 0) == 115)) = true then (if bt267.2.2 = true then ((keys_Value.f bt267.1 bt267.2.1).bind fun t271 => (some (t271.toList == t262.toList))) else (some true)) else (some false)) else (none)) else (if (bt267.2.2 == false) = true then (if bt267.2.2 = true then ((keys_Value.f bt267.1 bt267.2.1).bind fun t272 => (some (t272.toList == t262.toList))) else (some true)) else (some false)))) = some r := by rw [if_neg (show ¬ (false = true) by decide)] at H; exact H
                clear H
                have H := H1
                clear H1
                replace H := Option.bind_eq_some_iff.mp H
                obtain ⟨⟨t267, t268, t269⟩, A620, H⟩ := H
                replace H : (if (t262.size : Int) = 6 then (if 0 < (t262.size : Int) then (if (t269 == ((bt t262 0) == 115)) = true then (if t269 = true then ((keys_Value.f t267 t268).bind fun t271 => (some (t271.toList == t262.toList))) else (some true)) else (some false)) else (none)) else (if (t269 == false) = true then (if t269 = true then ((keys_Value.f t267 t268).bind fun t272 => (some (t272.toList == t262.toList))) else (some true)) else (some false))) = some r := H
                have A62 := Aside0.mk A620
                clear A620
                by_cases c63 : (t262.size : Int) = 6
                · rw [if_pos c63] at H
                  have c63b0 : ((t262.size : Int) == 6) = true := beq_iff_eq.mpr c63
                  have c63b1 : ((t262.size : Int) != 6) = false := bne_eq_false_iff_eq.mpr c63
                  clear c63
                  by_cases c64 : 0 < (t262.size : Int)
                  · rw [if_pos c64] at H
                    have c64b0 : decide (0 < (t262.size : Int)) = true := decide_eq_true c64
                    have c64b1 : decide (0 < t262.size) = true := decide_eq_true (by omega)
                    clear c64
                    by_cases c66 : (t269 == ((bt t262 0) == 115)) = true
                    · rw [if_pos c66] at H
                      have c66b0 : (t269 == ((bt t262 0) == 115)) = true := c66
                      (try (have c66b1 : decide (t269 = ((bt t262 0) == 115)) = true := by simpa using c66))
                      (try (have c66b2 : (t269 == ((bt t262 0) == 115)) = true := by simpa using c66))
                      clear c66
                      by_cases c67 : t269 = true
                      · subst c67
                        have H1 : ((keys_Value.f t267 t268).bind fun t271 => (some (t271.toList == t262.toList))) = some r := by rw [if_pos rfl] at H; exact H
                        clear H
                        have H := H1
                        clear H1
                        replace H := Option.bind_eq_some_iff.mp H
                        obtain ⟨t271, A680, H⟩ := H
                        replace H : (some (t271.toList == t262.toList)) = some r := H
                        have A68 := Aside0.mk A680
                        clear A680
                        obtain rfl := Option.some.inj H
                        go_wp2_with (first | ((with_reducible refine gate_callee (f := 18) rfl ?_); refine goesL_ (some 96) rfl rfl Try.func18 (by kernel_rfl) rfl #[.string t262] rfl (by (try simp only [List.map_toArray, List.map_cons, List.map_nil]); first | done | rfl | (simp only [List.length_drop, List.length_take]; rfl)) ?_; (with_reducible refine (keys_Ref.calls kj44 t262 t267 t268 true _ A62.out).mono ?_); rintro e w69 ⟨rfl, hb⟩; refine ⟨_, rfl, ?_⟩; have n0_ := Aside0.mk (blk_below (g := gb250) (o := .cells #[.int .u32 a0_0, .int .i64 (Go.bits .and .i64 a0_1 255)] 24 (0, 0)) (by (with_reducible repeat (first | refine blk_drewN ?_ _ | refine blk_drew ?_ | refine blk_alloc ?_ _)); exact BK250.out) hb); have n1_ := Aside0.mk (blk_below (g := gb256) (o := .cells #[.int .u32 t253, .int .i64 t254] 24 (0, 0)) (by (with_reducible repeat (first | refine blk_drewN ?_ _ | refine blk_drew ?_ | refine blk_alloc ?_ _)); exact BK256.out) hb); have n2_ := Aside0.mk (below_step (by repeat (first | (with_reducible first | exact HB.out | apply below_alloc | apply pw_below_drewN | apply below_drew1 | refine below_set ?_ GE250.out | refine below_set ?_ GE256.out) | exact HB.out)) hb); clear BK250; clear BK256; clear HB; have BK250 := n0_; have BK256 := n1_; have HB := n2_; clear n0_ n1_ n2_; (try clear hb); (try clear hb2); (try clear hk); (try clear hi)) | ((with_reducible refine gate_dst (N := 13) rfl ?_); refine box_event ?hg (N := 13) ?hd (cs := #[.int .u32 0, .int .i64 0]) (t := 24) ?hr ?_; (case hd => rfl); (case hg => rfl); (case hr => first | (go_simp; done) | (go_simp; rfl)); intro gb270 hg w70 hbox hb; have n0_ := Aside0.mk (blk_below (g := gb250) (o := .cells #[.int .u32 a0_0, .int .i64 (Go.bits .and .i64 a0_1 255)] 24 (0, 0)) (by (with_reducible repeat (first | refine blk_drewN ?_ _ | refine blk_drew ?_ | refine blk_alloc ?_ _)); exact BK250.out) hb); have n1_ := Aside0.mk (blk_below (g := gb256) (o := .cells #[.int .u32 t253, .int .i64 t254] 24 (0, 0)) (by (with_reducible repeat (first | refine blk_drewN ?_ _ | refine blk_drew ?_ | refine blk_alloc ?_ _)); exact BK256.out) hb); have n2_ := Aside0.mk (below_step (by repeat (first | (with_reducible first | exact HB.out | apply below_alloc | apply pw_below_drewN | apply below_drew1 | refine below_set ?_ GE250.out | refine below_set ?_ GE256.out) | exact HB.out)) hb); have n3_ := Aside0.mk (hbox); have n4_ := Aside0.mk ((by rw [hg]; exact (below_size (by repeat (first | (with_reducible first | exact HB.out | apply below_alloc | apply pw_below_drewN | apply below_drew1 | refine below_set ?_ GE250.out | refine below_set ?_ GE256.out) | exact HB.out))) : w.heap.size ≤ gb270)); have n5_ := Aside0.mk ((by rw [hg]; exact (below_size (by repeat (first | (with_reducible first | exact HB.out | apply below_alloc | apply pw_below_drewN | apply below_drew1 | refine below_set ?_ GE250.out | refine below_set ?_ GE256.out) | exact HB.out))) : w.heap.size ≤ gb270)); have n6_ := Aside0.mk ((by rw [hg]; exact Nat.ne_of_lt (blk_lt (g := gb250) (o := .cells #[.int .u32 a0_0, .int .i64 (Go.bits .and .i64 a0_1 255)] 24 (0, 0)) (by (with_reducible repeat (first | refine blk_drewN ?_ _ | refine blk_drew ?_ | refine blk_alloc ?_ _)); exact BK250.out)) : gb250 ≠ gb270)); have n7_ := Aside0.mk ((by rw [hg]; exact Nat.ne_of_gt (blk_lt (g := gb250) (o := .cells #[.int .u32 a0_0, .int .i64 (Go.bits .and .i64 a0_1 255)] 24 (0, 0)) (by (with_reducible repeat (first | refine blk_drewN ?_ _ | refine blk_drew ?_ | refine blk_alloc ?_ _)); exact BK250.out)) : gb270 ≠ gb250)); have n8_ := Aside0.mk ((by rw [hg]; exact Nat.ne_of_lt (blk_lt (g := gb256) (o := .cells #[.int .u32 t253, .int .i64 t254] 24 (0, 0)) (by (with_reducible repeat (first | refine blk_drewN ?_ _ | refine blk_drew ?_ | refine blk_alloc ?_ _)); exact BK256.out)) : gb256 ≠ gb270)); have n9_ := Aside0.mk ((by rw [hg]; exact Nat.ne_of_gt (blk_lt (g := gb256) (o := .cells #[.int .u32 t253, .int .i64 t254] 24 (0, 0)) (by (with_reducible repeat (first | refine blk_drewN ?_ _ | refine blk_drew ?_ | refine blk_alloc ?_ _)); exact BK256.out)) : gb270 ≠ gb256)); clear BK250; clear BK256; clear HB; have BK250 := n0_; have BK256 := n1_; have HB := n2_; have BK270 := n3_; have GW270 := n4_; have GE270 := n5_; have NB250_270 := n6_; have NB270_250 := n7_; have NB256_270 := n8_; have NB270_256 := n9_; clear n0_ n1_ n2_ n3_ n4_ n5_ n6_ n7_ n8_ n9_; clear hb hbox hg; have hnb71 := NB270_250.out; have hnc71 := NB250_270.out; have hnb72 := NB270_256.out; have hnc72 := NB256_270.out; have hcz73_0 : w70.cell? ⟨gb270, 0, none⟩ = some (.int .u32 0) := (blk_cell BK270.out 0).trans rfl; have hcz73_1 : w70.cell? ⟨gb270, 1, none⟩ = some (.int .i64 0) := (blk_cell BK270.out 1).trans rfl; have hfz73_0 := blk_frozen BK270.out 0; have hfz73_1 := blk_frozen BK270.out 1; have p65 : 0 ≤ (0 : Int) := (by omega); have q65 : 0 < t262.size := (by have : (0 : Int) < (t262.size : Int) := of_decide_eq_true (by first | (with_reducible assumption) | assumption); omega); have hx65 : ∀ h : 0 < t262.size, ((t262[0]'h).toNat : Int) = bt t262 0 := bt_at t262 0; clear p65; have qi65 : (0 < (t262.size : Int)) = True := eq_true (of_decide_eq_true (by first | (with_reducible assumption) | assumption)); replace q65 := eq_true q65) | (go_at_call 19; (with_reducible refine (keys_Value.calls t267 t268 t271 _ A68.out).mono ?_); rintro e w74 ⟨rfl, hb⟩; have n0_ := Aside0.mk (blk_below (g := gb250) (o := .cells #[.int .u32 a0_0, .int .i64 (Go.bits .and .i64 a0_1 255)] 24 (0, 0)) (by (with_reducible repeat (first | refine blk_drewN ?_ _ | refine blk_drew ?_ | refine blk_alloc ?_ _)); refine blk_far ?_ NB250_270.out _; (with_reducible repeat (first | refine blk_drewN ?_ _ | refine blk_drew ?_ | refine blk_alloc ?_ _)); refine blk_far ?_ NB250_270.out _; (with_reducible repeat (first | refine blk_drewN ?_ _ | refine blk_drew ?_ | refine blk_alloc ?_ _)); exact BK250.out) hb); have n1_ := Aside0.mk (blk_below (g := gb256) (o := .cells #[.int .u32 t253, .int .i64 t254] 24 (0, 0)) (by (with_reducible repeat (first | refine blk_drewN ?_ _ | refine blk_drew ?_ | refine blk_alloc ?_ _)); refine blk_far ?_ NB256_270.out _; (with_reducible repeat (first | refine blk_drewN ?_ _ | refine blk_drew ?_ | refine blk_alloc ?_ _)); refine blk_far ?_ NB256_270.out _; (with_reducible repeat (first | refine blk_drewN ?_ _ | refine blk_drew ?_ | refine blk_alloc ?_ _)); exact BK256.out) hb); have n2_ := Aside0.mk (blk_below (g := gb270) (o := .cells #[.int .u32 t267, .int .i64 t268] 24 (0, 0)) (by (with_reducible repeat (first | refine blk_drewN ?_ _ | refine blk_drew ?_ | refine blk_alloc ?_ _)); refine blk_put (cs := #[.int .u32 t267, .int .i64 0]) ?_ 1 _ rfl; (with_reducible repeat (first | refine blk_drewN ?_ _ | refine blk_drew ?_ | refine blk_alloc ?_ _)); refine blk_put (cs := #[.int .u32 0, .int .i64 0]) ?_ 0 _ rfl; (with_reducible repeat (first | refine blk_drewN ?_ _ | refine blk_drew ?_ | refine blk_alloc ?_ _)); exact BK270.out) hb); have n3_ := Aside0.mk (below_step (by repeat (first | (with_reducible first | exact HB.out | apply below_alloc | apply pw_below_drewN | apply below_drew1 | refine below_set ?_ GE250.out | refine below_set ?_ GE256.out | refine below_set ?_ GE270.out) | exact HB.out)) hb); clear BK250; clear BK256; clear BK270; clear HB; have BK250 := n0_; have BK256 := n1_; have BK270 := n2_; have HB := n3_; clear n0_ n1_ n2_ n3_; (try clear hb); (try clear hb2); (try clear hk); (try clear hi)))
                        go_ret
                        exact ⟨by first | rfl | (simp [errW_none, errW_some] <;> rfl) | (simp only [← hji6, ← hji7]; first | rfl | (simp [errW_none, errW_some] <;> rfl)) | (simp [*, errW_none, errW_some] <;> rfl), by repeat (first | (with_reducible first | exact HB.out | apply below_alloc | apply pw_below_drewN | apply below_drew1 | refine below_set ?_ GE250.out | refine below_set ?_ GE256.out | refine below_set ?_ GE270.out) | exact HB.out)⟩
                      · replace c67 := Bool.eq_false_iff.mpr c67
                        subst c67
                        have H1 : (some true) = some r := by rw [if_neg (show ¬ (false = true) by decide)] at H; exact H
                        clear H
                        have H := H1
                        clear H1
                        obtain rfl := Option.some.inj H
                        go_wp2_with (first | ((with_reducible refine gate_callee (f := 18) rfl ?_); refine goesL_ (some 96) rfl rfl Try.func18 (by kernel_rfl) rfl #[.string t262] rfl (by (try simp only [List.map_toArray, List.map_cons, List.map_nil]); first | done | rfl | (simp only [List.length_drop, List.length_take]; rfl)) ?_; (with_reducible refine (keys_Ref.calls kj44 t262 t267 t268 false _ A62.out).mono ?_); rintro e w75 ⟨rfl, hb⟩; refine ⟨_, rfl, ?_⟩; have n0_ := Aside0.mk (blk_below (g := gb250) (o := .cells #[.int .u32 a0_0, .int .i64 (Go.bits .and .i64 a0_1 255)] 24 (0, 0)) (by (with_reducible repeat (first | refine blk_drewN ?_ _ | refine blk_drew ?_ | refine blk_alloc ?_ _)); exact BK250.out) hb); have n1_ := Aside0.mk (blk_below (g := gb256) (o := .cells #[.int .u32 t253, .int .i64 t254] 24 (0, 0)) (by (with_reducible repeat (first | refine blk_drewN ?_ _ | refine blk_drew ?_ | refine blk_alloc ?_ _)); exact BK256.out) hb); have n2_ := Aside0.mk (below_step (by repeat (first | (with_reducible first | exact HB.out | apply below_alloc | apply pw_below_drewN | apply below_drew1 | refine below_set ?_ GE250.out | refine below_set ?_ GE256.out) | exact HB.out)) hb); clear BK250; clear BK256; clear HB; have BK250 := n0_; have BK256 := n1_; have HB := n2_; clear n0_ n1_ n2_; (try clear hb); (try clear hb2); (try clear hk); (try clear hi)) | ((with_reducible refine gate_dst (N := 13) rfl ?_); refine box_event ?hg (N := 13) ?hd (cs := #[.int .u32 0, .int .i64 0]) (t := 24) ?hr ?_; (case hd => rfl); (case hg => rfl); (case hr => first | (go_simp; done) | (go_simp; rfl)); intro gb270 hg w76 hbox hb; have n0_ := Aside0.mk (blk_below (g := gb250) (o := .cells #[.int .u32 a0_0, .int .i64 (Go.bits .and .i64 a0_1 255)] 24 (0, 0)) (by (with_reducible repeat (first | refine blk_drewN ?_ _ | refine blk_drew ?_ | refine blk_alloc ?_ _)); exact BK250.out) hb); have n1_ := Aside0.mk (blk_below (g := gb256) (o := .cells #[.int .u32 t253, .int .i64 t254] 24 (0, 0)) (by (with_reducible repeat (first | refine blk_drewN ?_ _ | refine blk_drew ?_ | refine blk_alloc ?_ _)); exact BK256.out) hb); have n2_ := Aside0.mk (below_step (by repeat (first | (with_reducible first | exact HB.out | apply below_alloc | apply pw_below_drewN | apply below_drew1 | refine below_set ?_ GE250.out | refine below_set ?_ GE256.out) | exact HB.out)) hb); have n3_ := Aside0.mk (hbox); have n4_ := Aside0.mk ((by rw [hg]; exact (below_size (by repeat (first | (with_reducible first | exact HB.out | apply below_alloc | apply pw_below_drewN | apply below_drew1 | refine below_set ?_ GE250.out | refine below_set ?_ GE256.out) | exact HB.out))) : w.heap.size ≤ gb270)); have n5_ := Aside0.mk ((by rw [hg]; exact (below_size (by repeat (first | (with_reducible first | exact HB.out | apply below_alloc | apply pw_below_drewN | apply below_drew1 | refine below_set ?_ GE250.out | refine below_set ?_ GE256.out) | exact HB.out))) : w.heap.size ≤ gb270)); have n6_ := Aside0.mk ((by rw [hg]; exact Nat.ne_of_lt (blk_lt (g := gb250) (o := .cells #[.int .u32 a0_0, .int .i64 (Go.bits .and .i64 a0_1 255)] 24 (0, 0)) (by (with_reducible repeat (first | refine blk_drewN ?_ _ | refine blk_drew ?_ | refine blk_alloc ?_ _)); exact BK250.out)) : gb250 ≠ gb270)); have n7_ := Aside0.mk ((by rw [hg]; exact Nat.ne_of_gt (blk_lt (g := gb250) (o := .cells #[.int .u32 a0_0, .int .i64 (Go.bits .and .i64 a0_1 255)] 24 (0, 0)) (by (with_reducible repeat (first | refine blk_drewN ?_ _ | refine blk_drew ?_ | refine blk_alloc ?_ _)); exact BK250.out)) : gb270 ≠ gb250)); have n8_ := Aside0.mk ((by rw [hg]; exact Nat.ne_of_lt (blk_lt (g := gb256) (o := .cells #[.int .u32 t253, .int .i64 t254] 24 (0, 0)) (by (with_reducible repeat (first | refine blk_drewN ?_ _ | refine blk_drew ?_ | refine blk_alloc ?_ _)); exact BK256.out)) : gb256 ≠ gb270)); have n9_ := Aside0.mk ((by rw [hg]; exact Nat.ne_of_gt (blk_lt (g := gb256) (o := .cells #[.int .u32 t253, .int .i64 t254] 24 (0, 0)) (by (with_reducible repeat (first | refine blk_drewN ?_ _ | refine blk_drew ?_ | refine blk_alloc ?_ _)); exact BK256.out)) : gb270 ≠ gb256)); clear BK250; clear BK256; clear HB; have BK250 := n0_; have BK256 := n1_; have HB := n2_; have BK270 := n3_; have GW270 := n4_; have GE270 := n5_; have NB250_270 := n6_; have NB270_250 := n7_; have NB256_270 := n8_; have NB270_256 := n9_; clear n0_ n1_ n2_ n3_ n4_ n5_ n6_ n7_ n8_ n9_; clear hb hbox hg; have hnb77 := NB270_250.out; have hnc77 := NB250_270.out; have hnb78 := NB270_256.out; have hnc78 := NB256_270.out; have hcz79_0 : w76.cell? ⟨gb270, 0, none⟩ = some (.int .u32 0) := (blk_cell BK270.out 0).trans rfl; have hcz79_1 : w76.cell? ⟨gb270, 1, none⟩ = some (.int .i64 0) := (blk_cell BK270.out 1).trans rfl; have hfz79_0 := blk_frozen BK270.out 0; have hfz79_1 := blk_frozen BK270.out 1; have p65 : 0 ≤ (0 : Int) := (by omega); have q65 : 0 < t262.size := (by have : (0 : Int) < (t262.size : Int) := of_decide_eq_true (by first | (with_reducible assumption) | assumption); omega); have hx65 : ∀ h : 0 < t262.size, ((t262[0]'h).toNat : Int) = bt t262 0 := bt_at t262 0; clear p65; have qi65 : (0 < (t262.size : Int)) = True := eq_true (of_decide_eq_true (by first | (with_reducible assumption) | assumption)); replace q65 := eq_true q65))
                        go_ret
                        exact ⟨by first | rfl | (simp [errW_none, errW_some] <;> rfl) | (simp only [← hji6, ← hji7]; first | rfl | (simp [errW_none, errW_some] <;> rfl)) | (simp [*, errW_none, errW_some] <;> rfl), by repeat (first | (with_reducible first | exact HB.out | apply below_alloc | apply pw_below_drewN | apply below_drew1 | refine below_set ?_ GE250.out | refine below_set ?_ GE256.out | refine below_set ?_ GE270.out) | exact HB.out)⟩
                    · rw [if_neg c66] at H
                      have c66b0 : (t269 == ((bt t262 0) == 115)) = false := by simpa using c66
                      (try (have c66b1 : decide (t269 = ((bt t262 0) == 115)) = false := by simpa using c66))
                      (try (have c66b2 : (t269 == ((bt t262 0) == 115)) = false := by simpa using c66))
                      (try (have c66b3 : ¬ (t269 = ((bt t262 0) == 115)) := by simpa using c66))
                      clear c66
                      obtain rfl := Option.some.inj H
                      go_wp2_with (first | ((with_reducible refine gate_callee (f := 18) rfl ?_); refine goesL_ (some 96) rfl rfl Try.func18 (by kernel_rfl) rfl #[.string t262] rfl (by (try simp only [List.map_toArray, List.map_cons, List.map_nil]); first | done | rfl | (simp only [List.length_drop, List.length_take]; rfl)) ?_; (with_reducible refine (keys_Ref.calls kj44 t262 t267 t268 t269 _ A62.out).mono ?_); rintro e w80 ⟨rfl, hb⟩; refine ⟨_, rfl, ?_⟩; have n0_ := Aside0.mk (blk_below (g := gb250) (o := .cells #[.int .u32 a0_0, .int .i64 (Go.bits .and .i64 a0_1 255)] 24 (0, 0)) (by (with_reducible repeat (first | refine blk_drewN ?_ _ | refine blk_drew ?_ | refine blk_alloc ?_ _)); exact BK250.out) hb); have n1_ := Aside0.mk (blk_below (g := gb256) (o := .cells #[.int .u32 t253, .int .i64 t254] 24 (0, 0)) (by (with_reducible repeat (first | refine blk_drewN ?_ _ | refine blk_drew ?_ | refine blk_alloc ?_ _)); exact BK256.out) hb); have n2_ := Aside0.mk (below_step (by repeat (first | (with_reducible first | exact HB.out | apply below_alloc | apply pw_below_drewN | apply below_drew1 | refine below_set ?_ GE250.out | refine below_set ?_ GE256.out) | exact HB.out)) hb); clear BK250; clear BK256; clear HB; have BK250 := n0_; have BK256 := n1_; have HB := n2_; clear n0_ n1_ n2_; (try clear hb); (try clear hb2); (try clear hk); (try clear hi)) | ((with_reducible refine gate_dst (N := 13) rfl ?_); refine box_event ?hg (N := 13) ?hd (cs := #[.int .u32 0, .int .i64 0]) (t := 24) ?hr ?_; (case hd => rfl); (case hg => rfl); (case hr => first | (go_simp; done) | (go_simp; rfl)); intro gb270 hg w81 hbox hb; have n0_ := Aside0.mk (blk_below (g := gb250) (o := .cells #[.int .u32 a0_0, .int .i64 (Go.bits .and .i64 a0_1 255)] 24 (0, 0)) (by (with_reducible repeat (first | refine blk_drewN ?_ _ | refine blk_drew ?_ | refine blk_alloc ?_ _)); exact BK250.out) hb); have n1_ := Aside0.mk (blk_below (g := gb256) (o := .cells #[.int .u32 t253, .int .i64 t254] 24 (0, 0)) (by (with_reducible repeat (first | refine blk_drewN ?_ _ | refine blk_drew ?_ | refine blk_alloc ?_ _)); exact BK256.out) hb); have n2_ := Aside0.mk (below_step (by repeat (first | (with_reducible first | exact HB.out | apply below_alloc | apply pw_below_drewN | apply below_drew1 | refine below_set ?_ GE250.out | refine below_set ?_ GE256.out) | exact HB.out)) hb); have n3_ := Aside0.mk (hbox); have n4_ := Aside0.mk ((by rw [hg]; exact (below_size (by repeat (first | (with_reducible first | exact HB.out | apply below_alloc | apply pw_below_drewN | apply below_drew1 | refine below_set ?_ GE250.out | refine below_set ?_ GE256.out) | exact HB.out))) : w.heap.size ≤ gb270)); have n5_ := Aside0.mk ((by rw [hg]; exact (below_size (by repeat (first | (with_reducible first | exact HB.out | apply below_alloc | apply pw_below_drewN | apply below_drew1 | refine below_set ?_ GE250.out | refine below_set ?_ GE256.out) | exact HB.out))) : w.heap.size ≤ gb270)); have n6_ := Aside0.mk ((by rw [hg]; exact Nat.ne_of_lt (blk_lt (g := gb250) (o := .cells #[.int .u32 a0_0, .int .i64 (Go.bits .and .i64 a0_1 255)] 24 (0, 0)) (by (with_reducible repeat (first | refine blk_drewN ?_ _ | refine blk_drew ?_ | refine blk_alloc ?_ _)); exact BK250.out)) : gb250 ≠ gb270)); have n7_ := Aside0.mk ((by rw [hg]; exact Nat.ne_of_gt (blk_lt (g := gb250) (o := .cells #[.int .u32 a0_0, .int .i64 (Go.bits .and .i64 a0_1 255)] 24 (0, 0)) (by (with_reducible repeat (first | refine blk_drewN ?_ _ | refine blk_drew ?_ | refine blk_alloc ?_ _)); exact BK250.out)) : gb270 ≠ gb250)); have n8_ := Aside0.mk ((by rw [hg]; exact Nat.ne_of_lt (blk_lt (g := gb256) (o := .cells #[.int .u32 t253, .int .i64 t254] 24 (0, 0)) (by (with_reducible repeat (first | refine blk_drewN ?_ _ | refine blk_drew ?_ | refine blk_alloc ?_ _)); exact BK256.out)) : gb256 ≠ gb270)); have n9_ := Aside0.mk ((by rw [hg]; exact Nat.ne_of_gt (blk_lt (g := gb256) (o := .cells #[.int .u32 t253, .int .i64 t254] 24 (0, 0)) (by (with_reducible repeat (first | refine blk_drewN ?_ _ | refine blk_drew ?_ | refine blk_alloc ?_ _)); exact BK256.out)) : gb270 ≠ gb256)); clear BK250; clear BK256; clear HB; have BK250 := n0_; have BK256 := n1_; have HB := n2_; have BK270 := n3_; have GW270 := n4_; have GE270 := n5_; have NB250_270 := n6_; have NB270_250 := n7_; have NB256_270 := n8_; have NB270_256 := n9_; clear n0_ n1_ n2_ n3_ n4_ n5_ n6_ n7_ n8_ n9_; clear hb hbox hg; have hnb82 := NB270_250.out; have hnc82 := NB250_270.out; have hnb83 := NB270_256.out; have hnc83 := NB256_270.out; have hcz84_0 : w81.cell? ⟨gb270, 0, none⟩ = some (.int .u32 0) := (blk_cell BK270.out 0).trans rfl; have hcz84_1 : w81.cell? ⟨gb270, 1, none⟩ = some (.int .i64 0) := (blk_cell BK270.out 1).trans rfl; have hfz84_0 := blk_frozen BK270.out 0; have hfz84_1 := blk_frozen BK270.out 1; have p65 : 0 ≤ (0 : Int) := (by omega); have q65 : 0 < t262.size := (by have : (0 : Int) < (t262.size : Int) := of_decide_eq_true (by first | (with_reducible assumption) | assumption); omega); have hx65 : ∀ h : 0 < t262.size, ((t262[0]'h).toNat : Int) = bt t262 0 := bt_at t262 0; clear p65; have qi65 : (0 < (t262.size : Int)) = True := eq_true (of_decide_eq_true (by first | (with_reducible assumption) | assumption)); replace q65 := eq_true q65))
                      go_ret
                      exact ⟨by first | rfl | (simp [errW_none, errW_some] <;> rfl) | (simp only [← hji6, ← hji7]; first | rfl | (simp [errW_none, errW_some] <;> rfl)) | (simp [*, errW_none, errW_some] <;> rfl), by repeat (first | (with_reducible first | exact HB.out | apply below_alloc | apply pw_below_drewN | apply below_drew1 | refine below_set ?_ GE250.out | refine below_set ?_ GE256.out | refine below_set ?_ GE270.out) | exact HB.out)⟩
                  · rw [if_neg c64] at H
                    exact absurd H (by simp)
                · rw [if_neg c63] at H
                  have c63b0 : ((t262.size : Int) == 6) = false := beq_eq_false_iff_ne.mpr c63
                  have c63b1 : ((t262.size : Int) != 6) = true := bne_iff_ne.mpr c63
                  by_cases c85 : (t269 == false) = true
                  · rw [if_pos c85] at H
                    have c85b0 : (t269 == false) = true := c85
                    (try (have c85b1 : decide (t269 = false) = true := by simpa using c85))
                    (try (have c85b2 : (t269 == false) = true := by simpa using c85))
                    clear c85
                    by_cases c86 : t269 = true
                    · subst c86
                      have H1 : ((keys_Value.f t267 t268).bind fun t272 => (some (t272.toList == t262.toList))) = some r := by rw [if_pos rfl] at H; exact H
                      clear H
                      have H := H1
                      clear H1
                      replace H := Option.bind_eq_some_iff.mp H
                      obtain ⟨t272, A870, H⟩ := H
                      replace H : (some (t272.toList == t262.toList)) = some r := H
                      have A87 := Aside0.mk A870
                      clear A870
                      obtain rfl := Option.some.inj H
                      go_wp2_with (first | ((with_reducible refine gate_callee (f := 18) rfl ?_); refine goesL_ (some 96) rfl rfl Try.func18 (by kernel_rfl) rfl #[.string t262] rfl (by (try simp only [List.map_toArray, List.map_cons, List.map_nil]); first | done | rfl | (simp only [List.length_drop, List.length_take]; rfl)) ?_; (with_reducible refine (keys_Ref.calls kj44 t262 t267 t268 true _ A62.out).mono ?_); rintro e w88 ⟨rfl, hb⟩; refine ⟨_, rfl, ?_⟩; have n0_ := Aside0.mk (blk_below (g := gb250) (o := .cells #[.int .u32 a0_0, .int .i64 (Go.bits .and .i64 a0_1 255)] 24 (0, 0)) (by (with_reducible repeat (first | refine blk_drewN ?_ _ | refine blk_drew ?_ | refine blk_alloc ?_ _)); exact BK250.out) hb); have n1_ := Aside0.mk (blk_below (g := gb256) (o := .cells #[.int .u32 t253, .int .i64 t254] 24 (0, 0)) (by (with_reducible repeat (first | refine blk_drewN ?_ _ | refine blk_drew ?_ | refine blk_alloc ?_ _)); exact BK256.out) hb); have n2_ := Aside0.mk (below_step (by repeat (first | (with_reducible first | exact HB.out | apply below_alloc | apply pw_below_drewN | apply below_drew1 | refine below_set ?_ GE250.out | refine below_set ?_ GE256.out) | exact HB.out)) hb); clear BK250; clear BK256; clear HB; have BK250 := n0_; have BK256 := n1_; have HB := n2_; clear n0_ n1_ n2_; (try clear hb); (try clear hb2); (try clear hk); (try clear hi)) | ((with_reducible refine gate_dst (N := 13) rfl ?_); refine box_event ?hg (N := 13) ?hd (cs := #[.int .u32 0, .int .i64 0]) (t := 24) ?hr ?_; (case hd => rfl); (case hg => rfl); (case hr => first | (go_simp; done) | (go_simp; rfl)); intro gb270 hg w89 hbox hb; have n0_ := Aside0.mk (blk_below (g := gb250) (o := .cells #[.int .u32 a0_0, .int .i64 (Go.bits .and .i64 a0_1 255)] 24 (0, 0)) (by (with_reducible repeat (first | refine blk_drewN ?_ _ | refine blk_drew ?_ | refine blk_alloc ?_ _)); exact BK250.out) hb); have n1_ := Aside0.mk (blk_below (g := gb256) (o := .cells #[.int .u32 t253, .int .i64 t254] 24 (0, 0)) (by (with_reducible repeat (first | refine blk_drewN ?_ _ | refine blk_drew ?_ | refine blk_alloc ?_ _)); exact BK256.out) hb); have n2_ := Aside0.mk (below_step (by repeat (first | (with_reducible first | exact HB.out | apply below_alloc | apply pw_below_drewN | apply below_drew1 | refine below_set ?_ GE250.out | refine below_set ?_ GE256.out) | exact HB.out)) hb); have n3_ := Aside0.mk (hbox); have n4_ := Aside0.mk ((by rw [hg]; exact (below_size (by repeat (first | (with_reducible first | exact HB.out | apply below_alloc | apply pw_below_drewN | apply below_drew1 | refine below_set ?_ GE250.out | refine below_set ?_ GE256.out) | exact HB.out))) : w.heap.size ≤ gb270)); have n5_ := Aside0.mk ((by rw [hg]; exact (below_size (by repeat (first | (with_reducible first | exact HB.out | apply below_alloc | apply pw_below_drewN | apply below_drew1 | refine below_set ?_ GE250.out | refine below_set ?_ GE256.out) | exact HB.out))) : w.heap.size ≤ gb270)); have n6_ := Aside0.mk ((by rw [hg]; exact Nat.ne_of_lt (blk_lt (g := gb250) (o := .cells #[.int .u32 a0_0, .int .i64 (Go.bits .and .i64 a0_1 255)] 24 (0, 0)) (by (with_reducible repeat (first | refine blk_drewN ?_ _ | refine blk_drew ?_ | refine blk_alloc ?_ _)); exact BK250.out)) : gb250 ≠ gb270)); have n7_ := Aside0.mk ((by rw [hg]; exact Nat.ne_of_gt (blk_lt (g := gb250) (o := .cells #[.int .u32 a0_0, .int .i64 (Go.bits .and .i64 a0_1 255)] 24 (0, 0)) (by (with_reducible repeat (first | refine blk_drewN ?_ _ | refine blk_drew ?_ | refine blk_alloc ?_ _)); exact BK250.out)) : gb270 ≠ gb250)); have n8_ := Aside0.mk ((by rw [hg]; exact Nat.ne_of_lt (blk_lt (g := gb256) (o := .cells #[.int .u32 t253, .int .i64 t254] 24 (0, 0)) (by (with_reducible repeat (first | refine blk_drewN ?_ _ | refine blk_drew ?_ | refine blk_alloc ?_ _)); exact BK256.out)) : gb256 ≠ gb270)); have n9_ := Aside0.mk ((by rw [hg]; exact Nat.ne_of_gt (blk_lt (g := gb256) (o := .cells #[.int .u32 t253, .int .i64 t254] 24 (0, 0)) (by (with_reducible repeat (first | refine blk_drewN ?_ _ | refine blk_drew ?_ | refine blk_alloc ?_ _)); exact BK256.out)) : gb270 ≠ gb256)); clear BK250; clear BK256; clear HB; have BK250 := n0_; have BK256 := n1_; have HB := n2_; have BK270 := n3_; have GW270 := n4_; have GE270 := n5_; have NB250_270 := n6_; have NB270_250 := n7_; have NB256_270 := n8_; have NB270_256 := n9_; clear n0_ n1_ n2_ n3_ n4_ n5_ n6_ n7_ n8_ n9_; clear hb hbox hg; have hnb90 := NB270_250.out; have hnc90 := NB250_270.out; have hnb91 := NB270_256.out; have hnc91 := NB256_270.out; have hcz92_0 : w89.cell? ⟨gb270, 0, none⟩ = some (.int .u32 0) := (blk_cell BK270.out 0).trans rfl; have hcz92_1 : w89.cell? ⟨gb270, 1, none⟩ = some (.int .i64 0) := (blk_cell BK270.out 1).trans rfl; have hfz92_0 := blk_frozen BK270.out 0; have hfz92_1 := blk_frozen BK270.out 1) | (go_at_call 19; (with_reducible refine (keys_Value.calls t267 t268 t272 _ A87.out).mono ?_); rintro e w93 ⟨rfl, hb⟩; have n0_ := Aside0.mk (blk_below (g := gb250) (o := .cells #[.int .u32 a0_0, .int .i64 (Go.bits .and .i64 a0_1 255)] 24 (0, 0)) (by (with_reducible repeat (first | refine blk_drewN ?_ _ | refine blk_drew ?_ | refine blk_alloc ?_ _)); refine blk_far ?_ NB250_270.out _; (with_reducible repeat (first | refine blk_drewN ?_ _ | refine blk_drew ?_ | refine blk_alloc ?_ _)); refine blk_far ?_ NB250_270.out _; (with_reducible repeat (first | refine blk_drewN ?_ _ | refine blk_drew ?_ | refine blk_alloc ?_ _)); exact BK250.out) hb); have n1_ := Aside0.mk (blk_below (g := gb256) (o := .cells #[.int .u32 t253, .int .i64 t254] 24 (0, 0)) (by (with_reducible repeat (first | refine blk_drewN ?_ _ | refine blk_drew ?_ | refine blk_alloc ?_ _)); refine blk_far ?_ NB256_270.out _; (with_reducible repeat (first | refine blk_drewN ?_ _ | refine blk_drew ?_ | refine blk_alloc ?_ _)); refine blk_far ?_ NB256_270.out _; (with_reducible repeat (first | refine blk_drewN ?_ _ | refine blk_drew ?_ | refine blk_alloc ?_ _)); exact BK256.out) hb); have n2_ := Aside0.mk (blk_below (g := gb270) (o := .cells #[.int .u32 t267, .int .i64 t268] 24 (0, 0)) (by (with_reducible repeat (first | refine blk_drewN ?_ _ | refine blk_drew ?_ | refine blk_alloc ?_ _)); refine blk_put (cs := #[.int .u32 t267, .int .i64 0]) ?_ 1 _ rfl; (with_reducible repeat (first | refine blk_drewN ?_ _ | refine blk_drew ?_ | refine blk_alloc ?_ _)); refine blk_put (cs := #[.int .u32 0, .int .i64 0]) ?_ 0 _ rfl; (with_reducible repeat (first | refine blk_drewN ?_ _ | refine blk_drew ?_ | refine blk_alloc ?_ _)); exact BK270.out) hb); have n3_ := Aside0.mk (below_step (by repeat (first | (with_reducible first | exact HB.out | apply below_alloc | apply pw_below_drewN | apply below_drew1 | refine below_set ?_ GE250.out | refine below_set ?_ GE256.out | refine below_set ?_ GE270.out) | exact HB.out)) hb); clear BK250; clear BK256; clear BK270; clear HB; have BK250 := n0_; have BK256 := n1_; have BK270 := n2_; have HB := n3_; clear n0_ n1_ n2_ n3_; (try clear hb); (try clear hb2); (try clear hk); (try clear hi)))
                      go_ret
                      exact ⟨by first | rfl | (simp [errW_none, errW_some] <;> rfl) | (simp only [← hji6, ← hji7]; first | rfl | (simp [errW_none, errW_some] <;> rfl)) | (simp [*, errW_none, errW_some] <;> rfl), by repeat (first | (with_reducible first | exact HB.out | apply below_alloc | apply pw_below_drewN | apply below_drew1 | refine below_set ?_ GE250.out | refine below_set ?_ GE256.out | refine below_set ?_ GE270.out) | exact HB.out)⟩
                    · replace c86 := Bool.eq_false_iff.mpr c86
                      subst c86
                      have H1 : (some true) = some r := by rw [if_neg (show ¬ (false = true) by decide)] at H; exact H
                      clear H
                      have H := H1
                      clear H1
                      obtain rfl := Option.some.inj H
                      go_wp2_with (first | ((with_reducible refine gate_callee (f := 18) rfl ?_); refine goesL_ (some 96) rfl rfl Try.func18 (by kernel_rfl) rfl #[.string t262] rfl (by (try simp only [List.map_toArray, List.map_cons, List.map_nil]); first | done | rfl | (simp only [List.length_drop, List.length_take]; rfl)) ?_; (with_reducible refine (keys_Ref.calls kj44 t262 t267 t268 false _ A62.out).mono ?_); rintro e w94 ⟨rfl, hb⟩; refine ⟨_, rfl, ?_⟩; have n0_ := Aside0.mk (blk_below (g := gb250) (o := .cells #[.int .u32 a0_0, .int .i64 (Go.bits .and .i64 a0_1 255)] 24 (0, 0)) (by (with_reducible repeat (first | refine blk_drewN ?_ _ | refine blk_drew ?_ | refine blk_alloc ?_ _)); exact BK250.out) hb); have n1_ := Aside0.mk (blk_below (g := gb256) (o := .cells #[.int .u32 t253, .int .i64 t254] 24 (0, 0)) (by (with_reducible repeat (first | refine blk_drewN ?_ _ | refine blk_drew ?_ | refine blk_alloc ?_ _)); exact BK256.out) hb); have n2_ := Aside0.mk (below_step (by repeat (first | (with_reducible first | exact HB.out | apply below_alloc | apply pw_below_drewN | apply below_drew1 | refine below_set ?_ GE250.out | refine below_set ?_ GE256.out) | exact HB.out)) hb); clear BK250; clear BK256; clear HB; have BK250 := n0_; have BK256 := n1_; have HB := n2_; clear n0_ n1_ n2_; (try clear hb); (try clear hb2); (try clear hk); (try clear hi)) | ((with_reducible refine gate_dst (N := 13) rfl ?_); refine box_event ?hg (N := 13) ?hd (cs := #[.int .u32 0, .int .i64 0]) (t := 24) ?hr ?_; (case hd => rfl); (case hg => rfl); (case hr => first | (go_simp; done) | (go_simp; rfl)); intro gb270 hg w95 hbox hb; have n0_ := Aside0.mk (blk_below (g := gb250) (o := .cells #[.int .u32 a0_0, .int .i64 (Go.bits .and .i64 a0_1 255)] 24 (0, 0)) (by (with_reducible repeat (first | refine blk_drewN ?_ _ | refine blk_drew ?_ | refine blk_alloc ?_ _)); exact BK250.out) hb); have n1_ := Aside0.mk (blk_below (g := gb256) (o := .cells #[.int .u32 t253, .int .i64 t254] 24 (0, 0)) (by (with_reducible repeat (first | refine blk_drewN ?_ _ | refine blk_drew ?_ | refine blk_alloc ?_ _)); exact BK256.out) hb); have n2_ := Aside0.mk (below_step (by repeat (first | (with_reducible first | exact HB.out | apply below_alloc | apply pw_below_drewN | apply below_drew1 | refine below_set ?_ GE250.out | refine below_set ?_ GE256.out) | exact HB.out)) hb); have n3_ := Aside0.mk (hbox); have n4_ := Aside0.mk ((by rw [hg]; exact (below_size (by repeat (first | (with_reducible first | exact HB.out | apply below_alloc | apply pw_below_drewN | apply below_drew1 | refine below_set ?_ GE250.out | refine below_set ?_ GE256.out) | exact HB.out))) : w.heap.size ≤ gb270)); have n5_ := Aside0.mk ((by rw [hg]; exact (below_size (by repeat (first | (with_reducible first | exact HB.out | apply below_alloc | apply pw_below_drewN | apply below_drew1 | refine below_set ?_ GE250.out | refine below_set ?_ GE256.out) | exact HB.out))) : w.heap.size ≤ gb270)); have n6_ := Aside0.mk ((by rw [hg]; exact Nat.ne_of_lt (blk_lt (g := gb250) (o := .cells #[.int .u32 a0_0, .int .i64 (Go.bits .and .i64 a0_1 255)] 24 (0, 0)) (by (with_reducible repeat (first | refine blk_drewN ?_ _ | refine blk_drew ?_ | refine blk_alloc ?_ _)); exact BK250.out)) : gb250 ≠ gb270)); have n7_ := Aside0.mk ((by rw [hg]; exact Nat.ne_of_gt (blk_lt (g := gb250) (o := .cells #[.int .u32 a0_0, .int .i64 (Go.bits .and .i64 a0_1 255)] 24 (0, 0)) (by (with_reducible repeat (first | refine blk_drewN ?_ _ | refine blk_drew ?_ | refine blk_alloc ?_ _)); exact BK250.out)) : gb270 ≠ gb250)); have n8_ := Aside0.mk ((by rw [hg]; exact Nat.ne_of_lt (blk_lt (g := gb256) (o := .cells #[.int .u32 t253, .int .i64 t254] 24 (0, 0)) (by (with_reducible repeat (first | refine blk_drewN ?_ _ | refine blk_drew ?_ | refine blk_alloc ?_ _)); exact BK256.out)) : gb256 ≠ gb270)); have n9_ := Aside0.mk ((by rw [hg]; exact Nat.ne_of_gt (blk_lt (g := gb256) (o := .cells #[.int .u32 t253, .int .i64 t254] 24 (0, 0)) (by (with_reducible repeat (first | refine blk_drewN ?_ _ | refine blk_drew ?_ | refine blk_alloc ?_ _)); exact BK256.out)) : gb270 ≠ gb256)); clear BK250; clear BK256; clear HB; have BK250 := n0_; have BK256 := n1_; have HB := n2_; have BK270 := n3_; have GW270 := n4_; have GE270 := n5_; have NB250_270 := n6_; have NB270_250 := n7_; have NB256_270 := n8_; have NB270_256 := n9_; clear n0_ n1_ n2_ n3_ n4_ n5_ n6_ n7_ n8_ n9_; clear hb hbox hg; have hnb96 := NB270_250.out; have hnc96 := NB250_270.out; have hnb97 := NB270_256.out; have hnc97 := NB256_270.out; have hcz98_0 : w95.cell? ⟨gb270, 0, none⟩ = some (.int .u32 0) := (blk_cell BK270.out 0).trans rfl; have hcz98_1 : w95.cell? ⟨gb270, 1, none⟩ = some (.int .i64 0) := (blk_cell BK270.out 1).trans rfl; have hfz98_0 := blk_frozen BK270.out 0; have hfz98_1 := blk_frozen BK270.out 1))
                      go_ret
                      exact ⟨by first | rfl | (simp [errW_none, errW_some] <;> rfl) | (simp only [← hji6, ← hji7]; first | rfl | (simp [errW_none, errW_some] <;> rfl)) | (simp [*, errW_none, errW_some] <;> rfl), by repeat (first | (with_reducible first | exact HB.out | apply below_alloc | apply pw_below_drewN | apply below_drew1 | refine below_set ?_ GE250.out | refine below_set ?_ GE256.out | refine below_set ?_ GE270.out) | exact HB.out)⟩
                  · rw [if_neg c85] at H
                    have c85b0 : (t269 == false) = false := by simpa using c85
                    (try (have c85b1 : decide (t269 = false) = false := by simpa using c85))
                    (try (have c85b2 : (t269 == false) = false := by simpa using c85))
                    (try (have c85b3 : ¬ (t269 = false) := by simpa using c85))
                    clear c85
                    obtain rfl := Option.some.inj H
                    go_wp2_with (first | ((with_reducible refine gate_callee (f := 18) rfl ?_); refine goesL_ (some 96) rfl rfl Try.func18 (by kernel_rfl) rfl #[.string t262] rfl (by (try simp only [List.map_toArray, List.map_cons, List.map_nil]); first | done | rfl | (simp only [List.length_drop, List.length_take]; rfl)) ?_; (with_reducible refine (keys_Ref.calls kj44 t262 t267 t268 t269 _ A62.out).mono ?_); rintro e w99 ⟨rfl, hb⟩; refine ⟨_, rfl, ?_⟩; have n0_ := Aside0.mk (blk_below (g := gb250) (o := .cells #[.int .u32 a0_0, .int .i64 (Go.bits .and .i64 a0_1 255)] 24 (0, 0)) (by (with_reducible repeat (first | refine blk_drewN ?_ _ | refine blk_drew ?_ | refine blk_alloc ?_ _)); exact BK250.out) hb); have n1_ := Aside0.mk (blk_below (g := gb256) (o := .cells #[.int .u32 t253, .int .i64 t254] 24 (0, 0)) (by (with_reducible repeat (first | refine blk_drewN ?_ _ | refine blk_drew ?_ | refine blk_alloc ?_ _)); exact BK256.out) hb); have n2_ := Aside0.mk (below_step (by repeat (first | (with_reducible first | exact HB.out | apply below_alloc | apply pw_below_drewN | apply below_drew1 | refine below_set ?_ GE250.out | refine below_set ?_ GE256.out) | exact HB.out)) hb); clear BK250; clear BK256; clear HB; have BK250 := n0_; have BK256 := n1_; have HB := n2_; clear n0_ n1_ n2_; (try clear hb); (try clear hb2); (try clear hk); (try clear hi)) | ((with_reducible refine gate_dst (N := 13) rfl ?_); refine box_event ?hg (N := 13) ?hd (cs := #[.int .u32 0, .int .i64 0]) (t := 24) ?hr ?_; (case hd => rfl); (case hg => rfl); (case hr => first | (go_simp; done) | (go_simp; rfl)); intro gb270 hg w100 hbox hb; have n0_ := Aside0.mk (blk_below (g := gb250) (o := .cells #[.int .u32 a0_0, .int .i64 (Go.bits .and .i64 a0_1 255)] 24 (0, 0)) (by (with_reducible repeat (first | refine blk_drewN ?_ _ | refine blk_drew ?_ | refine blk_alloc ?_ _)); exact BK250.out) hb); have n1_ := Aside0.mk (blk_below (g := gb256) (o := .cells #[.int .u32 t253, .int .i64 t254] 24 (0, 0)) (by (with_reducible repeat (first | refine blk_drewN ?_ _ | refine blk_drew ?_ | refine blk_alloc ?_ _)); exact BK256.out) hb); have n2_ := Aside0.mk (below_step (by repeat (first | (with_reducible first | exact HB.out | apply below_alloc | apply pw_below_drewN | apply below_drew1 | refine below_set ?_ GE250.out | refine below_set ?_ GE256.out) | exact HB.out)) hb); have n3_ := Aside0.mk (hbox); have n4_ := Aside0.mk ((by rw [hg]; exact (below_size (by repeat (first | (with_reducible first | exact HB.out | apply below_alloc | apply pw_below_drewN | apply below_drew1 | refine below_set ?_ GE250.out | refine below_set ?_ GE256.out) | exact HB.out))) : w.heap.size ≤ gb270)); have n5_ := Aside0.mk ((by rw [hg]; exact (below_size (by repeat (first | (with_reducible first | exact HB.out | apply below_alloc | apply pw_below_drewN | apply below_drew1 | refine below_set ?_ GE250.out | refine below_set ?_ GE256.out) | exact HB.out))) : w.heap.size ≤ gb270)); have n6_ := Aside0.mk ((by rw [hg]; exact Nat.ne_of_lt (blk_lt (g := gb250) (o := .cells #[.int .u32 a0_0, .int .i64 (Go.bits .and .i64 a0_1 255)] 24 (0, 0)) (by (with_reducible repeat (first | refine blk_drewN ?_ _ | refine blk_drew ?_ | refine blk_alloc ?_ _)); exact BK250.out)) : gb250 ≠ gb270)); have n7_ := Aside0.mk ((by rw [hg]; exact Nat.ne_of_gt (blk_lt (g := gb250) (o := .cells #[.int .u32 a0_0, .int .i64 (Go.bits .and .i64 a0_1 255)] 24 (0, 0)) (by (with_reducible repeat (first | refine blk_drewN ?_ _ | refine blk_drew ?_ | refine blk_alloc ?_ _)); exact BK250.out)) : gb270 ≠ gb250)); have n8_ := Aside0.mk ((by rw [hg]; exact Nat.ne_of_lt (blk_lt (g := gb256) (o := .cells #[.int .u32 t253, .int .i64 t254] 24 (0, 0)) (by (with_reducible repeat (first | refine blk_drewN ?_ _ | refine blk_drew ?_ | refine blk_alloc ?_ _)); exact BK256.out)) : gb256 ≠ gb270)); have n9_ := Aside0.mk ((by rw [hg]; exact Nat.ne_of_gt (blk_lt (g := gb256) (o := .cells #[.int .u32 t253, .int .i64 t254] 24 (0, 0)) (by (with_reducible repeat (first | refine blk_drewN ?_ _ | refine blk_drew ?_ | refine blk_alloc ?_ _)); exact BK256.out)) : gb270 ≠ gb256)); clear BK250; clear BK256; clear HB; have BK250 := n0_; have BK256 := n1_; have HB := n2_; have BK270 := n3_; have GW270 := n4_; have GE270 := n5_; have NB250_270 := n6_; have NB270_250 := n7_; have NB256_270 := n8_; have NB270_256 := n9_; clear n0_ n1_ n2_ n3_ n4_ n5_ n6_ n7_ n8_ n9_; clear hb hbox hg; have hnb101 := NB270_250.out; have hnc101 := NB250_270.out; have hnb102 := NB270_256.out; have hnc102 := NB256_270.out; have hcz103_0 : w100.cell? ⟨gb270, 0, none⟩ = some (.int .u32 0) := (blk_cell BK270.out 0).trans rfl; have hcz103_1 : w100.cell? ⟨gb270, 1, none⟩ = some (.int .i64 0) := (blk_cell BK270.out 1).trans rfl; have hfz103_0 := blk_frozen BK270.out 0; have hfz103_1 := blk_frozen BK270.out 1))
                    go_ret
                    exact ⟨by first | rfl | (simp [errW_none, errW_some] <;> rfl) | (simp only [← hji6, ← hji7]; first | rfl | (simp [errW_none, errW_some] <;> rfl)) | (simp [*, errW_none, errW_some] <;> rfl), by repeat (first | (with_reducible first | exact HB.out | apply below_alloc | apply pw_below_drewN | apply below_drew1 | refine below_set ?_ GE250.out | refine below_set ?_ GE256.out | refine below_set ?_ GE270.out) | exact HB.out)⟩
  · replace c5 := Bool.eq_false_iff.mpr c5
    subst c5
    have H1 : (some false) = some r := by rw [if_neg (show ¬ (false = true) by decide)] at H; exact H
    clear H
    have H := H1
    clear H1
    obtain rfl := Option.some.inj H
    go_enter Try.func6, Try.ntmps6
    go_wp2_with (first | ((with_reducible refine gate_dst (N := 3) rfl ?_); refine box_event ?hg (N := 3) ?hd (cs := #[.int .u32 a0_0, .int .i64 a0_1]) (t := 24) ?hr ?_; (case hd => rfl); (case hg => rfl); (case hr => first | (go_simp; done) | (go_simp; rfl)); intro gb250 hg w104 hbox hb; have n0_ := Aside0.mk (below_step (by repeat (first | (with_reducible first | exact HB.out | apply below_alloc | apply pw_below_drewN | apply below_drew1) | exact HB.out)) hb); have n1_ := Aside0.mk (hbox); have n2_ := Aside0.mk ((by rw [hg]; exact (below_size (by repeat (first | (with_reducible first | exact HB.out | apply below_alloc | apply pw_below_drewN | apply below_drew1) | exact HB.out))) : w.heap.size ≤ gb250)); have n3_ := Aside0.mk ((by rw [hg]; exact (below_size (by repeat (first | (with_reducible first | exact HB.out | apply below_alloc | apply pw_below_drewN | apply below_drew1) | exact HB.out))) : w.heap.size ≤ gb250)); clear HB; have HB := n0_; have BK250 := n1_; have GW250 := n2_; have GE250 := n3_; clear n0_ n1_ n2_ n3_; clear hb hbox hg) | ((with_reducible refine gate_callee (f := 7) rfl ?_); refine goesL_ (some 15) rfl rfl Try.func7 (by kernel_rfl) rfl #[] rfl (by (try simp only [List.map_toArray, List.map_cons, List.map_nil]); first | done | rfl | (simp only [List.length_drop, List.length_take]; rfl)) ?_; (with_reducible refine (dowserlaw21_awake.calls k  false _ A4.out).mono ?_); rintro e w105 ⟨rfl, hb⟩; refine ⟨_, rfl, ?_⟩; have n0_ := Aside0.mk (blk_below (g := gb250) (o := .cells #[.int .u32 a0_0, .int .i64 a0_1] 24 (0, 0)) (by (with_reducible repeat (first | refine blk_drewN ?_ _ | refine blk_drew ?_ | refine blk_alloc ?_ _)); exact BK250.out) hb); have n1_ := Aside0.mk (below_step (by repeat (first | (with_reducible first | exact HB.out | apply below_alloc | apply pw_below_drewN | apply below_drew1 | refine below_set ?_ GE250.out) | exact HB.out)) hb); clear BK250; clear HB; have BK250 := n0_; have HB := n1_; clear n0_ n1_; (try clear hb); (try clear hb2); (try clear hk); (try clear hi)))
    go_ret
    exact ⟨by first | rfl | (simp [errW_none, errW_some] <;> rfl) | (simp [*, errW_none, errW_some] <;> rfl), by repeat (first | (with_reducible first | exact HB.out | apply below_alloc | apply pw_below_drewN | apply below_drew1 | refine below_set ?_ GE250.out) | exact HB.out)⟩

end Go.Proofs.Ytogngmbjkdffaaa.PKeysAll
