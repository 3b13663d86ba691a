/- RootWhole, walked. -/
import Derived.Test.YtcbefilcdelplaaRtFL
import Derived.Deep.RegionHeld3
import Derived.Deep.DeepCutAuto
import Derived.Deep.DrawnRows
import Derived.Outline
namespace Go.Proofs.Ytcbefilcdelplaa
open Go.RowKit
open Proot (Rt)
open Go.Proofs.YtcbefilcdelplaaW
open Go.Proofs.YtcbefilcdelplaaW.PrintWords (Kd Reps)
set_option linter.unusedVariables false
set_option linter.unusedSimpArgs false
attribute [local go_sem ↓] max_mx min_mn Go.wp_at_zero Go.wp_at_succ

def eqR (x y : Rt) : Bool := x.epoch == y.epoch && (x.half == y.half && (x.page == y.page && (x.next == y.next && (x.count == y.count && (x.height == y.height)))))
theorem eqR_self (x : Rt) : eqR x x = true := by simp [eqR]
/-- Is one of the first so many this root, but for its number? -/
def mB (may : List Rt) (r : Rt) (j : Nat) : Bool := (may.take j).any fun x => eqR { x with epoch := r.epoch } r
theorem mB_step (may : List Rt) (r : Rt) (j : Nat) (hj : j < may.length) : mB may r (j + 1) = (mB may r j || eqR { may.getD j Rt.zero with epoch := r.epoch } r) := by
  unfold mB
  rw [List.take_succ_eq_append_getElem hj, List.any_append]
  simp [List.getD_eq_getElem?_getD, List.getElem?_eq_getElem hj]
theorem mB_all {may : List Rt} {r : Rt} (h : ∃ x ∈ may, ({ x with epoch := r.epoch } : Rt) = r) : mB may r may.length = true := by
  obtain ⟨x, hx, he⟩ := h
  unfold mB
  rw [List.take_length, List.any_eq_true]
  exact ⟨x, hx, by rw [he]; exact eqR_self r⟩

theorem and1 (x : Int) : bits .and .i64 x 1 = x % 2 := by
  simp only [bits]
  have h : (BitVec.ofInt IntKind.i64.bits x &&& BitVec.ofInt IntKind.i64.bits 1).toNat = (x % 2).toNat := by
    rw [BitVec.toNat_and]
    have e : (BitVec.ofInt IntKind.i64.bits 1).toNat = 2 ^ 1 - 1 := by decide
    rw [e, Nat.and_two_pow_sub_one_eq_mod, BitVec.toNat_ofInt]
    show (x % (2 ^ 64 : Nat)).toNat % 2 ^ 1 = _
    omega
  rw [h, IntKind.wrap_i64]
  omega
theorem few_valid (r : Rt) : (fewR r).validB = true := by
  have a := few1_range r.page
  have b := few1_range r.next
  have c := few1_range r.count
  have d := few1_range r.height
  have e := and1 r.half
  have e1 : (fewR r).half = r.half % 2 := e
  have e2 : (fewR r).page = few1 r.page - 1 := rfl
  have e3 : (fewR r).next = few1 r.next := rfl
  have e4 : (fewR r).count = few1 r.count := rfl
  have e5 : (fewR r).height = few1 r.height := rfl
  simp only [Rt.validB, Proot.cntB, Bool.and_eq_true, Bool.or_eq_true, decide_eq_true_eq]
  rw [e1, e2, e3, e4, e5]
  omega

/-- Behind Open: the root found, the slots. -/
structure QAt (wr : World) (L : Loc) (now most : Int) (Sb gr : Nat) (r : Rt) (wd : World) : Prop where
  root : RootIn wd gr r
  slots : SlotsAt wd Sb L now most
  bel : Below wr.heap.size wr wd
theorem QAt.below {wr : World} {L : Loc} {now most : Int} {Sb gr : Nat} {r : Rt} {wd we : World} (h : QAt wr L now most Sb gr r wd) (k : Below wd.heap.size wd we) : QAt wr L now most Sb gr r we :=
  ⟨h.root.below k, h.slots.below k, bel_then h.bel k⟩

/-- From the mark's write on. -/
structure ZAt (w : World) (L : Loc) (Sb : Nat) (now most : Int) (gx : Nat) (x : Rt) (may : List Rt) (s : Sy) (D : Dk) (wr : World) : Prop where
  d : DiskAt wr L D
  sl : SlotsAt wr Sb L now most
  x : RootIn wr gx x
  b : Below w.heap.size w wr
  r : Kd.R k50 50 wr w.heap.size (fun _ => True) s.v may
theorem noRoots_slots {w : World} {Sb : Nat} {L : Loc} {now most : Int} {D : Dk} (h : SlotsAt w Sb L now most) (d : DiskAt w L D) : NoRoots w (fun k => L.foot k ∨ k = Sb) := by
  rintro i (hi | rfl) cs hx
  · exact d.noRoots i hi cs hx
  · unfold SlotsAt at h
    rw [h] at hx
    simp only [Option.some.injEq, Obj.cells.injEq] at hx
    exact absurd hx.2.1 (by decide)
theorem ZAt.disk {w wr w' : World} {L : Loc} {Sb : Nat} {now most : Int} {gx : Nat} {x : Rt} {may : List Rt} {s : Sy} {D D' : Dk} (h : ZAt w L Sb now most gx x may s D wr) (d : DiskAt w' L D') (k : Keep L.foot wr w') (hf : ∀ i, L.foot i → w.heap.size ≤ i) (h1 : ¬ L.foot Sb) (h2 : ¬ L.foot gx) : ZAt w L Sb now most gx x may s D' w' :=
  ⟨d, h.sl.keep k h1, h.x.keep k h2, bel_keep h.b k hf, rows50 h.r k h.d.noRoots⟩
/-- Behind a Publish. -/
theorem ZAt.pub {w wr w' : World} {L : Loc} {Sb : Nat} {now most : Int} {gx : Nat} {x : Rt} {may : List Rt} {s : Sy} {D D' : Dk} (h : ZAt w L Sb now most gx x may s D wr) (d : DiskAt w' L D') (k : Keep (fun k => L.foot k ∨ k = Sb) wr w') (hf : ∀ i, L.foot i → w.heap.size ≤ i) (hs : w.heap.size ≤ Sb) :
    DiskAt w' L D' ∧ Below w.heap.size w w' ∧ Kd.R k50 50 w' w.heap.size (fun _ => True) s.v may :=
  ⟨d, bel_keep h.b k (fun i hi => hi.elim (hf i) (fun he => by subst he; exact hs)), rows50 h.r k (noRoots_slots h.sl h.d)⟩
/-- Behind an append. -/
theorem disk_grown {w w' : World} {L : Loc} {D : Dk} {v : Value} {B : Nat} {l : List Rt} (d : DiskAt w L D) (r : Kd.R k50 50 w B (fun _ => True) v l) (hg : w.grownBy w' v.ownBlock) : DiskAt w' L D :=
  d.keep (F := fun k => v.ownBlock = some k) ((Keep.refl (fun k => v.ownBlock = some k) w).grown hg (fun k hk => .inl hk)) (fun i hi he => by
    obtain ⟨cells, hc⟩ := Kd.R_typed r i he
    exact d.noRoots i hi cells hc)

/-- What a Publish gives, with what any crash behind it leaves. -/
theorem pub_out {w w' : World} {S : Nat} {L : Loc} {D D1 : Dk} {none : Bool} {may : List Rt} {k : Nat} {now most : Int} {x : Rt} {e : Ending} (hRW : RW D none may k) (hk : k < 200) (mark : ByteArray) (hm : mark.size = 256) (hlt : Int) (hD1 : D1 = (D.write 2 mark).1.doHalt hlt)
    (hv : x.validB = true) (hnow : (D.found 2).now = now) (hmost : (D.found 2).most = most) (hn : -1 ≤ now ∧ now ≤ 1) (hmo : 0 ≤ most ∧ most ≤ k) (h : PubPost w S L D1 now most { x with epoch := IntKind.u64.wrap (most + 1) } e w') :
    (∃ (er : Int) (D4 : Dk), er ≠ 0 ∧ e = .returned (.tuple #[.agg #[.int .u64 0, .int .i64 0, .int .i64 0, .int .i64 0, .int .i64 0, .int .i64 0], .int .i64 er]) ∧ DiskAt w' L D4 ∧ Keep L.foot w w' ∧ ∀ ch, RW (D4.crash ch) none (may ++ [x]) (k + 1)) ∨
    (∃ (r' : Rt) (D4 : Dk), e = .returned (.tuple #[.agg #[.int .u64 r'.epoch, .int .i64 r'.half, .int .i64 r'.page, .int .i64 r'.next, .int .i64 r'.count, .int .i64 r'.height], .int .i64 0]) ∧ DiskAt w' L D4 ∧ Keep (fun k => L.foot k ∨ k = S) w w' ∧ ∀ ch, RW (D4.crash ch) false [r'] (k + 1) ∧ (D4.crash ch).read 2 = (mark, 0)) := by
  have hw : IntKind.u64.wrap (most + 1) = most + 1 := by rw [IntKind.wrap_u64]; omega
  rw [hw] at h
  obtain ⟨nx, hnx⟩ := Int.eq_ofNat_of_zero_le (show 0 ≤ (now + 1) % 2 by omega)
  unfold PubPost at h
  rw [hnx] at h
  have key := fun (hok : (D1.pub (nx : Int) ({ x with epoch := most + 1 } : Rt).text).1.Ok) ch => rw_round hRW hk mark hm hlt x hv ch nx (by rw [hnow]; exact hnx) { x with epoch := most + 1 } (by rw [hmost]) D1 hD1 hok
  rcases h with ⟨h1, h2, h3, _, h5⟩ | ⟨h1, h2, h3, _, h5⟩
  · left
    refine ⟨_, _, h1, h2, h3, h5, fun ch => ?_⟩
    rcases key h3.ok ch with ⟨k1, _⟩ | ⟨_, k2⟩
    · exact absurd k1 h1
    · exact k2
  · right
    refine ⟨_, _, h2, h3, h5, fun ch => ?_⟩
    rcases key h3.ok ch with ⟨_, k2, k3⟩ | ⟨k1, _⟩
    · exact ⟨k2, k3⟩
    · exact absurd h1 k1

set_option maxHeartbeats 8000000 in
set_option maxRecDepth 1000000 in
theorem whole_walk (va : Value) (l : List TryA) (other : ByteArray) (w : World) (hl : TrysAt w va l) (ho : other.size ≤ maxLen) :
    Calls Try.prog 12 #[va, .string other] w fun e w' => e = .returned (.bool true) ∧ Below w.heap.size w w' := by
  have CN := Lib.hid (fun W => disk_New 3 W)
  have HRW := Lib.hid rw_start
  generalize Dk.make 3 = D0 at *
  obtain ⟨a, c, rfl, hal, hac⟩ := hl
  obtain ⟨n, hn⟩ : ∃ n, n = l.length := ⟨_, rfl⟩
  rw [← hn]
  have HA := Lib.hid hac
  have HN := Lib.hid hn
  have HB0 := Lib.hid (Below.refl w.heap.size w)
  have hn64 : (n : Int) ≤ 9223372036854775807 := by rw [hn]; omega
  have hO : (other.size : Int) ≤ 9223372036854775807 := by unfold maxLen at ho; omega
  have CF0 := fun W => ref05_Fill (⟨#[]⟩ : ByteArray) W (by decide)
  obtain ⟨f0, hf0⟩ : ∃ f, fillTo (⟨#[]⟩ : ByteArray) 256 = f := ⟨_, rfl⟩
  rw [hf0] at CF0
  have CF0' := Lib.hid CF0
  have hE := eqA50
  clear hac hn hal ho CF0 hf0
  go_enter Try.func12, Try.ntmps12
  go_wp2_with (first
    | (go_at_call 28; refine (law6_awake _).mono ?_; rintro e w1 ⟨rfl, hb1⟩; have HB1 := Lib.hid (bel_then HB0.out hb1); clear hb1)
    | (go_at_call 14; refine (CN.out _).mono ?_; rintro e w2 ⟨L, rfl, d2, hf2, hb2⟩; have HF := Lib.hid (fun i (h : L.foot i) => Nat.le_trans HB1.out.size (hf2 i h)); have HD2 := Lib.hid d2; have HB2 := Lib.hid (bel_then HB1.out hb2); clear d2 hf2 hb2)
    | (go_at_call 34; refine (CF0'.out _).mono ?_; rintro e w3 ⟨rfl, hb3⟩; have HB3 := Lib.hid hb3; clear hb3))
  have HR : Hid (WAt w L D0 true [] ⟨none, 0, 0⟩ 0 w3) := ⟨HD2.out.below HB3.out, Kd.R_nil _ _ _ _ _, bel_then HB2.out HB3.out, HRW.out, HF.out⟩
  clear CN HB0 HB1 HB2 HB3 HD2 HRW CF0'
  go_loopw [6, 7, 8, 9] (fun m nn sv x wr => ∃ (k : Nat) (D : Dk) (none : Bool) (may : List Rt) (s : Sy) (sure : ByteArray), m = .slice s.a s.n s.c ∧ nn = .bool none ∧ sv = .string sure ∧ x = .int .i64 k ∧ k ≤ n ∧ k ≤ 14 ∧ may.length ≤ k ∧ Hid (WAt w L D none may s k wr)) (fun m nn sv x _ => n - (intOf x).toNat)
  case atStart => exact ⟨0, D0, true, [], ⟨none, 0, 0⟩, f0, rfl, rfl, rfl, rfl, by omega, by omega, by simp, HR⟩
  case round =>
    obtain ⟨k, D, none, may, s, sure, rfl, rfl, rfl, rfl, hk, hk14, hml, HK⟩ := hrel
    clear HR
    obtain ⟨wo, rfl⟩ : ∃ wo : World, wo = wr := ⟨_, rfl⟩
    have HML := Lib.hid hml
    clear hml
    have hkI : (k : Int) ≤ (n : Int) := by omega
    have hkI14 : (k : Int) ≤ 14 := by omega
    have CO := root_Open_up wo L D HK.out.d HK.out.rw.live.1
    obtain ⟨sn, sc, sC⟩ := Sy.ofR HK.out.r
    have HSC := Lib.hid sC
    have hmost := most_bounds HK.out.rw.s0 HK.out.rw.s1
    rw [← found2] at hmost
    have hnow := found_cases (D.sec 0) (D.sec 1)
    rw [← found2] at hnow
    obtain ⟨r, hr⟩ : ∃ r, (D.found 2).out = r := ⟨_, rfl⟩
    obtain ⟨now, hnw⟩ : ∃ now, (D.found 2).now = now := ⟨_, rfl⟩
    obtain ⟨most, hms⟩ : ∃ most, (D.found 2).most = most := ⟨_, rfl⟩
    have hok := HK.out.rw.ok
    rw [hr, hnw] at hok CO hnow
    rw [hms] at CO hmost
    have HR0 := Lib.hid hr
    have HW0 := Lib.hid hnw
    have HM0 := Lib.hid hms
    have HOK := Lib.hid hok
    have HNW : Hid (-1 ≤ now ∧ now ≤ 1) := Lib.hid (by omega)
    have HMS : Hid (0 ≤ most ∧ most ≤ k) := Lib.hid ⟨hmost.1, hmost.2.1⟩
    have HSN := Lib.hid sn
    clear hr hnw hms hok hnow hmost sC sn
    unfold rcells at CO
    have CO' := Lib.hid CO
    clear CO
    go_wp2_with fail
    refine CO'.out.mono ?_
    rintro e w4 ⟨rfl, hs4, hb4⟩
    have HS4 := Lib.hid hs4
    have HB4 := Lib.hid hb4
    clear hs4 hb4 CO'
    go_upto_region 13 with fail
    have HM4 := Lib.hid (HB4.out)
    have hr4 : RootIn (w4.alloc (.cells #[.int .u64 r.epoch, .int .i64 r.half, .int .i64 r.page, .int .i64 r.next, .int .i64 r.count, .int .i64 r.height] 50 (0, 0))) w4.heap.size r := heap_alloc_self w4 _
    have HRI := Lib.hid hr4
    have HS5 := Lib.hid (HS4.out.alloc (.cells #[.int .u64 r.epoch, .int .i64 r.half, .int .i64 r.page, .int .i64 r.next, .int .i64 r.count, .int .i64 r.height] 50 (0, 0)))
    have HB5 := Lib.hid (bel_alloc HB4.out (.cells #[.int .u64 r.epoch, .int .i64 r.half, .int .i64 r.page, .int .i64 r.next, .int .i64 r.count, .int .i64 r.height] 50 (0, 0)))
    obtain ⟨is, his⟩ : ∃ is, decide (0 ≤ now) = is := ⟨_, rfl⟩
    have HOK2 : Hid ((is = false ∧ r = Rt.zero ∧ none = true) ∨ (is = true ∧ mB may r may.length = true)) := Lib.hid (by
      rcases HOK.out with ⟨h1, h2, h3⟩ | ⟨h1, h2⟩
      · exact .inl ⟨by rw [← his, h1]; rfl, h2, h3⟩
      · exact .inr ⟨by rw [← his]; simpa using h1, mB_all h2⟩)
    rw [his]
    generalize w4.alloc (.cells #[.int .u64 r.epoch, .int .i64 r.half, .int .i64 r.page, .int .i64 r.next, .int .i64 r.count, .int .i64 r.height] 50 (0, 0)) = w5 at *
    generalize w4.heap.size = gr at *
    generalize hSb : wo.heap.size + 1 = Sb at *
    have HQ5 : Hid (QAt wo L now most Sb gr r w5) := Lib.hid ⟨HRI.out, HS5.out, HB5.out⟩
    clear HB4 HM4 HS4 hr4 his HS5 HB5
    go_cut [64] (fun v wc => v = .bool false ∧ Hid (QAt wo L now most Sb gr r wc))
    case first =>
      obtain ⟨x0, x1, x2, x3, x4, x5⟩ := HRI.out.cells
      rcases HOK2.out with ⟨rfl, rfl, rfl⟩ | ⟨rfl, _⟩
      · go_wp2_with fail
        go_meet
        case rel => exact ⟨rfl, HQ5⟩
      · go_wp2_with fail
        go_meet
        case rel => exact ⟨rfl, HQ5⟩
    case rest =>
      clear HQ5 HRI
      obtain ⟨rfl, HQ5⟩ := hcut
      go_upto_region 15 with fail
      go_cut [14] (fun v wc => v = .bool (!is && none) ∧ Hid (QAt wo L now most Sb gr r wc))
      case first =>
        cases is with
        | false =>
          go_wp2_with fail
          go_meet
          case rel => exact ⟨by simp, HQ5⟩
        | true =>
          go_wp2_with fail
          go_meet
          case rel => exact ⟨by simp, HQ5⟩
      case rest =>
        clear HQ5
        obtain ⟨rfl, HQ5⟩ := hcut
        go_wp2_with fail
        have hmx : (may.length : Int) ≤ 9223372036854775807 := by have := Kd.C_max HSC.out; have := HSN.out; omega
        rw [HSN.out]
        go_loopw [14, 72] (fun fv x wr => ∃ j : Nat, fv = .bool ((!is && none) || (is && mB may r j)) ∧ x = .int .i64 j ∧ j ≤ may.length ∧ Hid (QAt wo L now most Sb gr r wr)) (fun fv x _ => may.length - (intOf x).toNat)
        case atStart => exact ⟨0, by simp [mB], rfl, by omega, HQ5⟩
        case round =>
          clear HQ5
          obtain ⟨j, rfl, rfl, hj, HQ⟩ := hrel
          by_cases hjl : j < may.length
          · obtain ⟨br, or_, hA, z0, z1, z2, z3, z4, z5⟩ := at_k50 (Kd.C_below HSC.out HQ.out.bel) j (by rw [HSN.out]; exact hjl)
            have hst := mB_step may r j hjl
            obtain ⟨x, hx⟩ : ∃ x, may.getD j Rt.zero = x := ⟨_, rfl⟩
            rw [hx] at hst z0 z1 z2 z3 z4 z5
            rw [hA]
            obtain ⟨b1, hb1⟩ : ∃ b1, mB may r j = b1 := ⟨_, rfl⟩
            obtain ⟨b2, hb2⟩ : ∃ b2, eqR { x with epoch := r.epoch } r = b2 := ⟨_, rfl⟩
            rw [hb1, hb2] at hst
            rw [hb1]
            have HST := Lib.hid hst
            have HB2 := Lib.hid hb2
            have hjI : (j : Int) < (may.length : Int) := by omega
            obtain ⟨y0, y1, y2, y3, y4, y5⟩ := HQ.out.root.cells
            have HJL := Lib.hid hjl
            clear hst hb1 hb2 hx hA hjl hj
            go_upto_region 19 with fail
            have HX6 := Lib.hid (show RootIn (wr.alloc (.cells #[.int .u64 x.epoch, .int .i64 x.half, .int .i64 x.page, .int .i64 x.next, .int .i64 x.count, .int .i64 x.height] 50 (0, 0))) wr.heap.size x from heap_alloc_self wr _)
            have HQ6 := Lib.hid (HQ.out.below (bel_alloc (Below.refl wr.heap.size wr) (.cells #[.int .u64 x.epoch, .int .i64 x.half, .int .i64 x.page, .int .i64 x.next, .int .i64 x.count, .int .i64 x.height] 50 (0, 0))))
            have HG6 : Hid (gr ≠ wr.heap.size ∧ Sb ≠ wr.heap.size ∧ wo.heap.size ≤ wr.heap.size) := Lib.hid ⟨Nat.ne_of_lt HQ.out.root.lt, Nat.ne_of_lt HQ.out.slots.lt, HQ.out.bel.size⟩
            clear y0 y1 y2 y3 y4 y5 z0 z1 z2 z3 z4 z5 HQ
            generalize wr.alloc (.cells #[.int .u64 x.epoch, .int .i64 x.half, .int .i64 x.page, .int .i64 x.next, .int .i64 x.count, .int .i64 x.height] 50 (0, 0)) = w6 at *
            generalize wr.heap.size = g at *
            have y0 := HQ6.out.root.cells.1
            have xf := HX6.out.frz 0
            have z0 := HX6.out.cells.1
            go_upto_region 20 with fail
            have HX7 := Lib.hid (show RootIn (w6.setCell ⟨g, 0, Option.none⟩ (.int .u64 r.epoch)) g { x with epoch := r.epoch } from heap_setCell_same HX6.out 0 _)
            have HQ7 := Lib.hid (show QAt wo L now most Sb gr r (w6.setCell ⟨g, 0, Option.none⟩ (.int .u64 r.epoch)) from ⟨HQ6.out.root.setCell HG6.out.1 _, HQ6.out.slots.setCell HG6.out.2.1 _, HQ6.out.bel.setCell HG6.out.2.2 _⟩)
            clear HX6 HQ6 y0 xf z0
            generalize w6.setCell ⟨g, 0, Option.none⟩ (.int .u64 r.epoch) = w7 at *
            obtain ⟨y0, y1, y2, y3, y4, y5⟩ := HQ7.out.root.cells
            obtain ⟨z0, z1, z2, z3, z4, z5⟩ := HX7.out.cells
            have HE2 : Hid ((r.epoch == r.epoch && (x.half == r.half && (x.page == r.page && (x.next == r.next && (x.count == r.count && (x.height == r.height)))))) = b2) := HB2
            have hb2' := HE2.out
            cases is with
            | false =>
              have HN2 : Hid (none = true) := Lib.hid (by
                rcases HOK2.out with ⟨_, _, h⟩ | ⟨h, _⟩
                · exact h
                · cases h)
              have hn2 := HN2.out
              subst hn2
              clear hb2' HE2
              go_wp2
              go_roundw
              case rel => exact ⟨j + 1, by simp, by go_num, by have := HJL.out; omega, HQ7⟩
              case measure => have := HJL.out; simp [intOf]; omega
            | true =>
              cases b1 with
              | true =>
                clear hb2' HE2
                go_wp2
                go_roundw
                case rel => exact ⟨j + 1, by rw [HST.out]; simp, by go_num, by have := HJL.out; omega, HQ7⟩
                case measure => have := HJL.out; simp [intOf]; omega
              | false =>
                go_wp2
                go_roundw
                case rel => exact ⟨j + 1, by rw [HST.out, ← HE2.out]; simp, by go_num, by have := HJL.out; omega, HQ7⟩
                case measure => have := HJL.out; simp [intOf]; omega
          · have hjI : ¬ (j : Int) < (may.length : Int) := by omega
            obtain rfl : j = may.length := by omega
            have hfin : ((!is && none) || (is && mB may r may.length)) = true := by
              rcases HOK2.out with ⟨rfl, _, rfl⟩ | ⟨rfl, h⟩
              · rfl
              · rw [h]; rfl
            rw [hfin]
            clear hfin hjl hj
            by_cases hlast : k = n ∨ k = 14
            · have HBz := Lib.hid (bel_then HK.out.b HQ.out.bel)
              by_cases hkn : k = n
              · have hb1 : ((k : Int) == (n : Int)) = true := by simp [hkn]
                clear hlast hkn
                go_wp2
                go_ret
                exact ⟨rfl, HBz.out⟩
              · have hb1 : ((k : Int) == (n : Int)) = false := by simp; omega
                have hb2 : ((k : Int) == 14) = true := by simp; omega
                clear hlast hkn
                go_wp2
                go_ret
                exact ⟨rfl, HBz.out⟩
            · have hb1 : ((k : Int) == (n : Int)) = false := by simp; omega
              have hb2 : ((k : Int) == 14) = false := by simp; omega
              obtain ⟨bt, off, ha, hAc⟩ := HA.out k (by rw [← HN.out]; omega)
              generalize l[k]'_ = A at hAc
              have hAr := hAc.at (below_cells (bel_then HK.out.b HQ.out.bel))
              have q0 := hAr.c0
              have q1 := hAr.c1
              have q2 := hAr.c2
              have q3 := hAr.c3
              have q4 := hAr.c4
              have q5 := hAr.c5
              have HAc := Lib.hid hAc
              have hklt : (k : Int) < (n : Int) := by omega
              have HLA := Lib.hid (show k < n ∧ k < 14 by omega)
              have CFe := law6_few A.r
              obtain ⟨x, hx⟩ : ∃ x, fewR A.r = x := ⟨_, rfl⟩
              have hxv := few_valid A.r
              rw [hx] at CFe hxv
              have CFe' := Lib.hid CFe
              have HXV := Lib.hid hxv
              subst ha
              have HWD := Lib.hid (HK.out.d.below HQ.out.bel)
              clear CFe hx hxv hAc hAr hlast
              go_wp2_with fail
              refine (CFe'.out _).mono ?_
              rintro e w8 ⟨rfl, hb8⟩
              have HQ8 := Lib.hid (HQ.out.below hb8)
              have HD8 := Lib.hid (HWD.out.below hb8)
              have HGX := Lib.hid HQ8.out.bel.size
              clear hb8 CFe' HQ HWD q0 q1 q2 q3 q4 q5
              go_upto_region 27 with fail
              have HX9 := Lib.hid (show RootIn (w8.alloc (.cells #[.int .u64 x.epoch, .int .i64 x.half, .int .i64 x.page, .int .i64 x.next, .int .i64 x.count, .int .i64 x.height] 50 (0, 0))) w8.heap.size x from heap_alloc_self w8 _)
              have HQ9 := Lib.hid (HQ8.out.below (bel_alloc (Below.refl w8.heap.size w8) (.cells #[.int .u64 x.epoch, .int .i64 x.half, .int .i64 x.page, .int .i64 x.next, .int .i64 x.count, .int .i64 x.height] 50 (0, 0))))
              have HD9 := Lib.hid (HD8.out.alloc (.cells #[.int .u64 x.epoch, .int .i64 x.half, .int .i64 x.page, .int .i64 x.next, .int .i64 x.count, .int .i64 x.height] 50 (0, 0)))
              clear HQ8 HD8
              generalize w8.alloc (.cells #[.int .u64 x.epoch, .int .i64 x.half, .int .i64 x.page, .int .i64 x.next, .int .i64 x.count, .int .i64 x.height] 50 (0, 0)) = w9 at *
              generalize w8.heap.size = gx at *
              obtain ⟨q, hq⟩ : ∃ q : Nat, mn (other.size : Int) 9 = (q : Int) := ⟨(min (other.size : Int) 9).toNat, by rw [mn_eq]; omega⟩
              have hqs : q ≤ other.size := by rw [mn_eq] at hq; omega
              obtain ⟨tl, htl⟩ : ∃ tl, other.extract 0 q = tl := ⟨_, rfl⟩
              have hcut := run_cut_h other q hqs
              rw [htl] at hcut
              have htz : tl.size ≤ 9 := by rw [← htl, ByteArray.size_extract]; rw [mn_eq] at hq; omega
              obtain ⟨hd, hhd⟩ : ∃ hd, strOfNums [(k : Int) + 1] = hd := ⟨_, rfl⟩
              have hhz : hd.size = 1 := by rw [← hhd, strOfNums_size]; rfl
              have hcv : (convert 37 9 (.slice (some ⟨w9.heap.size, 0, Option.none⟩) 1 1)).run Try.prog (w9.alloc (.cells #[.int .u8 ((k : Int) + 1)] 5)).drew = .ok (.string hd) (w9.alloc (.cells #[.int .u8 ((k : Int) + 1)] 5)).drew := by
                have := lit1 w9.drew w9.heap.size rfl ((k : Int) + 1)
                rw [hhd] at this
                exact this
              have hcv0 := fun W m hm => lit1 W m hm ((k : Int) + 1)
              rw [hhd] at hcv0
              have hadd : ¬ (9223372036854775807 < hd.size + tl.size) := by omega
              have hms : (hd ++ tl).size ≤ 256 := by rw [ByteArray.size_append]; omega
              have CM := fun W => ref05_Fill (hd ++ tl) W (by omega)
              obtain ⟨mark, hmk⟩ : ∃ mark, fillTo (hd ++ tl) 256 = mark := ⟨_, rfl⟩
              have hmz : mark.size = 256 := by rw [← hmk]; exact fillTo_size _ _ hms
              rw [hmk] at CM
              have CM' := Lib.hid CM
              have HMZ := Lib.hid hmz
              have hw1 : IntKind.i64.wrap ((k : Int) + 1) = (k : Int) + 1 := IntWalk.i64_in _ (by omega)
              have hw2 : IntKind.u8.wrap ((k : Int) + 1) = (k : Int) + 1 := by rw [IntKind.wrap_u8]; omega
              clear CM hmk hmz hms hhd htl htz hqs hhz
              clear hb1 hb2
              go_cut [18] (fun v wc => v = .string mark ∧ Hid (Below w9.heap.size w9 wc))
              case first =>
                go_region_with (first | (go_at_call 34; (with_reducible refine (CM'.out _).mono ?_); rintro e w10 ⟨rfl, b10⟩; have HB10 : Hid (Below w9.heap.size w9 w10) := Lib.hid (bel_then (by (repeat (first | exact Below.refl _ _ | refine bel_drew ?_ | refine bel_drewN ?_ _ | refine bel_alloc ?_ _))) b10); clear b10))
                all_goals
                  go_wp2_with fail
                  go_meet
                  case rel => exact ⟨rfl, HB10⟩
              case rest =>
                obtain ⟨rfl, HBc⟩ := hcut
                have HQc := Lib.hid (HQ9.out.below HBc.out)
                have HDc := Lib.hid (HD9.out.below HBc.out)
                have HXc := Lib.hid (HX9.out.below HBc.out)
                have hGX : gx < wc.heap.size := HXc.out.lt
                clear HQ9 HD9 HX9 HBc hcv hcv0 hcut hq hadd hw1 hw2 CM'
                obtain ⟨v, hv⟩ : ∃ v, mx (-1) (mn A.after 9) = v := ⟨_, rfl⟩
                have hv9 : v ≤ 9223372036854775807 := by rw [← hv, mx_eq, mn_eq]; omega
                have CW := disk_Write wc L D 2 mark HDc.out
                obtain ⟨D2, hD2⟩ : ∃ D2, (D.write 2 mark).1 = D2 := ⟨_, rfl⟩
                obtain ⟨e2, he2⟩ : ∃ e2, (D.write 2 mark).2 = e2 := ⟨_, rfl⟩
                rw [hD2, he2] at CW
                have CH := Lib.hid (fun W (d : DiskAt W L D2) => disk_Halt W L D2 v d hv9)
                have CW' := Lib.hid CW
                have HSF : Hid (¬ L.foot Sb ∧ ¬ L.foot gx ∧ w.heap.size ≤ Sb) := Lib.hid ⟨fun hf => by have := HK.out.d.foot_lt hf; omega, fun hf => by have := HK.out.d.foot_lt hf; have := HGX.out; omega, by have := HK.out.b.size; omega⟩
                have HZ0 : Hid (ZAt w L Sb now most gx x may s D wc) := Lib.hid ⟨HDc.out, HQc.out.slots, HXc.out, bel_then HK.out.b HQc.out.bel, rows50 HK.out.r (Keep.below (F := fun _ => False) HQc.out.bel) (fun _ hi => hi.elim)⟩
                have HD1 := Lib.hid (show D2.doHalt v = (D.write 2 mark).1.doHalt v by rw [hD2])
                have HRW := Lib.hid HK.out.rw
                clear CW he2 hv9 hD2 HQc HDc HXc hGX HK HGX
                go_wp2_with fail
                refine CW'.out.mono ?_
                rintro e w11 ⟨rfl, d11, k11⟩
                have HZ1 := Lib.hid (HZ0.out.disk d11 k11 HF.out HSF.out.1 HSF.out.2.1)
                have a6 := (HAc.out.at (below_cells HZ1.out.b)).c6
                clear d11 k11 CW' HZ0
                go_wp2_with fail
                refine (CH.out _ HZ1.out.d).mono ?_
                rintro e w12 ⟨rfl, d12, k12⟩
                have HZ2 := Lib.hid (HZ1.out.disk d12 k12 HF.out HSF.out.1 HSF.out.2.1)
                have CP := Lib.hid (root_Publish_yes w12 Sb L (D2.doHalt v) now most x HZ2.out.d HZ2.out.sl HSF.out.1 HXV.out HNW.out.1 HNW.out.2)
                obtain ⟨y0, y1, y2, y3, y4, y5⟩ := HZ2.out.x.cells
                clear d12 k12 HZ1 a6 hv CH
                go_wp2_with fail
                refine CP.out.mono ?_
                intro e w13 hpost
                have hout := pub_out HRW.out (by omega) mark HMZ.out v HD1.out HXV.out HW0.out HM0.out HNW.out HMS.out hpost
                clear hpost CP y0 y1 y2 y3 y4 y5
                rcases hout with ⟨er, D4, her, rfl, d13, k13, hcr⟩ | ⟨r', D4, rfl, d13, k13, hcr⟩
                · -- it was broken off
                  have HZ3 := Lib.hid (HZ2.out.disk d13 k13 HF.out HSF.out.1 HSF.out.2.1)
                  have HCR := Lib.hid hcr
                  have herb : (er == 0) = false := by simpa using her
                  clear d13 k13 hcr her HZ2
                  go_upto_region 31 with fail
                  have HX3 := Lib.hid (HZ3.out.x.alloc (.cells #[.int .u64 0, .int .i64 0, .int .i64 0, .int .i64 0, .int .i64 0, .int .i64 0] 50 (0, 0)))
                  have HD3 := Lib.hid (HZ3.out.d.alloc (.cells #[.int .u64 0, .int .i64 0, .int .i64 0, .int .i64 0, .int .i64 0, .int .i64 0] 50 (0, 0)))
                  have HB3 := Lib.hid (bel_alloc HZ3.out.b (.cells #[.int .u64 0, .int .i64 0, .int .i64 0, .int .i64 0, .int .i64 0, .int .i64 0] 50 (0, 0)))
                  have HR3 := Lib.hid (Kd.R_alloc HZ3.out.r (.cells #[.int .u64 0, .int .i64 0, .int .i64 0, .int .i64 0, .int .i64 0, .int .i64 0] 50 (0, 0)))
                  clear HZ3
                  generalize w13.alloc (.cells #[.int .u64 0, .int .i64 0, .int .i64 0, .int .i64 0, .int .i64 0, .int .i64 0] 50 (0, 0)) = w14 at *
                  obtain ⟨y0, y1, y2, y3, y4, y5⟩ := HX3.out.cells
                  go_upto_region 37 with fail
                  have HRS := Lib.hid (show Kd.R k50 50 w14 w.heap.size (fun _ => True) (.slice s.a may.length s.c) may from by have := HR3.out; rw [Sy.v, HSN.out] at this; exact this)
                  clear HR3
                  go_upto_region 38 with ((with_reducible refine PrintWords.gate_builtin (b := .append) (xs := #[.tmp 156, .tmp 158]) rfl ?_); at_builtin; refine Kd.R_append k50 (w0 := w) w.heap.size rfl (.tmp 156) (.tmp 158) 94 50 (.agg #[.int .u64 0, .int .i64 0, .int .i64 0, .int .i64 0, .int .i64 0, .int .i64 0]) 48 rfl Try.underlying94 info50 rfl (by decide) (by omega) (.slice s.a may.length s.c) may x [.int .u64 x.epoch, .int .i64 x.half, .int .i64 x.page, .int .i64 x.next, .int .i64 x.count, .int .i64 x.height] (fun _ => True) (fun _ => False) rfl rfl ?aM (fun _ h => h.elim) (fun _ _ => trivial) HRS.out HB3.out ?aS ?aL ?_; (case aM => exact k50_mkM _ _ _ x); (case aS => exact HB3.out.size); (case aL => have := HML.out; have := HLA.out; omega); intro v15 w15 hR15 hb15 hg15 hnew15; obtain ⟨A15, k15, rfl⟩ := Kd.R_slice hR15; obtain ⟨l15, hl15⟩ : ∃ l15, (may ++ [x]).length = l15 := ⟨_, rfl⟩; rw [hl15] at hR15 ⊢; have HL15 := Lib.hid hl15; have HR15 := Lib.hid hR15; clear hl15; have HB15 := Lib.hid hb15; have HD15 := Lib.hid (disk_grown HD3.out HRS.out hg15); clear hR15 hb15 hg15 hnew15)
                  clear y0 y1 y2 y3 y4 y5 HX3 HD3 HB3
                  obtain ⟨va, vn, vc, hcv⟩ : ∃ a n c, A.cv = .slice a n c := by
                    rcases HAc.out.ints with ⟨_, a, c, h⟩ | ⟨b, off, c, h, _⟩
                    · exact ⟨_, _, _, h⟩
                    · exact ⟨_, _, _, h⟩
                  obtain ⟨fa, fn, fc, hfv⟩ : ∃ fa fn fc, fewV A.cv = .slice fa fn fc := by rw [hcv]; exact ⟨_, _, _, rfl⟩
                  have CFw := law5_Few w15 A.cv A.ch (HAc.out.ints.at (below_cells HB15.out)) HAc.out.cap
                  have CC := disk_Crash w15 L D4 (fewV A.cv) (A.ch.take 20) HD15.out (fewV_ints (HAc.out.ints.at (below_cells HB15.out))) (fun b' off' n0 c0 hv hfoot => by
                    obtain ⟨n1, c1, hv'⟩ := fewV_block hv
                    rw [HAc.out.ints.lt _ _ _ _ hv' (HF.out _ hfoot)]
                    rfl)
                  have a7 := (HAc.out.at (below_cells HB15.out)).c7
                  rw [hcv] at a7
                  rw [hfv] at CFw CC
                  rw [hcv] at CFw
                  have CFw' := Lib.hid CFw
                  have CC' := Lib.hid CC
                  have HCR2 := Lib.hid (HCR.out (A.ch.take 20))
                  clear CFw CC hcv hfv HCR
                  go_wp2_with fail
                  refine CFw'.out.mono ?_
                  rintro e w' ⟨rfl, rfl⟩
                  go_wp2_with fail
                  refine CC'.out.mono ?_
                  rintro e w20 ⟨rfl, d20, k20⟩
                  have HS : Hid (WAt w L (D4.crash (A.ch.take 20)) none (may ++ [x]) ⟨A15, l15, k15⟩ (k + 1) w20) := Lib.hid ⟨d20, rows50 HR15.out k20 HD15.out.noRoots, bel_keep HB15.out k20 HF.out, HCR2.out, HF.out⟩
                  clear d20 k20 CC' CFw' HR15 HB15 HD15
                  go_wp2
                  go_roundw
                  case rel => exact ⟨k + 1, _, none, may ++ [x], ⟨A15, l15, k15⟩, sure, rfl, rfl, rfl, by go_num, by have := HLA.out; omega, by have := HLA.out; omega, by have := HML.out; simp; omega, HS⟩
                  case measure => have := HLA.out; simp [intOf]; omega
                · -- it went well
                  obtain ⟨dz, bz, rz⟩ := HZ2.out.pub d13 k13 HF.out HSF.out.2.2
                  have HDz := Lib.hid dz
                  have HBz := Lib.hid bz
                  have HCR := Lib.hid hcr
                  clear dz bz rz d13 k13 hcr HZ2
                  go_upto_region 31 with fail
                  have HX3 := Lib.hid (show RootIn (w13.alloc (.cells #[.int .u64 r'.epoch, .int .i64 r'.half, .int .i64 r'.page, .int .i64 r'.next, .int .i64 r'.count, .int .i64 r'.height] 50 (0, 0))) w13.heap.size r' from heap_alloc_self w13 _)
                  have HD3 := Lib.hid (HDz.out.alloc (.cells #[.int .u64 r'.epoch, .int .i64 r'.half, .int .i64 r'.page, .int .i64 r'.next, .int .i64 r'.count, .int .i64 r'.height] 50 (0, 0)))
                  have HB3 := Lib.hid (bel_alloc HBz.out (.cells #[.int .u64 r'.epoch, .int .i64 r'.half, .int .i64 r'.page, .int .i64 r'.next, .int .i64 r'.count, .int .i64 r'.height] 50 (0, 0)))
                  clear HDz HBz
                  generalize w13.alloc (.cells #[.int .u64 r'.epoch, .int .i64 r'.half, .int .i64 r'.page, .int .i64 r'.next, .int .i64 r'.count, .int .i64 r'.height] 50 (0, 0)) = w14 at *
                  generalize w13.heap.size = g13 at *
                  obtain ⟨y0, y1, y2, y3, y4, y5⟩ := HX3.out.cells
                  go_upto_region 33 with ((with_reducible refine PrintWords.gate_dst (N := 138) rfl ?_); refine Kd.R_lit k50 _ 50 ?hg (N := 138) ?hd (xs := [r']) (inner := [.int .u64 r'.epoch, .int .i64 r'.half, .int .i64 r'.page, .int .i64 r'.next, .int .i64 r'.count, .int .i64 r'.height]) (ok := fun _ => True) (okp := fun _ => True) ?hr ?hp (fun _ hk => hk) trivial (Below.refl _ _) (Nat.le_refl _) (by simp) ?_; (case hd => rfl); (case hg => rfl); (case hr => first | (go_simp; done) | (go_simp; rfl)); (case hp => exact Reps.c6 (k50_mkM _ _ _ r') (Reps.none _ _)); intro v15 w15 hR15 hb15 hg15 hnew15; obtain ⟨A15, k15, rfl⟩ := Kd.R_slice hR15; obtain ⟨l15, hl15⟩ : ∃ l15, [r'].length = l15 := ⟨_, rfl⟩; rw [hl15] at hR15 ⊢; clear hl15; have HR15 := Lib.hid (Kd.R_lower hR15 HB3.out.size); have HB15 := Lib.hid (bel_then HB3.out hb15); have HD15 := Lib.hid (HD3.out.below hb15); clear hR15 hb15 hg15 hnew15)
                  clear y0 y1 y2 y3 y4 y5 HX3 HD3 HB3
                  obtain ⟨va, vn, vc, hcv⟩ : ∃ a n c, A.cv = .slice a n c := by
                    rcases HAc.out.ints with ⟨_, a, c, h⟩ | ⟨b, off, c, h, _⟩
                    · exact ⟨_, _, _, h⟩
                    · exact ⟨_, _, _, h⟩
                  obtain ⟨fa, fn, fc, hfv⟩ : ∃ fa fn fc, fewV A.cv = .slice fa fn fc := by rw [hcv]; exact ⟨_, _, _, rfl⟩
                  have CFw := law5_Few w15 A.cv A.ch (HAc.out.ints.at (below_cells HB15.out)) HAc.out.cap
                  have CC := disk_Crash w15 L D4 (fewV A.cv) (A.ch.take 20) HD15.out (fewV_ints (HAc.out.ints.at (below_cells HB15.out))) (fun b' off' n0 c0 hv hfoot => by
                    obtain ⟨n1, c1, hv'⟩ := fewV_block hv
                    rw [HAc.out.ints.lt _ _ _ _ hv' (HF.out _ hfoot)]
                    rfl)
                  have a7 := (HAc.out.at (below_cells HB15.out)).c7
                  rw [hcv] at a7
                  rw [hfv] at CFw CC
                  rw [hcv] at CFw
                  have CFw' := Lib.hid CFw
                  have CC' := Lib.hid CC
                  have HRDX := (HCR.out (A.ch.take 20)).2
                  have HRDX := Lib.hid HRDX
                  have HCR2 := Lib.hid ((HCR.out (A.ch.take 20)).1)
                  clear CFw CC hcv hfv HCR
                  go_wp2_with fail
                  refine CFw'.out.mono ?_
                  rintro e w' ⟨rfl, rfl⟩
                  go_wp2_with fail
                  refine CC'.out.mono ?_
                  rintro e w20 ⟨rfl, d20, k20⟩
                  have HD20 := Lib.hid d20
                  have HRd : Hid ((D4.crash (A.ch.take 20)).read 2 = (mark, 0)) := Lib.hid HRDX.out
                  have CRd := disk_Read w20 L (D4.crash (A.ch.take 20)) 2 d20
                  rw [HRd.out] at CRd
                  have CRd' := Lib.hid CRd
                  have HS : Hid (WAt w L (D4.crash (A.ch.take 20)) false [r'] ⟨A15, l15, k15⟩ (k + 1) w20) := Lib.hid ⟨d20, rows50 HR15.out k20 HD15.out.noRoots, bel_keep HB15.out k20 HF.out, HCR2.out, HF.out⟩
                  clear d20 k20 CC' CFw' HR15 HB15 HD15 CRd
                  go_wp2_with fail
                  refine CRd'.out.mono ?_
                  rintro e w' ⟨rfl, rfl⟩
                  go_wp2
                  go_roundw
                  case rel => exact ⟨k + 1, _, false, [r'], ⟨A15, l15, k15⟩, mark, rfl, rfl, rfl, by go_num, by have := HLA.out; omega, by have := HLA.out; omega, by simp, HS⟩
                  case measure => have := HLA.out; simp [intOf]; omega
end Go.Proofs.Ytcbefilcdelplaa
