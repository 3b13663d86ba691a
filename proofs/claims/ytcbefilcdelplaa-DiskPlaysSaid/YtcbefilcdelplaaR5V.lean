/- DiskPlays, walked. -/
import Derived.Test.YtcbefilcdelplaaR5T
import Derived.Test.YtcbefilcdelplaaLaw5D
import Derived.Deep.RegionHeld3
import Derived.Deep.DeepCutAuto
import Derived.Deep.DrawnRows
namespace Go.Proofs.Ytcbefilcdelplaa
open Go.RowKit
open Go.Proofs.YtcbefilcdelplaaW
open PrintWords (Kd Reps rd rdOf)
set_option linter.unusedVariables false
set_option linter.unusedSimpArgs false
attribute [local go_sem ↓] max_mx min_mn Go.wp_at_zero Go.wp_at_succ

/-- Apart from a disk and a block. -/
def Apart (L : Loc) (bx : Nat) (k : Nat) : Prop := ¬ L.foot k ∧ k ≠ bx

/-- A call in a block of its own. -/
def ActB (w : World) (b : Nat) (A : Act) (v : Value) : Prop := w.heap[b]? = some (.cells #[.int .i64 A.kind, .int .i64 A.i, .string A.s, v] 69 (0, 0))

/-- The disk, the reference's, beside one another. -/
structure PAt (w : World) (L : Loc) (bx : Nat) (D : Dk) (X : Xd) (s0 s1 s2 : Sl) (wr : World) : Prop where
  d : DiskAt wr L D
  x : XIn wr bx s0 s1 s2 X.wr X.hl X.dn
  r : XRows wr (Apart L bx) X s0 s1 s2
  b : Below w.heap.size w wr
  f : ∀ i, L.foot i → w.heap.size ≤ i
  bl : w.heap.size ≤ bx
  lb : ¬ L.foot bx

namespace PAt
variable {w wr w' : World} {L : Loc} {bx : Nat} {D D' : Dk} {X X' : Xd} {s0 s1 s2 t0 t1 t2 : Sl}
theorem below (h : PAt w L bx D X s0 s1 s2 wr) (k : Below wr.heap.size wr w') : PAt w L bx D X s0 s1 s2 w' :=
  ⟨h.d.below k, h.x.below k, h.r.below k, bel_then h.b k, h.f, h.bl, h.lb⟩
theorem disk (h : PAt w L bx D X s0 s1 s2 wr) (d : DiskAt w' L D') (k : Keep L.foot wr w') : PAt w L bx D' X s0 s1 s2 w' :=
  ⟨d, h.x.keep k h.lb, h.r.keep k (fun i hi => hi.1), bel_keep h.b k h.f, h.f, h.bl, h.lb⟩
theorem ref (h : PAt w L bx D X s0 s1 s2 wr) (hr : XRows w' (Apart L bx) X' t0 t1 t2) (k : Below wr.heap.size wr w') :
    PAt w L bx D X' t0 t1 t2 (setX w' bx t0 t1 t2 X'.wr X'.hl X'.dn) :=
  ⟨(h.d.below k).keep (setX_keep w' bx t0 t1 t2 X'.wr X'.hl X'.dn) (fun i hi he => h.lb (he ▸ hi)), setX_in (h.x.below k) t0 t1 t2 X'.wr X'.hl X'.dn,
   hr.keep (setX_keep w' bx t0 t1 t2 X'.wr X'.hl X'.dn) (fun i hi => hi.2), bel_keep (bel_then h.b k) (setX_keep w' bx t0 t1 t2 X'.wr X'.hl X'.dn) (fun i hi => by subst hi; exact h.bl), h.f, h.bl, h.lb⟩
theorem halt (h : PAt w L bx D X s0 s1 s2 wr) (n : Int) : PAt w L bx D { X with hl := n } s0 s1 s2 (wr.setCell ⟨bx, 4, none⟩ (.int .i64 n)) := by
  have k : Keep (fun c => c = bx) wr (wr.setCell ⟨bx, 4, none⟩ (.int .i64 n)) := (Keep.refl (fun c => c = bx) wr).setCell (p := ⟨bx, 4, none⟩) (.inl rfl) _
  exact ⟨h.d.keep k (fun i hi he => h.lb (he ▸ hi)), heap_setCell_same h.x 4 _, (h.r.keep k (fun i hi => hi.2)).head _ _ _, bel_keep h.b k (fun i hi => by subst hi; exact h.bl), h.f, h.bl, h.lb⟩
theorem apart (h : PAt w L bx D X s0 s1 s2 wr) (k : Nat) (hk : wr.heap.size ≤ k) : Apart L bx k :=
  ⟨fun hf => by have := h.d.foot_lt hf; omega, fun he => by have := h.x.lt; omega⟩
theorem drewN (h : PAt w L bx D X s0 s1 s2 wr) (n : Nat) : PAt w L bx D X s0 s1 s2 (wr.drewN n) := h.below (bel_drewN (Below.refl _ _) n)
theorem drew (h : PAt w L bx D X s0 s1 s2 wr) : PAt w L bx D X s0 s1 s2 wr.drew := h.below (bel_drew (Below.refl _ _))
end PAt
/-- The cells that the reference's crash reads. -/
def XCells (w : World) (bx g : Nat) (X : Xd) (s0 s1 s2 : Sl) (v : Value) : Prop :=
  (w.cell? ⟨bx, 0, Option.none⟩ = some (.slice s0.a s0.n s0.c) ∧ w.cell? ⟨bx, 1, Option.none⟩ = some (.slice s1.a s1.n s1.c) ∧ w.cell? ⟨bx, 2, Option.none⟩ = some (.slice s2.a s2.n s2.c) ∧ w.cell? ⟨bx, 3, Option.none⟩ = some (.int .i64 X.wr) ∧ w.cell? ⟨bx, 4, Option.none⟩ = some (.int .i64 X.hl) ∧ w.cell? ⟨bx, 5, Option.none⟩ = some (.bool X.dn)) ∧ w.cell? ⟨g, 3, Option.none⟩ = some v
theorem XCells.flat {w : World} {bx g : Nat} {X : Xd} {s0 s1 s2 : Sl} {v : Value} (h : XCells w bx g X s0 s1 s2 v) :
    w.cell? ⟨bx, 0, Option.none⟩ = some (.slice s0.a s0.n s0.c) ∧ w.cell? ⟨bx, 1, Option.none⟩ = some (.slice s1.a s1.n s1.c) ∧ w.cell? ⟨bx, 2, Option.none⟩ = some (.slice s2.a s2.n s2.c) ∧ w.cell? ⟨bx, 3, Option.none⟩ = some (.int .i64 X.wr) ∧ w.cell? ⟨bx, 4, Option.none⟩ = some (.int .i64 X.hl) ∧ w.cell? ⟨bx, 5, Option.none⟩ = some (.bool X.dn) ∧ w.cell? ⟨g, 3, Option.none⟩ = some v :=
  ⟨h.1.1, h.1.2.1, h.1.2.2.1, h.1.2.2.2.1, h.1.2.2.2.2.1, h.1.2.2.2.2.2, h.2⟩
theorem XCells.drewN {w : World} {bx g : Nat} {X : Xd} {s0 s1 s2 : Sl} {v : Value} (h : XCells w bx g X s0 s1 s2 v) (n : Nat) : XCells (w.drewN n) bx g X s0 s1 s2 v := h

namespace ActB
variable {w w' : World} {b : Nat} {A : Act} {v : Value}
theorem lt (h : ActB w b A v) : b < w.heap.size := lt_of_heap h
theorem below (h : ActB w b A v) (k : Below w.heap.size w w') : ActB w' b A v := (k.block _ h.lt).trans h
theorem keep {F : Nat → Prop} (h : ActB w b A v) (k : Keep F w w') (hf : ¬ F b) : ActB w' b A v := (k.block _ h.lt hf).trans h
theorem cells (h : ActB w b A v) : w.cell? ⟨b, 0, none⟩ = some (.int .i64 A.kind) ∧ w.cell? ⟨b, 1, none⟩ = some (.int .i64 A.i) ∧ w.cell? ⟨b, 2, none⟩ = some (.string A.s) ∧ w.cell? ⟨b, 3, none⟩ = some v :=
  ⟨(cell_of_heap h 0).trans rfl, (cell_of_heap h 1).trans rfl, (cell_of_heap h 2).trans rfl, (cell_of_heap h 3).trans rfl⟩
end ActB

theorem XRows.only {w : World} {P P' : Nat → Prop} {X : Xd} {s0 s1 s2 : Sl} (h : XRows w P X s0 s1 s2) (hP : ∀ k, P k → k < w.heap.size → P' k) : XRows w P' X s0 s1 s2 :=
  ⟨Kd.R_mono (Kd.R_bound h.r0) (fun k hk => hP k hk.1 hk.2.2.1), Kd.R_mono (Kd.R_bound h.r1) (fun k hk => hP k hk.1 hk.2.2.1), Kd.R_mono (Kd.R_bound h.r2) (fun k hk => hP k hk.1 hk.2.2.1)⟩

theorem PAt.first {w w2 w3 : World} {L : Loc} {D : Dk} {X : Xd} {s0 s1 s2 : Sl} (d : DiskAt w2 L D) (f : ∀ i, L.foot i → w.heap.size ≤ i) (b2 : Below w.heap.size w w2) (b3 : Below w2.heap.size w2 w3) (r : XRows w3 (fun k => w2.heap.size ≤ k) X s0 s1 s2) :
    PAt w L w3.heap.size D X s0 s1 s2 (w3.alloc (.cells #[.slice s0.a s0.n s0.c, .slice s1.a s1.n s1.c, .slice s2.a s2.n s2.c, .int .i64 X.wr, .int .i64 X.hl, .bool X.dn] 72 (0, 0))) := by
  have ba := bel_alloc (Below.refl w3.heap.size w3) (.cells #[.slice s0.a s0.n s0.c, .slice s1.a s1.n s1.c, .slice s2.a s2.n s2.c, .int .i64 X.wr, .int .i64 X.hl, .bool X.dn] 72 (0, 0))
  exact ⟨(d.below b3).below ba, heap_alloc_self w3 _, (r.only (P' := Apart L w3.heap.size) (fun k hk hlt => ⟨fun hf => by have := d.foot_lt hf; omega, by omega⟩)).below ba,
    bel_then (bel_then b2 b3) ba, f, Nat.le_trans b2.size b3.size, fun hf => by have := d.foot_lt hf; have := b3.size; omega⟩

/-- Behind so many rounds. -/
def PlaysAt (w : World) (L : Loc) (bx : Nat) (wr : World) : Prop := ∃ D X s0 s1 s2, PAt w L bx D X s0 s1 s2 wr ∧ Agree D X

set_option maxHeartbeats 8000000 in
set_option maxRecDepth 100000 in
theorem plays_walk (size : Int) (va : Value) (acts : List Act) (w : World) (hacts : ActsAt w va acts) :
    Calls Try.prog 9 #[.int .i64 size, va] w fun e w' => e = .returned (.bool true) ∧ Below w.heap.size w w' := by
  obtain ⟨m, hm⟩ : ∃ m : Nat, mx 2 (mn size 8) = (m : Int) := ⟨(max 2 (min size 8)).toNat, by rw [mx_eq, mn_eq]; omega⟩
  have h28 : 2 ≤ m ∧ m ≤ 8 := by rw [mx_eq, mn_eq] at hm; omega
  have CN := Lib.hid (fun W => disk_New (m : Int) W)
  have CR := Lib.hid (fun W P (hP : ∀ k, W.heap.size ≤ k → P k) => ref5_New_at W P m h28.1 (by omega) hP)
  generalize Dk.make (m : Int) = D0 at *
  obtain ⟨a, c, rfl, hal, hac⟩ := hacts
  obtain ⟨n, hn⟩ : ∃ n, n = acts.length := ⟨_, rfl⟩
  rw [← hn]
  have HA := Lib.hid hac
  have HN := Lib.hid hn
  have HB0 := Lib.hid (Below.refl w.heap.size w)
  have hn64 : n ≤ 9223372036854775807 := by rw [hn]; exact hal
  clear hac hn hal h28
  go_enter Try.func9, Try.ntmps9
  go_wp2_with (first
    | (go_at_call 33; refine (law5_awake _).mono ?_; rintro e w1 ⟨rfl, hb1⟩; have HB1 := Lib.hid (bel_then HB0.out hb1); clear hb1)
    | (go_at_call 14; refine (CN.out _).mono ?_; rintro e w2 ⟨L, rfl, d2, hf2, hb2⟩; have HF := Lib.hid (fun i (h : L.foot i) => Nat.le_trans HB1.out.size (hf2 i h)); have HD2 := Lib.hid d2; have HB2 := Lib.hid (bel_then HB1.out hb2); clear d2 hf2 hb2)
    | (go_at_call 39; refine (CR.out _ (fun k => w2.heap.size ≤ k) (fun k hk => hk)).mono ?_; rintro e w3 ⟨X, t0, t1, t2, rfl, hr3, ha3, hb3⟩; have HR3 := Lib.hid hr3; have HA3 := Lib.hid ha3; have HB3 := Lib.hid hb3; clear hr3 ha3 hb3))
  have HR : Hid (PlaysAt w L w3.heap.size (w3.alloc (.cells #[.slice t0.a t0.n t0.c, .slice t1.a t1.n t1.c, .slice t2.a t2.n t2.c, .int .i64 X.wr, .int .i64 X.hl, .bool X.dn] 72 (0, 0)))) :=
    ⟨D0, X, t0, t1, t2, PAt.first HD2.out HF.out HB2.out HB3.out HR3.out, HA3.out⟩
  clear CN CR HB0 HD2 HB2 HB3 HR3 HA3 hm
  generalize w3.heap.size = bx at *
  go_loopw [7] (fun x wr => ∃ k : Nat, x = .int .i64 k ∧ k ≤ n ∧ Hid (PlaysAt w L bx wr)) (fun x _ => n - (intOf x).toNat)
  case atStart => exact ⟨0, rfl, by omega, HR⟩
  case round =>
    obtain ⟨k, rfl, hk, HK⟩ := hrel
    clear HR
    by_cases hlt : k < n ∧ k < 60
    · obtain ⟨hlt, h60⟩ := hlt
      obtain ⟨b, off, ha, hA⟩ := HA.out k (by rw [← HN.out]; exact hlt)
      subst ha
      generalize acts[k]'_ = A at hA
      obtain ⟨D, X, s0, s1, s2, hP, hAg⟩ := HK.out
      have hA' := hA.at (below_cells hP.b)
      have q0 := hA'.c0
      have q1 := hA'.c1
      have q2 := hA'.c2
      have q3 := hA'.c3
      obtain ⟨va, vn, vc, hcv⟩ : ∃ a n c, A.cv = .slice a n c := by
        rcases hA.ints with ⟨_, a, c, h⟩ | ⟨b, off, c, h, _⟩
        · exact ⟨_, _, _, h⟩
        · exact ⟨_, _, _, h⟩
      rw [hcv] at q3
      have HCV := Lib.hid hcv
      have HM := Lib.hid (hP.below (bel_alloc (Below.refl wr.heap.size wr) (.cells #[.int .i64 A.kind, .int .i64 A.i, .string A.s, .slice va vn vc] 69 (0, 0))))
      have HB := Lib.hid (show ActB (wr.alloc (.cells #[.int .i64 A.kind, .int .i64 A.i, .string A.s, .slice va vn vc] 69 (0, 0))) wr.heap.size A (.slice va vn vc) from heap_alloc_self wr _)
      have HG : Hid (¬ L.foot wr.heap.size ∧ wr.heap.size ≠ bx) := Lib.hid (hP.apart _ (Nat.le_refl _))
      have HAg := Lib.hid hAg
      have HcA := Lib.hid hA
      have Hlt := Lib.hid hlt
      obtain ⟨s, hs⟩ : ∃ s, cutTo A.s 260 = s := ⟨_, rfl⟩
      have CC : ∀ W, Calls Try.prog 16 #[.string A.s, .int .i64 260] W fun e w' => e = .returned (.string s) ∧ W = w' := by
        intro W
        rw [← hs]
        exact law01_Cut A.s 260 W (by omega)
      have CC' := Lib.hid CC
      have hkI : (k : Int) < (n : Int) := by omega
      have hk60 : (k : Int) < 60 := by omega
      clear CC hs hk hlt hA hA' hP hAg HK hn64 hcv
      generalize hg : wr.heap.size = g at HG HB
      go_upto_region 13 with (go_at_call 16; refine (CC'.out _).mono ?_; rintro e w' ⟨rfl, rfl⟩)
      generalize wr.alloc (.cells #[.int .i64 A.kind, .int .i64 A.i, .string A.s, .slice va vn vc] 69 (0, 0)) = w5 at *
      have e0 := HB.out.cells.1
      by_cases k1 : A.kind = 1
      · rw [k1] at e0
        clear k1
        obtain ⟨x0, x1, x2, x3, x4, x5⟩ := HM.out.x.cells
        have c1 := HB.out.cells.2.1
        have CI := Lib.hid (law5_is_at w5 (Apart L bx) L _ _ _ _ _ A.i HM.out.d HM.out.r HAg.out)
        go_wp2_with fail
        refine CI.out.mono ?_
        rintro e w9 ⟨rfl, hb9⟩
        have HS : Hid (PlaysAt w L bx w9) := ⟨_, _, _, _, _, HM.out.below hb9, HAg.out⟩
        clear x0 x1 x2 x3 x4 x5 c1 CI hb9 HM HB HAg
        go_wp2
        go_roundw
        case rel => exact ⟨k + 1, by go_num, by have := Hlt.out; omega, HS⟩
        case measure => have := Hlt.out; simp [intOf]; omega
      · have k1b : (A.kind == 1) = false := by simpa using k1
        by_cases k2 : A.kind = 2
        · rw [k2] at e0
          obtain ⟨D1, e1, hf⟩ : ∃ D1 e1, D.flush = (D1, e1) := ⟨_, _, rfl⟩
          have CF := disk_Flush w5 L D HM.out.d
          have CX := fun W (h : PAt w L bx D1 X s0 s1 s2 W) => ref5_Flush_at W (Apart L bx) X D s0 s1 s2 h.r HAg.out HM.out.d.ok (h.apart)
          rw [hf] at CF CX
          have CF' := Lib.hid CF
          have CX' := Lib.hid CX
          clear k1 k2 k1b hf CF CX
          go_wp2_with fail
          refine CF'.out.mono ?_
          rintro e w6 ⟨rfl, d6, k6⟩
          have HM6 := Lib.hid (HM.out.disk d6 k6)
          have HB6 := Lib.hid (HB.out.keep k6 HG.out.1)
          obtain ⟨x0, x1, x2, x3, x4, x5⟩ := HM6.out.x.cells
          have xf := HM6.out.x.frz
          clear d6 k6 HM HB CF' e0
          go_wp2_with fail
          refine (CX'.out _ HM6.out).mono ?_
          rintro e w7 ⟨X7, t0, t1, t2, rfl, r7, a7, b7⟩
          have HM7 := Lib.hid (HM6.out.ref r7 b7)
          have HB7 := Lib.hid ((HB6.out.below b7).keep (setX_keep w7 bx t0 t1 t2 X7.wr X7.hl X7.dn) HG.out.2)
          have HA7 := Lib.hid a7
          unfold setX at HM7 HB7
          have y := HM6.out.x.below b7
          obtain ⟨y0, y1, y2, y3, y4, y5⟩ := y.cells
          have yf := y.frz
          clear r7 a7 b7 y x0 x1 x2 x3 x4 x5 xf CX' HM6 HB6
          go_upto_region 33 with fail
          clear y0 y1 y2 y3 y4 y5 yf
          generalize ((((((w7.setCell ⟨bx, 0, none⟩ (.slice t0.a t0.n t0.c)).setCell ⟨bx, 1, none⟩ (.slice t1.a t1.n t1.c)).setCell ⟨bx, 2, none⟩ (.slice t2.a t2.n t2.c)).setCell ⟨bx, 3, none⟩ (.int .i64 X7.wr)).setCell ⟨bx, 4, none⟩ (.int .i64 X7.hl)).setCell ⟨bx, 5, none⟩ (.bool X7.dn)) = w8 at *
          obtain ⟨x0, x1, x2, x3, x4, x5⟩ := HM7.out.x.cells
          have c1 := HB7.out.cells.2.1
          have CI := Lib.hid (law5_is_at w8 (Apart L bx) L _ _ _ _ _ A.i HM7.out.d HM7.out.r HA7.out)
          go_wp2_with fail
          refine CI.out.mono ?_
          rintro e w9 ⟨rfl, hb9⟩
          have HS : Hid (PlaysAt w L bx w9) := ⟨_, _, _, _, _, HM7.out.below hb9, HA7.out⟩
          clear x0 x1 x2 x3 x4 x5 c1 CI hb9 HM7 HB7 HA7
          go_wp2
          go_roundw
          case rel => exact ⟨k + 1, by go_num, by have := Hlt.out; omega, HS⟩
          case measure => have := Hlt.out; simp [intOf]; omega
        · have k2b : (A.kind == 2) = false := by simpa using k2
          by_cases k3 : A.kind = 3
          · rw [k3] at e0
            have a1 := HB.out.cells.2.1
            have CF' := Lib.hid (disk_Halt w5 L D A.i HM.out.d HcA.out.ik.2)
            clear k1 k2 k3 k1b k2b
            go_wp2_with fail
            refine CF'.out.mono ?_
            rintro e w6 ⟨rfl, d6, k6⟩
            have HM6 := Lib.hid (HM.out.disk d6 k6)
            have HB6 := Lib.hid (HB.out.keep k6 HG.out.1)
            have HM7 := Lib.hid (HM6.out.halt (mx A.i (-1)))
            have HB7 := Lib.hid (HB6.out.keep ((Keep.refl (fun c => c = bx) w6).setCell (p := ⟨bx, 4, none⟩) (.inl rfl) (.int .i64 (mx A.i (-1)))) HG.out.2)
            have HA7 := Lib.hid (HAg.out.halted A.i)
            have x4 := HM6.out.x.cells.2.2.2.2.1
            have xf := HM6.out.x.frz 4
            have a1 := HB6.out.cells.2.1
            clear d6 k6 HM HB CF' e0 HM6 HB6
            go_upto_region 33 with fail
            clear x4 xf a1
            generalize w6.setCell ⟨bx, 4, none⟩ (.int .i64 (mx A.i (-1))) = w8 at *
            obtain ⟨x0, x1, x2, x3, x4, x5⟩ := HM7.out.x.cells
            have c1 := HB7.out.cells.2.1
            have CI := Lib.hid (law5_is_at w8 (Apart L bx) L _ _ _ _ _ A.i HM7.out.d HM7.out.r HA7.out)
            go_wp2_with fail
            refine CI.out.mono ?_
            rintro e w9 ⟨rfl, hb9⟩
            have HS : Hid (PlaysAt w L bx w9) := ⟨_, _, _, _, _, HM7.out.below hb9, HA7.out⟩
            clear x0 x1 x2 x3 x4 x5 c1 CI hb9 HM7 HB7 HA7
            go_wp2
            go_roundw
            case rel => exact ⟨k + 1, by go_num, by have := Hlt.out; omega, HS⟩
            case measure => have := Hlt.out; simp [intOf]; omega
          · have k3b : (A.kind == 3) = false := by simpa using k3
            by_cases k4 : A.kind = 4
            · rw [k4] at e0
              obtain ⟨fa, fn, fc, hfv⟩ : ∃ fa fn fc, fewV A.cv = .slice fa fn fc := by rw [HCV.out]; exact ⟨_, _, _, rfl⟩
              have CFw := fun W (hb : Below w.heap.size w W) => law5_Few W A.cv A.ch (HcA.out.ints.at (below_cells hb)) HcA.out.cap
              have CF := disk_Crash w5 L D (fewV A.cv) (A.ch.take 20) HM.out.d (fewV_ints (HcA.out.ints.at (below_cells HM.out.b))) (fun b' off' n0 c0 hv hfoot => by
                obtain ⟨n1, c1, hv'⟩ := fewV_block hv
                rw [HcA.out.ints.lt _ _ _ _ hv' (HM.out.f _ hfoot)]
                rfl)
              have CX := fun W (h : PAt w L bx (D.crash (A.ch.take 20)) X s0 s1 s2 W) => ref5_Crash_at W (Apart L bx) X D s0 s1 s2 (fewV A.cv) (A.ch.take 20) h.r HAg.out HM.out.d.ok h.apart (fewV_ints (HcA.out.ints.at (below_cells h.b))) (fewV_ok HcA.out.cap)
              rw [hfv] at CFw CF CX
              rw [HCV.out] at CFw
              obtain ⟨D1, hD1⟩ : ∃ D1, D.crash (A.ch.take 20) = D1 := ⟨_, rfl⟩
              rw [hD1] at CF CX
              have CFw' := Lib.hid CFw
              have CF' := Lib.hid CF
              have CX' := Lib.hid CX
              have a3' := HB.out.cells.2.2.2
              clear k1 k2 k3 k4 k1b k2b k3b CFw CF CX hD1 hfv
              go_wp2_with (go_at_call 37; (with_reducible refine (CFw'.out _ HM.out.b).mono ?_); rintro e w' ⟨rfl, rfl⟩)
              refine CF'.out.mono ?_
              rintro e w6 ⟨rfl, d6, k6⟩
              have HM6 := Lib.hid (HM.out.disk d6 k6)
              have HB6 := Lib.hid (HB.out.keep k6 HG.out.1)
              obtain ⟨x0, x1, x2, x3, x4, x5⟩ := HM6.out.x.cells
              have a3 := HB6.out.cells.2.2.2
              clear d6 k6 HM HB CF' e0
              go_wp2_with fail
              go_region_with (first
                | (go_at_call 37; (with_reducible refine (CFw'.out _ ?_).mono ?_); (repeat (first | exact HM6.out.b | refine bel_drewN ?_ _ | refine bel_drew ?_)); rintro e w' ⟨rfl, rfl⟩)
                | (go_at_call 41; (with_reducible refine (CX'.out _ ?_).mono ?_); (repeat (first | exact HM6.out | refine PAt.drewN ?_ _ | refine PAt.drew ?_)); rintro e w7 ⟨X7, t0, t1, t2, rfl, r7, a7, b7'⟩; have b7 : Below w6.heap.size w6 w7 := ⟨b7'.os, b7'.tape, b7'.output, b7'.size, b7'.block⟩; have y := HM6.out.x.below b7; obtain ⟨y0, y1, y2, y3, y4, y5⟩ := y.cells; have yf := y.frz; have HM7 := Lib.hid (HM6.out.ref r7 b7); have HB7 := Lib.hid ((HB6.out.below b7).keep (setX_keep w7 bx t0 t1 t2 X7.wr X7.hl X7.dn) HG.out.2); have HA7 := Lib.hid a7; unfold setX at HM7 HB7; clear r7 a7 b7 b7' y))
              all_goals
                clear y0 y1 y2 y3 y4 y5 yf x0 x1 x2 x3 x4 x5 a3
                generalize ((((((w7.setCell ⟨bx, 0, none⟩ (.slice t0.a t0.n t0.c)).setCell ⟨bx, 1, none⟩ (.slice t1.a t1.n t1.c)).setCell ⟨bx, 2, none⟩ (.slice t2.a t2.n t2.c)).setCell ⟨bx, 3, none⟩ (.int .i64 X7.wr)).setCell ⟨bx, 4, none⟩ (.int .i64 X7.hl)).setCell ⟨bx, 5, none⟩ (.bool X7.dn)) = w8 at *
                obtain ⟨x0, x1, x2, x3, x4, x5⟩ := HM7.out.x.cells
                have c1 := HB7.out.cells.2.1
                have CI := Lib.hid (law5_is_at w8 (Apart L bx) L _ _ _ _ _ A.i HM7.out.d HM7.out.r HA7.out)
                go_wp2_with fail
                refine CI.out.mono ?_
                rintro e w9 ⟨rfl, hb9⟩
                have HS : Hid (PlaysAt w L bx w9) := ⟨_, _, _, _, _, HM7.out.below hb9, HA7.out⟩
                clear x0 x1 x2 x3 x4 x5 c1 CI hb9 HM7 HB7 HA7
                go_wp2
                go_roundw
                case rel => exact ⟨k + 1, by go_num, by have := Hlt.out; omega, HS⟩
                case measure => have := Hlt.out; simp [intOf]; omega
            · have k4b : (A.kind == 4) = false := by simpa using k4
              by_cases k5 : A.kind = 5
              · rw [k5] at e0
                have a1 := HB.out.cells.2.1
                have CL := Lib.hid (disk_Clone w5 L D HM.out.d)
                obtain ⟨x0, x1, x2, x3, x4, x5⟩ := HM.out.x.cells
                clear k1 k2 k3 k4 k5 k1b k2b k3b k4b
                go_upto_region 28 with (refine CL.out.mono ?_; rintro e w6 ⟨M, rfl, d6, f6, b6⟩; have HD6 := Lib.hid d6; have HF6 := Lib.hid f6; have HB6 := Lib.hid b6; clear d6 f6 b6)
                have HM6 := Lib.hid (HM.out.below HB6.out)
                have a1 := (HB.out.below HB6.out).cells.2.1
                have CI := Lib.hid (law5_is_at w6 (Apart L bx) M X D s0 s1 s2 A.i HD6.out HM6.out.r HAg.out)
                obtain ⟨x0, x1, x2, x3, x4, x5⟩ := HM6.out.x.cells
                go_wp2_with fail
                refine CI.out.mono ?_
                rintro e w7 ⟨rfl, b7⟩
                have HD7 := Lib.hid (HD6.out.below b7)
                have HB7 := Lib.hid (bel_then HB6.out b7)
                obtain ⟨D1, e1, hw⟩ : ∃ D1 e1, D.write 0 s = (D1, e1) := ⟨_, _, rfl⟩
                obtain ⟨D2, e2, hf⟩ : ∃ D2 e2, D1.flush = (D2, e2) := ⟨_, _, rfl⟩
                have CW := disk_Write w7 M D 0 s HD7.out
                have CF := fun W (d : DiskAt W M D1) => disk_Flush W M D1 d
                have CC := Lib.hid (fun W (d : DiskAt W M D2) => disk_Crash W M D2 (.slice none 0 0) [] d (.inl ⟨rfl, none, 0, rfl⟩) (fun _ _ _ _ _ _ => rfl))
                rw [hw] at CW
                rw [hf] at CF
                have CW' := Lib.hid CW
                have CF' := Lib.hid CF
                clear b7 CW CF hw hf x0 x1 x2 x3 x4 x5 a1 e0 CI HD6 HB6 HM6
                go_wp2_with fail
                refine CW'.out.mono ?_
                rintro e w8 ⟨rfl, d8, k8⟩
                have HD8 := Lib.hid d8
                have HB8 := Lib.hid (bel_keep HB7.out k8 HF6.out)
                clear d8 k8
                go_wp2_with fail
                refine (CF'.out _ HD8.out).mono ?_
                rintro e w10 ⟨rfl, d8, k8⟩
                have HD10 := Lib.hid d8
                have HB10 := Lib.hid (bel_keep HB8.out k8 HF6.out)
                clear d8 k8
                go_wp2_with fail
                refine (CC.out _ HD10.out).mono ?_
                rintro e w11 ⟨rfl, d8, k8⟩
                have HB11 := Lib.hid (bel_keep HB10.out k8 HF6.out)
                clear d8 k8 HD8 HB8 HD10 HB10 HD7 HB7 CW' CF' CC
                have HM11 := Lib.hid (HM.out.below HB11.out)
                have HB12 := Lib.hid (HB.out.below HB11.out)
                clear HM HB HB11 CL HF6
                obtain ⟨x0, x1, x2, x3, x4, x5⟩ := HM11.out.x.cells
                have c1 := HB12.out.cells.2.1
                have CI := Lib.hid (law5_is_at w11 (Apart L bx) L _ _ _ _ _ A.i HM11.out.d HM11.out.r HAg.out)
                go_wp2_with fail
                refine CI.out.mono ?_
                rintro e w9 ⟨rfl, hb9⟩
                have HS : Hid (PlaysAt w L bx w9) := ⟨_, _, _, _, _, HM11.out.below hb9, HAg.out⟩
                clear x0 x1 x2 x3 x4 x5 c1 CI hb9 HM11 HB12 HAg
                go_wp2
                go_roundw
                case rel => exact ⟨k + 1, by go_num, by have := Hlt.out; omega, HS⟩
                case measure => have := Hlt.out; simp [intOf]; omega
              · have k5b : (A.kind == 5) = false := by simpa using k5
                have a1 := HB.out.cells.2.1
                obtain ⟨D1, e1, hf⟩ : ∃ D1 e1, D.write A.i s = (D1, e1) := ⟨_, _, rfl⟩
                have CF := disk_Write w5 L D A.i s HM.out.d
                have CX := fun W (h : PAt w L bx D1 X s0 s1 s2 W) => ref5_Write_at W (Apart L bx) X D s0 s1 s2 A.i s h.r HAg.out HM.out.d.ok (h.apart)
                rw [hf] at CF CX
                have CF' := Lib.hid CF
                have CX' := Lib.hid CX
                clear k1 k2 k3 k4 k5 hf CF CX
                go_wp2_with fail
                refine CF'.out.mono ?_
                rintro e w6 ⟨rfl, d6, k6⟩
                have HM6 := Lib.hid (HM.out.disk d6 k6)
                have HB6 := Lib.hid (HB.out.keep k6 HG.out.1)
                obtain ⟨x0, x1, x2, x3, x4, x5⟩ := HM6.out.x.cells
                have xf := HM6.out.x.frz
                have a1 := HB6.out.cells.2.1
                clear d6 k6 HM HB CF' e0 k1b k2b k3b k4b k5b
                go_wp2_with fail
                refine (CX'.out _ HM6.out).mono ?_
                rintro e w7 ⟨X7, t0, t1, t2, rfl, r7, a7, b7⟩
                have HM7 := Lib.hid (HM6.out.ref r7 b7)
                have HB7 := Lib.hid ((HB6.out.below b7).keep (setX_keep w7 bx t0 t1 t2 X7.wr X7.hl X7.dn) HG.out.2)
                have HA7 := Lib.hid a7
                unfold setX at HM7 HB7
                have y := HM6.out.x.below b7
                obtain ⟨y0, y1, y2, y3, y4, y5⟩ := y.cells
                have yf := y.frz
                clear r7 a7 b7 y x0 x1 x2 x3 x4 x5 xf CX' HM6 HB6
                go_upto_region 33 with fail
                clear y0 y1 y2 y3 y4 y5 yf
                generalize ((((((w7.setCell ⟨bx, 0, none⟩ (.slice t0.a t0.n t0.c)).setCell ⟨bx, 1, none⟩ (.slice t1.a t1.n t1.c)).setCell ⟨bx, 2, none⟩ (.slice t2.a t2.n t2.c)).setCell ⟨bx, 3, none⟩ (.int .i64 X7.wr)).setCell ⟨bx, 4, none⟩ (.int .i64 X7.hl)).setCell ⟨bx, 5, none⟩ (.bool X7.dn)) = w8 at *
                obtain ⟨x0, x1, x2, x3, x4, x5⟩ := HM7.out.x.cells
                have c1 := HB7.out.cells.2.1
                have CI := Lib.hid (law5_is_at w8 (Apart L bx) L _ _ _ _ _ A.i HM7.out.d HM7.out.r HA7.out)
                go_wp2_with fail
                refine CI.out.mono ?_
                rintro e w9 ⟨rfl, hb9⟩
                have HS : Hid (PlaysAt w L bx w9) := ⟨_, _, _, _, _, HM7.out.below hb9, HA7.out⟩
                clear x0 x1 x2 x3 x4 x5 c1 CI hb9 HM7 HB7 HA7
                go_wp2
                go_roundw
                case rel => exact ⟨k + 1, by go_num, by have := Hlt.out; omega, HS⟩
                case measure => have := Hlt.out; simp [intOf]; omega
    · have hres : ∀ W, Below w.heap.size w W → Hid (Below w.heap.size w W) := fun W h => Lib.hid h
      obtain ⟨D, X, s0, s1, s2, hP, hAg⟩ := HK.out
      have HBk := Lib.hid hP.b
      clear hP hAg HK hres
      by_cases hkn : k < n
      · have hkI : (k : Int) < (n : Int) := by omega
        have hk60 : ¬ (k : Int) < 60 := by omega
        clear hlt hkn hn64 hk
        go_wp2
        go_ret
        exact ⟨rfl, HBk.out⟩
      · have hkI : ¬ (k : Int) < (n : Int) := by omega
        clear hlt hkn hn64 hk
        go_wp2
        go_ret
        exact ⟨rfl, HBk.out⟩
end Go.Proofs.Ytcbefilcdelplaa
