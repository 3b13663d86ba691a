/- root.Open, walked. -/
import Derived.Test.YtcbefilcdelplaaRtS
import Derived.RegionTactic
import Derived.BigRegion
import Derived.Lib.Hide
namespace Go.Proofs.Ytcbefilcdelplaa
open Go.RowKit
open Proot (Rt)
open Go.Proofs.YtcbefilcdelplaaW
set_option linter.unusedVariables false
set_option linter.unusedSimpArgs false

theorem epochs_any (s : ByteArray) (hs : s.size = 256) (w : World) : Calls Try.prog 59 #[.string s] w fun e w' => e = .returned (.tuple #[.int .u64 (Proot.first s), .int .u64 (Proot.again s)]) ∧ ∃ n, w' = w.drewN n :=
  (Proot.root_epochs.calls 400 s _ _ w (Proot.epochs_f s hs 400 (by decide))).mono fun e w' h => ⟨h.1, h.2.out⟩
def parsedV (s : ByteArray) : Value := .tuple #[.agg (rcells (Proot.parse s).1), .bool (Proot.parse s).2]
theorem parse_any (s : ByteArray) (hs : s.size = 256) (w : World) : Calls Try.prog 60 #[.string s] w fun e w' => e = .returned (.tuple #[.agg #[.int .u64 (Proot.parse s).1.epoch, .int .i64 (Proot.parse s).1.half, .int .i64 (Proot.parse s).1.page, .int .i64 (Proot.parse s).1.next, .int .i64 (Proot.parse s).1.count, .int .i64 (Proot.parse s).1.height], .bool (Proot.parse s).2]) ∧ Below w.heap.size w w' :=
  Proot.root_parse.calls 400 s _ _ _ _ _ _ _ w (Proot.parse_f s hs 400 (by decide))

set_option maxHeartbeats 2000000 in
set_option maxRecDepth 100000 in
theorem root_Open_up (w : World) (L : Loc) (D : Dk) (h : DiskAt w L D) (hd : D.down = false) :
    Calls Try.prog 29 #[.pointer (some ⟨L.a, 0, none⟩)] w fun e w' => e = .returned (.tuple #[.pointer (some ⟨w.heap.size + 1, 0, none⟩), .agg (rcells (D.found 2).out), .bool (decide (0 ≤ (D.found 2).now)), .int .i64 0]) ∧ SlotsAt w' (w.heap.size + 1) L (D.found 2).now (D.found 2).most ∧ Below w.heap.size w w' := by
  have hmx := max_mx3
  have H0 := Lib.hid (OpenAt.start w L)
  go_enter Try.func29, Try.ntmps29
  go_wp2
  go_loopw [18] (fun i wr => ∃ k : Nat, k ≤ 2 ∧ i = .int .i64 k ∧ OpenAt w L (D.found k) wr) (fun i _ => 2 - (intOf i).toNat)
  case atStart => exact ⟨0, by omega, rfl, H0.out⟩
  case round =>
    obtain ⟨k, hk, rfl, hO⟩ := hrel
    by_cases hlt : k < 2
    · have hkI : (k : Int) < 2 := by omega
      have hD := h.below hO.bel
      have hlen := h.ok.least
      have hsz := found_len h.ok (k := k) (by omega)
      have e1 : D.read (k : Int) = (D.sec k, 0) := by
        have : D.is (k : Int) = true := by simp [Dk.is]; omega
        simp [Dk.read, hd, this]
      have CR := disk_Read wr L D (k : Int) hD
      rw [e1] at CR
      have CR' := Lib.hid CR
      have CE := Lib.hid (fun W => epochs_any (D.sec k) hsz W)
      have CP := Lib.hid (fun W => parse_any (D.sec k) hsz W)
      have hstep : D.found (k + 1) = (D.found k).one (k : Int) (D.sec k) := rfl
      have HST := Lib.hid hstep
      generalize D.sec k = s at *
      generalize D.found k = f at *
      have h2 := hO.slots.cell2
      have HO := Lib.hid hO
      clear hO CR e1 hstep hD hlen hsz
      go_wp2_with fail
      refine CR'.out.mono ?_
      rintro e w' ⟨rfl, rfl⟩
      go_wp2_with fail
      refine (CE.out _).mono ?_
      rintro e w' ⟨rfl, n, rfl⟩
      have HO1 := Lib.hid ((HO.out.drewN n).setMost (mx3 f.most (Proot.first s) (Proot.again s)))
      have f2 := HO.out.slots.frz 2
      go_wp2_with fail
      refine (CP.out _).mono ?_
      have HW := Lib.hid (show f.wins s = ((Proot.parse s).2 && decide (f.out.epoch < (Proot.parse s).1.epoch)) from rfl)
      have HF := Lib.hid (show D.found (k + 1) = ⟨if f.wins s then (Proot.parse s).1 else f.out, if f.wins s then (k : Int) else f.now, mx3 f.most (Proot.first s) (Proot.again s)⟩ from HST.out)
      generalize (Proot.parse s).1 = r at *
      generalize hm : mx3 f.most (Proot.first s) (Proot.again s) = m at *
      rintro e w2 ⟨rfl, hb⟩
      have HO2 := Lib.hid (HO1.out.below hb)
      have HO3 := Lib.hid ((HO1.out.below hb).alloc (.cells (rcells r) 50 (0, 0)))
      have HE := Lib.hid (HO1.out.below hb).bel.size
      clear hb HO HO1 f2 h2 CR' CE CP HST hm
      cases his : (Proot.parse s).2 with
      | false =>
        have hF : D.found (k + 1) = ⟨f.out, f.now, m⟩ := by rw [HF.out, HW.out, his]; rfl
        have HF' := Lib.hid hF
        clear hF HF HW his
        go_wp2_with fail
        go_roundw
        case rel => exact ⟨k + 1, by omega, by go_num, by rw [HF'.out]; exact HO3.out⟩
        case measure => simp [intOf]; omega
      | true =>
        obtain ⟨o0, o1, o2, o3, o4, o5⟩ := HO3.out.out.cells
        have fo := HO3.out.out.frz
        simp only [rcells] at o0 o1 o2 o3 o4 o5 fo
        by_cases hgt : f.out.epoch < r.epoch
        · have hF : D.found (k + 1) = ⟨r, k, m⟩ := by rw [HF.out, HW.out, his, decide_eq_true hgt]; rfl
          have HF' := Lib.hid hF
          have fs := HO3.out.slots.frz 1
          have s1 := HO3.out.slots.cell1
          simp only [rcells] at fs s1
          clear hF HF HW his
          go_wp2_with fail
          go_roundw
          case rel => exact ⟨k + 1, by omega, by go_num, by rw [HF'.out]; exact (HO3.out.setOut r).setNow k⟩
          case measure => simp [intOf]; omega
        · have hF : D.found (k + 1) = ⟨f.out, f.now, m⟩ := by rw [HF.out, HW.out, his, decide_eq_false hgt]; rfl
          have HF' := Lib.hid hF
          clear hF HF HW his
          go_wp2_with fail
          go_roundw
          case rel => exact ⟨k + 1, by omega, by go_num, by rw [HF'.out]; exact HO3.out⟩
          case measure => simp [intOf]; omega
    · obtain rfl : k = 2 := by omega
      clear hlt hk
      have HO := Lib.hid hO
      have s1 := hO.slots.cell1
      obtain ⟨o0, o1, o2, o3, o4, o5⟩ := hO.out.cells
      have r0 := hO.res.cells
      have fr := hO.res.frz
      clear hO
      go_wp2_with fail
      go_region
      go_wp2_with fail
      have HF := Lib.hid (show SlotsAt (setRoot wr w.heap.size (D.found 2).out).drew (w.heap.size + 1) L (D.found 2).now (D.found 2).most from HO.out.slots.keep ((setRoot_keep wr w.heap.size (D.found 2).out).drew) (by simp))
      have HB := Lib.hid (show Below w.heap.size w (setRoot wr w.heap.size (D.found 2).out).drew from bel_keep HO.out.bel ((setRoot_keep wr w.heap.size (D.found 2).out).drew) (fun i hi => by subst hi; exact Nat.le_refl _))
      have hr := setRoot_in HO.out.res (D.found 2).out
      unfold RootIn setRoot at hr
      unfold setRoot at HF HB
      have hr' := heap_drew hr
      refine bodyPost_ret (v := .tuple #[.pointer (some ⟨w.heap.size + 1, 0, none⟩), .agg (rcells (D.found 2).out), .bool (decide (0 ≤ (D.found 2).now)), .int .i64 0]) ?_ rfl ?_
      · refine PrintWords.results_list (rs := [.tmp 2, .cell 3 50, .tmp 4, .tmp 5]) (vs := [.pointer (some ⟨w.heap.size + 1, 0, none⟩), .agg (rcells (D.found 2).out), .bool (decide (0 ≤ (D.found 2).now)), .int .i64 0]) rfl (by simp) ?_
        exact .tmp (.cell w.heap.size 50 (rcells (D.found 2).out) (0, 0) _ rfl hr' Try.underlying50 rfl (by kernel_rfl) (.tmp (.tmp .nil)))
      · exact ⟨rfl, HF.out, HB.out⟩

set_option maxHeartbeats 1000000 in
set_option maxRecDepth 100000 in
theorem root_Open_down (w : World) (L : Loc) (D : Dk) (h : DiskAt w L D) (hd : D.down = true) :
    Calls Try.prog 29 #[.pointer (some ⟨L.a, 0, none⟩)] w fun e w' => e = .returned (.tuple #[.pointer none, .agg (rcells Rt.zero), .bool false, .int .i64 6]) ∧ Below w.heap.size w w' := by
  have H0 := Lib.hid (OpenAt.start w L)
  go_enter Try.func29, Try.ntmps29
  go_wp2
  go_loopw [18] (fun i wr => i = .int .i64 0 ∧ OpenAt w L Found.start wr) (fun i _ => 2 - (intOf i).toNat)
  case atStart => exact ⟨rfl, H0.out⟩
  case round =>
    obtain ⟨rfl, hO⟩ := hrel
    have CR := disk_Read wr L D 0 (h.below hO.bel)
    have e1 : D.read 0 = (ByteArray.empty, 6) := by simp [Dk.read, hd]
    rw [e1] at CR
    have CR' := Lib.hid CR
    have r0 := hO.res.cells
    have fr := hO.res.frz
    have HO := Lib.hid hO
    clear hO CR e1
    go_wp2_with fail
    refine CR'.out.mono ?_
    rintro e w' ⟨rfl, rfl⟩
    go_wp2_with fail
    have HB := Lib.hid (show Below w.heap.size w (setRoot wr w.heap.size Rt.zero) from bel_keep HO.out.bel (setRoot_keep wr w.heap.size Rt.zero) (fun i hi => by subst hi; exact Nat.le_refl _))
    have hr := setRoot_in HO.out.res Rt.zero
    unfold RootIn setRoot at hr
    unfold setRoot at HB
    refine bodyPost_ret (v := .tuple #[.pointer none, .agg (rcells Rt.zero), .bool false, .int .i64 6]) ?_ rfl ?_
    · refine PrintWords.results_list (rs := [.tmp 2, .cell 3 50, .tmp 4, .tmp 5]) (vs := [.pointer none, .agg (rcells Rt.zero), .bool false, .int .i64 6]) rfl (by simp) ?_
      exact .tmp (.cell w.heap.size 50 (rcells Rt.zero) (0, 0) _ rfl hr Try.underlying50 rfl (by kernel_rfl) (.tmp (.tmp .nil)))
    · exact ⟨rfl, HB.out⟩
end Go.Proofs.Ytcbefilcdelplaa
