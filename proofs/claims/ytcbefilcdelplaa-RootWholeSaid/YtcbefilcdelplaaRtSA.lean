/- Where a disk's slots lie; what Open finds, plain. root.Open, walked. root.Slots.Publish, walked. What awake's disk is, plain. dowserlaw06's awake, walked; roots compared. -/
import Derived.Test.YtcbefilcdelplaaRtP
import Derived.Test.YtcbefilcdelplaaDiskB
import Derived.Test.YtcbefilcdelplaaDiskC
import Derived.Test.YtcbefilcdelplaaPagesQ
import Derived.RegionTactic
import Derived.BigRegion
import Derived.Lib.Hide
import Derived.Deep.RegionHeld3
import Derived.Laws.EntriesVeiled
namespace Go.Proofs.Ytcbefilcdelplaa
open Go.RowKit
open Proot (Rt)
set_option linter.unusedVariables false
set_option linter.unusedSimpArgs false

def mx3 (a b c : Int) : Int := mx (mx a b) c
theorem max_mx3 (ats : Array TypeId) (ty : TypeId) (k k' k'' : IntKind) (x y z : Int) : Builtin.max_ ats ty #[.int k x, .int k' y, .int k'' z] = pure (.int k (mx3 x y z)) := by
  simp only [Builtin.max_, List.foldlM_cons, List.foldlM_nil, Builtin.max2, gt_iff_lt]; rfl

def rcells (r : Rt) : Array Value := #[.int .u64 r.epoch, .int .i64 r.half, .int .i64 r.page, .int .i64 r.next, .int .i64 r.count, .int .i64 r.height]

/-- What Open knows: the root found so far, where it is, the greatest number for an epoch. -/
structure Found where
  out : Rt
  now : Int
  most : Int
def Found.start : Found := ⟨Rt.zero, -1, 0⟩
def Found.wins (f : Found) (s : ByteArray) : Bool := (Proot.parse s).2 && decide (f.out.epoch < (Proot.parse s).1.epoch)
def Found.one (f : Found) (i : Int) (s : ByteArray) : Found :=
  ⟨if f.wins s then (Proot.parse s).1 else f.out, if f.wins s then i else f.now, mx3 f.most (Proot.first s) (Proot.again s)⟩
def Dk.found (D : Dk) : Nat → Found
  | 0 => Found.start
  | k + 1 => (D.found k).one (k : Int) (D.sec k)

def slotCells (L : Loc) (now most : Int) : Array Value := #[.pointer (some ⟨L.a, 0, none⟩), .int .i64 now, .int .u64 most]
/-- The slots of a disk. -/
def SlotsAt (w : World) (S : Nat) (L : Loc) (now most : Int) : Prop := w.heap[S]? = some (.cells (slotCells L now most) 112 (0, 0))

namespace SlotsAt
variable {w w' : World} {S : Nat} {L : Loc} {now most : Int}
theorem lt (h : SlotsAt w S L now most) : S < w.heap.size := lt_of_heap h
theorem below (h : SlotsAt w S L now most) (k : Below w.heap.size w w') : SlotsAt w' S L now most := (k.block _ h.lt).trans h
theorem keep {F : Nat → Prop} (h : SlotsAt w S L now most) (k : Keep F w w') (hf : ¬ F S) : SlotsAt w' S L now most := (k.block _ h.lt hf).trans h
theorem alloc (h : SlotsAt w S L now most) (o : Obj) : SlotsAt (w.alloc o) S L now most := heap_alloc_old h o
theorem drewN (h : SlotsAt w S L now most) (n : Nat) : SlotsAt (w.drewN n) S L now most := h
theorem cell0 (h : SlotsAt w S L now most) : w.cell? ⟨S, 0, none⟩ = some (.pointer (some ⟨L.a, 0, none⟩)) := (cell_of_heap h 0).trans rfl
theorem cell1 (h : SlotsAt w S L now most) : w.cell? ⟨S, 1, none⟩ = some (.int .i64 now) := (cell_of_heap h 1).trans rfl
theorem cell2 (h : SlotsAt w S L now most) : w.cell? ⟨S, 2, none⟩ = some (.int .u64 most) := (cell_of_heap h 2).trans rfl
theorem frz (h : SlotsAt w S L now most) (i : Nat) : w.frozen? ⟨S, i, none⟩ = false := frozen_of_heap h i
theorem setNow (h : SlotsAt w S L now most) (x : Int) : SlotsAt (w.setCell ⟨S, 1, none⟩ (.int .i64 x)) S L x most := heap_setCell_same h 1 _
theorem setMost (h : SlotsAt w S L now most) (x : Int) : SlotsAt (w.setCell ⟨S, 2, none⟩ (.int .u64 x)) S L now x := heap_setCell_same h 2 _
theorem setCell (h : SlotsAt w S L now most) {p : Addr} (hp : S ≠ p.block) (v : Value) : SlotsAt (w.setCell p v) S L now most := by
  unfold SlotsAt at *
  rw [Below.heap_setCell _ _ _ _ hp]; exact h
end SlotsAt

/-- A root in a block of its own. -/
def RootIn (w : World) (b : Nat) (r : Rt) : Prop := w.heap[b]? = some (.cells (rcells r) 50 (0, 0))
namespace RootIn
variable {w w' : World} {b : Nat} {r : Rt}
theorem lt (h : RootIn w b r) : b < w.heap.size := lt_of_heap h
theorem below (h : RootIn w b r) (k : Below w.heap.size w w') : RootIn w' b r := (k.block _ h.lt).trans h
theorem keep {F : Nat → Prop} (h : RootIn w b r) (k : Keep F w w') (hf : ¬ F b) : RootIn w' b r := (k.block _ h.lt hf).trans h
theorem alloc (h : RootIn w b r) (o : Obj) : RootIn (w.alloc o) b r := heap_alloc_old h o
theorem cells (h : RootIn w b r) : w.cell? ⟨b, 0, none⟩ = some (.int .u64 r.epoch) ∧ w.cell? ⟨b, 1, none⟩ = some (.int .i64 r.half) ∧ w.cell? ⟨b, 2, none⟩ = some (.int .i64 r.page) ∧ w.cell? ⟨b, 3, none⟩ = some (.int .i64 r.next) ∧ w.cell? ⟨b, 4, none⟩ = some (.int .i64 r.count) ∧ w.cell? ⟨b, 5, none⟩ = some (.int .i64 r.height) :=
  ⟨(cell_of_heap h 0).trans rfl, (cell_of_heap h 1).trans rfl, (cell_of_heap h 2).trans rfl, (cell_of_heap h 3).trans rfl, (cell_of_heap h 4).trans rfl, (cell_of_heap h 5).trans rfl⟩
theorem frz (h : RootIn w b r) (i : Nat) : w.frozen? ⟨b, i, none⟩ = false := frozen_of_heap h i
theorem setCell (h : RootIn w b r) {p : Addr} (hp : b ≠ p.block) (v : Value) : RootIn (w.setCell p v) b r := by
  unfold RootIn at *
  rw [Below.heap_setCell _ _ _ _ hp]; exact h
end RootIn

/-- All six cells of a root are written. -/
def setRoot (w : World) (b : Nat) (r : Rt) : World :=
  (((((w.setCell ⟨b, 0, none⟩ (.int .u64 r.epoch)).setCell ⟨b, 1, none⟩ (.int .i64 r.half)).setCell ⟨b, 2, none⟩ (.int .i64 r.page)).setCell ⟨b, 3, none⟩ (.int .i64 r.next)).setCell ⟨b, 4, none⟩ (.int .i64 r.count)).setCell ⟨b, 5, none⟩ (.int .i64 r.height)
theorem setRoot_in {w : World} {b : Nat} {r0 : Rt} (h : RootIn w b r0) (r : Rt) : RootIn (setRoot w b r) b r :=
  heap_setCell_same (heap_setCell_same (heap_setCell_same (heap_setCell_same (heap_setCell_same (heap_setCell_same h 0 _) 1 _) 2 _) 3 _) 4 _) 5 _
theorem setRoot_other {w : World} {b c : Nat} {r : Rt} (hne : c ≠ b) : (setRoot w b r).heap[c]? = w.heap[c]? := by
  unfold setRoot
  rw [Below.heap_setCell _ _ _ _ hne, Below.heap_setCell _ _ _ _ hne, Below.heap_setCell _ _ _ _ hne, Below.heap_setCell _ _ _ _ hne, Below.heap_setCell _ _ _ _ hne, Below.heap_setCell _ _ _ _ hne]

theorem setRoot_keep (w : World) (b : Nat) (r : Rt) : Keep (fun c => c = b) w (setRoot w b r) := by
  unfold setRoot
  exact (((((((Keep.refl (fun c => c = b) w).setCell (.inl rfl) _).setCell (.inl rfl) _).setCell (.inl rfl) _).setCell (.inl rfl) _).setCell (.inl rfl) _).setCell (.inl rfl) _)

/-- Within Open: nothing that was there has turned; the result's cell, the slots, the root found. -/
structure OpenAt (w : World) (L : Loc) (f : Found) (wr : World) : Prop where
  bel : Below w.heap.size w wr
  res : RootIn wr w.heap.size Rt.zero
  slots : SlotsAt wr (w.heap.size + 1) L f.now f.most
  out : RootIn wr (w.heap.size + 1 + 1) f.out

namespace OpenAt
variable {w wr wr' : World} {L : Loc} {f : Found}
theorem below (h : OpenAt w L f wr) (k : Below wr.heap.size wr wr') : OpenAt w L f wr' :=
  ⟨bel_then h.bel k, h.res.below k, h.slots.below k, h.out.below k⟩
theorem drewN (h : OpenAt w L f wr) (n : Nat) : OpenAt w L f (wr.drewN n) := ⟨bel_drewN h.bel n, h.res, h.slots, h.out⟩
theorem alloc (h : OpenAt w L f wr) (o : Obj) : OpenAt w L f (wr.alloc o) := h.below ((Below.refl _ _).alloc (Nat.le_refl _) o)
theorem setMost (h : OpenAt w L f wr) (x : Int) : OpenAt w L { f with most := x } (wr.setCell ⟨w.heap.size + 1, 2, none⟩ (.int .u64 x)) :=
  ⟨h.bel.setCell (by simp) _, h.res.setCell (by simp) _, h.slots.setMost x, h.out.setCell (by simp) _⟩
theorem setNow (h : OpenAt w L f wr) (x : Int) : OpenAt w L { f with now := x } (wr.setCell ⟨w.heap.size + 1, 1, none⟩ (.int .i64 x)) :=
  ⟨h.bel.setCell (by simp) _, h.res.setCell (by simp) _, h.slots.setNow x, h.out.setCell (by simp) _⟩
theorem setOut (h : OpenAt w L f wr) (r : Rt) : OpenAt w L { f with out := r } (setRoot wr (w.heap.size + 1 + 1) r) :=
  ⟨((((((h.bel.setCell (show w.heap.size ≤ _ by simp; omega) _).setCell (show w.heap.size ≤ _ by simp; omega) _).setCell (show w.heap.size ≤ _ by simp; omega) _).setCell (show w.heap.size ≤ _ by simp; omega) _).setCell (show w.heap.size ≤ _ by simp; omega) _).setCell (show w.heap.size ≤ _ by simp; omega) _), by
    have := h.res
    unfold RootIn at *
    rw [setRoot_other (by omega)]; exact this, by
    have := h.slots
    unfold SlotsAt at *
    rw [setRoot_other (by omega)]; exact this, setRoot_in h.out r⟩
theorem start (w : World) (L : Loc) : OpenAt w L Found.start (((w.alloc (.cells (rcells Rt.zero) 50 (0, 0))).alloc (.cells (slotCells L (-1) 0) 112 (0, 0))).alloc (.cells (rcells Rt.zero) 50 (0, 0))) := by
  refine ⟨bel_alloc (bel_alloc (bel_alloc (Below.refl _ _) _) _) _, heap_alloc_old (heap_alloc_old (heap_alloc_self w _) _) _, ?_, ?_⟩
  · have := heap_alloc_self (w.alloc (.cells (rcells Rt.zero) 50 (0, 0))) (.cells (slotCells L (-1) 0) 112 (0, 0))
    rw [World.size_alloc] at this
    exact heap_alloc_old this _
  · have := heap_alloc_self ((w.alloc (.cells (rcells Rt.zero) 50 (0, 0))).alloc (.cells (slotCells L (-1) 0) 112 (0, 0))) (.cells (rcells Rt.zero) 50 (0, 0))
    rw [World.size_alloc, World.size_alloc] at this
    exact this
end OpenAt

theorem found_len {D : Dk} (h : D.Ok) {k : Nat} (hk : k < D.now.length) : (D.sec k).size = 256 := sec_size h hk
end Go.Proofs.Ytcbefilcdelplaa

namespace Go.Proofs.Ytcbefilcdelplaa
open Go.RowKit
open Proot (Rt)
open Go.Proofs.YtcbefilcdelplaaW
set_option linter.unusedVariables false
set_option linter.unusedSimpArgs false

theorem epochs_any (s : ByteArray) (hs : s.size = 256) (w : World) : Calls Try.prog 59 #[.string s] w fun e w' => e = .returned (.tuple #[.int .u64 (Proot.first s), .int .u64 (Proot.again s)]) ∧ ∃ n, w' = w.drewN n :=
  (Proot.root_epochs.calls 400 s _ _ w (Proot.epochs_f s hs 400 (by decide))).mono fun e w' h => ⟨h.1, h.2.out⟩
def parsedV (s : ByteArray) : Value := .tuple #[.agg (rcells (Proot.parse s).1), .bool (Proot.parse s).2]
theorem parse_any (s : ByteArray) (hs : s.size = 256) (w : World) : Calls Try.prog 60 #[.string s] w fun e w' => e = .returned (.tuple #[.agg #[.int .u64 (Proot.parse s).1.epoch, .int .i64 (Proot.parse s).1.half, .int .i64 (Proot.parse s).1.page, .int .i64 (Proot.parse s).1.next, .int .i64 (Proot.parse s).1.count, .int .i64 (Proot.parse s).1.height], .bool (Proot.parse s).2]) ∧ Below w.heap.size w w' :=
  Proot.root_parse.calls 400 s _ _ _ _ _ _ _ w (Proot.parse_f s hs 400 (by decide))

set_option maxHeartbeats 2000000 in
set_option maxRecDepth 100000 in
theorem root_Open_up (w : World) (L : Loc) (D : Dk) (h : DiskAt w L D) (hd : D.down = false) :
    Calls Try.prog 29 #[.pointer (some ⟨L.a, 0, none⟩)] w fun e w' => e = .returned (.tuple #[.pointer (some ⟨w.heap.size + 1, 0, none⟩), .agg (rcells (D.found 2).out), .bool (decide (0 ≤ (D.found 2).now)), .int .i64 0]) ∧ SlotsAt w' (w.heap.size + 1) L (D.found 2).now (D.found 2).most ∧ Below w.heap.size w w' := by
  have hmx := max_mx3
  have H0 := Lib.hid (OpenAt.start w L)
  go_enter Try.func29, Try.ntmps29
  go_wp2
  go_loopw [18] (fun i wr => ∃ k : Nat, k ≤ 2 ∧ i = .int .i64 k ∧ OpenAt w L (D.found k) wr) (fun i _ => 2 - (intOf i).toNat)
  case atStart => exact ⟨0, by omega, rfl, H0.out⟩
  case round =>
    obtain ⟨k, hk, rfl, hO⟩ := hrel
    by_cases hlt : k < 2
    · have hkI : (k : Int) < 2 := by omega
      have hD := h.below hO.bel
      have hlen := h.ok.least
      have hsz := found_len h.ok (k := k) (by omega)
      have e1 : D.read (k : Int) = (D.sec k, 0) := by
        have : D.is (k : Int) = true := by simp [Dk.is]; omega
        simp [Dk.read, hd, this]
      have CR := disk_Read wr L D (k : Int) hD
      rw [e1] at CR
      have CR' := Lib.hid CR
      have CE := Lib.hid (fun W => epochs_any (D.sec k) hsz W)
      have CP := Lib.hid (fun W => parse_any (D.sec k) hsz W)
      have hstep : D.found (k + 1) = (D.found k).one (k : Int) (D.sec k) := rfl
      have HST := Lib.hid hstep
      generalize D.sec k = s at *
      generalize D.found k = f at *
      have h2 := hO.slots.cell2
      have HO := Lib.hid hO
      clear hO CR e1 hstep hD hlen hsz
      go_wp2_with fail
      refine CR'.out.mono ?_
      rintro e w' ⟨rfl, rfl⟩
      go_wp2_with fail
      refine (CE.out _).mono ?_
      rintro e w' ⟨rfl, n, rfl⟩
      have HO1 := Lib.hid ((HO.out.drewN n).setMost (mx3 f.most (Proot.first s) (Proot.again s)))
      have f2 := HO.out.slots.frz 2
      go_wp2_with fail
      refine (CP.out _).mono ?_
      have HW := Lib.hid (show f.wins s = ((Proot.parse s).2 && decide (f.out.epoch < (Proot.parse s).1.epoch)) from rfl)
      have HF := Lib.hid (show D.found (k + 1) = ⟨if f.wins s then (Proot.parse s).1 else f.out, if f.wins s then (k : Int) else f.now, mx3 f.most (Proot.first s) (Proot.again s)⟩ from HST.out)
      generalize (Proot.parse s).1 = r at *
      generalize hm : mx3 f.most (Proot.first s) (Proot.again s) = m at *
      rintro e w2 ⟨rfl, hb⟩
      have HO2 := Lib.hid (HO1.out.below hb)
      have HO3 := Lib.hid ((HO1.out.below hb).alloc (.cells (rcells r) 50 (0, 0)))
      have HE := Lib.hid (HO1.out.below hb).bel.size
      clear hb HO HO1 f2 h2 CR' CE CP HST hm
      cases his : (Proot.parse s).2 with
      | false =>
        have hF : D.found (k + 1) = ⟨f.out, f.now, m⟩ := by rw [HF.out, HW.out, his]; rfl
        have HF' := Lib.hid hF
        clear hF HF HW his
        go_wp2_with fail
        go_roundw
        case rel => exact ⟨k + 1, by omega, by go_num, by rw [HF'.out]; exact HO3.out⟩
        case measure => simp [intOf]; omega
      | true =>
        obtain ⟨o0, o1, o2, o3, o4, o5⟩ := HO3.out.out.cells
        have fo := HO3.out.out.frz
        simp only [rcells] at o0 o1 o2 o3 o4 o5 fo
        by_cases hgt : f.out.epoch < r.epoch
        · have hF : D.found (k + 1) = ⟨r, k, m⟩ := by rw [HF.out, HW.out, his, decide_eq_true hgt]; rfl
          have HF' := Lib.hid hF
          have fs := HO3.out.slots.frz 1
          have s1 := HO3.out.slots.cell1
          simp only [rcells] at fs s1
          clear hF HF HW his
          go_wp2_with fail
          go_roundw
          case rel => exact ⟨k + 1, by omega, by go_num, by rw [HF'.out]; exact (HO3.out.setOut r).setNow k⟩
          case measure => simp [intOf]; omega
        · have hF : D.found (k + 1) = ⟨f.out, f.now, m⟩ := by rw [HF.out, HW.out, his, decide_eq_false hgt]; rfl
          have HF' := Lib.hid hF
          clear hF HF HW his
          go_wp2_with fail
          go_roundw
          case rel => exact ⟨k + 1, by omega, by go_num, by rw [HF'.out]; exact HO3.out⟩
          case measure => simp [intOf]; omega
    · obtain rfl : k = 2 := by omega
      clear hlt hk
      have HO := Lib.hid hO
      have s1 := hO.slots.cell1
      obtain ⟨o0, o1, o2, o3, o4, o5⟩ := hO.out.cells
      have r0 := hO.res.cells
      have fr := hO.res.frz
      clear hO
      go_wp2_with fail
      go_region
      go_wp2_with fail
      have HF := Lib.hid (show SlotsAt (setRoot wr w.heap.size (D.found 2).out).drew (w.heap.size + 1) L (D.found 2).now (D.found 2).most from HO.out.slots.keep ((setRoot_keep wr w.heap.size (D.found 2).out).drew) (by simp))
      have HB := Lib.hid (show Below w.heap.size w (setRoot wr w.heap.size (D.found 2).out).drew from bel_keep HO.out.bel ((setRoot_keep wr w.heap.size (D.found 2).out).drew) (fun i hi => by subst hi; exact Nat.le_refl _))
      have hr := setRoot_in HO.out.res (D.found 2).out
      unfold RootIn setRoot at hr
      unfold setRoot at HF HB
      have hr' := heap_drew hr
      refine bodyPost_ret (v := .tuple #[.pointer (some ⟨w.heap.size + 1, 0, none⟩), .agg (rcells (D.found 2).out), .bool (decide (0 ≤ (D.found 2).now)), .int .i64 0]) ?_ rfl ?_
      · refine PrintWords.results_list (rs := [.tmp 2, .cell 3 50, .tmp 4, .tmp 5]) (vs := [.pointer (some ⟨w.heap.size + 1, 0, none⟩), .agg (rcells (D.found 2).out), .bool (decide (0 ≤ (D.found 2).now)), .int .i64 0]) rfl (by simp) ?_
        exact .tmp (.cell w.heap.size 50 (rcells (D.found 2).out) (0, 0) _ rfl hr' Try.underlying50 rfl (by kernel_rfl) (.tmp (.tmp .nil)))
      · exact ⟨rfl, HF.out, HB.out⟩

set_option maxHeartbeats 1000000 in
set_option maxRecDepth 100000 in
theorem root_Open_down (w : World) (L : Loc) (D : Dk) (h : DiskAt w L D) (hd : D.down = true) :
    Calls Try.prog 29 #[.pointer (some ⟨L.a, 0, none⟩)] w fun e w' => e = .returned (.tuple #[.pointer none, .agg (rcells Rt.zero), .bool false, .int .i64 6]) ∧ Below w.heap.size w w' := by
  have H0 := Lib.hid (OpenAt.start w L)
  go_enter Try.func29, Try.ntmps29
  go_wp2
  go_loopw [18] (fun i wr => i = .int .i64 0 ∧ OpenAt w L Found.start wr) (fun i _ => 2 - (intOf i).toNat)
  case atStart => exact ⟨rfl, H0.out⟩
  case round =>
    obtain ⟨rfl, hO⟩ := hrel
    have CR := disk_Read wr L D 0 (h.below hO.bel)
    have e1 : D.read 0 = (ByteArray.empty, 6) := by simp [Dk.read, hd]
    rw [e1] at CR
    have CR' := Lib.hid CR
    have r0 := hO.res.cells
    have fr := hO.res.frz
    have HO := Lib.hid hO
    clear hO CR e1
    go_wp2_with fail
    refine CR'.out.mono ?_
    rintro e w' ⟨rfl, rfl⟩
    go_wp2_with fail
    have HB := Lib.hid (show Below w.heap.size w (setRoot wr w.heap.size Rt.zero) from bel_keep HO.out.bel (setRoot_keep wr w.heap.size Rt.zero) (fun i hi => by subst hi; exact Nat.le_refl _))
    have hr := setRoot_in HO.out.res Rt.zero
    unfold RootIn setRoot at hr
    unfold setRoot at HB
    refine bodyPost_ret (v := .tuple #[.pointer none, .agg (rcells Rt.zero), .bool false, .int .i64 6]) ?_ rfl ?_
    · refine PrintWords.results_list (rs := [.tmp 2, .cell 3 50, .tmp 4, .tmp 5]) (vs := [.pointer none, .agg (rcells Rt.zero), .bool false, .int .i64 6]) rfl (by simp) ?_
      exact .tmp (.cell w.heap.size 50 (rcells Rt.zero) (0, 0) _ rfl hr Try.underlying50 rfl (by kernel_rfl) (.tmp (.tmp .nil)))
    · exact ⟨rfl, HB.out⟩
end Go.Proofs.Ytcbefilcdelplaa

namespace Go.Proofs.Ytcbefilcdelplaa
open Go.RowKit
open Proot (Rt)
open Go.Proofs.YtcbefilcdelplaaW
set_option linter.unusedVariables false
set_option linter.unusedSimpArgs false

def Rt.args (r : Rt) : Value := .agg (rcells r)
theorem valid_any (r : Rt) (w : World) : Calls Try.prog 61 #[.agg #[.int .u64 r.epoch, .int .i64 r.half, .int .i64 r.page, .int .i64 r.next, .int .i64 r.count, .int .i64 r.height]] w fun e w' => e = .returned (.bool r.validB) ∧ Below w.heap.size w w' :=
  Proot.root_Root_valid.calls _ _ _ _ _ _ _ w (Proot.valid_f r)
theorem valid_page {r : Rt} (h : r.validB = true) : -1 ≤ r.page ∧ r.page ≤ 2147483647 := by
  simp only [Rt.validB, Proot.cntB, Bool.and_eq_true, Bool.or_eq_true, decide_eq_true_eq] at h
  omega
theorem text_any (r : Rt) (w : World) (h : -1 ≤ r.page ∧ r.page ≤ 2147483647) : Calls Try.prog 63 #[.agg #[.int .u64 r.epoch, .int .i64 r.half, .int .i64 r.page, .int .i64 r.next, .int .i64 r.count, .int .i64 r.height]] w fun e w' => e = .returned (.string r.text) ∧ Below w.heap.size w w' :=
  Proot.root_Root_text.calls 400 _ _ _ _ _ _ _ w (Proot.text_f r 400 (by decide) h)

/-- What Publish's second step looks at: the receiver's box, the slots, the slot's number, the root. -/
structure StepAt (F : Nat → Prop) (w : World) (B S b : Nat) (L : Loc) (D : Dk) (now most nx : Int) (r : Rt) (wr : World) : Prop where
  disk : DiskAt wr L D
  slots : SlotsAt wr S L now most
  box : wr.heap[B]? = some (.cells #[.pointer (some ⟨S, 0, none⟩)] 51 (0, 0))
  num : wr.heap[b]? = some (.cells #[.int .i64 nx] 3 (0, 0))
  root : RootIn wr (B + 1) r
  old : Keep F w wr
namespace StepAt
variable {F : Nat → Prop} {w w1 w2 : World} {B S b : Nat} {L : Loc} {D : Dk} {now most nx : Int} {r : Rt}
theorem below (h : StepAt F w B S b L D now most nx r w1) (k : Below w1.heap.size w1 w2) : StepAt F w B S b L D now most nx r w2 :=
  ⟨h.disk.below k, h.slots.below k, (k.block _ (lt_of_heap h.box)).trans h.box, (k.block _ (lt_of_heap h.num)).trans h.num, h.root.below k, h.old.trans (Keep.below k)⟩
theorem drewN (h : StepAt F w B S b L D now most nx r w1) (n : Nat) : StepAt F w B S b L D now most nx r (w1.drewN n) := ⟨h.disk.drewN n, h.slots, h.box, h.num, h.root, h.old.drewN n⟩
theorem drew (h : StepAt F w B S b L D now most nx r w1) : StepAt F w B S b L D now most nx r w1.drew := ⟨h.disk.drew, h.slots, h.box, h.num, h.root, h.old.drew⟩
theorem monoF {G : Nat → Prop} (h : StepAt F w B S b L D now most nx r w1) (hg : ∀ k, k < w.heap.size → F k → G k) : StepAt G w B S b L D now most nx r w1 := ⟨h.disk, h.slots, h.box, h.num, h.root, h.old.mono hg⟩
theorem facts (h : StepAt F w B S b L D now most nx r w1) : w1.cell? ⟨B, 0, none⟩ = some (.pointer (some ⟨S, 0, none⟩)) ∧ w1.cell? ⟨S, 0, none⟩ = some (.pointer (some ⟨L.a, 0, none⟩)) ∧ w1.cell? ⟨b, 0, none⟩ = some (.int .i64 nx) ∧ w1.cell? ⟨B + 1, 0, none⟩ = some (.int .u64 r.epoch) ∧ w1.cell? ⟨B + 1, 1, none⟩ = some (.int .i64 r.half) ∧ w1.cell? ⟨B + 1, 2, none⟩ = some (.int .i64 r.page) ∧ w1.cell? ⟨B + 1, 3, none⟩ = some (.int .i64 r.next) ∧ w1.cell? ⟨B + 1, 4, none⟩ = some (.int .i64 r.count) ∧ w1.cell? ⟨B + 1, 5, none⟩ = some (.int .i64 r.height) :=
  ⟨(cell_of_heap h.box 0).trans rfl, h.slots.cell0, (cell_of_heap h.num 0).trans rfl, h.root.cells.1, h.root.cells.2.1, h.root.cells.2.2.1, h.root.cells.2.2.2.1, h.root.cells.2.2.2.2.1, h.root.cells.2.2.2.2.2⟩
theorem after (h : StepAt F w B S b L D now most nx r w1) {w' : World} (k : Keep L.foot w1 w') (h0 : ¬ L.foot B) (h1 : ¬ L.foot S) (h2 : ¬ L.foot b) (h3 : ¬ L.foot (B + 1)) : w'.cell? ⟨B, 0, none⟩ = some (.pointer (some ⟨S, 0, none⟩)) ∧ w'.cell? ⟨S, 0, none⟩ = some (.pointer (some ⟨L.a, 0, none⟩)) ∧ w'.cell? ⟨b, 0, none⟩ = some (.int .i64 nx) ∧ w'.cell? ⟨B + 1, 0, none⟩ = some (.int .u64 r.epoch) ∧ w'.cell? ⟨B + 1, 1, none⟩ = some (.int .i64 r.half) ∧ w'.cell? ⟨B + 1, 2, none⟩ = some (.int .i64 r.page) ∧ w'.cell? ⟨B + 1, 3, none⟩ = some (.int .i64 r.next) ∧ w'.cell? ⟨B + 1, 4, none⟩ = some (.int .i64 r.count) ∧ w'.cell? ⟨B + 1, 5, none⟩ = some (.int .i64 r.height) := by
  obtain ⟨a0, a1, a2, a3, a4, a5, a6, a7, a8⟩ := h.facts
  have lB := lt_of_heap h.box
  have lS := h.slots.lt
  have lb := lt_of_heap h.num
  have lr := h.root.lt
  exact ⟨(k.cell lB h0).trans a0, (k.cell lS h1).trans a1, (k.cell lb h2).trans a2, (k.cell lr h3).trans a3, (k.cell lr h3).trans a4, (k.cell lr h3).trans a5, (k.cell lr h3).trans a6, (k.cell lr h3).trans a7, (k.cell lr h3).trans a8⟩
end StepAt

set_option maxHeartbeats 2000000 in
set_option maxRecDepth 100000 in
theorem root_step (w : World) (B S b : Nat) (L : Loc) (D : Dk) (now most nx : Int) (r : Rt) (hw : StepAt (fun _ => False) w B S b L D now most nx r w) (hp : -1 ≤ r.page ∧ r.page ≤ 2147483647) (h0 : ¬ L.foot B) (h1 : ¬ L.foot S) (h2 : ¬ L.foot b) (h3 : ¬ L.foot (B + 1)) :
    Calls Try.prog 62 #[.pointer (some ⟨B, 0, none⟩), .pointer (some ⟨b, 0, none⟩), .pointer (some ⟨B + 1, 0, none⟩)] w fun e w' => e = .returned (.int .i64 (D.write nx r.text).2) ∧ DiskAt w' L (D.write nx r.text).1 ∧ Keep L.foot w w' := by
  have CT := Lib.hid (fun W => text_any r W hp)
  have CW := Lib.hid (fun W (h : DiskAt W L D) => disk_Write W L D nx r.text h)
  obtain ⟨t, ht⟩ : ∃ t, t = r.text := ⟨_, rfl⟩
  rw [← ht] at CT CW ⊢
  have HX := Lib.hid hw
  have G0 := Lib.hid h0
  have G1 := Lib.hid h1
  have G2 := Lib.hid h2
  have G3 := Lib.hid h3
  clear hp ht h0 h1 h2 h3
  obtain ⟨a0, a1, a2, a3, a4, a5, a6, a7, a8⟩ := hw.facts
  clear hw
  go_enter Try.func62, Try.ntmps62
  go_wp2_with fail
  go_region_held3 (fun w' => w'.cell? ⟨B, 0, none⟩ = some (.pointer (some ⟨S, 0, none⟩)) ∧ w'.cell? ⟨S, 0, none⟩ = some (.pointer (some ⟨L.a, 0, none⟩)) ∧ w'.cell? ⟨b, 0, none⟩ = some (.int .i64 nx) ∧ w'.cell? ⟨B + 1, 0, none⟩ = some (.int .u64 r.epoch) ∧ w'.cell? ⟨B + 1, 1, none⟩ = some (.int .i64 r.half) ∧ w'.cell? ⟨B + 1, 2, none⟩ = some (.int .i64 r.page) ∧ w'.cell? ⟨B + 1, 3, none⟩ = some (.int .i64 r.next) ∧ w'.cell? ⟨B + 1, 4, none⟩ = some (.int .i64 r.count) ∧ w'.cell? ⟨B + 1, 5, none⟩ = some (.int .i64 r.height))
    ((first | (with_reducible assumption) | refine StepAt.facts (F := fun _ => False) (w := w) (D := D) (now := now) (most := most) ?_; (repeat (first | (with_reducible assumption) | exact HX.out | refine StepAt.drewN ?_ _ | refine StepAt.drew ?_)))) (first
    | (go_at_call 63; (with_reducible refine (CT.out _).mono ?_); rintro e w2 ⟨rfl, hb2⟩; have x2 : StepAt (fun _ => False) w B S b L D now most nx r w2 := (by (refine StepAt.below ?_ hb2; (repeat (first | (with_reducible assumption) | exact HX.out | refine StepAt.drewN ?_ _ | refine StepAt.drew ?_)))); clear hb2)
    | (go_at_call 20; (with_reducible refine (CW.out _ (StepAt.disk (F := fun _ => False) (w := w) (B := B) (S := S) (b := b) (now := now) (most := most) (nx := nx) (r := r) (by (repeat (first | (with_reducible assumption) | exact HX.out | refine StepAt.drewN ?_ _ | refine StepAt.drew ?_))))).mono ?_); rintro e w3 ⟨rfl, hd3, hk3⟩; have y3 := StepAt.after (F := fun _ => False) (w := w) (B := B) (S := S) (b := b) (D := D) (now := now) (most := most) (nx := nx) (r := r) (by (repeat (first | (with_reducible assumption) | exact HX.out | refine StepAt.drewN ?_ _ | refine StepAt.drew ?_))) hk3 G0.out G1.out G2.out G3.out; have z3 := Lib.hid (Keep.andThen (F := L.foot) ((StepAt.old (F := fun _ => False) (B := B) (S := S) (b := b) (D := D) (now := now) (most := most) (nx := nx) (r := r) (by (repeat (first | (with_reducible assumption) | exact HX.out | refine StepAt.drewN ?_ _ | refine StepAt.drew ?_)))).mono (fun _ _ h => h.elim)) hk3 (fun _ _ h => h)); have d3 := Lib.hid hd3; clear hd3 hk3))
  go_wp2_with fail
  go_ret
  exact ⟨rfl, d3.out, z3.out⟩

/-- What Publish does to the disk, and the error that ends it. -/
def Dk.pub (D : Dk) (nx : Int) (t : ByteArray) : Dk × Int :=
  if D.flush.2 ≠ 0 then D.flush else if (D.flush.1.write nx t).2 ≠ 0 then D.flush.1.write nx t else (D.flush.1.write nx t).1.flush

namespace Dk
def pubD (D : Dk) (nx : Int) (t : ByteArray) : Nat → Dk
  | 0 => D
  | 1 => D.flush.1
  | 2 => (D.flush.1.write nx t).1
  | _ => (D.flush.1.write nx t).1.flush.1
def pubE (D : Dk) (nx : Int) (t : ByteArray) : Nat → Int
  | 0 => D.flush.2
  | 1 => (D.flush.1.write nx t).2
  | _ => (D.flush.1.write nx t).1.flush.2
theorem pub_0 {D : Dk} {nx : Int} {t : ByteArray} (h : D.pubE nx t 0 ≠ 0) : D.pub nx t = (D.pubD nx t 1, D.pubE nx t 0) := by
  rw [pub, if_pos (show D.flush.2 ≠ 0 from h)]; rfl
theorem pub_1 {D : Dk} {nx : Int} {t : ByteArray} (h0 : D.pubE nx t 0 = 0) (h : D.pubE nx t 1 ≠ 0) : D.pub nx t = (D.pubD nx t 2, D.pubE nx t 1) := by
  rw [pub, if_neg (fun x => x h0), if_pos (show (D.flush.1.write nx t).2 ≠ 0 from h)]; rfl
theorem pub_2 {D : Dk} {nx : Int} {t : ByteArray} (h0 : D.pubE nx t 0 = 0) (h1 : D.pubE nx t 1 = 0) : D.pub nx t = (D.pubD nx t 3, D.pubE nx t 2) := by
  rw [pub, if_neg (fun x => x h0), if_neg (fun x => x h1)]; rfl
end Dk

def rowFns (L : Loc) (B b : Nat) : Array Value :=
  #[.func (.func 35) #[.pointer (some ⟨L.a, 0, none⟩)] #[], .func (.func 62) #[] #[.pointer (some ⟨B, 0, none⟩), .pointer (some ⟨b, 0, none⟩), .pointer (some ⟨B + 1, 0, none⟩)], .func (.func 35) #[.pointer (some ⟨L.a, 0, none⟩)] #[]]

/-- Within Publish, behind the steps' making. -/
structure PubAt (w : World) (B S b g : Nat) (L : Loc) (D : Dk) (now most nx : Int) (r : Rt) (wr : World) : Prop where
  st : StepAt L.foot w B S b L D now most nx r wr
  res : RootIn wr (B + 1 + 1) Rt.zero
  row : wr.heap[g]? = some (.cells (rowFns L B b) 62 (0, 0))
namespace PubAt
variable {w w1 w2 : World} {B S b g : Nat} {L : Loc} {D D' : Dk} {now most nx : Int} {r : Rt}
theorem call (h : PubAt w B S b g L D now most nx r w1) (hd : DiskAt w2 L D') (k : Keep L.foot w1 w2) (hB : ∀ i, L.foot i → i < B) (hb : B ≤ b) (hg : B ≤ g) (hS : ¬ L.foot S) : PubAt w B S b g L D' now most nx r w2 :=
  ⟨⟨hd, h.st.slots.keep k hS, k.heap h.st.box (fun x => by have := hB _ x; omega), k.heap h.st.num (fun x => by have := hB _ x; omega), h.st.root.keep k (fun x => by have := hB _ x; omega), h.st.old.andThen k (fun _ _ x => x)⟩,
    h.res.keep k (fun x => by have := hB _ x; omega), k.heap h.row (fun x => by have := hB _ x; omega)⟩
theorem fn0 (h : PubAt w B S b g L D now most nx r w1) : w1.cell? ⟨g, 0, none⟩ = some (.func (.func 35) #[.pointer (some ⟨L.a, 0, none⟩)] #[]) := (cell_of_heap h.row 0).trans rfl
theorem fn1 (h : PubAt w B S b g L D now most nx r w1) : w1.cell? ⟨g, 1, none⟩ = some (.func (.func 62) #[] #[.pointer (some ⟨B, 0, none⟩), .pointer (some ⟨b, 0, none⟩), .pointer (some ⟨B + 1, 0, none⟩)]) := (cell_of_heap h.row 1).trans rfl
theorem fn2 (h : PubAt w B S b g L D now most nx r w1) : w1.cell? ⟨g, 2, none⟩ = some (.func (.func 35) #[.pointer (some ⟨L.a, 0, none⟩)] #[]) := (cell_of_heap h.row 2).trans rfl
end PubAt

/-- Where the steps' loop stands. -/
def PubRel (w : World) (B S b g : Nat) (L : Loc) (D : Dk) (now most nx : Int) (r : Rt) (i : Value) (wr : World) : Prop :=
  (i = .int .i64 0 ∧ PubAt w B S b g L (D.pubD nx r.text 0) now most nx r wr) ∨
  (i = .int .i64 1 ∧ D.pubE nx r.text 0 = 0 ∧ PubAt w B S b g L (D.pubD nx r.text 1) now most nx r wr) ∨
  (i = .int .i64 2 ∧ D.pubE nx r.text 0 = 0 ∧ D.pubE nx r.text 1 = 0 ∧ PubAt w B S b g L (D.pubD nx r.text 2) now most nx r wr) ∨
  (i = .int .i64 3 ∧ D.pubE nx r.text 0 = 0 ∧ D.pubE nx r.text 1 = 0 ∧ D.pubE nx r.text 2 = 0 ∧ PubAt w B S b g L (D.pubD nx r.text 3) now most nx r wr)

/-- What Publish leaves. -/
def PubPost (w : World) (S : Nat) (L : Loc) (D : Dk) (now most : Int) (r : Rt) (e : Ending) (w' : World) : Prop :=
  (D.pub ((now + 1) % 2) r.text).2 ≠ 0 ∧ e = .returned (.tuple #[.agg (rcells Rt.zero), .int .i64 (D.pub ((now + 1) % 2) r.text).2]) ∧ DiskAt w' L (D.pub ((now + 1) % 2) r.text).1 ∧ SlotsAt w' S L now most ∧ Keep L.foot w w' ∨
  (D.pub ((now + 1) % 2) r.text).2 = 0 ∧ e = .returned (.tuple #[.agg (rcells r), .int .i64 0]) ∧ DiskAt w' L (D.pub ((now + 1) % 2) r.text).1 ∧ SlotsAt w' S L ((now + 1) % 2) r.epoch ∧ Keep (fun k => L.foot k ∨ k = S) w w'

set_option maxHeartbeats 1000000 in
set_option maxRecDepth 100000 in
theorem root_Publish_no (w : World) (S : Nat) (r : Rt) (hv : r.validB = false) :
    Calls Try.prog 31 #[.pointer (some ⟨S, 0, none⟩), .agg #[.int .u64 r.epoch, .int .i64 r.half, .int .i64 r.page, .int .i64 r.next, .int .i64 r.count, .int .i64 r.height]] w fun e w' => e = .returned (.tuple #[.agg (rcells Rt.zero), .int .i64 1]) ∧ Below w.heap.size w w' := by
  have CV := Lib.hid (fun W => valid_any r W)
  rw [hv] at CV
  clear hv
  go_enter Try.func31, Try.ntmps31
  go_wp2_with fail
  refine (CV.out _).mono ?_
  rintro e w1 ⟨rfl, hb⟩
  have hs := hb.size
  simp only [World.size_alloc] at hs
  have hr : RootIn w1 (w.heap.size + 1 + 1) Rt.zero := by
    unfold RootIn
    rw [hb.block _ (by simp)]
    have := heap_alloc_self ((w.alloc (.cells #[.pointer (some ⟨S, 0, none⟩)] 51 (0, 0))).alloc (.cells (rcells r) 50 (0, 0))) (.cells (rcells Rt.zero) 50 (0, 0))
    rw [World.size_alloc, World.size_alloc] at this
    exact this
  have HB := Lib.hid (show Below w.heap.size w w1 from bel_then (bel_alloc (bel_alloc (bel_alloc (Below.refl _ _) _) _) _) hb)
  have r0 := hr.cells
  have fr := hr.frz
  have HR := Lib.hid hr
  clear hr hb hs
  go_wp2_with fail
  have HB' := Lib.hid (show Below w.heap.size w (setRoot w1 (w.heap.size + 1 + 1) Rt.zero) from bel_keep HB.out (setRoot_keep w1 _ Rt.zero) (fun i hi => by subst hi; omega))
  have hr := setRoot_in HR.out Rt.zero
  unfold RootIn setRoot at hr
  unfold setRoot at HB'
  refine bodyPost_ret (v := .tuple #[.agg (rcells Rt.zero), .int .i64 1]) ?_ rfl ?_
  · refine PrintWords.results_list (rs := [.cell 4 50, .tmp 5]) (vs := [.agg (rcells Rt.zero), .int .i64 1]) rfl (by simp) ?_
    exact .cell (w.heap.size + 1 + 1) 50 (rcells Rt.zero) (0, 0) _ rfl hr Try.underlying50 rfl (by kernel_rfl) (.tmp .nil)
  · exact ⟨rfl, HB'.out⟩

set_option maxHeartbeats 2000000 in
set_option maxRecDepth 100000 in
theorem root_Publish_yes (w : World) (S : Nat) (L : Loc) (D : Dk) (now most : Int) (r : Rt) (h : DiskAt w L D) (hS : SlotsAt w S L now most) (hne : ¬ L.foot S) (hv : r.validB = true) (hn0 : -1 ≤ now) (hn1 : now ≤ 1) :
    Calls Try.prog 31 #[.pointer (some ⟨S, 0, none⟩), .agg #[.int .u64 r.epoch, .int .i64 r.half, .int .i64 r.page, .int .i64 r.next, .int .i64 r.count, .int .i64 r.height]] w fun e w' => PubPost w S L D now most { r with epoch := IntKind.u64.wrap (most + 1) } e w' := by
  have CV := Lib.hid (fun W => valid_any r W)
  have hp := Lib.hid (valid_page hv)
  have HS0 := Lib.hid hS.lt
  have HFT := Lib.hid (fun k (hk : L.foot k) => h.foot_lt hk)
  rw [hv] at CV
  clear hv
  have HN := Lib.hid hne
  clear hne
  go_enter Try.func31, Try.ntmps31
  go_wp2_with fail
  refine (CV.out _).mono ?_
  rintro e w1 ⟨rfl, hb⟩
  have hs := hb.size
  simp only [World.size_alloc] at hs
  have hx : w1.heap[w.heap.size]? = some (.cells #[.pointer (some ⟨S, 0, none⟩)] 51 (0, 0)) := by
    rw [hb.block _ (by simp; omega)]
    exact heap_alloc_old (heap_alloc_old (heap_alloc_self w _) _) _
  have hq : RootIn w1 (w.heap.size + 1) r := by
    unfold RootIn
    rw [hb.block _ (by simp)]
    have := heap_alloc_self (w.alloc (.cells #[.pointer (some ⟨S, 0, none⟩)] 51 (0, 0))) (.cells (rcells r) 50 (0, 0))
    rw [World.size_alloc] at this
    exact heap_alloc_old this _
  have hr : RootIn w1 (w.heap.size + 1 + 1) Rt.zero := by
    unfold RootIn
    rw [hb.block _ (by simp)]
    have := heap_alloc_self ((w.alloc (.cells #[.pointer (some ⟨S, 0, none⟩)] 51 (0, 0))).alloc (.cells (rcells r) 50 (0, 0))) (.cells (rcells Rt.zero) 50 (0, 0))
    rw [World.size_alloc, World.size_alloc] at this
    exact this
  have hB : Below w.heap.size w w1 := bel_then (bel_alloc (bel_alloc (bel_alloc (Below.refl _ _) _) _) _) hb
  have h1 := h.below hB
  have hS1 := hS.below hB
  have c1 : w1.cell? ⟨w.heap.size, 0, none⟩ = some (.pointer (some ⟨S, 0, none⟩)) := (cell_of_heap hx 0).trans rfl
  have s0 := hS1.cell0
  have s1 := hS1.cell1
  have s2 := hS1.cell2
  have g1 : (w1.alloc (.cells #[.int .i64 ((now + 1) % 2)] 3 (0, 0))).cell? ⟨w.heap.size, 0, none⟩ = some (.pointer (some ⟨S, 0, none⟩)) := (cell_of_heap (heap_alloc_old hx _) 0).trans rfl
  have g2 := (hS1.alloc (.cells #[.int .i64 ((now + 1) % 2)] 3 (0, 0))).cell2
  have g0 := (hS1.alloc (.cells #[.int .i64 ((now + 1) % 2)] 3 (0, 0))).cell0
  have g3 := (hq.alloc (.cells #[.int .i64 ((now + 1) % 2)] 3 (0, 0))).cells.1
  have g4 := (hq.alloc (.cells #[.int .i64 ((now + 1) % 2)] 3 (0, 0))).frz 0
  have HX3 := Lib.hid (show StepAt (fun _ => False) w w.heap.size S w1.heap.size L D now most ((now + 1) % 2) { r with epoch := IntKind.u64.wrap (most + 1) } ((w1.alloc (.cells #[.int .i64 ((now + 1) % 2)] 3 (0, 0))).setCell ⟨w.heap.size + 1, 0, none⟩ (.int .u64 (IntKind.u64.wrap (most + 1)))) from
    ⟨(h1.alloc _).setCell (fun hf => by have := h.foot_lt hf; simp at this; omega) _, (hS1.alloc _).setCell (by have := hS.lt; simp; omega) _,
      heap_setCell_ne (heap_alloc_old hx _) _ _ (by omega), heap_setCell_ne (heap_alloc_self w1 _) _ _ (by have := hq.lt; omega), heap_setCell_same (hq.alloc _) 0 _, ((Keep.below hB).alloc _).setCell (.inr (by simp)) _⟩)
  have HB1 := Lib.hid hB.size
  have HR3 := Lib.hid (show RootIn ((w1.alloc (.cells #[.int .i64 ((now + 1) % 2)] 3 (0, 0))).setCell ⟨w.heap.size + 1, 0, none⟩ (.int .u64 (IntKind.u64.wrap (most + 1)))) (w.heap.size + 1 + 1) Rt.zero from (hr.alloc _).setCell (by simp) _)
  clear hb hs hx hq hr hB h1 hS1 h hS
  go_wp2_with fail
  generalize (w1.alloc (.cells #[.int .i64 ((now + 1) % 2)] 3 (0, 0))).setCell ⟨w.heap.size + 1, 0, none⟩ (.int .u64 (IntKind.u64.wrap (most + 1))) = w3 at *
  obtain ⟨f0, f1, -⟩ := HX3.out.facts
  clear c1 s0 s1 s2 g1 g2 g0 g3 g4
  go_region
  go_wp2_with fail
  have HBW := Lib.hid HX3.out.old.size
  have HP0 := Lib.hid (show PubAt w w.heap.size S w1.heap.size w3.heap.size L D now most ((now + 1) % 2) { r with epoch := IntKind.u64.wrap (most + 1) } (w3.alloc (.cells (rowFns L w.heap.size w1.heap.size) 62 (0, 0))).drew from
    ⟨((HX3.out.below ((Below.refl _ _).alloc (Nat.le_refl _) _)).drew).monoF (fun _ _ h => h.elim), HR3.out.alloc _, heap_alloc_self w3 _⟩)
  clear f0 f1 HX3 HR3 CV
  have HPV := Lib.hid (show -1 ≤ ({ r with epoch := IntKind.u64.wrap (most + 1) } : Rt).page ∧ ({ r with epoch := IntKind.u64.wrap (most + 1) } : Rt).page ≤ 2147483647 from hp.out)
  clear hp
  generalize hrr : ({ r with epoch := IntKind.u64.wrap (most + 1) } : Rt) = r' at *
  generalize hnx : (now + 1) % 2 = nx at *
  have HRR := Lib.hid hrr
  have HNX := Lib.hid hnx
  have HPP := Lib.hid (show ∀ e w', PubPost w S L D now most { r with epoch := IntKind.u64.wrap (most + 1) } e w' ↔ PubPost w S L D now most r' e w' from fun e w' => by rw [hrr])
  clear hrr hnx
  go_loopw [41] (fun i wr => PubRel w w.heap.size S w1.heap.size w3.heap.size L D now most nx r' i wr) (fun i _ => 3 - (intOf i).toNat)
  case atStart => exact .inl ⟨rfl, HP0.out⟩
  case round =>
    rcases hrel with ⟨rfl, hP⟩ | ⟨rfl, hE0, hP⟩ | ⟨rfl, hE0, hE1, hP⟩ | ⟨rfl, hE0, hE1, hE2, hP⟩
    · have c0 := hP.fn0
      have HP := Lib.hid hP
      have CC := disk_Flush wr L (D.pubD nx r'.text 0) hP.st.disk
      have e1 : (D.pubD nx r'.text 0).flush.2 = D.pubE nx r'.text 0 := rfl
      have e2 : (D.pubD nx r'.text 0).flush.1 = D.pubD nx r'.text 1 := rfl
      rw [e1, e2] at CC
      clear e1 e2 hP
      by_cases hz : D.pubE nx r'.text 0 = 0
      · rw [hz] at CC
        have CC' := Lib.hid CC
        have HZ := Lib.hid hz
        clear CC hz
        go_wp2_with fail
        refine CC'.out.mono ?_
        rintro e w2 ⟨rfl, hd, hk⟩
        have HP2 := Lib.hid (HP.out.call hd hk HFT.out HB1.out HBW.out HN.out)
        clear hd hk
        go_wp2_with fail
        go_roundw
        case rel => exact .inr (.inl ⟨rfl, HZ.out, HP2.out⟩)
        case measure => simp [intOf]
      · have HZ := Lib.hid hz
        have HV := Lib.hid (show (D.pub nx r'.text) = (D.pubD nx r'.text 1, D.pubE nx r'.text 0) from Dk.pub_0 hz)
        generalize D.pubE nx r'.text 0 = x at *
        have x1 : (x == 0) = false := beq_eq_false_iff_ne.2 hz
        have x2 : (x != 0) = true := bne_iff_ne.2 hz
        have CC' := Lib.hid CC
        clear CC hz
        go_wp2_with fail
        refine CC'.out.mono ?_
        rintro e w2 ⟨rfl, hd, hk⟩
        have HP2 := Lib.hid (HP.out.call hd hk HFT.out HB1.out HBW.out HN.out)
        have r0 := HP2.out.res.cells
        have fr := HP2.out.res.frz
        clear hd hk
        go_wp2_with fail
        have HB' := Lib.hid (show Keep L.foot w (setRoot w2 (w.heap.size + 1 + 1) Rt.zero) from HP2.out.st.old.andThen (setRoot_keep w2 _ Rt.zero) (fun i hi hx => by omega))
        have HD' := Lib.hid (show DiskAt (setRoot w2 (w.heap.size + 1 + 1) Rt.zero) L (D.pubD nx r'.text 1) from HP2.out.st.disk.keep (setRoot_keep w2 _ Rt.zero) (fun i hi hx => by have := HFT.out _ hi; omega))
        have HS' := Lib.hid (show SlotsAt (setRoot w2 (w.heap.size + 1 + 1) Rt.zero) S L now most from HP2.out.st.slots.keep (setRoot_keep w2 _ Rt.zero) (by have := HS0.out; omega))
        have hr := setRoot_in HP2.out.res Rt.zero
        unfold RootIn setRoot at hr
        unfold setRoot at HB' HD' HS'
        refine bodyPost_ret (v := .tuple #[.agg (rcells Rt.zero), .int .i64 x]) ?_ rfl ?_
        · refine PrintWords.results_list (rs := [.cell 4 50, .tmp 5]) (vs := [.agg (rcells Rt.zero), .int .i64 x]) rfl (by simp) ?_
          exact .cell (w.heap.size + 1 + 1) 50 (rcells Rt.zero) (0, 0) _ rfl hr Try.underlying50 rfl (by kernel_rfl) (.tmp .nil)
        · refine (HPP.out _ _).2 (.inl ?_)
          rw [HNX.out, HV.out]
          exact ⟨HZ.out, rfl, HD'.out, HS'.out, HB'.out⟩
    · have c1 := hP.fn1
      have HP := Lib.hid hP
      have HE0 := Lib.hid hE0
      have CC := root_step wr w.heap.size S w1.heap.size L (D.pubD nx r'.text 1) now most nx r' ⟨hP.st.disk, hP.st.slots, hP.st.box, hP.st.num, hP.st.root, Keep.refl _ _⟩ HPV.out (fun h => Nat.lt_irrefl _ (HFT.out _ h)) HN.out (fun h => by have := HFT.out _ h; have := HB1.out; omega) (fun h => by have := HFT.out _ h; omega)
      have e1 : ((D.pubD nx r'.text 1).write nx r'.text).2 = D.pubE nx r'.text 1 := rfl
      have e2 : ((D.pubD nx r'.text 1).write nx r'.text).1 = D.pubD nx r'.text 2 := rfl
      rw [e1, e2] at CC
      clear e1 e2 hP hE0
      by_cases hz : D.pubE nx r'.text 1 = 0
      · rw [hz] at CC
        have CC' := Lib.hid CC
        have HZ := Lib.hid hz
        clear CC hz
        go_wp2_with fail
        refine CC'.out.mono ?_
        rintro e w2 ⟨rfl, hd, hk⟩
        have HP2 := Lib.hid (HP.out.call hd hk HFT.out HB1.out HBW.out HN.out)
        clear hd hk
        go_wp2_with fail
        go_roundw
        case rel => exact .inr (.inr (.inl ⟨rfl, HE0.out, HZ.out, HP2.out⟩))
        case measure => simp [intOf]
      · have HZ := Lib.hid hz
        have HV := Lib.hid (show (D.pub nx r'.text) = (D.pubD nx r'.text 2, D.pubE nx r'.text 1) from Dk.pub_1 HE0.out hz)
        generalize D.pubE nx r'.text 1 = x at *
        have x1 : (x == 0) = false := beq_eq_false_iff_ne.2 hz
        have x2 : (x != 0) = true := bne_iff_ne.2 hz
        have CC' := Lib.hid CC
        clear CC hz
        go_wp2_with fail
        refine CC'.out.mono ?_
        rintro e w2 ⟨rfl, hd, hk⟩
        have HP2 := Lib.hid (HP.out.call hd hk HFT.out HB1.out HBW.out HN.out)
        have r0 := HP2.out.res.cells
        have fr := HP2.out.res.frz
        clear hd hk
        go_wp2_with fail
        have HB' := Lib.hid (show Keep L.foot w (setRoot w2 (w.heap.size + 1 + 1) Rt.zero) from HP2.out.st.old.andThen (setRoot_keep w2 _ Rt.zero) (fun i hi hx => by omega))
        have HD' := Lib.hid (show DiskAt (setRoot w2 (w.heap.size + 1 + 1) Rt.zero) L (D.pubD nx r'.text 2) from HP2.out.st.disk.keep (setRoot_keep w2 _ Rt.zero) (fun i hi hx => by have := HFT.out _ hi; omega))
        have HS' := Lib.hid (show SlotsAt (setRoot w2 (w.heap.size + 1 + 1) Rt.zero) S L now most from HP2.out.st.slots.keep (setRoot_keep w2 _ Rt.zero) (by have := HS0.out; omega))
        have hr := setRoot_in HP2.out.res Rt.zero
        unfold RootIn setRoot at hr
        unfold setRoot at HB' HD' HS'
        refine bodyPost_ret (v := .tuple #[.agg (rcells Rt.zero), .int .i64 x]) ?_ rfl ?_
        · refine PrintWords.results_list (rs := [.cell 4 50, .tmp 5]) (vs := [.agg (rcells Rt.zero), .int .i64 x]) rfl (by simp) ?_
          exact .cell (w.heap.size + 1 + 1) 50 (rcells Rt.zero) (0, 0) _ rfl hr Try.underlying50 rfl (by kernel_rfl) (.tmp .nil)
        · refine (HPP.out _ _).2 (.inl ?_)
          rw [HNX.out, HV.out]
          exact ⟨HZ.out, rfl, HD'.out, HS'.out, HB'.out⟩
    · have c2 := hP.fn2
      have HP := Lib.hid hP
      have HE0 := Lib.hid hE0
      have HE1 := Lib.hid hE1
      have CC := disk_Flush wr L (D.pubD nx r'.text 2) hP.st.disk
      have e1 : (D.pubD nx r'.text 2).flush.2 = D.pubE nx r'.text 2 := rfl
      have e2 : (D.pubD nx r'.text 2).flush.1 = D.pubD nx r'.text 3 := rfl
      rw [e1, e2] at CC
      clear e1 e2 hP hE0 hE1
      by_cases hz : D.pubE nx r'.text 2 = 0
      · rw [hz] at CC
        have CC' := Lib.hid CC
        have HZ := Lib.hid hz
        clear CC hz
        go_wp2_with fail
        refine CC'.out.mono ?_
        rintro e w2 ⟨rfl, hd, hk⟩
        have HP2 := Lib.hid (HP.out.call hd hk HFT.out HB1.out HBW.out HN.out)
        clear hd hk
        go_wp2_with fail
        go_roundw
        case rel => exact .inr (.inr (.inr ⟨rfl, HE0.out, HE1.out, HZ.out, HP2.out⟩))
        case measure => simp [intOf]
      · have HZ := Lib.hid hz
        have HV := Lib.hid (show (D.pub nx r'.text) = (D.pubD nx r'.text 3, D.pubE nx r'.text 2) from Dk.pub_2 HE0.out HE1.out)
        generalize D.pubE nx r'.text 2 = x at *
        have x1 : (x == 0) = false := beq_eq_false_iff_ne.2 hz
        have x2 : (x != 0) = true := bne_iff_ne.2 hz
        have CC' := Lib.hid CC
        clear CC hz
        go_wp2_with fail
        refine CC'.out.mono ?_
        rintro e w2 ⟨rfl, hd, hk⟩
        have HP2 := Lib.hid (HP.out.call hd hk HFT.out HB1.out HBW.out HN.out)
        have r0 := HP2.out.res.cells
        have fr := HP2.out.res.frz
        clear hd hk
        go_wp2_with fail
        have HB' := Lib.hid (show Keep L.foot w (setRoot w2 (w.heap.size + 1 + 1) Rt.zero) from HP2.out.st.old.andThen (setRoot_keep w2 _ Rt.zero) (fun i hi hx => by omega))
        have HD' := Lib.hid (show DiskAt (setRoot w2 (w.heap.size + 1 + 1) Rt.zero) L (D.pubD nx r'.text 3) from HP2.out.st.disk.keep (setRoot_keep w2 _ Rt.zero) (fun i hi hx => by have := HFT.out _ hi; omega))
        have HS' := Lib.hid (show SlotsAt (setRoot w2 (w.heap.size + 1 + 1) Rt.zero) S L now most from HP2.out.st.slots.keep (setRoot_keep w2 _ Rt.zero) (by have := HS0.out; omega))
        have hr := setRoot_in HP2.out.res Rt.zero
        unfold RootIn setRoot at hr
        unfold setRoot at HB' HD' HS'
        refine bodyPost_ret (v := .tuple #[.agg (rcells Rt.zero), .int .i64 x]) ?_ rfl ?_
        · refine PrintWords.results_list (rs := [.cell 4 50, .tmp 5]) (vs := [.agg (rcells Rt.zero), .int .i64 x]) rfl (by simp) ?_
          exact .cell (w.heap.size + 1 + 1) 50 (rcells Rt.zero) (0, 0) _ rfl hr Try.underlying50 rfl (by kernel_rfl) (.tmp .nil)
        · refine (HPP.out _ _).2 (.inl ?_)
          rw [HNX.out, HV.out]
          exact ⟨HZ.out, rfl, HD'.out, HS'.out, HB'.out⟩
    · have HV := Lib.hid (show (D.pub nx r'.text) = (D.pubD nx r'.text 3, 0) from by rw [Dk.pub_2 hE0 hE1, hE2])
      have HP := Lib.hid hP
      obtain ⟨f0, f1, f2, f3, f4, f5, f6, f7, f8⟩ := hP.st.facts
      have s1 := hP.st.slots.cell1
      have s2 := hP.st.slots.cell2
      have fs := hP.st.slots.frz
      have r0 := hP.res.cells
      have fr := hP.res.frz
      clear hP hE0 hE1 hE2
      go_wp2_with fail
      go_region
      have HX := Lib.hid (show PubAt w w.heap.size S w1.heap.size w3.heap.size L (D.pubD nx r'.text 3) now most nx r' wr from HP.out)
      have h5 := ((HP.out.st.root.setCell (p := ⟨S, 1, none⟩) (by have := HS0.out; simp; omega) (.int .i64 nx)).setCell (p := ⟨S, 2, none⟩) (by have := HS0.out; simp; omega) (.int .u64 r'.epoch)).cells
      have h6 := ((HP.out.res.setCell (p := ⟨S, 1, none⟩) (by have := HS0.out; simp; omega) (.int .i64 nx)).setCell (p := ⟨S, 2, none⟩) (by have := HS0.out; simp; omega) (.int .u64 r'.epoch)).cells
      have h7 := ((HP.out.res.setCell (p := ⟨S, 1, none⟩) (by have := HS0.out; simp; omega) (.int .i64 nx)).setCell (p := ⟨S, 2, none⟩) (by have := HS0.out; simp; omega) (.int .u64 r'.epoch)).frz
      clear f3 f4 f5 f6 f7 f8 r0 fr
      go_wp2_with fail
      have HRX := Lib.hid ((HP.out.res.setCell (p := ⟨S, 1, none⟩) (by have := HS0.out; simp; omega) (.int .i64 nx)).setCell (p := ⟨S, 2, none⟩) (by have := HS0.out; simp; omega) (.int .u64 r'.epoch))
      have HDX := Lib.hid ((HP.out.st.disk.setCell (a := ⟨S, 1, none⟩) HN.out (.int .i64 nx)).setCell (a := ⟨S, 2, none⟩) HN.out (.int .u64 r'.epoch))
      have HSX := Lib.hid ((HP.out.st.slots.setNow nx).setMost r'.epoch)
      have HKX := Lib.hid (((HP.out.st.old.mono (G := fun k => L.foot k ∨ k = S) (fun _ _ h => .inl h)).setCell (p := ⟨S, 1, none⟩) (.inl (.inr rfl)) (.int .i64 nx)).setCell (p := ⟨S, 2, none⟩) (.inl (.inr rfl)) (.int .u64 r'.epoch))
      clear h5 h6 h7 HX s1 s2 fs f0 f1 f2
      generalize (wr.setCell ⟨S, 1, none⟩ (.int .i64 nx)).setCell ⟨S, 2, none⟩ (.int .u64 r'.epoch) = wx at *
      have HB' := Lib.hid (show Keep (fun k => L.foot k ∨ k = S) w (setRoot wx (w.heap.size + 1 + 1) r').drew from (HKX.out.andThen (setRoot_keep wx _ r') (fun i hi hx => by omega)).drew)
      have HD' := Lib.hid (show DiskAt (setRoot wx (w.heap.size + 1 + 1) r').drew L (D.pubD nx r'.text 3) from (HDX.out.keep (setRoot_keep wx _ r') (fun i hi hx => by have := HFT.out _ hi; omega)).drew)
      have HS' := Lib.hid (show SlotsAt (setRoot wx (w.heap.size + 1 + 1) r').drew S L nx r'.epoch from HSX.out.keep ((setRoot_keep wx (w.heap.size + 1 + 1) r').drew) (by have := HS0.out; omega))
      have hr := setRoot_in HRX.out r'
      unfold RootIn setRoot at hr
      unfold setRoot at HB' HD' HS'
      have hr' := heap_drew hr
      refine bodyPost_ret (v := .tuple #[.agg (rcells r'), .int .i64 0]) ?_ rfl ?_
      · refine PrintWords.results_list (rs := [.cell 4 50, .tmp 5]) (vs := [.agg (rcells r'), .int .i64 0]) rfl (by simp) ?_
        exact .cell (w.heap.size + 1 + 1) 50 (rcells r') (0, 0) _ rfl hr' Try.underlying50 rfl (by kernel_rfl) (.tmp .nil)
      · refine (HPP.out _ _).2 (.inr ?_)
        rw [HNX.out, HV.out]
        exact ⟨rfl, rfl, HD'.out, HS'.out, HB'.out⟩
end Go.Proofs.Ytcbefilcdelplaa

namespace Go.Proofs.Ytcbefilcdelplaa
open Go.RowKit
open Proot (Rt)
set_option linter.unusedVariables false
set_option linter.unusedSimpArgs false

def r5 : Rt := ⟨0, 0, -1, 0, 5, 0⟩
def r5' : Rt := ⟨1, 0, -1, 0, 5, 0⟩
theorem make_found : (Dk.make 2).found 2 = Found.start := by kernel_rfl
theorem make_down : (Dk.make 2).down = false := rfl
theorem r5_valid : r5.validB = true := by kernel_rfl
theorem pub5_e : ((Dk.make 2).pub 0 r5'.text).2 = 0 := by kernel_rfl
theorem pub5_down : ((Dk.make 2).pub 0 r5'.text).1.down = false := by kernel_rfl
theorem pub5_out : (((Dk.make 2).pub 0 r5'.text).1.found 2).out = r5' := by kernel_rfl
theorem pub5_now : (((Dk.make 2).pub 0 r5'.text).1.found 2).now = 0 := by kernel_rfl
end Go.Proofs.Ytcbefilcdelplaa

namespace Go.Proofs.Ytcbefilcdelplaa
open Go.RowKit
open Proot (Rt)
open Go.Proofs.YtcbefilcdelplaaW
set_option linter.unusedVariables false
set_option linter.unusedSimpArgs false

section
open PrintWords
theorem eqA50 (d : Nat) (w : World) (x0 y0 : Int) (x1 y1 : Int) (x2 y2 : Int) (x3 y3 : Int) (x4 y4 : Int) (x5 y5 : Int) :
    (Op.equalIn (d + 2) 50 (.agg #[.int .u64 x0, .int .i64 x1, .int .i64 x2, .int .i64 x3, .int .i64 x4, .int .i64 x5]) (.agg #[.int .u64 y0, .int .i64 y1, .int .i64 y2, .int .i64 y3, .int .i64 y4, .int .i64 y5])).run Try.prog w = .ok (x0 == y0 && (x1 == y1 && (x2 == y2 && (x3 == y3 && (x4 == y4 && (x5 == y5)))))) w := by
  refine eqA_of Try.underlying50 (by kernel_rfl) ?_
  refine eqf_cons (by rfl) (by go_simp; rfl) (by go_simp; rfl) (by go_simp) ?_
  refine eqf_cons (by rfl) (by go_simp; rfl) (by go_simp; rfl) (by go_simp) ?_
  refine eqf_cons (by rfl) (by go_simp; rfl) (by go_simp; rfl) (by go_simp) ?_
  refine eqf_cons (by rfl) (by go_simp; rfl) (by go_simp; rfl) (by go_simp) ?_
  refine eqf_cons (by rfl) (by go_simp; rfl) (by go_simp; rfl) (by go_simp) ?_
  exact eqf_last (by rfl) (by go_simp; rfl) (by go_simp; rfl) (by go_simp)
end

/-- The numbers that Publish goes on with, behind a first Open of a fresh disk. -/
theorem start_nums : Found.start.now = -1 ∧ Found.start.most = 0 := ⟨rfl, rfl⟩

/-- awake's first Publish. -/
theorem pub5_post {w : World} {S : Nat} {L : Loc} {e : Ending} {w' : World} (h : PubPost w S L (Dk.make 2) (-1) 0 { r5 with epoch := IntKind.u64.wrap (0 + 1) } e w') :
    e = .returned (.tuple #[.agg #[.int .u64 1, .int .i64 0, .int .i64 (-1), .int .i64 0, .int .i64 5, .int .i64 0], .int .i64 0]) ∧ DiskAt w' L ((Dk.make 2).pub 0 r5'.text).1 ∧ Keep (fun k => L.foot k ∨ k = S) w w' := by
  have e1 : ({ r5 with epoch := IntKind.u64.wrap (0 + 1) } : Rt) = r5' := by
    rw [show IntKind.u64.wrap (0 + 1) = 1 from by rw [IntKind.wrap_u64]; rfl]; rfl
  have e2 : (-1 + 1 : Int) % 2 = 0 := rfl
  rw [e1] at h
  unfold PubPost at h
  rw [e2] at h
  rcases h with ⟨h, _⟩ | ⟨_, h1, h2, _, h4⟩
  · exact absurd pub5_e h
  · exact ⟨h1, h2, h4⟩
theorem open5 (w : World) (L : Loc) (h : DiskAt w L ((Dk.make 2).pub 0 r5'.text).1) :
    Calls Try.prog 29 #[.pointer (some ⟨L.a, 0, none⟩)] w fun e w' => e = .returned (.tuple #[.pointer (some ⟨w.heap.size + 1, 0, none⟩), .agg #[.int .u64 1, .int .i64 0, .int .i64 (-1), .int .i64 0, .int .i64 5, .int .i64 0], .bool true, .int .i64 0]) ∧ Below w.heap.size w w' := by
  have C := root_Open_up w L _ h pub5_down
  rw [pub5_out, pub5_now] at C
  exact C.mono fun e w' h => ⟨h.1, h.2.2⟩

set_option maxHeartbeats 2000000 in
set_option maxRecDepth 100000 in
theorem law6_awake (w : World) : Calls Try.prog 28 #[] w fun e w' => e = .returned (.bool true) ∧ Below w.heap.size w w' := by
  have CN := Lib.hid (disk_New 2 w)
  have hE := eqA50
  go_enter Try.func28, Try.ntmps28
  go_wp2_with fail
  refine CN.out.mono ?_
  rintro e w1 ⟨L, rfl, d1, hf, hb1⟩
  have HF := Lib.hid hf
  have HB1 := Lib.hid hb1
  have CO := root_Open_up w1 L (Dk.make 2) d1 make_down
  rw [make_found] at CO
  have CO' := Lib.hid (show Calls Try.prog 29 #[.pointer (some ⟨L.a, 0, none⟩)] w1 fun e w' => e = .returned (.tuple #[.pointer (some ⟨w1.heap.size + 1, 0, none⟩), .agg #[.int .u64 0, .int .i64 0, .int .i64 0, .int .i64 0, .int .i64 0, .int .i64 0], .bool false, .int .i64 0]) ∧ SlotsAt w' (w1.heap.size + 1) L (-1) 0 ∧ Below w1.heap.size w1 w' from CO)
  have D1 := Lib.hid d1
  clear hf hb1 CO CN d1
  go_wp2_with fail
  refine CO'.out.mono ?_
  rintro e w2 ⟨rfl, hs2, hb2⟩
  have D2 := Lib.hid (D1.out.below hb2)
  have S2 := Lib.hid hs2
  have HB2 := Lib.hid (bel_then HB1.out hb2)
  have FT := Lib.hid (fun k (hk : L.foot k) => D1.out.foot_lt hk)
  clear hs2 hb2 CO'
  go_wp2_with fail
  have CP := root_Publish_yes (w2.alloc (.cells #[.int .u64 0, .int .i64 0, .int .i64 0, .int .i64 0, .int .i64 0, .int .i64 0] 50 (0, 0))) (w1.heap.size + 1) L (Dk.make 2) (-1) 0 r5 (D2.out.alloc _) (S2.out.alloc _) (fun h => by have := FT.out _ h; omega) r5_valid (by decide) (by decide)
  refine CP.mono ?_
  clear CP
  rintro e w3 hq
  obtain ⟨rfl, d3, k3⟩ := pub5_post hq
  have HB3 := Lib.hid (bel_keep (bel_alloc HB2.out _) k3 (fun i hi => by rcases hi with hi | rfl; exact HF.out _ hi; have := HB1.out.size; omega))
  have CO2 := Lib.hid (fun o => open5 (w3.alloc o) L (d3.alloc o))
  clear hq d3 k3 S2 D2
  go_wp2_with fail
  refine (CO2.out _).mono ?_
  rintro e w4 ⟨rfl, hb4⟩
  have HB4 := Lib.hid (bel_then (bel_alloc HB3.out _) hb4)
  have hr : RootIn w4 w3.heap.size r5' := (hb4.block _ (by simp)).trans (heap_alloc_self w3 _)
  obtain ⟨c0, c1, c2, c3, c4, c5⟩ := show (w4.alloc (.cells #[.int .u64 1, .int .i64 0, .int .i64 (-1), .int .i64 0, .int .i64 5, .int .i64 0] 50 (0, 0))).cell? ⟨w3.heap.size, 0, none⟩ = some (.int .u64 1) ∧ (w4.alloc (.cells #[.int .u64 1, .int .i64 0, .int .i64 (-1), .int .i64 0, .int .i64 5, .int .i64 0] 50 (0, 0))).cell? ⟨w3.heap.size, 1, none⟩ = some (.int .i64 0) ∧ (w4.alloc (.cells #[.int .u64 1, .int .i64 0, .int .i64 (-1), .int .i64 0, .int .i64 5, .int .i64 0] 50 (0, 0))).cell? ⟨w3.heap.size, 2, none⟩ = some (.int .i64 (-1)) ∧ (w4.alloc (.cells #[.int .u64 1, .int .i64 0, .int .i64 (-1), .int .i64 0, .int .i64 5, .int .i64 0] 50 (0, 0))).cell? ⟨w3.heap.size, 3, none⟩ = some (.int .i64 0) ∧ (w4.alloc (.cells #[.int .u64 1, .int .i64 0, .int .i64 (-1), .int .i64 0, .int .i64 5, .int .i64 0] 50 (0, 0))).cell? ⟨w3.heap.size, 4, none⟩ = some (.int .i64 5) ∧ (w4.alloc (.cells #[.int .u64 1, .int .i64 0, .int .i64 (-1), .int .i64 0, .int .i64 5, .int .i64 0] 50 (0, 0))).cell? ⟨w3.heap.size, 5, none⟩ = some (.int .i64 0) from (hr.alloc _).cells
  clear hb4 hr
  go_wp2
  go_ret
  exact ⟨rfl, bel_alloc HB4.out _⟩
end Go.Proofs.Ytcbefilcdelplaa
