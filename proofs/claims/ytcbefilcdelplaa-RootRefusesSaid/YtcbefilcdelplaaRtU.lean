/- root.Slots.Publish, walked. -/
import Derived.Test.YtcbefilcdelplaaRtO
import Derived.Deep.RegionHeld3
import Derived.Laws.EntriesVeiled
namespace Go.Proofs.Ytcbefilcdelplaa
open Go.RowKit
open Proot (Rt)
open Go.Proofs.YtcbefilcdelplaaW
set_option linter.unusedVariables false
set_option linter.unusedSimpArgs false

def Rt.args (r : Rt) : Value := .agg (rcells r)
theorem valid_any (r : Rt) (w : World) : Calls Try.prog 61 #[.agg #[.int .u64 r.epoch, .int .i64 r.half, .int .i64 r.page, .int .i64 r.next, .int .i64 r.count, .int .i64 r.height]] w fun e w' => e = .returned (.bool r.validB) ∧ Below w.heap.size w w' :=
  Proot.root_Root_valid.calls _ _ _ _ _ _ _ w (Proot.valid_f r)
theorem valid_page {r : Rt} (h : r.validB = true) : -1 ≤ r.page ∧ r.page ≤ 2147483647 := by
  simp only [Rt.validB, Proot.cntB, Bool.and_eq_true, Bool.or_eq_true, decide_eq_true_eq] at h
  omega
theorem text_any (r : Rt) (w : World) (h : -1 ≤ r.page ∧ r.page ≤ 2147483647) : Calls Try.prog 63 #[.agg #[.int .u64 r.epoch, .int .i64 r.half, .int .i64 r.page, .int .i64 r.next, .int .i64 r.count, .int .i64 r.height]] w fun e w' => e = .returned (.string r.text) ∧ Below w.heap.size w w' :=
  Proot.root_Root_text.calls 400 _ _ _ _ _ _ _ w (Proot.text_f r 400 (by decide) h)

/-- What Publish's second step looks at: the receiver's box, the slots, the slot's number, the root. -/
structure StepAt (F : Nat → Prop) (w : World) (B S b : Nat) (L : Loc) (D : Dk) (now most nx : Int) (r : Rt) (wr : World) : Prop where
  disk : DiskAt wr L D
  slots : SlotsAt wr S L now most
  box : wr.heap[B]? = some (.cells #[.pointer (some ⟨S, 0, none⟩)] 51 (0, 0))
  num : wr.heap[b]? = some (.cells #[.int .i64 nx] 3 (0, 0))
  root : RootIn wr (B + 1) r
  old : Keep F w wr
namespace StepAt
variable {F : Nat → Prop} {w w1 w2 : World} {B S b : Nat} {L : Loc} {D : Dk} {now most nx : Int} {r : Rt}
theorem below (h : StepAt F w B S b L D now most nx r w1) (k : Below w1.heap.size w1 w2) : StepAt F w B S b L D now most nx r w2 :=
  ⟨h.disk.below k, h.slots.below k, (k.block _ (lt_of_heap h.box)).trans h.box, (k.block _ (lt_of_heap h.num)).trans h.num, h.root.below k, h.old.trans (Keep.below k)⟩
theorem drewN (h : StepAt F w B S b L D now most nx r w1) (n : Nat) : StepAt F w B S b L D now most nx r (w1.drewN n) := ⟨h.disk.drewN n, h.slots, h.box, h.num, h.root, h.old.drewN n⟩
theorem drew (h : StepAt F w B S b L D now most nx r w1) : StepAt F w B S b L D now most nx r w1.drew := ⟨h.disk.drew, h.slots, h.box, h.num, h.root, h.old.drew⟩
theorem monoF {G : Nat → Prop} (h : StepAt F w B S b L D now most nx r w1) (hg : ∀ k, k < w.heap.size → F k → G k) : StepAt G w B S b L D now most nx r w1 := ⟨h.disk, h.slots, h.box, h.num, h.root, h.old.mono hg⟩
theorem facts (h : StepAt F w B S b L D now most nx r w1) : w1.cell? ⟨B, 0, none⟩ = some (.pointer (some ⟨S, 0, none⟩)) ∧ w1.cell? ⟨S, 0, none⟩ = some (.pointer (some ⟨L.a, 0, none⟩)) ∧ w1.cell? ⟨b, 0, none⟩ = some (.int .i64 nx) ∧ w1.cell? ⟨B + 1, 0, none⟩ = some (.int .u64 r.epoch) ∧ w1.cell? ⟨B + 1, 1, none⟩ = some (.int .i64 r.half) ∧ w1.cell? ⟨B + 1, 2, none⟩ = some (.int .i64 r.page) ∧ w1.cell? ⟨B + 1, 3, none⟩ = some (.int .i64 r.next) ∧ w1.cell? ⟨B + 1, 4, none⟩ = some (.int .i64 r.count) ∧ w1.cell? ⟨B + 1, 5, none⟩ = some (.int .i64 r.height) :=
  ⟨(cell_of_heap h.box 0).trans rfl, h.slots.cell0, (cell_of_heap h.num 0).trans rfl, h.root.cells.1, h.root.cells.2.1, h.root.cells.2.2.1, h.root.cells.2.2.2.1, h.root.cells.2.2.2.2.1, h.root.cells.2.2.2.2.2⟩
theorem after (h : StepAt F w B S b L D now most nx r w1) {w' : World} (k : Keep L.foot w1 w') (h0 : ¬ L.foot B) (h1 : ¬ L.foot S) (h2 : ¬ L.foot b) (h3 : ¬ L.foot (B + 1)) : w'.cell? ⟨B, 0, none⟩ = some (.pointer (some ⟨S, 0, none⟩)) ∧ w'.cell? ⟨S, 0, none⟩ = some (.pointer (some ⟨L.a, 0, none⟩)) ∧ w'.cell? ⟨b, 0, none⟩ = some (.int .i64 nx) ∧ w'.cell? ⟨B + 1, 0, none⟩ = some (.int .u64 r.epoch) ∧ w'.cell? ⟨B + 1, 1, none⟩ = some (.int .i64 r.half) ∧ w'.cell? ⟨B + 1, 2, none⟩ = some (.int .i64 r.page) ∧ w'.cell? ⟨B + 1, 3, none⟩ = some (.int .i64 r.next) ∧ w'.cell? ⟨B + 1, 4, none⟩ = some (.int .i64 r.count) ∧ w'.cell? ⟨B + 1, 5, none⟩ = some (.int .i64 r.height) := by
  obtain ⟨a0, a1, a2, a3, a4, a5, a6, a7, a8⟩ := h.facts
  have lB := lt_of_heap h.box
  have lS := h.slots.lt
  have lb := lt_of_heap h.num
  have lr := h.root.lt
  exact ⟨(k.cell lB h0).trans a0, (k.cell lS h1).trans a1, (k.cell lb h2).trans a2, (k.cell lr h3).trans a3, (k.cell lr h3).trans a4, (k.cell lr h3).trans a5, (k.cell lr h3).trans a6, (k.cell lr h3).trans a7, (k.cell lr h3).trans a8⟩
end StepAt

set_option maxHeartbeats 2000000 in
set_option maxRecDepth 100000 in
theorem root_step (w : World) (B S b : Nat) (L : Loc) (D : Dk) (now most nx : Int) (r : Rt) (hw : StepAt (fun _ => False) w B S b L D now most nx r w) (hp : -1 ≤ r.page ∧ r.page ≤ 2147483647) (h0 : ¬ L.foot B) (h1 : ¬ L.foot S) (h2 : ¬ L.foot b) (h3 : ¬ L.foot (B + 1)) :
    Calls Try.prog 62 #[.pointer (some ⟨B, 0, none⟩), .pointer (some ⟨b, 0, none⟩), .pointer (some ⟨B + 1, 0, none⟩)] w fun e w' => e = .returned (.int .i64 (D.write nx r.text).2) ∧ DiskAt w' L (D.write nx r.text).1 ∧ Keep L.foot w w' := by
  have CT := Lib.hid (fun W => text_any r W hp)
  have CW := Lib.hid (fun W (h : DiskAt W L D) => disk_Write W L D nx r.text h)
  obtain ⟨t, ht⟩ : ∃ t, t = r.text := ⟨_, rfl⟩
  rw [← ht] at CT CW ⊢
  have HX := Lib.hid hw
  have G0 := Lib.hid h0
  have G1 := Lib.hid h1
  have G2 := Lib.hid h2
  have G3 := Lib.hid h3
  clear hp ht h0 h1 h2 h3
  obtain ⟨a0, a1, a2, a3, a4, a5, a6, a7, a8⟩ := hw.facts
  clear hw
  go_enter Try.func62, Try.ntmps62
  go_wp2_with fail
  go_region_held3 (fun w' => w'.cell? ⟨B, 0, none⟩ = some (.pointer (some ⟨S, 0, none⟩)) ∧ w'.cell? ⟨S, 0, none⟩ = some (.pointer (some ⟨L.a, 0, none⟩)) ∧ w'.cell? ⟨b, 0, none⟩ = some (.int .i64 nx) ∧ w'.cell? ⟨B + 1, 0, none⟩ = some (.int .u64 r.epoch) ∧ w'.cell? ⟨B + 1, 1, none⟩ = some (.int .i64 r.half) ∧ w'.cell? ⟨B + 1, 2, none⟩ = some (.int .i64 r.page) ∧ w'.cell? ⟨B + 1, 3, none⟩ = some (.int .i64 r.next) ∧ w'.cell? ⟨B + 1, 4, none⟩ = some (.int .i64 r.count) ∧ w'.cell? ⟨B + 1, 5, none⟩ = some (.int .i64 r.height))
    ((first | (with_reducible assumption) | refine StepAt.facts (F := fun _ => False) (w := w) (D := D) (now := now) (most := most) ?_; (repeat (first | (with_reducible assumption) | exact HX.out | refine StepAt.drewN ?_ _ | refine StepAt.drew ?_)))) (first
    | (go_at_call 63; (with_reducible refine (CT.out _).mono ?_); rintro e w2 ⟨rfl, hb2⟩; have x2 : StepAt (fun _ => False) w B S b L D now most nx r w2 := (by (refine StepAt.below ?_ hb2; (repeat (first | (with_reducible assumption) | exact HX.out | refine StepAt.drewN ?_ _ | refine StepAt.drew ?_)))); clear hb2)
    | (go_at_call 20; (with_reducible refine (CW.out _ (StepAt.disk (F := fun _ => False) (w := w) (B := B) (S := S) (b := b) (now := now) (most := most) (nx := nx) (r := r) (by (repeat (first | (with_reducible assumption) | exact HX.out | refine StepAt.drewN ?_ _ | refine StepAt.drew ?_))))).mono ?_); rintro e w3 ⟨rfl, hd3, hk3⟩; have y3 := StepAt.after (F := fun _ => False) (w := w) (B := B) (S := S) (b := b) (D := D) (now := now) (most := most) (nx := nx) (r := r) (by (repeat (first | (with_reducible assumption) | exact HX.out | refine StepAt.drewN ?_ _ | refine StepAt.drew ?_))) hk3 G0.out G1.out G2.out G3.out; have z3 := Lib.hid (Keep.andThen (F := L.foot) ((StepAt.old (F := fun _ => False) (B := B) (S := S) (b := b) (D := D) (now := now) (most := most) (nx := nx) (r := r) (by (repeat (first | (with_reducible assumption) | exact HX.out | refine StepAt.drewN ?_ _ | refine StepAt.drew ?_)))).mono (fun _ _ h => h.elim)) hk3 (fun _ _ h => h)); have d3 := Lib.hid hd3; clear hd3 hk3))
  go_wp2_with fail
  go_ret
  exact ⟨rfl, d3.out, z3.out⟩

/-- What Publish does to the disk, and the error that ends it. -/
def Dk.pub (D : Dk) (nx : Int) (t : ByteArray) : Dk × Int :=
  if D.flush.2 ≠ 0 then D.flush else if (D.flush.1.write nx t).2 ≠ 0 then D.flush.1.write nx t else (D.flush.1.write nx t).1.flush

namespace Dk
def pubD (D : Dk) (nx : Int) (t : ByteArray) : Nat → Dk
  | 0 => D
  | 1 => D.flush.1
  | 2 => (D.flush.1.write nx t).1
  | _ => (D.flush.1.write nx t).1.flush.1
def pubE (D : Dk) (nx : Int) (t : ByteArray) : Nat → Int
  | 0 => D.flush.2
  | 1 => (D.flush.1.write nx t).2
  | _ => (D.flush.1.write nx t).1.flush.2
theorem pub_0 {D : Dk} {nx : Int} {t : ByteArray} (h : D.pubE nx t 0 ≠ 0) : D.pub nx t = (D.pubD nx t 1, D.pubE nx t 0) := by
  rw [pub, if_pos (show D.flush.2 ≠ 0 from h)]; rfl
theorem pub_1 {D : Dk} {nx : Int} {t : ByteArray} (h0 : D.pubE nx t 0 = 0) (h : D.pubE nx t 1 ≠ 0) : D.pub nx t = (D.pubD nx t 2, D.pubE nx t 1) := by
  rw [pub, if_neg (fun x => x h0), if_pos (show (D.flush.1.write nx t).2 ≠ 0 from h)]; rfl
theorem pub_2 {D : Dk} {nx : Int} {t : ByteArray} (h0 : D.pubE nx t 0 = 0) (h1 : D.pubE nx t 1 = 0) : D.pub nx t = (D.pubD nx t 3, D.pubE nx t 2) := by
  rw [pub, if_neg (fun x => x h0), if_neg (fun x => x h1)]; rfl
end Dk

def rowFns (L : Loc) (B b : Nat) : Array Value :=
  #[.func (.func 35) #[.pointer (some ⟨L.a, 0, none⟩)] #[], .func (.func 62) #[] #[.pointer (some ⟨B, 0, none⟩), .pointer (some ⟨b, 0, none⟩), .pointer (some ⟨B + 1, 0, none⟩)], .func (.func 35) #[.pointer (some ⟨L.a, 0, none⟩)] #[]]

/-- Within Publish, behind the steps' making. -/
structure PubAt (w : World) (B S b g : Nat) (L : Loc) (D : Dk) (now most nx : Int) (r : Rt) (wr : World) : Prop where
  st : StepAt L.foot w B S b L D now most nx r wr
  res : RootIn wr (B + 1 + 1) Rt.zero
  row : wr.heap[g]? = some (.cells (rowFns L B b) 62 (0, 0))
namespace PubAt
variable {w w1 w2 : World} {B S b g : Nat} {L : Loc} {D D' : Dk} {now most nx : Int} {r : Rt}
theorem call (h : PubAt w B S b g L D now most nx r w1) (hd : DiskAt w2 L D') (k : Keep L.foot w1 w2) (hB : ∀ i, L.foot i → i < B) (hb : B ≤ b) (hg : B ≤ g) (hS : ¬ L.foot S) : PubAt w B S b g L D' now most nx r w2 :=
  ⟨⟨hd, h.st.slots.keep k hS, k.heap h.st.box (fun x => by have := hB _ x; omega), k.heap h.st.num (fun x => by have := hB _ x; omega), h.st.root.keep k (fun x => by have := hB _ x; omega), h.st.old.andThen k (fun _ _ x => x)⟩,
    h.res.keep k (fun x => by have := hB _ x; omega), k.heap h.row (fun x => by have := hB _ x; omega)⟩
theorem fn0 (h : PubAt w B S b g L D now most nx r w1) : w1.cell? ⟨g, 0, none⟩ = some (.func (.func 35) #[.pointer (some ⟨L.a, 0, none⟩)] #[]) := (cell_of_heap h.row 0).trans rfl
theorem fn1 (h : PubAt w B S b g L D now most nx r w1) : w1.cell? ⟨g, 1, none⟩ = some (.func (.func 62) #[] #[.pointer (some ⟨B, 0, none⟩), .pointer (some ⟨b, 0, none⟩), .pointer (some ⟨B + 1, 0, none⟩)]) := (cell_of_heap h.row 1).trans rfl
theorem fn2 (h : PubAt w B S b g L D now most nx r w1) : w1.cell? ⟨g, 2, none⟩ = some (.func (.func 35) #[.pointer (some ⟨L.a, 0, none⟩)] #[]) := (cell_of_heap h.row 2).trans rfl
end PubAt

/-- Where the steps' loop stands. -/
def PubRel (w : World) (B S b g : Nat) (L : Loc) (D : Dk) (now most nx : Int) (r : Rt) (i : Value) (wr : World) : Prop :=
  (i = .int .i64 0 ∧ PubAt w B S b g L (D.pubD nx r.text 0) now most nx r wr) ∨
  (i = .int .i64 1 ∧ D.pubE nx r.text 0 = 0 ∧ PubAt w B S b g L (D.pubD nx r.text 1) now most nx r wr) ∨
  (i = .int .i64 2 ∧ D.pubE nx r.text 0 = 0 ∧ D.pubE nx r.text 1 = 0 ∧ PubAt w B S b g L (D.pubD nx r.text 2) now most nx r wr) ∨
  (i = .int .i64 3 ∧ D.pubE nx r.text 0 = 0 ∧ D.pubE nx r.text 1 = 0 ∧ D.pubE nx r.text 2 = 0 ∧ PubAt w B S b g L (D.pubD nx r.text 3) now most nx r wr)

/-- What Publish leaves. -/
def PubPost (w : World) (S : Nat) (L : Loc) (D : Dk) (now most : Int) (r : Rt) (e : Ending) (w' : World) : Prop :=
  (D.pub ((now + 1) % 2) r.text).2 ≠ 0 ∧ e = .returned (.tuple #[.agg (rcells Rt.zero), .int .i64 (D.pub ((now + 1) % 2) r.text).2]) ∧ DiskAt w' L (D.pub ((now + 1) % 2) r.text).1 ∧ SlotsAt w' S L now most ∧ Keep L.foot w w' ∨
  (D.pub ((now + 1) % 2) r.text).2 = 0 ∧ e = .returned (.tuple #[.agg (rcells r), .int .i64 0]) ∧ DiskAt w' L (D.pub ((now + 1) % 2) r.text).1 ∧ SlotsAt w' S L ((now + 1) % 2) r.epoch ∧ Keep (fun k => L.foot k ∨ k = S) w w'

set_option maxHeartbeats 1000000 in
set_option maxRecDepth 100000 in
theorem root_Publish_no (w : World) (S : Nat) (r : Rt) (hv : r.validB = false) :
    Calls Try.prog 31 #[.pointer (some ⟨S, 0, none⟩), .agg #[.int .u64 r.epoch, .int .i64 r.half, .int .i64 r.page, .int .i64 r.next, .int .i64 r.count, .int .i64 r.height]] w fun e w' => e = .returned (.tuple #[.agg (rcells Rt.zero), .int .i64 1]) ∧ Below w.heap.size w w' := by
  have CV := Lib.hid (fun W => valid_any r W)
  rw [hv] at CV
  clear hv
  go_enter Try.func31, Try.ntmps31
  go_wp2_with fail
  refine (CV.out _).mono ?_
  rintro e w1 ⟨rfl, hb⟩
  have hs := hb.size
  simp only [World.size_alloc] at hs
  have hr : RootIn w1 (w.heap.size + 1 + 1) Rt.zero := by
    unfold RootIn
    rw [hb.block _ (by simp)]
    have := heap_alloc_self ((w.alloc (.cells #[.pointer (some ⟨S, 0, none⟩)] 51 (0, 0))).alloc (.cells (rcells r) 50 (0, 0))) (.cells (rcells Rt.zero) 50 (0, 0))
    rw [World.size_alloc, World.size_alloc] at this
    exact this
  have HB := Lib.hid (show Below w.heap.size w w1 from bel_then (bel_alloc (bel_alloc (bel_alloc (Below.refl _ _) _) _) _) hb)
  have r0 := hr.cells
  have fr := hr.frz
  have HR := Lib.hid hr
  clear hr hb hs
  go_wp2_with fail
  have HB' := Lib.hid (show Below w.heap.size w (setRoot w1 (w.heap.size + 1 + 1) Rt.zero) from bel_keep HB.out (setRoot_keep w1 _ Rt.zero) (fun i hi => by subst hi; omega))
  have hr := setRoot_in HR.out Rt.zero
  unfold RootIn setRoot at hr
  unfold setRoot at HB'
  refine bodyPost_ret (v := .tuple #[.agg (rcells Rt.zero), .int .i64 1]) ?_ rfl ?_
  · refine PrintWords.results_list (rs := [.cell 4 50, .tmp 5]) (vs := [.agg (rcells Rt.zero), .int .i64 1]) rfl (by simp) ?_
    exact .cell (w.heap.size + 1 + 1) 50 (rcells Rt.zero) (0, 0) _ rfl hr Try.underlying50 rfl (by kernel_rfl) (.tmp .nil)
  · exact ⟨rfl, HB'.out⟩

set_option maxHeartbeats 2000000 in
set_option maxRecDepth 100000 in
theorem root_Publish_yes (w : World) (S : Nat) (L : Loc) (D : Dk) (now most : Int) (r : Rt) (h : DiskAt w L D) (hS : SlotsAt w S L now most) (hne : ¬ L.foot S) (hv : r.validB = true) (hn0 : -1 ≤ now) (hn1 : now ≤ 1) :
    Calls Try.prog 31 #[.pointer (some ⟨S, 0, none⟩), .agg #[.int .u64 r.epoch, .int .i64 r.half, .int .i64 r.page, .int .i64 r.next, .int .i64 r.count, .int .i64 r.height]] w fun e w' => PubPost w S L D now most { r with epoch := IntKind.u64.wrap (most + 1) } e w' := by
  have CV := Lib.hid (fun W => valid_any r W)
  have hp := Lib.hid (valid_page hv)
  have HS0 := Lib.hid hS.lt
  have HFT := Lib.hid (fun k (hk : L.foot k) => h.foot_lt hk)
  rw [hv] at CV
  clear hv
  have HN := Lib.hid hne
  clear hne
  go_enter Try.func31, Try.ntmps31
  go_wp2_with fail
  refine (CV.out _).mono ?_
  rintro e w1 ⟨rfl, hb⟩
  have hs := hb.size
  simp only [World.size_alloc] at hs
  have hx : w1.heap[w.heap.size]? = some (.cells #[.pointer (some ⟨S, 0, none⟩)] 51 (0, 0)) := by
    rw [hb.block _ (by simp; omega)]
    exact heap_alloc_old (heap_alloc_old (heap_alloc_self w _) _) _
  have hq : RootIn w1 (w.heap.size + 1) r := by
    unfold RootIn
    rw [hb.block _ (by simp)]
    have := heap_alloc_self (w.alloc (.cells #[.pointer (some ⟨S, 0, none⟩)] 51 (0, 0))) (.cells (rcells r) 50 (0, 0))
    rw [World.size_alloc] at this
    exact heap_alloc_old this _
  have hr : RootIn w1 (w.heap.size + 1 + 1) Rt.zero := by
    unfold RootIn
    rw [hb.block _ (by simp)]
    have := heap_alloc_self ((w.alloc (.cells #[.pointer (some ⟨S, 0, none⟩)] 51 (0, 0))).alloc (.cells (rcells r) 50 (0, 0))) (.cells (rcells Rt.zero) 50 (0, 0))
    rw [World.size_alloc, World.size_alloc] at this
    exact this
  have hB : Below w.heap.size w w1 := bel_then (bel_alloc (bel_alloc (bel_alloc (Below.refl _ _) _) _) _) hb
  have h1 := h.below hB
  have hS1 := hS.below hB
  have c1 : w1.cell? ⟨w.heap.size, 0, none⟩ = some (.pointer (some ⟨S, 0, none⟩)) := (cell_of_heap hx 0).trans rfl
  have s0 := hS1.cell0
  have s1 := hS1.cell1
  have s2 := hS1.cell2
  have g1 : (w1.alloc (.cells #[.int .i64 ((now + 1) % 2)] 3 (0, 0))).cell? ⟨w.heap.size, 0, none⟩ = some (.pointer (some ⟨S, 0, none⟩)) := (cell_of_heap (heap_alloc_old hx _) 0).trans rfl
  have g2 := (hS1.alloc (.cells #[.int .i64 ((now + 1) % 2)] 3 (0, 0))).cell2
  have g0 := (hS1.alloc (.cells #[.int .i64 ((now + 1) % 2)] 3 (0, 0))).cell0
  have g3 := (hq.alloc (.cells #[.int .i64 ((now + 1) % 2)] 3 (0, 0))).cells.1
  have g4 := (hq.alloc (.cells #[.int .i64 ((now + 1) % 2)] 3 (0, 0))).frz 0
  have HX3 := Lib.hid (show StepAt (fun _ => False) w w.heap.size S w1.heap.size L D now most ((now + 1) % 2) { r with epoch := IntKind.u64.wrap (most + 1) } ((w1.alloc (.cells #[.int .i64 ((now + 1) % 2)] 3 (0, 0))).setCell ⟨w.heap.size + 1, 0, none⟩ (.int .u64 (IntKind.u64.wrap (most + 1)))) from
    ⟨(h1.alloc _).setCell (fun hf => by have := h.foot_lt hf; simp at this; omega) _, (hS1.alloc _).setCell (by have := hS.lt; simp; omega) _,
      heap_setCell_ne (heap_alloc_old hx _) _ _ (by omega), heap_setCell_ne (heap_alloc_self w1 _) _ _ (by have := hq.lt; omega), heap_setCell_same (hq.alloc _) 0 _, ((Keep.below hB).alloc _).setCell (.inr (by simp)) _⟩)
  have HB1 := Lib.hid hB.size
  have HR3 := Lib.hid (show RootIn ((w1.alloc (.cells #[.int .i64 ((now + 1) % 2)] 3 (0, 0))).setCell ⟨w.heap.size + 1, 0, none⟩ (.int .u64 (IntKind.u64.wrap (most + 1)))) (w.heap.size + 1 + 1) Rt.zero from (hr.alloc _).setCell (by simp) _)
  clear hb hs hx hq hr hB h1 hS1 h hS
  go_wp2_with fail
  generalize (w1.alloc (.cells #[.int .i64 ((now + 1) % 2)] 3 (0, 0))).setCell ⟨w.heap.size + 1, 0, none⟩ (.int .u64 (IntKind.u64.wrap (most + 1))) = w3 at *
  obtain ⟨f0, f1, -⟩ := HX3.out.facts
  clear c1 s0 s1 s2 g1 g2 g0 g3 g4
  go_region
  go_wp2_with fail
  have HBW := Lib.hid HX3.out.old.size
  have HP0 := Lib.hid (show PubAt w w.heap.size S w1.heap.size w3.heap.size L D now most ((now + 1) % 2) { r with epoch := IntKind.u64.wrap (most + 1) } (w3.alloc (.cells (rowFns L w.heap.size w1.heap.size) 62 (0, 0))).drew from
    ⟨((HX3.out.below ((Below.refl _ _).alloc (Nat.le_refl _) _)).drew).monoF (fun _ _ h => h.elim), HR3.out.alloc _, heap_alloc_self w3 _⟩)
  clear f0 f1 HX3 HR3 CV
  have HPV := Lib.hid (show -1 ≤ ({ r with epoch := IntKind.u64.wrap (most + 1) } : Rt).page ∧ ({ r with epoch := IntKind.u64.wrap (most + 1) } : Rt).page ≤ 2147483647 from hp.out)
  clear hp
  generalize hrr : ({ r with epoch := IntKind.u64.wrap (most + 1) } : Rt) = r' at *
  generalize hnx : (now + 1) % 2 = nx at *
  have HRR := Lib.hid hrr
  have HNX := Lib.hid hnx
  have HPP := Lib.hid (show ∀ e w', PubPost w S L D now most { r with epoch := IntKind.u64.wrap (most + 1) } e w' ↔ PubPost w S L D now most r' e w' from fun e w' => by rw [hrr])
  clear hrr hnx
  go_loopw [41] (fun i wr => PubRel w w.heap.size S w1.heap.size w3.heap.size L D now most nx r' i wr) (fun i _ => 3 - (intOf i).toNat)
  case atStart => exact .inl ⟨rfl, HP0.out⟩
  case round =>
    rcases hrel with ⟨rfl, hP⟩ | ⟨rfl, hE0, hP⟩ | ⟨rfl, hE0, hE1, hP⟩ | ⟨rfl, hE0, hE1, hE2, hP⟩
    · have c0 := hP.fn0
      have HP := Lib.hid hP
      have CC := disk_Flush wr L (D.pubD nx r'.text 0) hP.st.disk
      have e1 : (D.pubD nx r'.text 0).flush.2 = D.pubE nx r'.text 0 := rfl
      have e2 : (D.pubD nx r'.text 0).flush.1 = D.pubD nx r'.text 1 := rfl
      rw [e1, e2] at CC
      clear e1 e2 hP
      by_cases hz : D.pubE nx r'.text 0 = 0
      · rw [hz] at CC
        have CC' := Lib.hid CC
        have HZ := Lib.hid hz
        clear CC hz
        go_wp2_with fail
        refine CC'.out.mono ?_
        rintro e w2 ⟨rfl, hd, hk⟩
        have HP2 := Lib.hid (HP.out.call hd hk HFT.out HB1.out HBW.out HN.out)
        clear hd hk
        go_wp2_with fail
        go_roundw
        case rel => exact .inr (.inl ⟨rfl, HZ.out, HP2.out⟩)
        case measure => simp [intOf]
      · have HZ := Lib.hid hz
        have HV := Lib.hid (show (D.pub nx r'.text) = (D.pubD nx r'.text 1, D.pubE nx r'.text 0) from Dk.pub_0 hz)
        generalize D.pubE nx r'.text 0 = x at *
        have x1 : (x == 0) = false := beq_eq_false_iff_ne.2 hz
        have x2 : (x != 0) = true := bne_iff_ne.2 hz
        have CC' := Lib.hid CC
        clear CC hz
        go_wp2_with fail
        refine CC'.out.mono ?_
        rintro e w2 ⟨rfl, hd, hk⟩
        have HP2 := Lib.hid (HP.out.call hd hk HFT.out HB1.out HBW.out HN.out)
        have r0 := HP2.out.res.cells
        have fr := HP2.out.res.frz
        clear hd hk
        go_wp2_with fail
        have HB' := Lib.hid (show Keep L.foot w (setRoot w2 (w.heap.size + 1 + 1) Rt.zero) from HP2.out.st.old.andThen (setRoot_keep w2 _ Rt.zero) (fun i hi hx => by omega))
        have HD' := Lib.hid (show DiskAt (setRoot w2 (w.heap.size + 1 + 1) Rt.zero) L (D.pubD nx r'.text 1) from HP2.out.st.disk.keep (setRoot_keep w2 _ Rt.zero) (fun i hi hx => by have := HFT.out _ hi; omega))
        have HS' := Lib.hid (show SlotsAt (setRoot w2 (w.heap.size + 1 + 1) Rt.zero) S L now most from HP2.out.st.slots.keep (setRoot_keep w2 _ Rt.zero) (by have := HS0.out; omega))
        have hr := setRoot_in HP2.out.res Rt.zero
        unfold RootIn setRoot at hr
        unfold setRoot at HB' HD' HS'
        refine bodyPost_ret (v := .tuple #[.agg (rcells Rt.zero), .int .i64 x]) ?_ rfl ?_
        · refine PrintWords.results_list (rs := [.cell 4 50, .tmp 5]) (vs := [.agg (rcells Rt.zero), .int .i64 x]) rfl (by simp) ?_
          exact .cell (w.heap.size + 1 + 1) 50 (rcells Rt.zero) (0, 0) _ rfl hr Try.underlying50 rfl (by kernel_rfl) (.tmp .nil)
        · refine (HPP.out _ _).2 (.inl ?_)
          rw [HNX.out, HV.out]
          exact ⟨HZ.out, rfl, HD'.out, HS'.out, HB'.out⟩
    · have c1 := hP.fn1
      have HP := Lib.hid hP
      have HE0 := Lib.hid hE0
      have CC := root_step wr w.heap.size S w1.heap.size L (D.pubD nx r'.text 1) now most nx r' ⟨hP.st.disk, hP.st.slots, hP.st.box, hP.st.num, hP.st.root, Keep.refl _ _⟩ HPV.out (fun h => Nat.lt_irrefl _ (HFT.out _ h)) HN.out (fun h => by have := HFT.out _ h; have := HB1.out; omega) (fun h => by have := HFT.out _ h; omega)
      have e1 : ((D.pubD nx r'.text 1).write nx r'.text).2 = D.pubE nx r'.text 1 := rfl
      have e2 : ((D.pubD nx r'.text 1).write nx r'.text).1 = D.pubD nx r'.text 2 := rfl
      rw [e1, e2] at CC
      clear e1 e2 hP hE0
      by_cases hz : D.pubE nx r'.text 1 = 0
      · rw [hz] at CC
        have CC' := Lib.hid CC
        have HZ := Lib.hid hz
        clear CC hz
        go_wp2_with fail
        refine CC'.out.mono ?_
        rintro e w2 ⟨rfl, hd, hk⟩
        have HP2 := Lib.hid (HP.out.call hd hk HFT.out HB1.out HBW.out HN.out)
        clear hd hk
        go_wp2_with fail
        go_roundw
        case rel => exact .inr (.inr (.inl ⟨rfl, HE0.out, HZ.out, HP2.out⟩))
        case measure => simp [intOf]
      · have HZ := Lib.hid hz
        have HV := Lib.hid (show (D.pub nx r'.text) = (D.pubD nx r'.text 2, D.pubE nx r'.text 1) from Dk.pub_1 HE0.out hz)
        generalize D.pubE nx r'.text 1 = x at *
        have x1 : (x == 0) = false := beq_eq_false_iff_ne.2 hz
        have x2 : (x != 0) = true := bne_iff_ne.2 hz
        have CC' := Lib.hid CC
        clear CC hz
        go_wp2_with fail
        refine CC'.out.mono ?_
        rintro e w2 ⟨rfl, hd, hk⟩
        have HP2 := Lib.hid (HP.out.call hd hk HFT.out HB1.out HBW.out HN.out)
        have r0 := HP2.out.res.cells
        have fr := HP2.out.res.frz
        clear hd hk
        go_wp2_with fail
        have HB' := Lib.hid (show Keep L.foot w (setRoot w2 (w.heap.size + 1 + 1) Rt.zero) from HP2.out.st.old.andThen (setRoot_keep w2 _ Rt.zero) (fun i hi hx => by omega))
        have HD' := Lib.hid (show DiskAt (setRoot w2 (w.heap.size + 1 + 1) Rt.zero) L (D.pubD nx r'.text 2) from HP2.out.st.disk.keep (setRoot_keep w2 _ Rt.zero) (fun i hi hx => by have := HFT.out _ hi; omega))
        have HS' := Lib.hid (show SlotsAt (setRoot w2 (w.heap.size + 1 + 1) Rt.zero) S L now most from HP2.out.st.slots.keep (setRoot_keep w2 _ Rt.zero) (by have := HS0.out; omega))
        have hr := setRoot_in HP2.out.res Rt.zero
        unfold RootIn setRoot at hr
        unfold setRoot at HB' HD' HS'
        refine bodyPost_ret (v := .tuple #[.agg (rcells Rt.zero), .int .i64 x]) ?_ rfl ?_
        · refine PrintWords.results_list (rs := [.cell 4 50, .tmp 5]) (vs := [.agg (rcells Rt.zero), .int .i64 x]) rfl (by simp) ?_
          exact .cell (w.heap.size + 1 + 1) 50 (rcells Rt.zero) (0, 0) _ rfl hr Try.underlying50 rfl (by kernel_rfl) (.tmp .nil)
        · refine (HPP.out _ _).2 (.inl ?_)
          rw [HNX.out, HV.out]
          exact ⟨HZ.out, rfl, HD'.out, HS'.out, HB'.out⟩
    · have c2 := hP.fn2
      have HP := Lib.hid hP
      have HE0 := Lib.hid hE0
      have HE1 := Lib.hid hE1
      have CC := disk_Flush wr L (D.pubD nx r'.text 2) hP.st.disk
      have e1 : (D.pubD nx r'.text 2).flush.2 = D.pubE nx r'.text 2 := rfl
      have e2 : (D.pubD nx r'.text 2).flush.1 = D.pubD nx r'.text 3 := rfl
      rw [e1, e2] at CC
      clear e1 e2 hP hE0 hE1
      by_cases hz : D.pubE nx r'.text 2 = 0
      · rw [hz] at CC
        have CC' := Lib.hid CC
        have HZ := Lib.hid hz
        clear CC hz
        go_wp2_with fail
        refine CC'.out.mono ?_
        rintro e w2 ⟨rfl, hd, hk⟩
        have HP2 := Lib.hid (HP.out.call hd hk HFT.out HB1.out HBW.out HN.out)
        clear hd hk
        go_wp2_with fail
        go_roundw
        case rel => exact .inr (.inr (.inr ⟨rfl, HE0.out, HE1.out, HZ.out, HP2.out⟩))
        case measure => simp [intOf]
      · have HZ := Lib.hid hz
        have HV := Lib.hid (show (D.pub nx r'.text) = (D.pubD nx r'.text 3, D.pubE nx r'.text 2) from Dk.pub_2 HE0.out HE1.out)
        generalize D.pubE nx r'.text 2 = x at *
        have x1 : (x == 0) = false := beq_eq_false_iff_ne.2 hz
        have x2 : (x != 0) = true := bne_iff_ne.2 hz
        have CC' := Lib.hid CC
        clear CC hz
        go_wp2_with fail
        refine CC'.out.mono ?_
        rintro e w2 ⟨rfl, hd, hk⟩
        have HP2 := Lib.hid (HP.out.call hd hk HFT.out HB1.out HBW.out HN.out)
        have r0 := HP2.out.res.cells
        have fr := HP2.out.res.frz
        clear hd hk
        go_wp2_with fail
        have HB' := Lib.hid (show Keep L.foot w (setRoot w2 (w.heap.size + 1 + 1) Rt.zero) from HP2.out.st.old.andThen (setRoot_keep w2 _ Rt.zero) (fun i hi hx => by omega))
        have HD' := Lib.hid (show DiskAt (setRoot w2 (w.heap.size + 1 + 1) Rt.zero) L (D.pubD nx r'.text 3) from HP2.out.st.disk.keep (setRoot_keep w2 _ Rt.zero) (fun i hi hx => by have := HFT.out _ hi; omega))
        have HS' := Lib.hid (show SlotsAt (setRoot w2 (w.heap.size + 1 + 1) Rt.zero) S L now most from HP2.out.st.slots.keep (setRoot_keep w2 _ Rt.zero) (by have := HS0.out; omega))
        have hr := setRoot_in HP2.out.res Rt.zero
        unfold RootIn setRoot at hr
        unfold setRoot at HB' HD' HS'
        refine bodyPost_ret (v := .tuple #[.agg (rcells Rt.zero), .int .i64 x]) ?_ rfl ?_
        · refine PrintWords.results_list (rs := [.cell 4 50, .tmp 5]) (vs := [.agg (rcells Rt.zero), .int .i64 x]) rfl (by simp) ?_
          exact .cell (w.heap.size + 1 + 1) 50 (rcells Rt.zero) (0, 0) _ rfl hr Try.underlying50 rfl (by kernel_rfl) (.tmp .nil)
        · refine (HPP.out _ _).2 (.inl ?_)
          rw [HNX.out, HV.out]
          exact ⟨HZ.out, rfl, HD'.out, HS'.out, HB'.out⟩
    · have HV := Lib.hid (show (D.pub nx r'.text) = (D.pubD nx r'.text 3, 0) from by rw [Dk.pub_2 hE0 hE1, hE2])
      have HP := Lib.hid hP
      obtain ⟨f0, f1, f2, f3, f4, f5, f6, f7, f8⟩ := hP.st.facts
      have s1 := hP.st.slots.cell1
      have s2 := hP.st.slots.cell2
      have fs := hP.st.slots.frz
      have r0 := hP.res.cells
      have fr := hP.res.frz
      clear hP hE0 hE1 hE2
      go_wp2_with fail
      go_region
      have HX := Lib.hid (show PubAt w w.heap.size S w1.heap.size w3.heap.size L (D.pubD nx r'.text 3) now most nx r' wr from HP.out)
      have h5 := ((HP.out.st.root.setCell (p := ⟨S, 1, none⟩) (by have := HS0.out; simp; omega) (.int .i64 nx)).setCell (p := ⟨S, 2, none⟩) (by have := HS0.out; simp; omega) (.int .u64 r'.epoch)).cells
      have h6 := ((HP.out.res.setCell (p := ⟨S, 1, none⟩) (by have := HS0.out; simp; omega) (.int .i64 nx)).setCell (p := ⟨S, 2, none⟩) (by have := HS0.out; simp; omega) (.int .u64 r'.epoch)).cells
      have h7 := ((HP.out.res.setCell (p := ⟨S, 1, none⟩) (by have := HS0.out; simp; omega) (.int .i64 nx)).setCell (p := ⟨S, 2, none⟩) (by have := HS0.out; simp; omega) (.int .u64 r'.epoch)).frz
      clear f3 f4 f5 f6 f7 f8 r0 fr
      go_wp2_with fail
      have HRX := Lib.hid ((HP.out.res.setCell (p := ⟨S, 1, none⟩) (by have := HS0.out; simp; omega) (.int .i64 nx)).setCell (p := ⟨S, 2, none⟩) (by have := HS0.out; simp; omega) (.int .u64 r'.epoch))
      have HDX := Lib.hid ((HP.out.st.disk.setCell (a := ⟨S, 1, none⟩) HN.out (.int .i64 nx)).setCell (a := ⟨S, 2, none⟩) HN.out (.int .u64 r'.epoch))
      have HSX := Lib.hid ((HP.out.st.slots.setNow nx).setMost r'.epoch)
      have HKX := Lib.hid (((HP.out.st.old.mono (G := fun k => L.foot k ∨ k = S) (fun _ _ h => .inl h)).setCell (p := ⟨S, 1, none⟩) (.inl (.inr rfl)) (.int .i64 nx)).setCell (p := ⟨S, 2, none⟩) (.inl (.inr rfl)) (.int .u64 r'.epoch))
      clear h5 h6 h7 HX s1 s2 fs f0 f1 f2
      generalize (wr.setCell ⟨S, 1, none⟩ (.int .i64 nx)).setCell ⟨S, 2, none⟩ (.int .u64 r'.epoch) = wx at *
      have HB' := Lib.hid (show Keep (fun k => L.foot k ∨ k = S) w (setRoot wx (w.heap.size + 1 + 1) r').drew from (HKX.out.andThen (setRoot_keep wx _ r') (fun i hi hx => by omega)).drew)
      have HD' := Lib.hid (show DiskAt (setRoot wx (w.heap.size + 1 + 1) r').drew L (D.pubD nx r'.text 3) from (HDX.out.keep (setRoot_keep wx _ r') (fun i hi hx => by have := HFT.out _ hi; omega)).drew)
      have HS' := Lib.hid (show SlotsAt (setRoot wx (w.heap.size + 1 + 1) r').drew S L nx r'.epoch from HSX.out.keep ((setRoot_keep wx (w.heap.size + 1 + 1) r').drew) (by have := HS0.out; omega))
      have hr := setRoot_in HRX.out r'
      unfold RootIn setRoot at hr
      unfold setRoot at HB' HD' HS'
      have hr' := heap_drew hr
      refine bodyPost_ret (v := .tuple #[.agg (rcells r'), .int .i64 0]) ?_ rfl ?_
      · refine PrintWords.results_list (rs := [.cell 4 50, .tmp 5]) (vs := [.agg (rcells r'), .int .i64 0]) rfl (by simp) ?_
        exact .cell (w.heap.size + 1 + 1) 50 (rcells r') (0, 0) _ rfl hr' Try.underlying50 rfl (by kernel_rfl) (.tmp .nil)
      · refine (HPP.out _ _).2 (.inr ?_)
        rw [HNX.out, HV.out]
        exact ⟨rfl, rfl, HD'.out, HS'.out, HB'.out⟩
end Go.Proofs.Ytcbefilcdelplaa
