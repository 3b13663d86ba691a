/- dowserref05.turn, walked. dowserref05.Flush, walked. dowserref05.Flush where it fails, walked. dowserref05.Write, walked. dowserref05.Write where it fails, walked. -/
import Derived.Test.YtcbefilcdelplaaPref5x2
import Derived.Test.YtcbefilcdelplaaPagesQ
import Derived.Test.YtcbefilcdelplaaDiskN
import Derived.Deep.DeepCutAuto
import Derived.Test.YtcbefilcdelplaaPref5x1
import Derived.Deep.RegionHeld3
namespace Go.Proofs.Ytcbefilcdelplaa
open Go.RowKit
open Go.Proofs.YtcbefilcdelplaaW
set_option linter.unusedVariables false
set_option linter.unusedSimpArgs false

/-- A slice's three numbers. -/
structure Sl where
  a : Option Addr
  n : Nat
  c : Nat
def Sl.v (s : Sl) : Value := .slice s.a s.n s.c
def Sl.none : Sl := ⟨Option.none, 0, 0⟩

/-- The six cells of a reference's disk. -/
def xcells (s0 s1 s2 : Sl) (wr hl : Int) (dn : Bool) : Array Value := #[.slice s0.a s0.n s0.c, .slice s1.a s1.n s1.c, .slice s2.a s2.n s2.c, .int .i64 wr, .int .i64 hl, .bool dn]
/-- It lies in a block of its own. -/
def XIn (w : World) (b : Nat) (s0 s1 s2 : Sl) (wr hl : Int) (dn : Bool) : Prop := w.heap[b]? = some (.cells (xcells s0 s1 s2 wr hl dn) 72 (0, 0))

def setX (w : World) (b : Nat) (s0 s1 s2 : Sl) (wr hl : Int) (dn : Bool) : World :=
  (((((w.setCell ⟨b, 0, Option.none⟩ (.slice s0.a s0.n s0.c)).setCell ⟨b, 1, Option.none⟩ (.slice s1.a s1.n s1.c)).setCell ⟨b, 2, Option.none⟩ (.slice s2.a s2.n s2.c)).setCell ⟨b, 3, Option.none⟩ (.int .i64 wr)).setCell ⟨b, 4, Option.none⟩ (.int .i64 hl)).setCell ⟨b, 5, Option.none⟩ (.bool dn)
theorem setX_in {w : World} {b : Nat} {s0 s1 s2 : Sl} {wr hl : Int} {dn : Bool} (h : XIn w b s0 s1 s2 wr hl dn) (t0 t1 t2 : Sl) (wr' hl' : Int) (dn' : Bool) : XIn (setX w b t0 t1 t2 wr' hl' dn') b t0 t1 t2 wr' hl' dn' :=
  heap_setCell_same (heap_setCell_same (heap_setCell_same (heap_setCell_same (heap_setCell_same (heap_setCell_same h 0 _) 1 _) 2 _) 3 _) 4 _) 5 _
theorem setX_keep (w : World) (b : Nat) (s0 s1 s2 : Sl) (wr hl : Int) (dn : Bool) : Keep (fun c => c = b) w (setX w b s0 s1 s2 wr hl dn) := by
  unfold setX
  exact (((((((Keep.refl (fun c => c = b) w).setCell (.inl rfl) _).setCell (.inl rfl) _).setCell (.inl rfl) _).setCell (.inl rfl) _).setCell (.inl rfl) _).setCell (.inl rfl) _)

theorem heap_alloc_two (w : World) (o o' : Obj) : ((w.alloc o).alloc o').heap[w.heap.size + 1]? = some o' := by
  have h := heap_alloc_self (w.alloc o) o'
  rw [World.size_alloc] at h
  exact h

/-- One write more, if there may be. -/
structure Xt where
  wr : Int
  hl : Int
  dn : Bool
  ok : Bool
def turnX (wr hl : Int) (dn : Bool) : Xt := if hl = 0 then ⟨wr, hl, true, false⟩ else if hl > 0 then ⟨wrap64 (wr + 1), hl - 1, dn, true⟩ else ⟨wrap64 (wr + 1), hl, dn, true⟩

set_option maxHeartbeats 1000000 in
set_option maxRecDepth 100000 in
theorem ref5_turn (s0 s1 s2 : Sl) (wr hl : Int) (dn : Bool) (w : World) (hh : hl ≤ 9223372036854775807) :
    Calls Try.prog 66 #[.agg #[.slice s0.a s0.n s0.c, .slice s1.a s1.n s1.c, .slice s2.a s2.n s2.c, .int .i64 wr, .int .i64 hl, .bool dn]] w fun e w' => e = .returned (.tuple #[.agg (xcells s0 s1 s2 (turnX wr hl dn).wr (turnX wr hl dn).hl (turnX wr hl dn).dn), .bool (turnX wr hl dn).ok]) ∧ Below w.heap.size w w' := by
  by_cases h0 : hl = 0
  · subst h0
    have e : turnX wr 0 dn = ⟨wr, 0, true, false⟩ := by simp [turnX]
    rw [e]
    clear e hh
    go_enter Try.func66, Try.ntmps66
    go_wp2_with fail
    exact bodyPost_ret (PrintWords.results_list (rs := [.cell 2 72, .tmp 3]) (vs := [.agg (xcells s0 s1 s2 wr 0 true), .bool false]) rfl (by simp) (.cell (w.heap.size + 1) 72 (xcells s0 s1 s2 wr 0 true) (0, 0) _ rfl (heap_alloc_two w _ (.cells (xcells s0 s1 s2 wr 0 true) 72 (0, 0))) Try.underlying72 rfl (by kernel_rfl) (.tmp .nil))) rfl ⟨rfl, bel_alloc (bel_alloc (Below.refl _ _) _) _⟩
  · have hb : (hl == 0) = false := beq_eq_false_iff_ne.2 h0
    by_cases h1 : hl > 0
    · have e : turnX wr hl dn = ⟨wrap64 (wr + 1), hl - 1, dn, true⟩ := by simp [turnX, h0, h1]
      rw [e]
      clear e
      go_enter Try.func66, Try.ntmps66
      go_wp2_with fail
      exact bodyPost_ret (PrintWords.results_list (rs := [.cell 2 72, .tmp 3]) (vs := [.agg (xcells s0 s1 s2 (wrap64 (wr + 1)) (hl - 1) dn), .bool true]) rfl (by simp) (.cell (w.heap.size + 1) 72 (xcells s0 s1 s2 (wrap64 (wr + 1)) (hl - 1) dn) (0, 0) _ rfl (heap_alloc_two w _ (.cells (xcells s0 s1 s2 (wrap64 (wr + 1)) (hl - 1) dn) 72 (0, 0))) Try.underlying72 rfl (by kernel_rfl) (.tmp .nil))) rfl ⟨rfl, bel_alloc (bel_alloc (Below.refl _ _) _) _⟩
    · have e : turnX wr hl dn = ⟨wrap64 (wr + 1), hl, dn, true⟩ := by simp [turnX, h0, h1]
      rw [e]
      clear e
      go_enter Try.func66, Try.ntmps66
      go_wp2_with fail
      exact bodyPost_ret (PrintWords.results_list (rs := [.cell 2 72, .tmp 3]) (vs := [.agg (xcells s0 s1 s2 (wrap64 (wr + 1)) hl dn), .bool true]) rfl (by simp) (.cell (w.heap.size + 1) 72 (xcells s0 s1 s2 (wrap64 (wr + 1)) hl dn) (0, 0) _ rfl (heap_alloc_two w _ (.cells (xcells s0 s1 s2 (wrap64 (wr + 1)) hl dn) 72 (0, 0))) Try.underlying72 rfl (by kernel_rfl) (.tmp .nil))) rfl ⟨rfl, bel_alloc (bel_alloc (Below.refl _ _) _) _⟩
end Go.Proofs.Ytcbefilcdelplaa

namespace Go.Proofs.Ytcbefilcdelplaa
open Go.RowKit
open Go.Proofs.YtcbefilcdelplaaW
open PrintWords (Kd Reps)
set_option linter.unusedVariables false
set_option linter.unusedSimpArgs false

namespace XIn
variable {w w' : World} {b : Nat} {s0 s1 s2 : Sl} {wr hl : Int} {dn : Bool}
theorem lt (h : XIn w b s0 s1 s2 wr hl dn) : b < w.heap.size := lt_of_heap h
theorem below (h : XIn w b s0 s1 s2 wr hl dn) (k : Below w.heap.size w w') : XIn w' b s0 s1 s2 wr hl dn := (k.block _ h.lt).trans h
theorem keep {F : Nat → Prop} (h : XIn w b s0 s1 s2 wr hl dn) (k : Keep F w w') (hf : ¬ F b) : XIn w' b s0 s1 s2 wr hl dn := (k.block _ h.lt hf).trans h
theorem cells (h : XIn w b s0 s1 s2 wr hl dn) : w.cell? ⟨b, 0, Option.none⟩ = some (.slice s0.a s0.n s0.c) ∧ w.cell? ⟨b, 1, Option.none⟩ = some (.slice s1.a s1.n s1.c) ∧ w.cell? ⟨b, 2, Option.none⟩ = some (.slice s2.a s2.n s2.c) ∧ w.cell? ⟨b, 3, Option.none⟩ = some (.int .i64 wr) ∧ w.cell? ⟨b, 4, Option.none⟩ = some (.int .i64 hl) ∧ w.cell? ⟨b, 5, Option.none⟩ = some (.bool dn) :=
  ⟨(cell_of_heap h 0).trans rfl, (cell_of_heap h 1).trans rfl, (cell_of_heap h 2).trans rfl, (cell_of_heap h 3).trans rfl, (cell_of_heap h 4).trans rfl, (cell_of_heap h 5).trans rfl⟩
theorem frz (h : XIn w b s0 s1 s2 wr hl dn) (i : Nat) : w.frozen? ⟨b, i, Option.none⟩ = false := frozen_of_heap h i
end XIn

set_option maxHeartbeats 1000000 in
set_option maxRecDepth 100000 in
theorem ref5_Flush_ok (s0 s1 s2 : Sl) (wr hl : Int) (now : List ByteArray) (w : World) (hh : hl ≤ 9223372036854775807) (h0 : Kd.C Kd.string w s0.a s0.n now) (hn : s0.n ≤ 65536) (wr' hl' : Int) (ht : turnX wr hl false = ⟨wr', hl', false, true⟩) :
    Calls Try.prog 40 #[.agg #[.slice s0.a s0.n s0.c, .slice s1.a s1.n s1.c, .slice s2.a s2.n s2.c, .int .i64 wr, .int .i64 hl, .bool false]] w fun e w' => ∃ s1' : Sl, e = .returned (.tuple #[.agg (xcells s0 s1' Sl.none wr' hl' false), .int .i64 0]) ∧ s1'.n = now.length ∧ Kd.R Kd.string 9 w' w.heap.size (fun _ => True) (.slice s1'.a s1'.n s1'.c) now ∧ Below w.heap.size w w' := by
  have CT := Lib.hid (fun W => ref5_turn s0 s1 s2 wr hl false W hh)
  rw [ht] at CT
  have CT' := Lib.hid (show ∀ W : World, Calls Try.prog 66 #[.agg #[.slice s0.a s0.n s0.c, .slice s1.a s1.n s1.c, .slice s2.a s2.n s2.c, .int .i64 wr, .int .i64 hl, .bool false]] W fun e w' => e = .returned (.tuple #[.agg #[.slice s0.a s0.n s0.c, .slice s1.a s1.n s1.c, .slice s2.a s2.n s2.c, .int .i64 wr', .int .i64 hl', .bool false], .bool true]) ∧ Below W.heap.size W w' from CT.out)
  have H0 := Lib.hid h0
  clear CT ht hh h0
  go_enter Try.func40, Try.ntmps40
  go_wp2_with fail
  refine (CT'.out _).mono ?_
  rintro e w2 ⟨rfl, hb⟩
  have hx : XIn w2 w.heap.size s0 s1 s2 wr hl false := (hb.block _ (by simp; omega)).trans (heap_alloc_old (heap_alloc_self w _) _)
  have hy : XIn w2 (w.heap.size + 1) Sl.none Sl.none Sl.none 0 0 false := (hb.block _ (by simp)).trans (heap_alloc_two w _ _)
  have HB2 := Lib.hid (show Below w.heap.size w w2 from bel_then (bel_alloc (bel_alloc (Below.refl _ _) _) _) hb)
  have HX := Lib.hid (setX_in hx s0 s1 s2 wr' hl' false)
  have HY := Lib.hid (hy.keep (setX_keep w2 w.heap.size s0 s1 s2 wr' hl' false) (by omega))
  have HK := Lib.hid (setX_keep w2 w.heap.size s0 s1 s2 wr' hl' false)
  obtain ⟨c0, c1, c2, c3, c4, c5⟩ := hx.cells
  have fx := hx.frz
  clear hb hx hy
  go_upto_region 6 with fail
  have HBX := Lib.hid (show Below w.heap.size w (setX w2 w.heap.size s0 s1 s2 wr' hl' false) from bel_keep HB2.out HK.out (fun i hi => by subst hi; exact Nat.le_refl _))
  have HC := Lib.hid (Kd.C_below H0.out HBX.out)
  unfold setX at HX HY HK HBX HC
  clear c0 c1 c2 c3 c4 c5 fx
  generalize (((((w2.setCell ⟨w.heap.size, 0, Option.none⟩ (.slice s0.a s0.n s0.c)).setCell ⟨w.heap.size, 1, Option.none⟩ (.slice s1.a s1.n s1.c)).setCell ⟨w.heap.size, 2, Option.none⟩ (.slice s2.a s2.n s2.c)).setCell ⟨w.heap.size, 3, Option.none⟩ (.int .i64 wr')).setCell ⟨w.heap.size, 4, Option.none⟩ (.int .i64 hl')).setCell ⟨w.heap.size, 5, Option.none⟩ (.bool false) = wx at *
  obtain ⟨c0, -⟩ := HX.out.cells
  go_wp2_with (first
    | ((with_reducible refine PrintWords.gate_dst (N := 16) rfl ?_); refine Kd.R_lit Kd.string _ 9 ?hg (N := 16) ?hd (xs := ([] : List ByteArray)) (inner := []) (ok := fun _ => True) (okp := fun _ => True) ?hr ?hp (fun _ hk => hk) trivial (Below.refl _ _) (Nat.le_refl _) (by simp) ?_; (case hd => rfl); (case hg => rfl); (case hr => first | (go_simp; done) | (go_simp; rfl)); (case hp => exact (Reps.none _ _)); intro v3 w3 hR3 hb3 hg3 hnew3; have R3 := Lib.hid hR3; have B3 := Lib.hid hb3; clear hR3 hg3 hnew3; have d0 := (HX.out.below hb3).cells.1; clear hb3)
    | ((with_reducible refine PrintWords.gate_builtin (b := .append) (xs := #[.tmp 16, .tmp 18]) rfl ?_); at_builtin; refine Kd.R_append_rows Kd.string (w0 := wx) wx.heap.size rfl (.tmp 16) (.tmp 18) 57 9 (.string ⟨#[]⟩) 16 rfl Try.underlying57 Pref5.info9 rfl (by decide) (by omega) v3 [] now _ _ _ (fun _ => True) (fun _ => False) rfl rfl ?aO ?aR (fun _ _ h => h) (fun _ h => h.elim) ?aF ?aB ?aS ?aL ?_; (case aO => exact R3.out); (case aF => exact (fun _ _ => trivial)); (case aB => exact B3.out); (case aS => exact B3.out.size); (case aR => exact Kd.C_below HC.out B3.out); (case aL => simp; omega); intro v4 w4 hR4 hb4 hg4 hnew4; obtain ⟨A4, k4, rfl⟩ := Kd.R_slice hR4; simp only [List.nil_append] at hR4 ⊢; have R4 := Lib.hid hR4; have X4 := Lib.hid (HX.out.below hb4); have Y4 := Lib.hid (HY.out.below hb4); have B4 := Lib.hid (bel_then HBX.out hb4); clear hR4 hb4 hg4 hnew4; obtain ⟨e0, e1, e2, e3, e4, e5⟩ := X4.out.cells; have fx := X4.out.frz; obtain ⟨g0, g1, g2, g3, g4, g5⟩ := Y4.out.cells; have fy := Y4.out.frz))
  have HS := Lib.hid HBX.out.size
  have HKZ := Lib.hid (show Keep (fun k => k = w.heap.size ∨ k = w.heap.size + 1) w4 (setX ((w4.setCell ⟨w.heap.size, 1, Option.none⟩ (.slice A4 now.length k4)).setCell ⟨w.heap.size, 2, Option.none⟩ (.slice Option.none 0 0)) (w.heap.size + 1) s0 ⟨A4, now.length, k4⟩ Sl.none wr' hl' false) from
    (((Keep.refl _ w4).setCell (.inl (.inl rfl)) _).setCell (.inl (.inl rfl)) _).andThen (setX_keep _ _ _ _ _ _ _ _) (fun i hi hx => .inr hx))
  have HYZ := Lib.hid (setX_in (show XIn ((w4.setCell ⟨w.heap.size, 1, Option.none⟩ (.slice A4 now.length k4)).setCell ⟨w.heap.size, 2, Option.none⟩ (.slice Option.none 0 0)) (w.heap.size + 1) Sl.none Sl.none Sl.none 0 0 false from
    heap_setCell_ne (heap_setCell_ne Y4.out _ _ (by omega)) _ _ (by omega)) s0 ⟨A4, now.length, k4⟩ Sl.none wr' hl' false)
  have HXL := Lib.hid (show w.heap.size + 1 < wx.heap.size from HY.out.lt)
  have HRZ := Lib.hid (Kd.R_mono (ok' := fun _ => True) (Kd.R_lower (Kd.R_step (Kd.R_bound R4.out) (fun k hok hk => HKZ.out.block k hk (by have := HXL.out; have := hok.2.1; omega))) HS.out) (fun _ _ => trivial))
  have HBZ := Lib.hid (bel_keep B4.out HKZ.out (fun i hi => by omega))
  have hy := HYZ.out
  unfold XIn at hy
  unfold setX at hy HKZ HRZ HBZ
  refine bodyPost_ret (v := .tuple #[.agg (xcells s0 ⟨A4, now.length, k4⟩ Sl.none wr' hl' false), .int .i64 0]) ?_ rfl ?_
  · refine PrintWords.results_list (rs := [.cell 2 72, .tmp 3]) (vs := [.agg (xcells s0 ⟨A4, now.length, k4⟩ Sl.none wr' hl' false), .int .i64 0]) rfl (by simp) ?_
    exact .cell (w.heap.size + 1) 72 (xcells s0 ⟨A4, now.length, k4⟩ Sl.none wr' hl' false) (0, 0) _ rfl hy Try.underlying72 rfl (by kernel_rfl) (.tmp .nil)
  · exact ⟨⟨A4, now.length, k4⟩, rfl, rfl, HRZ.out, HBZ.out⟩
end Go.Proofs.Ytcbefilcdelplaa

namespace Go.Proofs.Ytcbefilcdelplaa
open Go.RowKit
open Go.Proofs.YtcbefilcdelplaaW
open PrintWords (Kd Reps)
set_option linter.unusedVariables false
set_option linter.unusedSimpArgs false

set_option maxHeartbeats 1000000 in
set_option maxRecDepth 100000 in
theorem ref5_Flush_down (s0 s1 s2 : Sl) (wr hl : Int) (w : World) :
    Calls Try.prog 40 #[.agg #[.slice s0.a s0.n s0.c, .slice s1.a s1.n s1.c, .slice s2.a s2.n s2.c, .int .i64 wr, .int .i64 hl, .bool true]] w fun e w' => e = .returned (.tuple #[.agg (xcells s0 s1 s2 wr hl true), .int .i64 6]) ∧ Below w.heap.size w w' := by
  go_enter Try.func40, Try.ntmps40
  go_wp2_with fail
  exact bodyPost_ret (PrintWords.results_list (rs := [.cell 2 72, .tmp 3]) (vs := [.agg (xcells s0 s1 s2 wr hl true), .int .i64 6]) rfl (by simp) (.cell (w.heap.size + 1) 72 (xcells s0 s1 s2 wr hl true) (0, 0) _ rfl (heap_alloc_two w _ (.cells (xcells s0 s1 s2 wr hl true) 72 (0, 0))) Try.underlying72 rfl (by kernel_rfl) (.tmp .nil))) rfl ⟨rfl, bel_alloc (bel_alloc (Below.refl _ _) _) _⟩

set_option maxHeartbeats 1000000 in
set_option maxRecDepth 100000 in
theorem ref5_Flush_halted (s0 s1 s2 : Sl) (wr : Int) (w : World) :
    Calls Try.prog 40 #[.agg #[.slice s0.a s0.n s0.c, .slice s1.a s1.n s1.c, .slice s2.a s2.n s2.c, .int .i64 wr, .int .i64 0, .bool false]] w fun e w' => e = .returned (.tuple #[.agg (xcells s0 s1 s2 wr 0 true), .int .i64 6]) ∧ Below w.heap.size w w' := by
  have CT' := Lib.hid (show ∀ W : World, Calls Try.prog 66 #[.agg #[.slice s0.a s0.n s0.c, .slice s1.a s1.n s1.c, .slice s2.a s2.n s2.c, .int .i64 wr, .int .i64 0, .bool false]] W fun e w' => e = .returned (.tuple #[.agg #[.slice s0.a s0.n s0.c, .slice s1.a s1.n s1.c, .slice s2.a s2.n s2.c, .int .i64 wr, .int .i64 0, .bool true], .bool false]) ∧ Below W.heap.size W w' from fun W => by
    have h := ref5_turn s0 s1 s2 wr 0 false W (by decide)
    rw [show turnX wr 0 false = ⟨wr, 0, true, false⟩ from by simp [turnX]] at h
    exact h)
  go_enter Try.func40, Try.ntmps40
  go_wp2_with fail
  refine (CT'.out _).mono ?_
  rintro e w2 ⟨rfl, hb⟩
  have hx : XIn w2 w.heap.size s0 s1 s2 wr 0 false := (hb.block _ (by simp; omega)).trans (heap_alloc_old (heap_alloc_self w _) _)
  have hy : XIn w2 (w.heap.size + 1) Sl.none Sl.none Sl.none 0 0 false := (hb.block _ (by simp)).trans (heap_alloc_two w _ _)
  have HB2 := Lib.hid (show Below w.heap.size w w2 from bel_then (bel_alloc (bel_alloc (Below.refl _ _) _) _) hb)
  have HY := Lib.hid hy
  have HX := Lib.hid hx
  obtain ⟨c0, c1, c2, c3, c4, c5⟩ := hx.cells
  have fx := hx.frz
  obtain ⟨g0, g1, g2, g3, g4, g5⟩ := hy.cells
  have fy := hy.frz
  clear hb hx hy CT'
  go_wp2_with fail
  have HK := Lib.hid (show Keep (fun k => k = w.heap.size ∨ k = w.heap.size + 1) w2 (setX (setX w2 w.heap.size s0 s1 s2 wr 0 true) (w.heap.size + 1) s0 s1 s2 wr 0 true) from
    ((setX_keep w2 w.heap.size s0 s1 s2 wr 0 true).mono (fun _ _ h => .inl h)).andThen (setX_keep _ _ _ _ _ _ _ _) (fun i hi hx => .inr hx))
  have HYZ := Lib.hid (setX_in (HY.out.keep (setX_keep w2 w.heap.size s0 s1 s2 wr 0 true) (by omega)) s0 s1 s2 wr 0 true)
  have HBZ := Lib.hid (bel_keep HB2.out HK.out (fun i hi => by omega))
  have hy := HYZ.out
  unfold XIn at hy
  unfold setX at hy HBZ
  refine bodyPost_ret (v := .tuple #[.agg (xcells s0 s1 s2 wr 0 true), .int .i64 6]) ?_ rfl ?_
  · refine PrintWords.results_list (rs := [.cell 2 72, .tmp 3]) (vs := [.agg (xcells s0 s1 s2 wr 0 true), .int .i64 6]) rfl (by simp) ?_
    exact .cell (w.heap.size + 1) 72 (xcells s0 s1 s2 wr 0 true) (0, 0) _ rfl hy Try.underlying72 rfl (by kernel_rfl) (.tmp .nil)
  · exact ⟨rfl, HBZ.out⟩
end Go.Proofs.Ytcbefilcdelplaa

namespace Go.Proofs.Ytcbefilcdelplaa
open Go.RowKit
open Go.Proofs.YtcbefilcdelplaaW
open PrintWords (Kd Reps)
set_option linter.unusedVariables false
set_option linter.unusedSimpArgs false

/-- Within Write, behind the sector's store. -/
structure WrAt (w : World) (B : Nat) (lo : Nat) (g k4 : Nat) (s0 s1 s2 : Sl) (wr hl : Int) (xs : List ByteArray) (wy : World) : Prop where
  x : XIn wy B ⟨some ⟨g, 0, Option.none⟩, xs.length, k4⟩ s1 s2 wr hl false
  y : XIn wy (B + 1) Sl.none Sl.none Sl.none 0 0 false
  r : Kd.R Kd.string 9 wy lo (fun k => lo ≤ k) (.slice (some ⟨g, 0, Option.none⟩) xs.length k4) xs
  b : Below w.heap.size w wy
  l : B + 1 < lo
  s : lo ≤ wy.heap.size

namespace WrAt
variable {w wy wz : World} {B lo g k4 : Nat} {s0 s1 s2 : Sl} {wr hl : Int} {xs : List ByteArray}
theorem below (h : WrAt w B lo g k4 s0 s1 s2 wr hl xs wy) (k : Below wy.heap.size wy wz) : WrAt w B lo g k4 s0 s1 s2 wr hl xs wz :=
  ⟨h.x.below k, h.y.below k, Kd.R_below h.r k, bel_then h.b k, h.l, Nat.le_trans h.s k.size⟩
theorem put (h : WrAt w B lo g k4 s0 s1 s2 wr hl xs wy) (hg : lo ≤ g) (hw : w.heap.size ≤ lo) (i : Int) (f : ByteArray) : WrAt w B lo g k4 s0 s1 s2 wr hl (xs.set i.toNat f) (wy.setCell ⟨g, i.toNat, Option.none⟩ (.string f)) := by
  have hl := h.l
  have hr := Kd.R_putn h.r i f
  have hx := h.x
  have e : (xs.set i.toNat f).length = xs.length := List.length_set ..
  refine ⟨?_, ?_, ?_, h.b.setCell (show w.heap.size ≤ g by omega) _, h.l, by simpa [World.setCell] using h.s⟩
  · rw [e]; exact heap_setCell_ne hx _ _ (by omega)
  · exact heap_setCell_ne h.y _ _ (by omega)
  · rw [e]; exact hr
end WrAt

set_option maxHeartbeats 1000000 in
set_option maxRecDepth 100000 in
theorem ref5_Write_ok (s0 s1 s2 : Sl) (wr hl i : Int) (s : ByteArray) (now : List ByteArray) (loose : List Int) (w : World) (hh : hl ≤ 9223372036854775807) (h0 : Kd.C Kd.string w s0.a s0.n now) (hn : s0.n ≤ 65536) (i0 : 0 ≤ i) (i1 : i < (s0.n : Int)) (hs : s.size ≤ 256)
    (h2 : Kd.C (Kd.int .i64) w s2.a s2.n loose) (hc2 : s2.n ≤ s2.c) (kk : Nat) (out : List Int) (hwi : Pref5.dowserref05_with.f kk loose i = some out) (wr' hl' : Int) (ht : turnX wr hl false = ⟨wr', hl', false, true⟩) :
    Calls Try.prog 44 #[.agg #[.slice s0.a s0.n s0.c, .slice s1.a s1.n s1.c, .slice s2.a s2.n s2.c, .int .i64 wr, .int .i64 hl, .bool false], .int .i64 i, .string s] w fun e w' => ∃ t0 t2 : Sl, e = .returned (.tuple #[.agg (xcells t0 s1 t2 wr' hl' false), .int .i64 0]) ∧ t0.n = now.length ∧ t2.n = out.length ∧ Kd.R Kd.string 9 w' w.heap.size (fun _ => True) (.slice t0.a t0.n t0.c) (now.set i.toNat (fillTo s 256)) ∧ Kd.R (Kd.int .i64) 3 w' w.heap.size (fun _ => True) (.slice t2.a t2.n t2.c) out ∧ Below w.heap.size w w' := by
  have CT := Lib.hid (fun W => ref5_turn s0 s1 s2 wr hl false W hh)
  rw [ht] at CT
  have CT' := Lib.hid (show ∀ W : World, Calls Try.prog 66 #[.agg #[.slice s0.a s0.n s0.c, .slice s1.a s1.n s1.c, .slice s2.a s2.n s2.c, .int .i64 wr, .int .i64 hl, .bool false]] W fun e w' => e = .returned (.tuple #[.agg #[.slice s0.a s0.n s0.c, .slice s1.a s1.n s1.c, .slice s2.a s2.n s2.c, .int .i64 wr', .int .i64 hl', .bool false], .bool true]) ∧ Below W.heap.size W w' from CT.out)
  have H0 := Lib.hid h0
  have H2 := Lib.hid h2
  have HWI := Lib.hid hwi
  clear hwi
  have hsI : ¬ (256 : Int) < (s.size : Int) := by omega
  clear CT ht hh h0 h2
  go_enter Try.func44, Try.ntmps44
  go_wp2_with fail
  refine (CT'.out _).mono ?_
  rintro e w2 ⟨rfl, hb⟩
  have hx : XIn w2 w.heap.size s0 s1 s2 wr hl false := (hb.block _ (by simp; omega)).trans (heap_alloc_old (heap_alloc_self w _) _)
  have hy : XIn w2 (w.heap.size + 1) Sl.none Sl.none Sl.none 0 0 false := (hb.block _ (by simp)).trans (heap_alloc_two w _ _)
  have HB2 := Lib.hid (show Below w.heap.size w w2 from bel_then (bel_alloc (bel_alloc (Below.refl _ _) _) _) hb)
  have HX := Lib.hid (setX_in hx s0 s1 s2 wr' hl' false)
  have HY := Lib.hid (hy.keep (setX_keep w2 w.heap.size s0 s1 s2 wr' hl' false) (by omega))
  have HK := Lib.hid (setX_keep w2 w.heap.size s0 s1 s2 wr' hl' false)
  obtain ⟨c0, c1, c2, c3, c4, c5⟩ := hx.cells
  have fx := hx.frz
  clear hb hx hy
  go_upto_region 10 with fail
  have HBX := Lib.hid (show Below w.heap.size w (setX w2 w.heap.size s0 s1 s2 wr' hl' false) from bel_keep HB2.out HK.out (fun i hi => by subst hi; exact Nat.le_refl _))
  have HC := Lib.hid (Kd.C_below H0.out HBX.out)
  unfold setX at HX HY HK HBX HC
  clear c0 c1 c2 c3 c4 c5 fx
  generalize (((((w2.setCell ⟨w.heap.size, 0, Option.none⟩ (.slice s0.a s0.n s0.c)).setCell ⟨w.heap.size, 1, Option.none⟩ (.slice s1.a s1.n s1.c)).setCell ⟨w.heap.size, 2, Option.none⟩ (.slice s2.a s2.n s2.c)).setCell ⟨w.heap.size, 3, Option.none⟩ (.int .i64 wr')).setCell ⟨w.heap.size, 4, Option.none⟩ (.int .i64 hl')).setCell ⟨w.heap.size, 5, Option.none⟩ (.bool false) = wx at *
  obtain ⟨c0, -⟩ := HX.out.cells
  go_upto_region 11 with (first
    | ((with_reducible refine PrintWords.gate_dst (N := 34) rfl ?_); refine Kd.R_lit Kd.string _ 9 ?hg (N := 34) ?hd (xs := ([] : List ByteArray)) (inner := []) (ok := fun _ => True) (okp := fun _ => True) ?hr ?hp (fun _ hk => hk) trivial (Below.refl _ _) (Nat.le_refl _) (by simp) ?_; (case hd => rfl); (case hg => rfl); (case hr => first | (go_simp; done) | (go_simp; rfl)); (case hp => exact (Reps.none _ _)); intro v3 w3 hR3 hb3 hg3 hnew3; have R3 := Lib.hid hR3; have B3 := Lib.hid hb3; clear hR3 hg3 hnew3; have d0 := (HX.out.below hb3).cells.1; clear hb3)
    | ((with_reducible refine PrintWords.gate_builtin (b := .append) (xs := #[.tmp 34, .tmp 36]) rfl ?_); at_builtin; refine Kd.R_append_rows Kd.string (w0 := wx) wx.heap.size rfl (.tmp 34) (.tmp 36) 57 9 (.string ⟨#[]⟩) 16 rfl Try.underlying57 Pref5.info9 rfl (by decide) (by omega) v3 [] now _ _ _ (fun _ => True) (fun _ => False) rfl rfl ?aO ?aR (fun _ _ h => h) (fun _ h => h.elim) ?aF ?aB ?aS ?aL ?_; (case aO => exact R3.out); (case aF => exact (fun _ _ => trivial)); (case aB => exact B3.out); (case aS => exact B3.out.size); (case aR => exact Kd.C_below HC.out B3.out); (case aL => simp; omega); intro v4 w4 hR4 hb4 hg4 hnew4; obtain ⟨A4, k4, rfl⟩ := Kd.R_slice hR4; simp only [List.nil_append] at hR4 ⊢; have R4 := Lib.hid hR4; have X4 := Lib.hid (HX.out.below hb4); have Y4 := Lib.hid (HY.out.below hb4); have B4 := Lib.hid hb4; clear hR4 hb4 hg4 hnew4; obtain ⟨e0, e1, e2, e3, e4, e5⟩ := X4.out.cells; have fx := X4.out.frz))
  have hlen : now.length = s0.n := HC.out.1
  obtain ⟨g4, c4', eo4, gb4, gl4, cl4, HG4⟩ := Kd.R_form R4.out (by omega)
  have GB4 := Lib.hid gb4
  injection eo4 with ea_ en_ ec_
  subst ea_
  have HXL := Lib.hid (show w.heap.size + 1 < wx.heap.size from HY.out.lt)
  have RB := Lib.hid (Kd.R_mono (ok' := fun k => wx.heap.size ≤ k) (Kd.R_bound R4.out) (fun _ h => h.2.1))
  have RC := Lib.hid (Kd.R_far (p := ⟨w.heap.size, 0, Option.none⟩) RB.out (fun k hk => by have := HXL.out; simp; omega) (.slice (some ⟨g4, 0, Option.none⟩) now.length k4))
  have WA := Lib.hid (show WrAt w w.heap.size wx.heap.size g4 k4 s0 s1 s2 wr' hl' now (w4.setCell ⟨w.heap.size, 0, Option.none⟩ (.slice (some ⟨g4, 0, Option.none⟩) now.length k4)) from
    ⟨heap_setCell_same X4.out 0 _, heap_setCell_ne Y4.out _ _ (by omega), RC.out, bel_keep (bel_then HBX.out B4.out) ((Keep.refl (fun k => k = w.heap.size) w4).setCell (.inl rfl) _) (fun i hi => by subst hi; exact Nat.le_refl _), HXL.out, by simpa [World.setCell] using B4.out.size⟩)
  clear e0 e1 e2 e3 e4 e5 fx d0 c0 gb4 gl4 cl4 HG4 en_ ec_
  generalize w4.setCell ⟨w.heap.size, 0, Option.none⟩ (.slice (some ⟨g4, 0, Option.none⟩) now.length k4) = w5 at *
  have CF := Lib.hid (fun W => ref05_Fill s W (by omega))
  go_cut [40] (fun v wy => Aside (WrAt w w.heap.size wx.heap.size g4 k4 s0 s1 s2 wr' hl' (now.set i.toNat (fillTo s 256)) wy))
  case first =>
    obtain ⟨a0, -⟩ := WA.out.x.cells
    have hli : i < (now.length : Int) := by omega
    have hl0 : decide (i < (now.length : Int)) = true := decide_eq_true hli
    generalize fillTo s 256 = f at *
    go_region_with (go_at_call 34; (with_reducible refine (CF.out _).mono ?_); rintro e w6 ⟨rfl, hb6'⟩; have hb6 : Below w5.heap.size w5 w6 := ⟨hb6'.os, hb6'.tape, hb6'.output, hb6'.size, hb6'.block⟩; clear hb6'; have z0 := (WA.out.x.below hb6).cells.1; have zr := Kd.R_celln (⟨#[]⟩ : ByteArray) (Kd.R_below WA.out.r hb6) i i0 hli; obtain ⟨zc, zf⟩ := zr; have Z6 := Lib.hid hb6; clear hb6)
    all_goals
      go_wp2_with fail
      go_meet
      exact ⟨(WA.out.below Z6.out).put GB4.out (by have := HXL.out; omega) i f⟩
  case rest =>
    have WB := Lib.hid hcut.out
    clear hcut
    have HC2 := Lib.hid (Kd.C_below H2.out WB.out.b)
    have hll : loose.length = s2.n := H2.out.1
    obtain ⟨e0, e1, e2, e3, e4, e5⟩ := WB.out.x.cells
    have fx := WB.out.x.frz
    have CWI := Lib.hid (show Calls Try.prog 69 #[.slice s2.a s2.n s2.c, .int .i64 i] wc fun e w' => ∃ v0_ : Value, e = .returned (v0_) ∧ Kd.R (Kd.int .i64) 3 w' wc.heap.size (fun _ => True) v0_ out ∧ Below wc.heap.size wc w' from by
      have h := Pref5.dowserref05_with.calls kk s2.a s2.c loose i out wc (by rw [hll]; exact HC2.out) (by omega) HWI.out
      rw [hll] at h
      exact h)
    clear hll
    go_wp2_with fail
    refine CWI.out.mono ?_
    rintro e w7 ⟨v7, rfl, hR7, hb7⟩
    obtain ⟨A7, k7, rfl⟩ := Kd.R_slice hR7
    have R7 := Lib.hid hR7
    have WC := Lib.hid (WB.out.below hb7)
    have HLW := Lib.hid WB.out.s
    clear hR7 hb7 e0 e1 e2 e3 e4 e5 fx CWI
    obtain ⟨e0, e1, e2, e3, e4, e5⟩ := WC.out.x.cells
    have fx := WC.out.x.frz
    obtain ⟨g0, g1, g2, g3, g4', g5⟩ := WC.out.y.cells
    have fy := WC.out.y.frz
    go_wp2_with fail
    have T0 : ∃ t0 : Sl, t0 = ⟨some ⟨g4, 0, Option.none⟩, s0.n, k4⟩ := ⟨_, rfl⟩
    obtain ⟨t0, ht0⟩ := T0
    obtain ⟨t2, ht2⟩ : ∃ t2 : Sl, t2 = ⟨A7, out.length, k7⟩ := ⟨_, rfl⟩
    have HKZ := Lib.hid (show Keep (fun k => k = w.heap.size ∨ k = w.heap.size + 1) w7 (setX (w7.setCell ⟨w.heap.size, 2, Option.none⟩ (.slice A7 out.length k7)) (w.heap.size + 1) ⟨some ⟨g4, 0, Option.none⟩, s0.n, k4⟩ s1 ⟨A7, out.length, k7⟩ wr' hl' false) from
      ((Keep.refl _ w7).setCell (.inl (.inl rfl)) _).andThen (setX_keep _ _ _ _ _ _ _ _) (fun i hi hx => .inr hx))
    have HYZ := Lib.hid (setX_in (show XIn (w7.setCell ⟨w.heap.size, 2, Option.none⟩ (.slice A7 out.length k7)) (w.heap.size + 1) Sl.none Sl.none Sl.none 0 0 false from
      heap_setCell_ne WC.out.y _ _ (by omega)) ⟨some ⟨g4, 0, Option.none⟩, s0.n, k4⟩ s1 ⟨A7, out.length, k7⟩ wr' hl' false)
    have hsl : (now.set i.toNat (fillTo s 256)).length = s0.n := by rw [List.length_set]; exact hlen
    have HR0 := Lib.hid (Kd.R_mono (ok' := fun _ => True) (Kd.R_lower (Kd.R_step WC.out.r (fun k hok hk => HKZ.out.block k hk (by have := HXL.out; omega))) (show w.heap.size ≤ wx.heap.size by have := HXL.out; omega)) (fun _ _ => trivial))
    rw [hsl] at HR0
    have HR2 := Lib.hid (Kd.R_mono (ok' := fun _ => True) (Kd.R_lower (Kd.R_step (Kd.R_bound R7.out) (fun k hok hk => HKZ.out.block k hk (by have := HXL.out; have := HLW.out; have := hok.2.1; omega))) (show w.heap.size ≤ wc.heap.size by have := HXL.out; have := HLW.out; omega)) (fun _ _ => trivial))
    have HBZ := Lib.hid (bel_keep WC.out.b HKZ.out (fun i hi => by omega))
    have hy := HYZ.out
    unfold XIn at hy
    unfold setX at hy HKZ HR0 HR2 HBZ
    refine bodyPost_ret (v := .tuple #[.agg (xcells ⟨some ⟨g4, 0, Option.none⟩, s0.n, k4⟩ s1 ⟨A7, out.length, k7⟩ wr' hl' false), .int .i64 0]) ?_ rfl ?_
    · refine PrintWords.results_list (rs := [.cell 6 72, .tmp 7]) (vs := [.agg (xcells ⟨some ⟨g4, 0, Option.none⟩, s0.n, k4⟩ s1 ⟨A7, out.length, k7⟩ wr' hl' false), .int .i64 0]) rfl (by simp) ?_
      exact .cell (w.heap.size + 1) 72 (xcells ⟨some ⟨g4, 0, Option.none⟩, s0.n, k4⟩ s1 ⟨A7, out.length, k7⟩ wr' hl' false) (0, 0) _ rfl hy Try.underlying72 rfl (by kernel_rfl) (.tmp .nil)
    · exact ⟨⟨some ⟨g4, 0, Option.none⟩, s0.n, k4⟩, ⟨A7, out.length, k7⟩, rfl, hlen.symm, rfl, HR0.out, HR2.out, HBZ.out⟩
end Go.Proofs.Ytcbefilcdelplaa

namespace Go.Proofs.Ytcbefilcdelplaa
open Go.RowKit
open Go.Proofs.YtcbefilcdelplaaW
open PrintWords (Kd Reps)
set_option linter.unusedVariables false
set_option linter.unusedSimpArgs false

set_option maxHeartbeats 1000000 in
set_option maxRecDepth 100000 in
theorem ref5_Write_down (s0 s1 s2 : Sl) (wr hl i : Int) (s : ByteArray) (w : World) :
    Calls Try.prog 44 #[.agg #[.slice s0.a s0.n s0.c, .slice s1.a s1.n s1.c, .slice s2.a s2.n s2.c, .int .i64 wr, .int .i64 hl, .bool true], .int .i64 i, .string s] w fun e w' => e = .returned (.tuple #[.agg (xcells s0 s1 s2 wr hl true), .int .i64 6]) ∧ Below w.heap.size w w' := by
  go_enter Try.func44, Try.ntmps44
  go_wp2_with fail
  exact bodyPost_ret (PrintWords.results_list (rs := [.cell 6 72, .tmp 7]) (vs := [.agg (xcells s0 s1 s2 wr hl true), .int .i64 6]) rfl (by simp) (.cell (w.heap.size + 1) 72 (xcells s0 s1 s2 wr hl true) (0, 0) _ rfl (heap_alloc_two w _ (.cells (xcells s0 s1 s2 wr hl true) 72 (0, 0))) Try.underlying72 rfl (by kernel_rfl) (.tmp .nil))) rfl ⟨rfl, bel_alloc (bel_alloc (Below.refl _ _) _) _⟩

set_option maxHeartbeats 1000000 in
set_option maxRecDepth 100000 in
theorem ref5_Write_range (s0 s1 s2 : Sl) (wr hl i : Int) (s : ByteArray) (w : World) (h : i < 0 ∨ (s0.n : Int) ≤ i) :
    Calls Try.prog 44 #[.agg #[.slice s0.a s0.n s0.c, .slice s1.a s1.n s1.c, .slice s2.a s2.n s2.c, .int .i64 wr, .int .i64 hl, .bool false], .int .i64 i, .string s] w fun e w' => e = .returned (.tuple #[.agg (xcells s0 s1 s2 wr hl false), .int .i64 7]) ∧ Below w.heap.size w w' := by
  by_cases h0 : i < 0
  · clear h
    go_enter Try.func44, Try.ntmps44
    go_wp2_with fail
    exact bodyPost_ret (PrintWords.results_list (rs := [.cell 6 72, .tmp 7]) (vs := [.agg (xcells s0 s1 s2 wr hl false), .int .i64 7]) rfl (by simp) (.cell (w.heap.size + 1) 72 (xcells s0 s1 s2 wr hl false) (0, 0) _ rfl (heap_alloc_two w _ (.cells (xcells s0 s1 s2 wr hl false) 72 (0, 0))) Try.underlying72 rfl (by kernel_rfl) (.tmp .nil))) rfl ⟨rfl, bel_alloc (bel_alloc (Below.refl _ _) _) _⟩
  · have h1 : (s0.n : Int) ≤ i := by omega
    clear h
    go_enter Try.func44, Try.ntmps44
    go_wp2_with fail
    exact bodyPost_ret (PrintWords.results_list (rs := [.cell 6 72, .tmp 7]) (vs := [.agg (xcells s0 s1 s2 wr hl false), .int .i64 7]) rfl (by simp) (.cell (w.heap.size + 1) 72 (xcells s0 s1 s2 wr hl false) (0, 0) _ rfl (heap_alloc_two w _ (.cells (xcells s0 s1 s2 wr hl false) 72 (0, 0))) Try.underlying72 rfl (by kernel_rfl) (.tmp .nil))) rfl ⟨rfl, bel_alloc (bel_alloc (Below.refl _ _) _) _⟩

set_option maxHeartbeats 1000000 in
set_option maxRecDepth 100000 in
theorem ref5_Write_long (s0 s1 s2 : Sl) (wr hl i : Int) (s : ByteArray) (w : World) (i0 : 0 ≤ i) (i1 : i < (s0.n : Int)) (hs : 256 < s.size) :
    Calls Try.prog 44 #[.agg #[.slice s0.a s0.n s0.c, .slice s1.a s1.n s1.c, .slice s2.a s2.n s2.c, .int .i64 wr, .int .i64 hl, .bool false], .int .i64 i, .string s] w fun e w' => e = .returned (.tuple #[.agg (xcells s0 s1 s2 wr hl false), .int .i64 1]) ∧ Below w.heap.size w w' := by
  have hsI : (256 : Int) < (s.size : Int) := by omega
  go_enter Try.func44, Try.ntmps44
  go_wp2_with fail
  exact bodyPost_ret (PrintWords.results_list (rs := [.cell 6 72, .tmp 7]) (vs := [.agg (xcells s0 s1 s2 wr hl false), .int .i64 1]) rfl (by simp) (.cell (w.heap.size + 1) 72 (xcells s0 s1 s2 wr hl false) (0, 0) _ rfl (heap_alloc_two w _ (.cells (xcells s0 s1 s2 wr hl false) 72 (0, 0))) Try.underlying72 rfl (by kernel_rfl) (.tmp .nil))) rfl ⟨rfl, bel_alloc (bel_alloc (Below.refl _ _) _) _⟩

set_option maxHeartbeats 1000000 in
set_option maxRecDepth 100000 in
theorem ref5_Write_halted (s0 s1 s2 : Sl) (wr i : Int) (s : ByteArray) (w : World) (i0 : 0 ≤ i) (i1 : i < (s0.n : Int)) (hs : s.size ≤ 256) :
    Calls Try.prog 44 #[.agg #[.slice s0.a s0.n s0.c, .slice s1.a s1.n s1.c, .slice s2.a s2.n s2.c, .int .i64 wr, .int .i64 0, .bool false], .int .i64 i, .string s] w fun e w' => e = .returned (.tuple #[.agg (xcells s0 s1 s2 wr 0 true), .int .i64 6]) ∧ Below w.heap.size w w' := by
  have CT' := Lib.hid (show ∀ W : World, Calls Try.prog 66 #[.agg #[.slice s0.a s0.n s0.c, .slice s1.a s1.n s1.c, .slice s2.a s2.n s2.c, .int .i64 wr, .int .i64 0, .bool false]] W fun e w' => e = .returned (.tuple #[.agg #[.slice s0.a s0.n s0.c, .slice s1.a s1.n s1.c, .slice s2.a s2.n s2.c, .int .i64 wr, .int .i64 0, .bool true], .bool false]) ∧ Below W.heap.size W w' from fun W => by
    have h := ref5_turn s0 s1 s2 wr 0 false W (by decide)
    rw [show turnX wr 0 false = ⟨wr, 0, true, false⟩ from by simp [turnX]] at h
    exact h)
  have hsI : ¬ (256 : Int) < (s.size : Int) := by omega
  go_enter Try.func44, Try.ntmps44
  go_wp2_with fail
  refine (CT'.out _).mono ?_
  rintro e w2 ⟨rfl, hb⟩
  have hx : XIn w2 w.heap.size s0 s1 s2 wr 0 false := (hb.block _ (by simp; omega)).trans (heap_alloc_old (heap_alloc_self w _) _)
  have hy : XIn w2 (w.heap.size + 1) Sl.none Sl.none Sl.none 0 0 false := (hb.block _ (by simp)).trans (heap_alloc_two w _ _)
  have HB2 := Lib.hid (show Below w.heap.size w w2 from bel_then (bel_alloc (bel_alloc (Below.refl _ _) _) _) hb)
  have HY := Lib.hid hy
  obtain ⟨c0, c1, c2, c3, c4, c5⟩ := hx.cells
  have fx := hx.frz
  obtain ⟨g0, g1, g2, g3, g4, g5⟩ := hy.cells
  have fy := hy.frz
  clear hb hx hy CT'
  go_wp2_with fail
  have HK := Lib.hid (show Keep (fun k => k = w.heap.size ∨ k = w.heap.size + 1) w2 (setX (setX w2 w.heap.size s0 s1 s2 wr 0 true) (w.heap.size + 1) s0 s1 s2 wr 0 true) from
    ((setX_keep w2 w.heap.size s0 s1 s2 wr 0 true).mono (fun _ _ h => .inl h)).andThen (setX_keep _ _ _ _ _ _ _ _) (fun i hi hx => .inr hx))
  have HYZ := Lib.hid (setX_in (HY.out.keep (setX_keep w2 w.heap.size s0 s1 s2 wr 0 true) (by omega)) s0 s1 s2 wr 0 true)
  have HBZ := Lib.hid (bel_keep HB2.out HK.out (fun i hi => by omega))
  have hy := HYZ.out
  unfold XIn at hy
  unfold setX at hy HBZ
  refine bodyPost_ret (v := .tuple #[.agg (xcells s0 s1 s2 wr 0 true), .int .i64 6]) ?_ rfl ?_
  · refine PrintWords.results_list (rs := [.cell 6 72, .tmp 7]) (vs := [.agg (xcells s0 s1 s2 wr 0 true), .int .i64 6]) rfl (by simp) ?_
    exact .cell (w.heap.size + 1) 72 (xcells s0 s1 s2 wr 0 true) (0, 0) _ rfl hy Try.underlying72 rfl (by kernel_rfl) (.tmp .nil)
  · exact ⟨rfl, HBZ.out⟩
end Go.Proofs.Ytcbefilcdelplaa
