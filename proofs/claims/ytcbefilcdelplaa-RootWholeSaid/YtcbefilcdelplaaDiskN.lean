/- The disk's Clone, walked. -/
import Derived.Test.YtcbefilcdelplaaDiskX
import Derived.Test.YtcbefilcdelplaaPagesC
import Derived.Deep.RegionHeld3
namespace Go.Proofs.Ytcbefilcdelplaa
open Go.RowKit
set_option linter.unusedVariables false
set_option linter.unusedSimpArgs false

/-- A disk out of its parts. -/
theorem clone_at {w w' : World} {L : Loc} {D : Dk} (h : DiskAt w L D) {b g c m : Nat} {es : Array MapEntry} {clock : Nat} {rest : List Value}
    (hb : w'.heap[b]? = some (.cells #[.slice (some ⟨g, 0, none⟩) D.now.length c, .map (some m), .int .i64 D.writes, .int .i64 D.halt, .bool D.down] 101 (0, 0)))
    (hg : w'.heap[g]? = some (.cells (strs D.now ++ rest).toArray 9 (0, 0))) (hm : w'.heap[m]? = some (.map es clock)) (hs : MapKept.Stamped es clock) (hi : MapIs es D.was)
    (n1 : b ≠ g) (n2 : b ≠ m) (n3 : g ≠ m) : DiskAt w' ⟨b, g, c, m⟩ D :=
  ⟨hb, ⟨rest, hg⟩, ⟨es, clock, hm, hs, hi⟩, n1, n2, n3, h.ok⟩

theorem row_of {w : World} {B : Nat} {e : TypeId} {v : Value} {l : List Value} (h : w.ownsRow B e 1 v l.length l) (hn : 0 < l.length) :
    ∃ g c rest, v = .slice (some ⟨g, 0, none⟩) l.length c ∧ B ≤ g ∧ w.heap[g]? = some (.cells (l ++ rest).toArray e (0, 0)) := by
  rcases h.2 with ⟨_, h1⟩ | ⟨g, cap, cur, hv, hg, hh, h3, h4, h5, h6⟩
  · omega
  · refine ⟨g, cap, cur.toList.drop l.length, hv, hg, ?_⟩
    rw [hh]
    rw [Nat.mul_one] at h6
    congr 2
    apply Array.toList_inj.1
    show cur.toList = l ++ cur.toList.drop l.length
    conv => rhs; lhs; rw [← h6]
    rw [List.take_append_drop]

theorem DiskAt.two {w : World} {L : Loc} {D : Dk} (h : DiskAt w L D) : w.cell? ⟨L.a, 0, none⟩ = some (.slice (some ⟨L.n, 0, none⟩) D.now.length L.c) ∧ w.cell? ⟨L.a, 1, none⟩ = some (.map (some L.m)) := ⟨h.cell0, h.cell1⟩

set_option maxHeartbeats 2000000 in
set_option maxRecDepth 100000 in
theorem disk_Clone (w : World) (L : Loc) (D : Dk) (h : DiskAt w L D) :
    Calls Try.prog 42 #[.pointer (some ⟨L.a, 0, none⟩)] w fun e w' => ∃ L' : Loc, e = .returned (.pointer (some ⟨L'.a, 0, none⟩)) ∧ DiskAt w' L' D ∧ (∀ k, L'.foot k → w.heap.size ≤ k) ∧ Below w.heap.size w w' := by
  have c0 := h.cell0
  have c1 := h.cell1
  have c2 := h.cell2
  have c3 := h.cell3
  have c4 := h.cell4
  have hl := h.lt_a
  have hmo := h.ok.most
  obtain ⟨es, clock, hmp, hst, hmi⟩ := h.map
  have hle := h.ok.least
  have CS := Lib.hid (fun W (h : DiskAt W L D) => show Calls Try.prog 67 #[.slice (some ⟨L.n, 0, none⟩) D.now.length L.c] W fun e w' =>
      ∃ g c rest, e = .returned (.slice (some ⟨g, 0, none⟩) D.now.length c) ∧ W.heap.size ≤ g ∧ w'.heap[g]? = some (.cells (strs D.now ++ rest).toArray 9 (0, 0)) ∧ Below W.heap.size W w' from by
    refine (Try.slices_Clone_string L.n 0 D.now.length L.c D.now W (Nat.le_refl _) (by omega) (fun j hj => by rw [Nat.zero_add]; exact h.cellN hj)).mono ?_
    rintro e w' ⟨v, rfl, hrow, _, hb⟩
    rw [List.take_length] at hrow
    obtain ⟨g, c, rest, hv, hg, hh⟩ := row_of (l := strs D.now) (by simpa [strs] using hrow) (by simp [strs]; omega)
    exact ⟨g, c, rest, by rw [hv]; simp [strs], hg, hh, hb⟩)
  have CM := Lib.hid (fun W (hb : W.heap[L.m]? = some (.map es clock)) => show Calls Try.prog 68 #[.map (some L.m)] W fun e w' => e = .returned (.map (some W.heap.size)) ∧ w' = W.alloc (.map es clock) from AnyW.maps_Clone Try.cloneM L.m es clock W hb)
  have HD := Lib.hid h
  have hnf : ¬ L.foot w.heap.size := fun hf => absurd (h.foot_lt hf) (Nat.lt_irrefl _)
  have HNF := Lib.hid hnf
  have HMP := Lib.hid hmp
  have hne : L.a ≠ w.heap.size := by omega
  have HST := Lib.hid hst
  have HMI := Lib.hid hmi
  clear h hmp hst hmi hmo hle
  go_enter Try.func42, Try.ntmps42
  go_wp2_with fail
  clear hnf
  go_region_held3 (fun w' => w'.cell? ⟨L.a, 0, none⟩ = some (.slice (some ⟨L.n, 0, none⟩) D.now.length L.c) ∧ w'.cell? ⟨L.a, 1, none⟩ = some (.map (some L.m)))
    ((refine DiskAt.two (D := D) ?_; (repeat (first | (with_reducible assumption) | exact HD.out | refine DiskAt.alloc ?_ _ | refine DiskAt.drewN ?_ _ | refine DiskAt.drew ?_ | refine DiskAt.setCell ?_ HNF.out _)))) (first
      | (go_at_call 67; (with_reducible refine (CS.out _ ?_).mono ?_); (repeat (first | (with_reducible assumption) | exact HD.out | refine DiskAt.alloc ?_ _ | refine DiskAt.drewN ?_ _ | refine DiskAt.drew ?_ | refine DiskAt.setCell ?_ HNF.out _)); rintro e w2 ⟨g, cp, rest, rfl, hg, hh, hb2⟩; have d2 : DiskAt w2 L D := (by (refine DiskAt.below ?_ hb2; (repeat (first | (with_reducible assumption) | exact HD.out | refine DiskAt.alloc ?_ _ | refine DiskAt.drewN ?_ _ | refine DiskAt.drew ?_ | refine DiskAt.setCell ?_ HNF.out _)))); have HX2 := Lib.hid ((hb2.block w.heap.size (by simp)).trans (heap_alloc_self w _)); have HM2 := Lib.hid ((hb2.block L.m (by have := lt_of_heap HMP.out; simp; omega)).trans (heap_alloc_old HMP.out _)); have HG := Lib.hid (show w.heap.size + 1 ≤ g by simpa using hg); have HH := Lib.hid hh; have HB2 := Lib.hid (bel_then (bel_drew (bel_alloc (Below.refl w.heap.size w) _)) hb2); clear hg hh hb2)
      | (go_at_call 68; (with_reducible refine (CM.out _ HM2.out).mono ?_); rintro e w3 ⟨rfl, rfl⟩; have x0 := (cell_of_heap (heap_alloc_old HX2.out (.map es clock)) 0); have x1 := (cell_of_heap (heap_alloc_old HX2.out (.map es clock)) 1); have xf := (frozen_of_heap (heap_alloc_old HX2.out (.map es clock)))))
  have hX := lt_of_heap HX2.out
  have hG := lt_of_heap HH.out
  have b1 : w.heap.size ≠ g := by have := HG.out; omega
  have b2 : w.heap.size ≠ w2.heap.size := by omega
  have b3 : g ≠ w2.heap.size := by omega
  have B1 := Lib.hid b1
  have B2 := Lib.hid b2
  have B3 := Lib.hid b3
  have F1 := heap_setCell_same (heap_setCell_same (heap_alloc_old HX2.out (.map es clock)) 0 (.slice (some ⟨g, 0, none⟩) D.now.length cp)) 1 (.map (some w2.heap.size))
  have F2 := heap_setCell_ne (heap_setCell_ne (heap_alloc_old HH.out (.map es clock)) 0 (.slice (some ⟨g, 0, none⟩) D.now.length cp) (Ne.symm b1)) 1 (.map (some w2.heap.size)) (Ne.symm b1)
  have F3 := heap_setCell_ne (heap_setCell_ne (heap_alloc_self w2 (.map es clock)) 0 (.slice (some ⟨g, 0, none⟩) D.now.length cp) (Ne.symm b2)) 1 (.map (some w2.heap.size)) (Ne.symm b2)
  have F4 := ((bel_alloc HB2.out (.map es clock)).setCell (p := ⟨w.heap.size, 0, none⟩) (Nat.le_refl _) (.slice (some ⟨g, 0, none⟩) D.now.length cp)).setCell (p := ⟨w.heap.size, 1, none⟩) (Nat.le_refl _) (.map (some w2.heap.size))
  have G1 := Lib.hid F1
  have G2 := Lib.hid F2
  have G3 := Lib.hid F3
  have G4 := Lib.hid F4
  have hgw : w.heap.size ≤ g := by have := HG.out; omega
  have hmw : w.heap.size ≤ w2.heap.size := by omega
  clear F1 F2 F3 F4 b1 b2 b3 hX hG
  go_wp2
  go_ret
  exact ⟨⟨w.heap.size, g, cp, w2.heap.size⟩, rfl, clone_at HD.out G1.out G2.out G3.out HST.out HMI.out B1.out B2.out B3.out, by rintro k (rfl | rfl | rfl); exact Nat.le_refl _; exact hgw; exact hmw, G4.out⟩

end Go.Proofs.Ytcbefilcdelplaa
