/- disk.New, walked. -/
import Derived.Test.YtendgmblgdkiaaaGreatGInternFull0
import Derived.Test.YtendgmblgdkiaaaGreatGInternFull21
import Derived.Deep.OwnRows
import Derived.Carry
namespace Go.Proofs.YtendgmblgdkiaaaGreat
open Go.RowKit
set_option linter.unusedVariables false
set_option linter.unusedSimpArgs false
attribute [local go_sem ↓] max_mx min_mn

theorem infoS : (Tryz.prog.info? 9).map (fun i => (i.zero, i.size, i.bytes)) = some (some (.string ByteArray.empty), 1, 16) := by kernel_rfl

/-- Where New's loop stands behind k rounds. -/
def NewAt (w : World) (m k : Nat) (wr : World) : Prop :=
 Below w.heap.size w wr ∧ w.heap.size + 2 < wr.heap.size ∧
 wr.heap[w.heap.size]? = some (.cells (List.replicate k (Value.string (zeros 256)) ++ List.replicate (m - k) (Value.string ByteArray.empty)).toArray 9 (0, 0)) ∧
 wr.heap[w.heap.size + 1]? = some (.map #[] 0) ∧
 wr.heap[w.heap.size + 2]? = some (.cells #[.slice (some ⟨w.heap.size, 0, none⟩) m m, .map (some (w.heap.size + 1)), .int .i64 0, .int .i64 (-1), .bool false] 191 (0, 0))

theorem NewAt.step {w wr : World} {m k : Nat} (h : NewAt w m k wr) (hk : k < m) : NewAt w m (k + 1) (wr.setCell ⟨w.heap.size, k, none⟩ (.string (zeros 256))) := by
 obtain ⟨h1, h2, h3, h4, h5⟩ := h
 refine ⟨h1.setCell (Nat.le_refl _) _, by simpa [World.setCell] using h2, ?_, heap_setCell_ne h4 _ _ om_, heap_setCell_ne h5 _ _ om_⟩
 rw [heap_setCell_same h3]
 congr 2
 rw [List.setIfInBounds_toArray]
 congr 1
 obtain ⟨j, hj⟩ : ∃ j, m - k = j + 1 := ⟨m - k - 1, by omega⟩
 have hj2 : m - (k + 1) = j := by omega
 rw [hj, hj2, List.set_append_right _ _ (by simp), List.replicate_succ (n := j), List.replicate_succ' (n := k), List.length_replicate, Nat.sub_self, List.append_assoc]
 rfl

theorem NewAt.done {w wr : World} {m : Nat} (h : NewAt w m m wr) (h2 : 2 ≤ m) (hm : m ≤ 65536) :
  DiskAt wr ⟨w.heap.size + 2, w.heap.size, m, w.heap.size + 1⟩ { now := List.replicate m (zeros 256), was := [], writes := 0, halt := -1, down := false } := by
 obtain ⟨h1, _, h3, h4, h5⟩ := h
 refine ⟨?_, ⟨[], ?_⟩, ⟨#[], 0, h4, MapKept.stamped_empty 0, rfl⟩, by simp, by simp, by simp, ⟨by simpa using h2, by simpa using hm, ?_, by simp, by simp, by simp, by simp, by simp⟩⟩
 ·rw [h5]; simp [Dk.head]
 ·rw [h3]; simp [strs]
 ·intro s hs
  rw [(List.mem_replicate.1 hs).2, zeros_size]

set_option maxHeartbeats 1000000 in
theorem disk_New_core (n : Int) (m : Nat) (w : World) (hm : mn (mx n 2) 65536 = (m : Int)) (h2 : 2 ≤ m) (h6 : m ≤ 65536) :
  Calls Tryz.prog 76 #[.int .i64 n] w fun e w' => e = .returned (.pointer (some ⟨w.heap.size + 2, 0, none⟩)) ∧ NewAt w m m w' := by
 have hmk : ∀ W : World, (Instr.makeSlice 22 (.int .i64 (m : Int)) (.int .i64 (m : Int))).run Tryz.prog W = .ok (.slice (some ⟨W.heap.size, 0, none⟩) m m) (W.alloc (.cells (madeCells #[.string ByteArray.empty] m) 9)) := fun W =>
  run_make_row' 22 9 (.string ByteArray.empty) 16 Tryz.underlying22 infoS rfl .i64 .i64 m om_ om_ W
 have hmm := @run_makeMap Tryz.prog
 have CR := fun w => rep_zero 256 w om_ om_
 obtain ⟨z, hz⟩ : ∃ z, z = zeros 256 := ⟨_, rfl⟩
 have e : (256 : Int).toNat = 256 := rfl
 rw [e, ← hz] at CR
 have CR' := hi_ CR
 have hz' := hi_ hz
 clear CR hz e
 go_enter Tryz.func76, Tryz.ntmps76
 go_wp2_with fail
 refine (CR'.out _).mono ?_
 rintro e w1 ⟨rfl, hb⟩
 have hN : NewAt w m 0 w1 := by
  refine ⟨((((Below.refl _ _).alloc (Nat.le_refl _) _).alloc (by simp) _).alloc (by simp <;> omega) _).trans (hb.mono (by simp <;> omega)), by have := hb.size; simp at this; omega, ?_, ?_, ?_⟩
  ·rw [hb.block _ (by simp <;> omega)]
   rw [heap_alloc_old (heap_alloc_old (heap_alloc_self w _) _) _]
   rw [show madeCells #[Value.string ByteArray.empty] m = (List.replicate m (Value.string ByteArray.empty)).toArray from by rw [← toList_madeCells_one]]
   simp
  ·rw [hb.block _ (by simp <;> omega)]
   have := heap_alloc_self (w.alloc (.cells (madeCells #[.string ByteArray.empty] m) 9)) (.map #[] 0)
   rw [World.size_alloc] at this
   exact heap_alloc_old this _
  ·rw [hb.block _ (by simp)]
   have := heap_alloc_self ((w.alloc (.cells (madeCells #[.string ByteArray.empty] m) 9)).alloc (.map #[] 0)) (.cells #[.slice (some ⟨w.heap.size, 0, none⟩) m m, .map (some (w.heap.size + 1)), .int .i64 0, .int .i64 (-1), .bool false] 191 (0, 0))
   rw [World.size_alloc, World.size_alloc] at this
   exact this
 have g0 : w1.cell? ⟨w.heap.size + 2, 0, none⟩ = some (.slice (some ⟨w.heap.size, 0, none⟩) m m) := (cell_of_heap hN.2.2.2.2 0).trans rfl
 have HN := hi_ hN
 clear hN hb hmk hmm CR' hm
 go_wp2_with fail
 go_loopw [19] (fun c wr => ∃ k : Nat, c = .int .i64 k ∧ k ≤ m ∧ Hid (NewAt w m k wr)) (fun c _ => m - (intOf c).toNat)
 case atStart => exact ⟨0, rfl, by omega, HN⟩
 case round =>
  obtain ⟨k, rfl, hk, HK⟩ := hrel
  have g0 : wr.cell? ⟨w.heap.size + 1 + 1, 0, none⟩ = some (.slice (some ⟨w.heap.size, 0, none⟩) m m) := (cell_of_heap HK.out.2.2.2.2 0).trans rfl
  have g1 : wr.frozen? ⟨w.heap.size, k, none⟩ = false := frozen_of_heap HK.out.2.2.1 k
  by_cases hlt : k < m
  ·have g2 : wr.cell? ⟨w.heap.size, k, none⟩ = some (.string ByteArray.empty) := by
    rw [cell_of_heap HK.out.2.2.1 k]
    have : m - k ≠ 0 := by omega
    simp [List.getElem?_append, List.getElem?_replicate, this]
   have HS := hi_ (HK.out.step hlt)
   rw [← hz'.out] at HS
   clear HK
   go_wp2
   go_roundw
   case rel => exact ⟨k + 1, by go_num, by omega, HS⟩
   case measure => simp [intOf]; omega
  ·have hkm : k = m := by omega
   subst hkm
   go_wp2
   go_ret
   exact ⟨rfl, HK.out⟩

theorem disk_New (n : Int) (w : World) :
  Calls Tryz.prog 76 #[.int .i64 n] w fun e w' => ∃ L : Loc, e = .returned (.pointer (some ⟨L.a, 0, none⟩)) ∧ DiskAt w' L (Dk.make n) ∧ (∀ k, L.foot k → w.heap.size ≤ k) ∧ Below w.heap.size w w' := by
 have h : mn (mx n 2) 65536 = ((min (max n 2) 65536).toNat : Int) := by rw [mn_eq, mx_eq]; omega
 refine (disk_New_core n _ w h om_ om_).mono ?_
 rintro e w' ⟨rfl, hN⟩
 exact ⟨_, rfl, hN.done om_ om_, by rintro k (rfl | rfl | rfl) <;> simp, hN.1⟩

end Go.Proofs.YtendgmblgdkiaaaGreat
