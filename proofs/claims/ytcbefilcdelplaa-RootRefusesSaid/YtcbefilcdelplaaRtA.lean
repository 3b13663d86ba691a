/- dowserlaw06's awake, walked; roots compared. -/
import Derived.Test.YtcbefilcdelplaaRtV
namespace Go.Proofs.Ytcbefilcdelplaa
open Go.RowKit
open Proot (Rt)
open Go.Proofs.YtcbefilcdelplaaW
set_option linter.unusedVariables false
set_option linter.unusedSimpArgs false

section
open PrintWords
theorem eqA50 (d : Nat) (w : World) (x0 y0 : Int) (x1 y1 : Int) (x2 y2 : Int) (x3 y3 : Int) (x4 y4 : Int) (x5 y5 : Int) :
    (Op.equalIn (d + 2) 50 (.agg #[.int .u64 x0, .int .i64 x1, .int .i64 x2, .int .i64 x3, .int .i64 x4, .int .i64 x5]) (.agg #[.int .u64 y0, .int .i64 y1, .int .i64 y2, .int .i64 y3, .int .i64 y4, .int .i64 y5])).run Try.prog w = .ok (x0 == y0 && (x1 == y1 && (x2 == y2 && (x3 == y3 && (x4 == y4 && (x5 == y5)))))) w := by
  refine eqA_of Try.underlying50 (by kernel_rfl) ?_
  refine eqf_cons (by rfl) (by go_simp; rfl) (by go_simp; rfl) (by go_simp) ?_
  refine eqf_cons (by rfl) (by go_simp; rfl) (by go_simp; rfl) (by go_simp) ?_
  refine eqf_cons (by rfl) (by go_simp; rfl) (by go_simp; rfl) (by go_simp) ?_
  refine eqf_cons (by rfl) (by go_simp; rfl) (by go_simp; rfl) (by go_simp) ?_
  refine eqf_cons (by rfl) (by go_simp; rfl) (by go_simp; rfl) (by go_simp) ?_
  exact eqf_last (by rfl) (by go_simp; rfl) (by go_simp; rfl) (by go_simp)
end

/-- The numbers that Publish goes on with, behind a first Open of a fresh disk. -/
theorem start_nums : Found.start.now = -1 ∧ Found.start.most = 0 := ⟨rfl, rfl⟩

/-- awake's first Publish. -/
theorem pub5_post {w : World} {S : Nat} {L : Loc} {e : Ending} {w' : World} (h : PubPost w S L (Dk.make 2) (-1) 0 { r5 with epoch := IntKind.u64.wrap (0 + 1) } e w') :
    e = .returned (.tuple #[.agg #[.int .u64 1, .int .i64 0, .int .i64 (-1), .int .i64 0, .int .i64 5, .int .i64 0], .int .i64 0]) ∧ DiskAt w' L ((Dk.make 2).pub 0 r5'.text).1 ∧ Keep (fun k => L.foot k ∨ k = S) w w' := by
  have e1 : ({ r5 with epoch := IntKind.u64.wrap (0 + 1) } : Rt) = r5' := by
    rw [show IntKind.u64.wrap (0 + 1) = 1 from by rw [IntKind.wrap_u64]; rfl]; rfl
  have e2 : (-1 + 1 : Int) % 2 = 0 := rfl
  rw [e1] at h
  unfold PubPost at h
  rw [e2] at h
  rcases h with ⟨h, _⟩ | ⟨_, h1, h2, _, h4⟩
  · exact absurd pub5_e h
  · exact ⟨h1, h2, h4⟩
theorem open5 (w : World) (L : Loc) (h : DiskAt w L ((Dk.make 2).pub 0 r5'.text).1) :
    Calls Try.prog 29 #[.pointer (some ⟨L.a, 0, none⟩)] w fun e w' => e = .returned (.tuple #[.pointer (some ⟨w.heap.size + 1, 0, none⟩), .agg #[.int .u64 1, .int .i64 0, .int .i64 (-1), .int .i64 0, .int .i64 5, .int .i64 0], .bool true, .int .i64 0]) ∧ Below w.heap.size w w' := by
  have C := root_Open_up w L _ h pub5_down
  rw [pub5_out, pub5_now] at C
  exact C.mono fun e w' h => ⟨h.1, h.2.2⟩

set_option maxHeartbeats 2000000 in
set_option maxRecDepth 100000 in
theorem law6_awake (w : World) : Calls Try.prog 28 #[] w fun e w' => e = .returned (.bool true) ∧ Below w.heap.size w w' := by
  have CN := Lib.hid (disk_New 2 w)
  have hE := eqA50
  go_enter Try.func28, Try.ntmps28
  go_wp2_with fail
  refine CN.out.mono ?_
  rintro e w1 ⟨L, rfl, d1, hf, hb1⟩
  have HF := Lib.hid hf
  have HB1 := Lib.hid hb1
  have CO := root_Open_up w1 L (Dk.make 2) d1 make_down
  rw [make_found] at CO
  have CO' := Lib.hid (show Calls Try.prog 29 #[.pointer (some ⟨L.a, 0, none⟩)] w1 fun e w' => e = .returned (.tuple #[.pointer (some ⟨w1.heap.size + 1, 0, none⟩), .agg #[.int .u64 0, .int .i64 0, .int .i64 0, .int .i64 0, .int .i64 0, .int .i64 0], .bool false, .int .i64 0]) ∧ SlotsAt w' (w1.heap.size + 1) L (-1) 0 ∧ Below w1.heap.size w1 w' from CO)
  have D1 := Lib.hid d1
  clear hf hb1 CO CN d1
  go_wp2_with fail
  refine CO'.out.mono ?_
  rintro e w2 ⟨rfl, hs2, hb2⟩
  have D2 := Lib.hid (D1.out.below hb2)
  have S2 := Lib.hid hs2
  have HB2 := Lib.hid (bel_then HB1.out hb2)
  have FT := Lib.hid (fun k (hk : L.foot k) => D1.out.foot_lt hk)
  clear hs2 hb2 CO'
  go_wp2_with fail
  have CP := root_Publish_yes (w2.alloc (.cells #[.int .u64 0, .int .i64 0, .int .i64 0, .int .i64 0, .int .i64 0, .int .i64 0] 50 (0, 0))) (w1.heap.size + 1) L (Dk.make 2) (-1) 0 r5 (D2.out.alloc _) (S2.out.alloc _) (fun h => by have := FT.out _ h; omega) r5_valid (by decide) (by decide)
  refine CP.mono ?_
  clear CP
  rintro e w3 hq
  obtain ⟨rfl, d3, k3⟩ := pub5_post hq
  have HB3 := Lib.hid (bel_keep (bel_alloc HB2.out _) k3 (fun i hi => by rcases hi with hi | rfl; exact HF.out _ hi; have := HB1.out.size; omega))
  have CO2 := Lib.hid (fun o => open5 (w3.alloc o) L (d3.alloc o))
  clear hq d3 k3 S2 D2
  go_wp2_with fail
  refine (CO2.out _).mono ?_
  rintro e w4 ⟨rfl, hb4⟩
  have HB4 := Lib.hid (bel_then (bel_alloc HB3.out _) hb4)
  have hr : RootIn w4 w3.heap.size r5' := (hb4.block _ (by simp)).trans (heap_alloc_self w3 _)
  obtain ⟨c0, c1, c2, c3, c4, c5⟩ := show (w4.alloc (.cells #[.int .u64 1, .int .i64 0, .int .i64 (-1), .int .i64 0, .int .i64 5, .int .i64 0] 50 (0, 0))).cell? ⟨w3.heap.size, 0, none⟩ = some (.int .u64 1) ∧ (w4.alloc (.cells #[.int .u64 1, .int .i64 0, .int .i64 (-1), .int .i64 0, .int .i64 5, .int .i64 0] 50 (0, 0))).cell? ⟨w3.heap.size, 1, none⟩ = some (.int .i64 0) ∧ (w4.alloc (.cells #[.int .u64 1, .int .i64 0, .int .i64 (-1), .int .i64 0, .int .i64 5, .int .i64 0] 50 (0, 0))).cell? ⟨w3.heap.size, 2, none⟩ = some (.int .i64 (-1)) ∧ (w4.alloc (.cells #[.int .u64 1, .int .i64 0, .int .i64 (-1), .int .i64 0, .int .i64 5, .int .i64 0] 50 (0, 0))).cell? ⟨w3.heap.size, 3, none⟩ = some (.int .i64 0) ∧ (w4.alloc (.cells #[.int .u64 1, .int .i64 0, .int .i64 (-1), .int .i64 0, .int .i64 5, .int .i64 0] 50 (0, 0))).cell? ⟨w3.heap.size, 4, none⟩ = some (.int .i64 5) ∧ (w4.alloc (.cells #[.int .u64 1, .int .i64 0, .int .i64 (-1), .int .i64 0, .int .i64 5, .int .i64 0] 50 (0, 0))).cell? ⟨w3.heap.size, 5, none⟩ = some (.int .i64 0) from (hr.alloc _).cells
  clear hb4 hr
  go_wp2
  go_ret
  exact ⟨rfl, bel_alloc HB4.out _⟩
end Go.Proofs.Ytcbefilcdelplaa
