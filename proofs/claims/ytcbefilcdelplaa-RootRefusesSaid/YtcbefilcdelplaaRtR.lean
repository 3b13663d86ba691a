/- dowserlaw06.RootRefuses, walked. -/
import Derived.Test.YtcbefilcdelplaaRtA
import Derived.Deep.DeepCutAuto
namespace Go.Proofs.Ytcbefilcdelplaa
open Go.RowKit
open Proot (Rt)
open Go.Proofs.YtcbefilcdelplaaW
set_option linter.unusedVariables false
set_option linter.unusedSimpArgs false

theorem law6_count (n : Int) (w : World) : Calls Try.prog 30 #[.int .i64 n] w fun e w' => e = .returned (.bool (Proot.cntB n)) ∧ w = w' := by
  by_cases h : 0 ≤ n
  · have e : Proot.cntB n = decide (n ≤ 2147483647) := by simp [Proot.cntB, h]
    rw [e]
    clear e
    go_enter Try.func30, Try.ntmps30
    go_wp2
    go_ret
    exact ⟨rfl, rfl⟩
  · have e : Proot.cntB n = false := by simp [Proot.cntB, h]
    rw [e]
    clear e
    go_enter Try.func30, Try.ntmps30
    go_wp2
    go_ret
    exact ⟨rfl, rfl⟩

/-- On a fresh disk a Publish goes well. -/
theorem pub_fresh (t : ByteArray) (h : t.size ≤ 256) : ((Dk.make 2).pub 0 t).2 = 0 ∧ ((Dk.make 2).pub 0 t).1.down = false ∧ ((Dk.make 2).pub 0 t).1.halt = -1 := by
  have e0 : (Dk.make 2).flush = ((Dk.make 2).flush.1, 0) := rfl
  have e1 : (Dk.make 2).flush.1.write 0 t = ((Dk.make 2).flush.1.turn.1.put 0 t, 0) := by
    rw [Dk.write, if_neg (by decide), if_neg (by decide), if_neg (by omega), if_neg (by decide)]; rfl
  rw [Dk.pub, if_neg (by rw [e0]; decide), e1, if_neg (show ¬ (0 : Int) ≠ 0 by decide)]
  exact ⟨rfl, rfl, rfl⟩
/-- With no write left a Publish ends at its first step. -/
theorem pub_halted (D : Dk) (nx : Int) (t : ByteArray) (hd : D.down = false) (hh : D.halt = 0) : D.pub nx t = ({ D with down := true }, 6) := by
  have e : D.flush = ({ D with down := true }, 6) := by
    rw [Dk.flush, if_neg (by rw [hd]; decide), Dk.turn, if_pos hh]; rfl
  rw [Dk.pub, e, if_pos (show (6 : Int) ≠ 0 by decide)]

set_option maxHeartbeats 4000000 in
set_option maxRecDepth 100000 in
theorem law6_Refuses (ep hf pg nx ct hg : Int) (w : World) : Calls Try.prog 6 #[.agg #[.int .u64 ep, .int .i64 hf, .int .i64 pg, .int .i64 nx, .int .i64 ct, .int .i64 hg]] w fun e w' => e = .returned (.bool true) ∧ Below w.heap.size w w' := by
  have CA := Lib.hid (fun W => law6_awake W)
  have hE := eqA50
  go_enter Try.func6, Try.ntmps6
  go_wp2_with fail
  refine (CA.out _).mono ?_
  rintro e w0 ⟨rfl, hb0⟩
  have HB0 := Lib.hid (bel_then (bel_alloc (Below.refl _ w) _) hb0)
  have HX0 := Lib.hid (show RootIn w0 w.heap.size ⟨ep, hf, pg, nx, ct, hg⟩ from (hb0.block _ (by simp)).trans (heap_alloc_self w _))
  have CN := Lib.hid (disk_New 2 w0)
  clear hb0 CA
  go_wp2_with fail
  refine CN.out.mono ?_
  rintro e w1 ⟨L, rfl, d1, hf1, hb1⟩
  have HF := Lib.hid (fun k (hk : L.foot k) => Nat.le_trans HB0.out.size (hf1 k hk))
  have HF0 := Lib.hid hf1
  have HB1 := Lib.hid (bel_then HB0.out hb1)
  have HX1 := Lib.hid (HX0.out.below hb1)
  have HL := Lib.hid (show ¬ L.foot w.heap.size from fun h => by have := hf1 _ h; have := HX0.out.lt; omega)
  have CO := root_Open_up w1 L (Dk.make 2) d1 make_down
  rw [make_found] at CO
  have CO' := Lib.hid (show Calls Try.prog 29 #[.pointer (some ⟨L.a, 0, none⟩)] w1 fun e w' => e = .returned (.tuple #[.pointer (some ⟨w1.heap.size + 1, 0, none⟩), .agg #[.int .u64 0, .int .i64 0, .int .i64 0, .int .i64 0, .int .i64 0, .int .i64 0], .bool false, .int .i64 0]) ∧ SlotsAt w' (w1.heap.size + 1) L (-1) 0 ∧ Below w1.heap.size w1 w' from CO)
  have D1 := Lib.hid d1
  clear hf1 hb1 CO CN d1
  go_wp2_with fail
  refine CO'.out.mono ?_
  rintro e w2 ⟨rfl, hs2, hb2⟩
  have D2 := Lib.hid ((D1.out.below hb2).alloc (.cells #[.int .u64 0, .int .i64 0, .int .i64 0, .int .i64 0, .int .i64 0, .int .i64 0] 50 (0, 0)))
  have S2 := Lib.hid (hs2.alloc (.cells #[.int .u64 0, .int .i64 0, .int .i64 0, .int .i64 0, .int .i64 0, .int .i64 0] 50 (0, 0)))
  have HB2 := Lib.hid (bel_alloc (bel_then HB1.out hb2) (.cells #[.int .u64 0, .int .i64 0, .int .i64 0, .int .i64 0, .int .i64 0, .int .i64 0] 50 (0, 0)))
  have HX2 := Lib.hid ((HX1.out.below hb2).alloc (.cells #[.int .u64 0, .int .i64 0, .int .i64 0, .int .i64 0, .int .i64 0, .int .i64 0] 50 (0, 0)))
  have FT := Lib.hid (fun k (hk : L.foot k) => D1.out.foot_lt hk)
  clear hs2 hb2 CO'
  go_upto_region 10 with fail
  generalize w2.alloc (.cells #[.int .u64 0, .int .i64 0, .int .i64 0, .int .i64 0, .int .i64 0, .int .i64 0] 50 (0, 0)) = w3 at *
  obtain ⟨x0, x1, x2, x3, x4, x5⟩ := show w3.cell? ⟨w.heap.size, 0, none⟩ = some (.int .u64 ep) ∧ w3.cell? ⟨w.heap.size, 1, none⟩ = some (.int .i64 hf) ∧ w3.cell? ⟨w.heap.size, 2, none⟩ = some (.int .i64 pg) ∧ w3.cell? ⟨w.heap.size, 3, none⟩ = some (.int .i64 nx) ∧ w3.cell? ⟨w.heap.size, 4, none⟩ = some (.int .i64 ct) ∧ w3.cell? ⟨w.heap.size, 5, none⟩ = some (.int .i64 hg) from HX2.out.cells
  obtain ⟨V, hV⟩ : ∃ V : Bool, V = (⟨ep, hf, pg, nx, ct, hg⟩ : Rt).validB := ⟨_, rfl⟩
  have HV := Lib.hid hV
  clear hV
  go_cut [9] (fun v wx => v = .bool V ∧ wx = w3)
  case first =>
    clear D2 S2
    by_cases h0 : hf = 0
    · subst h0
      by_cases hp : pg = -1
      · subst hp
        cases h_nx : Proot.cntB nx with
        | false =>
          go_wp2_with (go_at_call 30; refine (law6_count _ _).mono ?_; rintro e w' ⟨rfl, rfl⟩)
          go_meet
          exact ⟨by rw [HV.out]; simp [Rt.validB, decide_true, h_nx], rfl⟩
        | true =>
          cases h_ct : Proot.cntB ct with
          | false =>
            go_wp2_with (go_at_call 30; refine (law6_count _ _).mono ?_; rintro e w' ⟨rfl, rfl⟩)
            go_meet
            exact ⟨by rw [HV.out]; simp [Rt.validB, decide_true, h_nx, h_ct], rfl⟩
          | true =>
            go_wp2_with (go_at_call 30; refine (law6_count _ _).mono ?_; rintro e w' ⟨rfl, rfl⟩)
            go_meet
            exact ⟨by rw [HV.out]; simp [Rt.validB, decide_true, h_nx, h_ct], rfl⟩
      · have hpb : (pg == -1) = false := beq_eq_false_iff_ne.2 hp
        cases h_pg : Proot.cntB pg with
        | false =>
          go_wp2_with (go_at_call 30; refine (law6_count _ _).mono ?_; rintro e w' ⟨rfl, rfl⟩)
          go_meet
          exact ⟨by rw [HV.out]; simp [Rt.validB, decide_true, h_pg, hp], rfl⟩
        | true =>
          cases h_nx : Proot.cntB nx with
          | false =>
            go_wp2_with (go_at_call 30; refine (law6_count _ _).mono ?_; rintro e w' ⟨rfl, rfl⟩)
            go_meet
            exact ⟨by rw [HV.out]; simp [Rt.validB, decide_true, h_pg, hp, h_nx], rfl⟩
          | true =>
            cases h_ct : Proot.cntB ct with
            | false =>
              go_wp2_with (go_at_call 30; refine (law6_count _ _).mono ?_; rintro e w' ⟨rfl, rfl⟩)
              go_meet
              exact ⟨by rw [HV.out]; simp [Rt.validB, decide_true, h_pg, hp, h_nx, h_ct], rfl⟩
            | true =>
              go_wp2_with (go_at_call 30; refine (law6_count _ _).mono ?_; rintro e w' ⟨rfl, rfl⟩)
              go_meet
              exact ⟨by rw [HV.out]; simp [Rt.validB, decide_true, h_pg, hp, h_nx, h_ct], rfl⟩
    · have h0b : (hf == 0) = false := beq_eq_false_iff_ne.2 h0
      by_cases h1 : hf = 1
      · subst h1
        by_cases hp : pg = -1
        · subst hp
          cases h_nx : Proot.cntB nx with
          | false =>
            go_wp2_with (go_at_call 30; refine (law6_count _ _).mono ?_; rintro e w' ⟨rfl, rfl⟩)
            go_meet
            exact ⟨by rw [HV.out]; simp [Rt.validB, decide_true, h_nx], rfl⟩
          | true =>
            cases h_ct : Proot.cntB ct with
            | false =>
              go_wp2_with (go_at_call 30; refine (law6_count _ _).mono ?_; rintro e w' ⟨rfl, rfl⟩)
              go_meet
              exact ⟨by rw [HV.out]; simp [Rt.validB, decide_true, h_nx, h_ct], rfl⟩
            | true =>
              go_wp2_with (go_at_call 30; refine (law6_count _ _).mono ?_; rintro e w' ⟨rfl, rfl⟩)
              go_meet
              exact ⟨by rw [HV.out]; simp [Rt.validB, decide_true, h_nx, h_ct], rfl⟩
        · have hpb : (pg == -1) = false := beq_eq_false_iff_ne.2 hp
          cases h_pg : Proot.cntB pg with
          | false =>
            go_wp2_with (go_at_call 30; refine (law6_count _ _).mono ?_; rintro e w' ⟨rfl, rfl⟩)
            go_meet
            exact ⟨by rw [HV.out]; simp [Rt.validB, decide_true, h_pg, hp], rfl⟩
          | true =>
            cases h_nx : Proot.cntB nx with
            | false =>
              go_wp2_with (go_at_call 30; refine (law6_count _ _).mono ?_; rintro e w' ⟨rfl, rfl⟩)
              go_meet
              exact ⟨by rw [HV.out]; simp [Rt.validB, decide_true, h_pg, hp, h_nx], rfl⟩
            | true =>
              cases h_ct : Proot.cntB ct with
              | false =>
                go_wp2_with (go_at_call 30; refine (law6_count _ _).mono ?_; rintro e w' ⟨rfl, rfl⟩)
                go_meet
                exact ⟨by rw [HV.out]; simp [Rt.validB, decide_true, h_pg, hp, h_nx, h_ct], rfl⟩
              | true =>
                go_wp2_with (go_at_call 30; refine (law6_count _ _).mono ?_; rintro e w' ⟨rfl, rfl⟩)
                go_meet
                exact ⟨by rw [HV.out]; simp [Rt.validB, decide_true, h_pg, hp, h_nx, h_ct], rfl⟩
      · have h1b : (hf == 1) = false := beq_eq_false_iff_ne.2 h1
        go_wp2_with (go_at_call 30; refine (law6_count _ _).mono ?_; rintro e w' ⟨rfl, rfl⟩)
        go_meet
        exact ⟨by rw [HV.out]; simp [Rt.validB, h0, h1], rfl⟩
  case rest =>
    obtain ⟨rfl, rfl⟩ := hcut
    clear x0 x1 x2 x3 x4 x5
    obtain ⟨x0, x1, x2, x3, x4, x5⟩ := show wc.cell? ⟨w.heap.size, 0, none⟩ = some (.int .u64 ep) ∧ wc.cell? ⟨w.heap.size, 1, none⟩ = some (.int .i64 hf) ∧ wc.cell? ⟨w.heap.size, 2, none⟩ = some (.int .i64 pg) ∧ wc.cell? ⟨w.heap.size, 3, none⟩ = some (.int .i64 nx) ∧ wc.cell? ⟨w.heap.size, 4, none⟩ = some (.int .i64 ct) ∧ wc.cell? ⟨w.heap.size, 5, none⟩ = some (.int .i64 hg) from HX2.out.cells
    cases V with
    | false =>
      have CP := Lib.hid (show Calls Try.prog 31 #[.pointer (some ⟨w1.heap.size + 1, 0, none⟩), .agg #[.int .u64 ep, .int .i64 hf, .int .i64 pg, .int .i64 nx, .int .i64 ct, .int .i64 hg]] wc fun e w' => e = .returned (.tuple #[.agg #[.int .u64 0, .int .i64 0, .int .i64 0, .int .i64 0, .int .i64 0, .int .i64 0], .int .i64 1]) ∧ Below wc.heap.size wc w' from root_Publish_no wc (w1.heap.size + 1) ⟨ep, hf, pg, nx, ct, hg⟩ HV.out.symm)
      go_wp2_with fail
      refine CP.out.mono ?_
      rintro e w4 ⟨rfl, hb4⟩
      have HB4 := Lib.hid (bel_alloc (bel_then HB2.out hb4) (.cells #[.int .u64 0, .int .i64 0, .int .i64 0, .int .i64 0, .int .i64 0, .int .i64 0] 50 (0, 0)))
      have CW := Lib.hid (show Calls Try.prog 32 #[.pointer (some ⟨L.a, 0, none⟩)] (w4.alloc (.cells #[.int .u64 0, .int .i64 0, .int .i64 0, .int .i64 0, .int .i64 0, .int .i64 0] 50 (0, 0))) fun e w' => e = .returned (.int .i64 0) ∧ (w4.alloc (.cells #[.int .u64 0, .int .i64 0, .int .i64 0, .int .i64 0, .int .i64 0, .int .i64 0] 50 (0, 0))) = w' from disk_Writes _ L (Dk.make 2) ((D2.out.below hb4).alloc _))
      clear hb4
      go_wp2_with fail
      refine CW.out.mono ?_
      rintro e w' ⟨rfl, rfl⟩
      go_wp2
      go_ret
      exact ⟨rfl, HB4.out⟩
    | true =>
      have CP := root_Publish_yes wc (w1.heap.size + 1) L (Dk.make 2) (-1) 0 ⟨ep, hf, pg, nx, ct, hg⟩ D2.out S2.out (fun h => by have := FT.out _ h; omega) HV.out.symm (by decide) (by decide)
      have e1 : ({ (⟨ep, hf, pg, nx, ct, hg⟩ : Rt) with epoch := IntKind.u64.wrap (0 + 1) } : Rt) = ⟨1, hf, pg, nx, ct, hg⟩ := by
        rw [show IntKind.u64.wrap (0 + 1) = 1 from by rw [IntKind.wrap_u64]; rfl]
      rw [e1] at CP
      obtain ⟨p1, p2, p3⟩ := pub_fresh (⟨1, hf, pg, nx, ct, hg⟩ : Rt).text (show 37 ≤ 256 by decide)
      have CP' := Lib.hid (CP.mono (R' := fun e w' => e = .returned (.tuple #[.agg #[.int .u64 1, .int .i64 hf, .int .i64 pg, .int .i64 nx, .int .i64 ct, .int .i64 hg], .int .i64 0]) ∧ DiskAt w' L ((Dk.make 2).pub 0 (⟨1, hf, pg, nx, ct, hg⟩ : Rt).text).1 ∧ SlotsAt w' (w1.heap.size + 1) L 0 1 ∧ Keep (fun k => L.foot k ∨ k = w1.heap.size + 1) wc w') (fun e w' h => by
        unfold PubPost at h
        rcases h with ⟨h, _⟩ | ⟨_, h1, h2, h3, h4⟩
        · exact absurd p1 h
        · exact ⟨h1, h2, h3, h4⟩))
      have HP2 := Lib.hid p2
      have HSC := Lib.hid S2.out.lt
      generalize ((Dk.make 2).pub 0 (⟨1, hf, pg, nx, ct, hg⟩ : Rt).text).1 = D3 at *
      clear CP e1 p1 p2 p3
      go_wp2_with fail
      refine CP'.out.mono ?_
      rintro e w4 ⟨rfl, d4, s4, k4⟩
      have HSZ := Lib.hid (show w1.heap.size ≤ w4.heap.size by have := HSC.out; have := k4.size; omega)
      have HG := Lib.hid (heap_alloc_self w4 (.cells #[.int .u64 1, .int .i64 hf, .int .i64 pg, .int .i64 nx, .int .i64 ct, .int .i64 hg] 50 (0, 0)))
      have HX4 := Lib.hid ((HX2.out.keep k4 (fun h => by rcases h with h | h; exact HL.out h; have := HB1.out.size; have := HX1.out.lt; omega)).alloc (.cells #[.int .u64 1, .int .i64 hf, .int .i64 pg, .int .i64 nx, .int .i64 ct, .int .i64 hg] 50 (0, 0)))
      have HB4 := Lib.hid (bel_alloc (bel_keep HB2.out k4 (fun i hi => by rcases hi with hi | rfl; exact HF.out _ hi; have := HB1.out.size; omega)) (.cells #[.int .u64 1, .int .i64 hf, .int .i64 pg, .int .i64 nx, .int .i64 ct, .int .i64 hg] 50 (0, 0)))
      have S4 := Lib.hid (s4.alloc (.cells #[.int .u64 1, .int .i64 hf, .int .i64 pg, .int .i64 nx, .int .i64 ct, .int .i64 hg] 50 (0, 0)))
      have CH := Lib.hid (disk_Halt _ L D3 0 (d4.alloc (.cells #[.int .u64 1, .int .i64 hf, .int .i64 pg, .int .i64 nx, .int .i64 ct, .int .i64 hg] 50 (0, 0))) (by decide))
      clear d4 s4 k4 CP'
      go_wp2_with fail
      generalize w4.alloc (.cells #[.int .u64 1, .int .i64 hf, .int .i64 pg, .int .i64 nx, .int .i64 ct, .int .i64 hg] 50 (0, 0)) = w5 at *
      refine CH.out.mono ?_
      rintro e w6 ⟨rfl, d6, k6⟩
      have HGN := Lib.hid (show w6.heap[w4.heap.size]? = some (.cells #[.int .u64 1, .int .i64 hf, .int .i64 pg, .int .i64 nx, .int .i64 ct, .int .i64 hg] 50 (0, 0)) from k6.heap HG.out (fun h => by have := FT.out _ h; have := HSZ.out; omega))
      have HX6 := Lib.hid (HX4.out.keep k6 HL.out)
      have S6 := Lib.hid (S4.out.keep k6 (fun h => by have := FT.out _ h; omega))
      have HB6 := Lib.hid (bel_keep HB4.out k6 (fun i hi => HF.out _ hi))
      have CP2 := root_Publish_yes w6 (w1.heap.size + 1) L (D3.doHalt 0) 0 1 ⟨ep, hf, pg, nx, ct, hg⟩ d6 S6.out (fun h => by have := FT.out _ h; omega) HV.out.symm (by decide) (by decide)
      have CP3 := Lib.hid (CP2.mono (R' := fun e w' => e = .returned (.tuple #[.agg #[.int .u64 0, .int .i64 0, .int .i64 0, .int .i64 0, .int .i64 0, .int .i64 0], .int .i64 6]) ∧ (∃ D5 : Dk, DiskAt w' L D5 ∧ D5.down = true) ∧ Keep L.foot w6 w') (fun e w' h => by
        unfold PubPost at h
        rw [pub_halted (D3.doHalt 0) _ _ (show D3.down = false from HP2.out) (show (D3.doHalt 0).halt = 0 from rfl)] at h
        rcases h with ⟨_, h1, h2, h3, h4⟩ | ⟨h, _⟩
        · exact ⟨h1, ⟨_, h2, rfl⟩, h4⟩
        · exact absurd h (show ¬ (6 : Int) = 0 by decide)))
      clear x0 x1 x2 x3 x4 x5 d6 k6 CP2 CH
      obtain ⟨x0, x1, x2, x3, x4, x5⟩ := show w6.cell? ⟨w.heap.size, 0, none⟩ = some (.int .u64 ep) ∧ w6.cell? ⟨w.heap.size, 1, none⟩ = some (.int .i64 hf) ∧ w6.cell? ⟨w.heap.size, 2, none⟩ = some (.int .i64 pg) ∧ w6.cell? ⟨w.heap.size, 3, none⟩ = some (.int .i64 nx) ∧ w6.cell? ⟨w.heap.size, 4, none⟩ = some (.int .i64 ct) ∧ w6.cell? ⟨w.heap.size, 5, none⟩ = some (.int .i64 hg) from HX6.out.cells
      go_wp2_with fail
      refine CP3.out.mono ?_
      rintro e w7 ⟨rfl, ⟨D5, d7, hd5⟩, k7⟩
      have HGN7 := Lib.hid (heap_alloc_old (k7.heap HGN.out (fun h => by have := FT.out _ h; have := HSZ.out; omega)) (.cells #[.int .u64 0, .int .i64 0, .int .i64 0, .int .i64 0, .int .i64 0, .int .i64 0] 50 (0, 0)))
      have HX7 := Lib.hid ((HX6.out.keep k7 HL.out).alloc (.cells #[.int .u64 0, .int .i64 0, .int .i64 0, .int .i64 0, .int .i64 0, .int .i64 0] 50 (0, 0)))
      have HB7 := Lib.hid (bel_alloc (bel_keep HB6.out k7 (fun i hi => HF.out _ hi)) (.cells #[.int .u64 0, .int .i64 0, .int .i64 0, .int .i64 0, .int .i64 0, .int .i64 0] 50 (0, 0)))
      have CO3 := Lib.hid (show Calls Try.prog 29 #[.pointer (some ⟨L.a, 0, none⟩)] (w7.alloc (.cells #[.int .u64 0, .int .i64 0, .int .i64 0, .int .i64 0, .int .i64 0, .int .i64 0] 50 (0, 0))) fun e w' => e = .returned (.tuple #[.pointer none, .agg #[.int .u64 0, .int .i64 0, .int .i64 0, .int .i64 0, .int .i64 0, .int .i64 0], .bool false, .int .i64 6]) ∧ Below (w7.alloc (.cells #[.int .u64 0, .int .i64 0, .int .i64 0, .int .i64 0, .int .i64 0, .int .i64 0] 50 (0, 0))).heap.size (w7.alloc (.cells #[.int .u64 0, .int .i64 0, .int .i64 0, .int .i64 0, .int .i64 0, .int .i64 0] 50 (0, 0))) w' from root_Open_down _ L D5 (d7.alloc _) hd5)
      clear x0 x1 x2 x3 x4 x5 d7 k7 hd5 CP3
      go_wp2_with fail
      generalize w7.alloc (.cells #[.int .u64 0, .int .i64 0, .int .i64 0, .int .i64 0, .int .i64 0, .int .i64 0] 50 (0, 0)) = w8 at *
      refine CO3.out.mono ?_
      rintro e w9 ⟨rfl, hb9⟩
      have HB9 := Lib.hid (bel_alloc (bel_then HB7.out hb9) (.cells #[.int .u64 0, .int .i64 0, .int .i64 0, .int .i64 0, .int .i64 0, .int .i64 0] 50 (0, 0)))
      have g4 : (w9.alloc (.cells #[.int .u64 0, .int .i64 0, .int .i64 0, .int .i64 0, .int .i64 0, .int .i64 0] 50 (0, 0))).cell? ⟨w4.heap.size, 4, none⟩ = some (.int .i64 ct) := (cell_of_heap (heap_alloc_old ((hb9.block _ (lt_of_heap HGN7.out)).trans HGN7.out) _) 4).trans rfl
      have x4 : (w9.alloc (.cells #[.int .u64 0, .int .i64 0, .int .i64 0, .int .i64 0, .int .i64 0, .int .i64 0] 50 (0, 0))).cell? ⟨w.heap.size, 4, none⟩ = some (.int .i64 ct) := ((HX7.out.below hb9).alloc _).cells.2.2.2.2.1
      clear hb9 CO3
      go_wp2
      go_ret
      exact ⟨rfl, HB9.out⟩
end Go.Proofs.Ytcbefilcdelplaa
