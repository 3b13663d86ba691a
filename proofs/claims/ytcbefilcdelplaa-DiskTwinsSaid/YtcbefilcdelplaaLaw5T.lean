/- DiskTwins: two disks that are alike, and are asked the same, stay alike. -/
import Derived.Test.YtcbefilcdelplaaLaw5D
namespace Go.Proofs.Ytcbefilcdelplaa
open Go.RowKit
set_option linter.unusedVariables false
set_option linter.unusedSimpArgs false
attribute [local go_sem ↓] max_mx min_mn

theorem turn_now (D : Dk) : D.turn.1.now = D.now := by unfold Dk.turn; split <;> rfl
theorem write_len (D : Dk) (i : Int) (s : ByteArray) : (D.write i s).1.now.length = D.now.length := by
  unfold Dk.write
  (repeat' split) <;> simp [turn_now, Dk.put, loosen_now]
theorem flush_len (D : Dk) : D.flush.1.now.length = D.now.length := by
  unfold Dk.flush
  (repeat' split) <;> simp [turn_now]

/-- A call's turn of a disk. -/
def Dk.act (D : Dk) (A : Act) : Dk :=
  if A.kind = 2 then D.flush.1 else if A.kind = 3 then D.doHalt A.i else if A.kind = 4 then D.crash (A.ch.take 20) else (D.write A.i (cutTo A.s 260)).1
theorem act_len (D : Dk) (A : Act) : (D.act A).now.length = D.now.length := by
  unfold Dk.act
  (repeat' split) <;> simp [flush_len, crash_len, write_len, Dk.doHalt]

/-- One disk. -/
def OneAt (w : World) (L : Loc) (n : Nat) (wr : World) : Prop := ∃ D, DiskAt wr L D ∧ D.now.length = n ∧ Below w.heap.size w wr

/-- Two. -/
structure TwoAt (w : World) (L M : Loc) (D E : Dk) (wr : World) : Prop where
  d : DiskAt wr L D
  e : DiskAt wr M E
  b : Below w.heap.size w wr
def TwinsAt (w : World) (L M : Loc) (n : Nat) (wr : World) : Prop := ∃ D, TwoAt w L M D D wr ∧ D.now.length = n

theorem TwoAt.left {w wr w' : World} {L M : Loc} {D E D1 : Dk} (h : TwoAt w L M D E wr) (hF : ∀ i, L.foot i → w.heap.size ≤ i) (hX : ∀ i, L.foot i → ¬ M.foot i) (d : DiskAt w' L D1) (k : Keep L.foot wr w') : TwoAt w L M D1 E w' :=
  ⟨d, h.e.keep k (fun i hi hl => hX i hl hi), bel_keep h.b k hF⟩
theorem TwoAt.right {w wr w' : World} {L M : Loc} {D E E1 : Dk} (h : TwoAt w L M D E wr) (hF : ∀ i, M.foot i → w.heap.size ≤ i) (hX : ∀ i, L.foot i → ¬ M.foot i) (d : DiskAt w' M E1) (k : Keep M.foot wr w') : TwoAt w L M D E1 w' :=
  ⟨h.d.keep k (fun i hi hl => hX i hi hl), d, bel_keep h.b k hF⟩
theorem TwoAt.below {w wr w' : World} {L M : Loc} {D E : Dk} (h : TwoAt w L M D E wr) (k : Below wr.heap.size wr w') : TwoAt w L M D E w' := ⟨h.d.below k, h.e.below k, bel_then h.b k⟩

/-- Within a round: so many of the two have been asked. -/
structure MidAt (w : World) (L M : Loc) (g : Nat) (D D1 : Dk) (j : Nat) (wr : World) : Prop where
  j2 : j ≤ 2
  two : TwoAt w L M (if 1 ≤ j then D1 else D) (if 2 ≤ j then D1 else D) wr
  p0 : wr.cell? ⟨g, 0, none⟩ = some (.pointer (some ⟨L.a, 0, none⟩))
  p1 : wr.cell? ⟨g, 1, none⟩ = some (.pointer (some ⟨M.a, 0, none⟩))

theorem MidAt.next {w wr : World} {L M : Loc} {g : Nat} {D D1 : Dk} {j : Nat} (h : MidAt w L M g D D1 j wr) (hj : j < 2) (hF : ∀ i, L.foot i → w.heap.size ≤ i) (hG : ∀ i, M.foot i → w.heap.size ≤ i) (hX : ∀ i, L.foot i → ¬ M.foot i) (hg : ¬ L.foot g ∧ ¬ M.foot g) :
    ∃ K : Loc, wr.cell? ⟨g, j, none⟩ = some (.pointer (some ⟨K.a, 0, none⟩)) ∧ DiskAt wr K D ∧ (∀ i, K.foot i → w.heap.size ≤ i) ∧ ∀ w', DiskAt w' K D1 → Keep K.foot wr w' → MidAt w L M g D D1 (j + 1) w' := by
  have hg1 : g < wr.heap.size := World.block_lt_of_cell? wr _ h.p0
  obtain rfl | rfl : j = 0 ∨ j = 1 := by omega
  · refine ⟨L, h.p0, h.two.d, hF, fun w' d k => ⟨by omega, h.two.left hF hX d k, ?_, ?_⟩⟩
    · rw [k.cell hg1 hg.1]; exact h.p0
    · rw [k.cell hg1 hg.1]; exact h.p1
  · refine ⟨M, h.p1, h.two.e, hG, fun w' d k => ⟨by omega, h.two.right hG hX d k, ?_, ?_⟩⟩
    · rw [k.cell hg1 hg.2]; exact h.p0
    · rw [k.cell hg1 hg.2]; exact h.p1

set_option maxHeartbeats 8000000 in
set_option maxRecDepth 100000 in
theorem twins_walk (size : Int) (va vb : Value) (before acts : List Act) (w : World) (hbefore : ActsAt w va before) (hacts : ActsAt w vb acts) :
    Calls Try.prog 10 #[.int .i64 size, va, vb] w fun e w' => e = .returned (.bool true) ∧ Below w.heap.size w w' := by
  obtain ⟨m, hm⟩ : ∃ m : Nat, mx 2 (mn size 6) = (m : Int) := ⟨(max 2 (min size 6)).toNat, by rw [mx_eq, mn_eq]; omega⟩
  have h26 : 2 ≤ m ∧ m ≤ 6 := by rw [mx_eq, mn_eq] at hm; omega
  have CN := Lib.hid (fun W => disk_New (m : Int) W)
  have hlen : (Dk.make (m : Int)).now.length = m := by rw [make_now]; omega
  generalize Dk.make (m : Int) = D0 at *
  obtain ⟨a, c, rfl, hal, hac⟩ := hbefore
  obtain ⟨a', c', rfl, hal', hac'⟩ := hacts
  obtain ⟨n, hn⟩ : ∃ n, n = before.length := ⟨_, rfl⟩
  obtain ⟨n', hn'⟩ : ∃ n', n' = acts.length := ⟨_, rfl⟩
  rw [← hn, ← hn']
  have HA := Lib.hid hac
  have HA' := Lib.hid hac'
  have HN := Lib.hid hn
  have HN' := Lib.hid hn'
  have HL := Lib.hid hlen
  have H26 := Lib.hid h26
  have HB0 := Lib.hid (Below.refl w.heap.size w)
  clear hac hn hac' hn' hlen hal hal' h26
  go_enter Try.func10, Try.ntmps10
  go_wp2_with (first
    | (go_at_call 33; refine (law5_awake _).mono ?_; rintro e w1 ⟨rfl, hb1⟩; have HB1 := Lib.hid (bel_then HB0.out hb1); clear hb1)
    | (go_at_call 14; refine (CN.out _).mono ?_; rintro e w2 ⟨L, rfl, d2, hf2, hb2⟩; have HF := Lib.hid (fun i (h : L.foot i) => Nat.le_trans HB1.out.size (hf2 i h)); have HR2 : Hid (OneAt w L m w2) := ⟨D0, d2, HL.out, bel_then HB1.out hb2⟩; clear d2 hf2 hb2))
  clear CN HB1 HB0 hm HL
  go_loopw [8] (fun x wr => ∃ k : Nat, x = .int .i64 k ∧ k ≤ n ∧ Hid (OneAt w L m wr)) (fun x _ => n - (intOf x).toNat)
  case atStart => exact ⟨0, rfl, by omega, HR2⟩
  case round =>
    obtain ⟨k, rfl, hk, HK⟩ := hrel
    clear HR2
    by_cases hlt : k < n ∧ k < 20
    · obtain ⟨hlt, h40⟩ := hlt
      obtain ⟨b, off, ha, hA⟩ := HA.out k (by rw [← HN.out]; exact hlt)
      subst ha
      generalize before[k]'_ = A at hA
      obtain ⟨D, dD, hI, hb⟩ := HK.out
      have hA' := hA.at (below_cells hb)
      obtain ⟨s, hs⟩ : ∃ s, cutTo A.s 256 = s := ⟨_, rfl⟩
      have CC : ∀ W, Calls Try.prog 16 #[.string A.s, .int .i64 256] W fun e w' => e = .returned (.string s) ∧ W = w' := by
        intro W
        rw [← hs]
        exact law01_Cut A.s 256 W (by omega)
      have CC' := Lib.hid CC
      have CW' := Lib.hid (fun W (d : DiskAt W L D) => disk_Write W L D A.i s d)
      have HD := Lib.hid dD
      have HBk := Lib.hid hb
      have HcR := Lib.hid hA'
      have HcA := Lib.hid hA
      have HI := Lib.hid hI
      have Hlt := Lib.hid hlt
      have hkI : (k : Int) < (n : Int) := by omega
      have hk40 : (k : Int) < 20 := by omega
      clear CC hA hA' HK hI dD hb hs hk hlt
      go_wp2_with fail
      go_region_held3 (fun w' => w'.cell? ⟨b, off + k * 4 + 1, none⟩ = some (.int .i64 A.i) ∧ w'.cell? ⟨b, off + k * 4 + 2, none⟩ = some (.string A.s))
        ((refine ActCells.two ?_; (repeat (first | (with_reducible assumption) | exact HcR.out | refine ActCells.drewN ?_ _ | refine ActCells.drew ?_)))) (first
        | (go_at_call 16; (with_reducible refine (CC'.out _).mono ?_); rintro e w' ⟨rfl, rfl⟩)
        | (go_at_call 20; (with_reducible refine (CW'.out _ ?_).mono ?_); (repeat (first | (with_reducible assumption) | exact HD.out | refine DiskAt.drewN ?_ _ | refine DiskAt.drew ?_)); rintro e w4 ⟨rfl, d4, k4⟩; have b4 : Below w.heap.size w w4 := (by (refine bel_keep ?_ k4 HF.out; (repeat (first | (with_reducible assumption) | exact HBk.out | refine bel_drewN ?_ _ | refine bel_drew ?_)))); have a4 : ActCells w4 b (off + k * 4) A := HcA.out.at (below_cells b4); clear k4))
      have HS : Hid (OneAt w L m w4) := ⟨_, d4, by rw [write_len]; exact HI.out, b4⟩
      clear d4 b4 a4 CC' CW' HD HBk HcR HcA HI
      go_wp2
      go_roundw
      case rel => exact ⟨k + 1, by go_num, by have := Hlt.out; omega, HS⟩
      case measure => have := Hlt.out; simp [intOf]; omega
    · obtain ⟨D, dD, hI, hb⟩ := HK.out
      have CL := Lib.hid (disk_Clone wr L D dD)
      have HD := Lib.hid dD
      have HBk := Lib.hid hb
      have HI := Lib.hid hI
      have hkn : decide ((k : Int) < (n : Int)) = true → decide ((k : Int) < 20) = false := by simp; omega
      clear dD hI hb HK
      by_cases hkx : k < n
      · have hkI : (k : Int) < (n : Int) := by omega
        have hk40 : ¬ (k : Int) < 20 := by omega
        clear hlt hkn hkx hk
        go_wp2_with fail
        refine CL.out.mono ?_
        rintro e w5 ⟨M, rfl, d5, hf5, hb5⟩
        have HG : Hid (∀ i, M.foot i → w.heap.size ≤ i) := Lib.hid (fun i h => Nat.le_trans HBk.out.size (hf5 i h))
        have HX : Hid (∀ i, L.foot i → ¬ M.foot i) := Lib.hid (fun i h h' => by have := HD.out.foot_lt h; have := hf5 i h'; omega)
        have HR5 : Hid (TwinsAt w L M m w5) := ⟨D, ⟨HD.out.below hb5, d5, bel_then HBk.out hb5⟩, HI.out⟩
        clear d5 hf5 hb5 CL HBk HD HI
        go_wp2
        go_loopw [10] (fun x wr => ∃ k : Nat, x = .int .i64 k ∧ k ≤ n' ∧ Hid (TwinsAt w L M m wr)) (fun x _ => n' - (intOf x).toNat)
        case atStart => exact ⟨0, rfl, by omega, HR5⟩
        case round =>
          clear HR5
          obtain ⟨k, rfl, hk, HK⟩ := hrel
          by_cases hlt : k < n' ∧ k < 40
          · obtain ⟨hlt, h40⟩ := hlt
            obtain ⟨b, off, ha, hA⟩ := HA'.out k (by rw [← HN'.out]; exact hlt)
            subst ha
            generalize acts[k]'_ = A at hA
            obtain ⟨D, hT, hI⟩ := HK.out
            obtain ⟨g, hg⟩ : ∃ g, wr.heap.size = g := ⟨_, rfl⟩
            have HgF : Hid (¬ L.foot g ∧ ¬ M.foot g) := Lib.hid (by subst hg; exact ⟨fun h => absurd (hT.d.foot_lt h) (Nat.lt_irrefl _), fun h => absurd (hT.e.foot_lt h) (Nat.lt_irrefl _)⟩)
            have HM0 : Hid (MidAt w L M g D (D.act A) 0 (wr.alloc (.cells #[.pointer (some ⟨L.a, 0, none⟩), .pointer (some ⟨M.a, 0, none⟩)] 25 (0, 0)))) := Lib.hid (by
              subst hg
              exact ⟨by omega, hT.below (bel_alloc (Below.refl _ _) _), (cell_of_heap (heap_alloc_self wr _) 0).trans rfl, (cell_of_heap (heap_alloc_self wr _) 1).trans rfl⟩)
            have HI := Lib.hid hI
            have HcA := Lib.hid hA
            have Hlt := Lib.hid hlt
            have hkI : (k : Int) < (n' : Int) := by omega
            have hk40 : (k : Int) < 40 := by omega
            clear hA HK hI hT hk hlt
            go_wp2
            go_loopw [66] (fun x wr => ∃ j : Nat, x = .int .i64 j ∧ Hid (MidAt w L M g D (D.act A) j wr)) (fun x _ => 2 - (intOf x).toNat)
            case atStart => exact ⟨0, rfl, by first | exact HM0 | (rw [hg]; exact HM0)⟩
            case round =>
              obtain ⟨j, rfl, HM⟩ := hrel
              clear HM0
              by_cases hj : j < 2
              · obtain ⟨K, pK, dK, hK, nK⟩ := HM.out.next hj HF.out HG.out HX.out HgF.out
                have hjI : (j : Int) < 2 := by omega
                have hb := HM.out.two.b
                have hA' := HcA.out.at (below_cells hb)
                have q0 := hA'.c0
                have HNx := Lib.hid nK
                have HDK := Lib.hid dK
                have HKF := Lib.hid hK
                have HBk := Lib.hid hb
                have Hj := Lib.hid hj
                by_cases k2 : A.kind = 2
                · have he : D.act A = D.flush.1 := by simp [Dk.act, k2]
                  rw [k2] at q0
                  have CF := Lib.hid (disk_Flush wr K D HDK.out)
                  have HE := Lib.hid he
                  clear nK dK hK hb hA' HM hj he k2
                  go_wp2_with fail
                  refine CF.out.mono ?_
                  rintro e w6 ⟨rfl, d6, k6⟩
                  have HS : Hid (MidAt w L M g D (D.act A) (j + 1) w6) := Lib.hid (HNx.out w6 (by rw [HE.out]; exact d6) k6)
                  clear d6 k6
                  go_wp2
                  go_roundw
                  case rel => exact ⟨j + 1, by go_num, HS⟩
                  case measure => have := Hj.out; simp [intOf]; omega
                · by_cases k3 : A.kind = 3
                  · have he : D.act A = D.doHalt A.i := by simp [Dk.act, k3]
                    rw [k3] at q0
                    have q1 := hA'.c1
                    have CF := Lib.hid (disk_Halt wr K D A.i HDK.out hA'.ik.2)
                    have HE := Lib.hid he
                    clear nK dK hK hb hA' HM hj he k2 k3
                    go_wp2_with fail
                    refine CF.out.mono ?_
                    rintro e w6 ⟨rfl, d6, k6⟩
                    have HS : Hid (MidAt w L M g D (D.act A) (j + 1) w6) := Lib.hid (HNx.out w6 (by rw [HE.out]; exact d6) k6)
                    clear d6 k6
                    go_wp2
                    go_roundw
                    case rel => exact ⟨j + 1, by go_num, HS⟩
                    case measure => have := Hj.out; simp [intOf]; omega
                  · by_cases k4 : A.kind = 4
                    · have he : D.act A = D.crash (A.ch.take 20) := by simp [Dk.act, k4]
                      rw [k4] at q0
                      have q3 := hA'.c3
                      have CFw := Lib.hid (law5_Few wr A.cv A.ch hA'.ints hA'.cap)
                      have CF := Lib.hid (disk_Crash wr K D (fewV A.cv) (A.ch.take 20) HDK.out (fewV_ints hA'.ints) (fun b' off' n0 c0 hv hfoot => by
                        obtain ⟨n1, c1, hv'⟩ := fewV_block hv
                        rw [HcA.out.ints.lt _ _ _ _ hv' (HKF.out _ hfoot)]
                        rfl))
                      have HE := Lib.hid he
                      clear nK dK hK hb hA' HM hj he k2 k3 k4
                      go_wp2_with fail
                      refine CFw.out.mono ?_
                      rintro e w' ⟨rfl, rfl⟩
                      go_wp2_with fail
                      refine CF.out.mono ?_
                      rintro e w6 ⟨rfl, d6, k6⟩
                      have HS : Hid (MidAt w L M g D (D.act A) (j + 1) w6) := Lib.hid (HNx.out w6 (by rw [HE.out]; exact d6) k6)
                      clear d6 k6
                      go_wp2
                      go_roundw
                      case rel => exact ⟨j + 1, by go_num, HS⟩
                      case measure => have := Hj.out; simp [intOf]; omega
                    · have he : D.act A = (D.write A.i (cutTo A.s 260)).1 := by simp [Dk.act, k2, k3, k4]
                      have k2b : (A.kind == 2) = false := by simpa using k2
                      have k3b : (A.kind == 3) = false := by simpa using k3
                      have k4b : (A.kind == 4) = false := by simpa using k4
                      obtain ⟨s, hs⟩ : ∃ s, cutTo A.s 260 = s := ⟨_, rfl⟩
                      have CC : ∀ W, Calls Try.prog 16 #[.string A.s, .int .i64 260] W fun e w' => e = .returned (.string s) ∧ W = w' := by
                        intro W
                        rw [← hs]
                        exact law01_Cut A.s 260 W (by omega)
                      rw [hs] at he
                      have CC' := Lib.hid CC
                      have CW' := Lib.hid (fun W (d : DiskAt W K D) => disk_Write W K D A.i s d)
                      have HcR := Lib.hid hA'
                      have HE := Lib.hid he
                      clear CC nK dK hK hb hA' HM hj he k2 k3 k4 hs
                      go_wp2_with fail
                      go_region_held3 (fun w' => w'.cell? ⟨b, off + k * 4 + 1, none⟩ = some (.int .i64 A.i) ∧ w'.cell? ⟨b, off + k * 4 + 2, none⟩ = some (.string A.s))
                        ((refine ActCells.two ?_; (repeat (first | (with_reducible assumption) | exact HcR.out | refine ActCells.drewN ?_ _ | refine ActCells.drew ?_)))) (first
                        | (go_at_call 16; (with_reducible refine (CC'.out _).mono ?_); rintro e w' ⟨rfl, rfl⟩)
                        | (go_at_call 20; (with_reducible refine (CW'.out _ ?_).mono ?_); (repeat (first | (with_reducible assumption) | exact HDK.out | refine DiskAt.drewN ?_ _ | refine DiskAt.drew ?_)); rintro e w6 ⟨rfl, d6, k6⟩; have b6 : Below w.heap.size w w6 := (by (refine bel_keep ?_ k6 HKF.out; (repeat (first | (with_reducible assumption) | exact HBk.out | refine bel_drewN ?_ _ | refine bel_drew ?_)))); have a6 := HcA.out.at (below_cells b6); have kk6 : Keep K.foot wr w6 := (by (refine Keep.andThen ?_ k6 (fun _ _ h => h); (repeat (first | exact Keep.refl _ _ | refine Keep.drewN ?_ _ | refine Keep.drew ?_)))); clear k6))
                      have HS : Hid (MidAt w L M g D (D.act A) (j + 1) w6) := Lib.hid (HNx.out w6 (by rw [HE.out]; exact d6) kk6)
                      clear d6 kk6 b6 a6 CC' CW' HDK HcR
                      go_wp2
                      go_roundw
                      case rel => exact ⟨j + 1, by go_num, HS⟩
                      case measure => have := Hj.out; simp [intOf]; omega
              · have hjI : ¬ (j : Int) < 2 := by omega
                have HS : Hid (TwinsAt w L M m wr) := ⟨D.act A, by have h3 := HM.out.two; have h2 := HM.out.j2; have e1 : 1 ≤ j := (by omega); have e2 : 2 ≤ j := (by omega); simp only [e1, e2, if_true] at h3; exact h3, by rw [act_len]; exact HI.out⟩
                clear HM hj
                go_wp2
                go_roundw
                case rel => exact ⟨k + 1, by go_num, by have := Hlt.out; omega, HS⟩
                case measure => have := Hlt.out; simp [intOf]; omega
          · by_cases hkx : k < n'
            · have hkI : (k : Int) < (n' : Int) := by omega
              have hk40 : ¬ (k : Int) < 40 := by omega
              clear hlt hkx hk
              obtain ⟨D, hT, hI⟩ := HK.out
              have CC := fun W K (d : DiskAt W K D) => disk_Crash W K D (.slice none 0 0) [] d (.inl ⟨rfl, none, 0, rfl⟩) (fun _ _ _ _ _ _ => rfl)
              obtain ⟨E, hE⟩ : ∃ E, D.crash [] = E := ⟨_, rfl⟩
              have hlive : E.Live := by rw [← hE]; exact crash_live D []
              have hEl : E.now.length = m := by rw [← hE, crash_len]; exact hI
              rw [hE] at CC
              have CC' := Lib.hid CC
              have HT := Lib.hid hT
              have HLi := Lib.hid hlive
              have HEl := Lib.hid hEl
              clear CC hE hlive hEl HK hI hT
              go_wp2_with fail
              refine (CC'.out _ _ HT.out.d).mono ?_
              rintro e w7 ⟨rfl, d7, k7⟩
              have HT7 := Lib.hid (HT.out.left HF.out HX.out d7 k7)
              clear d7 k7 HT
              go_wp2_with fail
              refine (CC'.out _ _ HT7.out.e).mono ?_
              rintro e w8 ⟨rfl, d8, k8⟩
              have HT8 := Lib.hid (HT7.out.right HG.out HX.out d8 k8)
              clear d8 k8 HT7 CC'
              go_wp2
              go_loopw [117] (fun x wr => ∃ k : Nat, x = .int .i64 k ∧ k ≤ m ∧ Hid (TwoAt w L M E E wr)) (fun x _ => m - (intOf x).toNat)
              case atStart => exact ⟨0, rfl, by omega, HT8⟩
              case round =>
                clear HT8
                obtain ⟨k, rfl, hk, HK⟩ := hrel
                by_cases hlt : k < m
                · have hrd := read_live HLi.out k (by rw [HEl.out]; exact hlt)
                  have C1 := disk_Read wr L E k HK.out.d
                  have C2 := disk_Read wr M E k HK.out.e
                  rw [hrd] at C1 C2
                  obtain ⟨s, hs⟩ : ∃ s, E.sec k = s := ⟨_, rfl⟩
                  rw [hs] at C1 C2
                  have C1' := Lib.hid C1
                  have C2' := Lib.hid C2
                  have hkI : (k : Int) < (m : Int) := by omega
                  have Hlt := Lib.hid hlt
                  have hk6 : k < 6 := by have := H26.out; omega
                  clear C1 C2 hs hrd hlt hk
                  go_wp2_with fail
                  refine C1'.out.mono ?_
                  rintro e w' ⟨rfl, rfl⟩
                  go_wp2_with fail
                  refine C2'.out.mono ?_
                  rintro e w' ⟨rfl, rfl⟩
                  go_wp2
                  go_roundw
                  case rel => exact ⟨k + 1, by go_num, by have := Hlt.out; omega, HK⟩
                  case measure => have := Hlt.out; simp [intOf]; omega
                · have hkI : ¬ (k : Int) < (m : Int) := by omega
                  have C1' := Lib.hid (disk_Writes wr L E HK.out.d)
                  have C2' := Lib.hid (disk_Writes wr M E HK.out.e)
                  obtain ⟨x, hx⟩ : ∃ x, E.writes = x := ⟨_, rfl⟩
                  rw [hx] at C1' C2'
                  have HB := Lib.hid HK.out.b
                  clear hlt hk HK hx
                  go_wp2_with fail
                  refine C1'.out.mono ?_
                  rintro e w' ⟨rfl, rfl⟩
                  go_wp2_with fail
                  refine C2'.out.mono ?_
                  rintro e w' ⟨rfl, rfl⟩
                  go_wp2
                  go_ret
                  exact ⟨rfl, HB.out⟩
            · have hkI : ¬ (k : Int) < (n' : Int) := by omega
              clear hlt hkx hk
              obtain ⟨D, hT, hI⟩ := HK.out
              have CC := fun W K (d : DiskAt W K D) => disk_Crash W K D (.slice none 0 0) [] d (.inl ⟨rfl, none, 0, rfl⟩) (fun _ _ _ _ _ _ => rfl)
              obtain ⟨E, hE⟩ : ∃ E, D.crash [] = E := ⟨_, rfl⟩
              have hlive : E.Live := by rw [← hE]; exact crash_live D []
              have hEl : E.now.length = m := by rw [← hE, crash_len]; exact hI
              rw [hE] at CC
              have CC' := Lib.hid CC
              have HT := Lib.hid hT
              have HLi := Lib.hid hlive
              have HEl := Lib.hid hEl
              clear CC hE hlive hEl HK hI hT
              go_wp2_with fail
              refine (CC'.out _ _ HT.out.d).mono ?_
              rintro e w7 ⟨rfl, d7, k7⟩
              have HT7 := Lib.hid (HT.out.left HF.out HX.out d7 k7)
              clear d7 k7 HT
              go_wp2_with fail
              refine (CC'.out _ _ HT7.out.e).mono ?_
              rintro e w8 ⟨rfl, d8, k8⟩
              have HT8 := Lib.hid (HT7.out.right HG.out HX.out d8 k8)
              clear d8 k8 HT7 CC'
              go_wp2
              go_loopw [117] (fun x wr => ∃ k : Nat, x = .int .i64 k ∧ k ≤ m ∧ Hid (TwoAt w L M E E wr)) (fun x _ => m - (intOf x).toNat)
              case atStart => exact ⟨0, rfl, by omega, HT8⟩
              case round =>
                clear HT8
                obtain ⟨k, rfl, hk, HK⟩ := hrel
                by_cases hlt : k < m
                · have hrd := read_live HLi.out k (by rw [HEl.out]; exact hlt)
                  have C1 := disk_Read wr L E k HK.out.d
                  have C2 := disk_Read wr M E k HK.out.e
                  rw [hrd] at C1 C2
                  obtain ⟨s, hs⟩ : ∃ s, E.sec k = s := ⟨_, rfl⟩
                  rw [hs] at C1 C2
                  have C1' := Lib.hid C1
                  have C2' := Lib.hid C2
                  have hkI : (k : Int) < (m : Int) := by omega
                  have Hlt := Lib.hid hlt
                  have hk6 : k < 6 := by have := H26.out; omega
                  clear C1 C2 hs hrd hlt hk
                  go_wp2_with fail
                  refine C1'.out.mono ?_
                  rintro e w' ⟨rfl, rfl⟩
                  go_wp2_with fail
                  refine C2'.out.mono ?_
                  rintro e w' ⟨rfl, rfl⟩
                  go_wp2
                  go_roundw
                  case rel => exact ⟨k + 1, by go_num, by have := Hlt.out; omega, HK⟩
                  case measure => have := Hlt.out; simp [intOf]; omega
                · have hkI : ¬ (k : Int) < (m : Int) := by omega
                  have C1' := Lib.hid (disk_Writes wr L E HK.out.d)
                  have C2' := Lib.hid (disk_Writes wr M E HK.out.e)
                  obtain ⟨x, hx⟩ : ∃ x, E.writes = x := ⟨_, rfl⟩
                  rw [hx] at C1' C2'
                  have HB := Lib.hid HK.out.b
                  clear hlt hk HK hx
                  go_wp2_with fail
                  refine C1'.out.mono ?_
                  rintro e w' ⟨rfl, rfl⟩
                  go_wp2_with fail
                  refine C2'.out.mono ?_
                  rintro e w' ⟨rfl, rfl⟩
                  go_wp2
                  go_ret
                  exact ⟨rfl, HB.out⟩
      · have hkI : ¬ (k : Int) < (n : Int) := by omega
        clear hlt hkn hkx hk
        go_wp2_with fail
        refine CL.out.mono ?_
        rintro e w5 ⟨M, rfl, d5, hf5, hb5⟩
        have HG : Hid (∀ i, M.foot i → w.heap.size ≤ i) := Lib.hid (fun i h => Nat.le_trans HBk.out.size (hf5 i h))
        have HX : Hid (∀ i, L.foot i → ¬ M.foot i) := Lib.hid (fun i h h' => by have := HD.out.foot_lt h; have := hf5 i h'; omega)
        have HR5 : Hid (TwinsAt w L M m w5) := ⟨D, ⟨HD.out.below hb5, d5, bel_then HBk.out hb5⟩, HI.out⟩
        clear d5 hf5 hb5 CL HBk HD HI
        go_wp2
        go_loopw [10] (fun x wr => ∃ k : Nat, x = .int .i64 k ∧ k ≤ n' ∧ Hid (TwinsAt w L M m wr)) (fun x _ => n' - (intOf x).toNat)
        case atStart => exact ⟨0, rfl, by omega, HR5⟩
        case round =>
          clear HR5
          obtain ⟨k, rfl, hk, HK⟩ := hrel
          by_cases hlt : k < n' ∧ k < 40
          · obtain ⟨hlt, h40⟩ := hlt
            obtain ⟨b, off, ha, hA⟩ := HA'.out k (by rw [← HN'.out]; exact hlt)
            subst ha
            generalize acts[k]'_ = A at hA
            obtain ⟨D, hT, hI⟩ := HK.out
            obtain ⟨g, hg⟩ : ∃ g, wr.heap.size = g := ⟨_, rfl⟩
            have HgF : Hid (¬ L.foot g ∧ ¬ M.foot g) := Lib.hid (by subst hg; exact ⟨fun h => absurd (hT.d.foot_lt h) (Nat.lt_irrefl _), fun h => absurd (hT.e.foot_lt h) (Nat.lt_irrefl _)⟩)
            have HM0 : Hid (MidAt w L M g D (D.act A) 0 (wr.alloc (.cells #[.pointer (some ⟨L.a, 0, none⟩), .pointer (some ⟨M.a, 0, none⟩)] 25 (0, 0)))) := Lib.hid (by
              subst hg
              exact ⟨by omega, hT.below (bel_alloc (Below.refl _ _) _), (cell_of_heap (heap_alloc_self wr _) 0).trans rfl, (cell_of_heap (heap_alloc_self wr _) 1).trans rfl⟩)
            have HI := Lib.hid hI
            have HcA := Lib.hid hA
            have Hlt := Lib.hid hlt
            have hkI : (k : Int) < (n' : Int) := by omega
            have hk40 : (k : Int) < 40 := by omega
            clear hA HK hI hT hk hlt
            go_wp2
            go_loopw [66] (fun x wr => ∃ j : Nat, x = .int .i64 j ∧ Hid (MidAt w L M g D (D.act A) j wr)) (fun x _ => 2 - (intOf x).toNat)
            case atStart => exact ⟨0, rfl, by first | exact HM0 | (rw [hg]; exact HM0)⟩
            case round =>
              obtain ⟨j, rfl, HM⟩ := hrel
              clear HM0
              by_cases hj : j < 2
              · obtain ⟨K, pK, dK, hK, nK⟩ := HM.out.next hj HF.out HG.out HX.out HgF.out
                have hjI : (j : Int) < 2 := by omega
                have hb := HM.out.two.b
                have hA' := HcA.out.at (below_cells hb)
                have q0 := hA'.c0
                have HNx := Lib.hid nK
                have HDK := Lib.hid dK
                have HKF := Lib.hid hK
                have HBk := Lib.hid hb
                have Hj := Lib.hid hj
                by_cases k2 : A.kind = 2
                · have he : D.act A = D.flush.1 := by simp [Dk.act, k2]
                  rw [k2] at q0
                  have CF := Lib.hid (disk_Flush wr K D HDK.out)
                  have HE := Lib.hid he
                  clear nK dK hK hb hA' HM hj he k2
                  go_wp2_with fail
                  refine CF.out.mono ?_
                  rintro e w6 ⟨rfl, d6, k6⟩
                  have HS : Hid (MidAt w L M g D (D.act A) (j + 1) w6) := Lib.hid (HNx.out w6 (by rw [HE.out]; exact d6) k6)
                  clear d6 k6
                  go_wp2
                  go_roundw
                  case rel => exact ⟨j + 1, by go_num, HS⟩
                  case measure => have := Hj.out; simp [intOf]; omega
                · by_cases k3 : A.kind = 3
                  · have he : D.act A = D.doHalt A.i := by simp [Dk.act, k3]
                    rw [k3] at q0
                    have q1 := hA'.c1
                    have CF := Lib.hid (disk_Halt wr K D A.i HDK.out hA'.ik.2)
                    have HE := Lib.hid he
                    clear nK dK hK hb hA' HM hj he k2 k3
                    go_wp2_with fail
                    refine CF.out.mono ?_
                    rintro e w6 ⟨rfl, d6, k6⟩
                    have HS : Hid (MidAt w L M g D (D.act A) (j + 1) w6) := Lib.hid (HNx.out w6 (by rw [HE.out]; exact d6) k6)
                    clear d6 k6
                    go_wp2
                    go_roundw
                    case rel => exact ⟨j + 1, by go_num, HS⟩
                    case measure => have := Hj.out; simp [intOf]; omega
                  · by_cases k4 : A.kind = 4
                    · have he : D.act A = D.crash (A.ch.take 20) := by simp [Dk.act, k4]
                      rw [k4] at q0
                      have q3 := hA'.c3
                      have CFw := Lib.hid (law5_Few wr A.cv A.ch hA'.ints hA'.cap)
                      have CF := Lib.hid (disk_Crash wr K D (fewV A.cv) (A.ch.take 20) HDK.out (fewV_ints hA'.ints) (fun b' off' n0 c0 hv hfoot => by
                        obtain ⟨n1, c1, hv'⟩ := fewV_block hv
                        rw [HcA.out.ints.lt _ _ _ _ hv' (HKF.out _ hfoot)]
                        rfl))
                      have HE := Lib.hid he
                      clear nK dK hK hb hA' HM hj he k2 k3 k4
                      go_wp2_with fail
                      refine CFw.out.mono ?_
                      rintro e w' ⟨rfl, rfl⟩
                      go_wp2_with fail
                      refine CF.out.mono ?_
                      rintro e w6 ⟨rfl, d6, k6⟩
                      have HS : Hid (MidAt w L M g D (D.act A) (j + 1) w6) := Lib.hid (HNx.out w6 (by rw [HE.out]; exact d6) k6)
                      clear d6 k6
                      go_wp2
                      go_roundw
                      case rel => exact ⟨j + 1, by go_num, HS⟩
                      case measure => have := Hj.out; simp [intOf]; omega
                    · have he : D.act A = (D.write A.i (cutTo A.s 260)).1 := by simp [Dk.act, k2, k3, k4]
                      have k2b : (A.kind == 2) = false := by simpa using k2
                      have k3b : (A.kind == 3) = false := by simpa using k3
                      have k4b : (A.kind == 4) = false := by simpa using k4
                      obtain ⟨s, hs⟩ : ∃ s, cutTo A.s 260 = s := ⟨_, rfl⟩
                      have CC : ∀ W, Calls Try.prog 16 #[.string A.s, .int .i64 260] W fun e w' => e = .returned (.string s) ∧ W = w' := by
                        intro W
                        rw [← hs]
                        exact law01_Cut A.s 260 W (by omega)
                      rw [hs] at he
                      have CC' := Lib.hid CC
                      have CW' := Lib.hid (fun W (d : DiskAt W K D) => disk_Write W K D A.i s d)
                      have HcR := Lib.hid hA'
                      have HE := Lib.hid he
                      clear CC nK dK hK hb hA' HM hj he k2 k3 k4 hs
                      go_wp2_with fail
                      go_region_held3 (fun w' => w'.cell? ⟨b, off + k * 4 + 1, none⟩ = some (.int .i64 A.i) ∧ w'.cell? ⟨b, off + k * 4 + 2, none⟩ = some (.string A.s))
                        ((refine ActCells.two ?_; (repeat (first | (with_reducible assumption) | exact HcR.out | refine ActCells.drewN ?_ _ | refine ActCells.drew ?_)))) (first
                        | (go_at_call 16; (with_reducible refine (CC'.out _).mono ?_); rintro e w' ⟨rfl, rfl⟩)
                        | (go_at_call 20; (with_reducible refine (CW'.out _ ?_).mono ?_); (repeat (first | (with_reducible assumption) | exact HDK.out | refine DiskAt.drewN ?_ _ | refine DiskAt.drew ?_)); rintro e w6 ⟨rfl, d6, k6⟩; have b6 : Below w.heap.size w w6 := (by (refine bel_keep ?_ k6 HKF.out; (repeat (first | (with_reducible assumption) | exact HBk.out | refine bel_drewN ?_ _ | refine bel_drew ?_)))); have a6 := HcA.out.at (below_cells b6); have kk6 : Keep K.foot wr w6 := (by (refine Keep.andThen ?_ k6 (fun _ _ h => h); (repeat (first | exact Keep.refl _ _ | refine Keep.drewN ?_ _ | refine Keep.drew ?_)))); clear k6))
                      have HS : Hid (MidAt w L M g D (D.act A) (j + 1) w6) := Lib.hid (HNx.out w6 (by rw [HE.out]; exact d6) kk6)
                      clear d6 kk6 b6 a6 CC' CW' HDK HcR
                      go_wp2
                      go_roundw
                      case rel => exact ⟨j + 1, by go_num, HS⟩
                      case measure => have := Hj.out; simp [intOf]; omega
              · have hjI : ¬ (j : Int) < 2 := by omega
                have HS : Hid (TwinsAt w L M m wr) := ⟨D.act A, by have h3 := HM.out.two; have h2 := HM.out.j2; have e1 : 1 ≤ j := (by omega); have e2 : 2 ≤ j := (by omega); simp only [e1, e2, if_true] at h3; exact h3, by rw [act_len]; exact HI.out⟩
                clear HM hj
                go_wp2
                go_roundw
                case rel => exact ⟨k + 1, by go_num, by have := Hlt.out; omega, HS⟩
                case measure => have := Hlt.out; simp [intOf]; omega
          · by_cases hkx : k < n'
            · have hkI : (k : Int) < (n' : Int) := by omega
              have hk40 : ¬ (k : Int) < 40 := by omega
              clear hlt hkx hk
              obtain ⟨D, hT, hI⟩ := HK.out
              have CC := fun W K (d : DiskAt W K D) => disk_Crash W K D (.slice none 0 0) [] d (.inl ⟨rfl, none, 0, rfl⟩) (fun _ _ _ _ _ _ => rfl)
              obtain ⟨E, hE⟩ : ∃ E, D.crash [] = E := ⟨_, rfl⟩
              have hlive : E.Live := by rw [← hE]; exact crash_live D []
              have hEl : E.now.length = m := by rw [← hE, crash_len]; exact hI
              rw [hE] at CC
              have CC' := Lib.hid CC
              have HT := Lib.hid hT
              have HLi := Lib.hid hlive
              have HEl := Lib.hid hEl
              clear CC hE hlive hEl HK hI hT
              go_wp2_with fail
              refine (CC'.out _ _ HT.out.d).mono ?_
              rintro e w7 ⟨rfl, d7, k7⟩
              have HT7 := Lib.hid (HT.out.left HF.out HX.out d7 k7)
              clear d7 k7 HT
              go_wp2_with fail
              refine (CC'.out _ _ HT7.out.e).mono ?_
              rintro e w8 ⟨rfl, d8, k8⟩
              have HT8 := Lib.hid (HT7.out.right HG.out HX.out d8 k8)
              clear d8 k8 HT7 CC'
              go_wp2
              go_loopw [117] (fun x wr => ∃ k : Nat, x = .int .i64 k ∧ k ≤ m ∧ Hid (TwoAt w L M E E wr)) (fun x _ => m - (intOf x).toNat)
              case atStart => exact ⟨0, rfl, by omega, HT8⟩
              case round =>
                clear HT8
                obtain ⟨k, rfl, hk, HK⟩ := hrel
                by_cases hlt : k < m
                · have hrd := read_live HLi.out k (by rw [HEl.out]; exact hlt)
                  have C1 := disk_Read wr L E k HK.out.d
                  have C2 := disk_Read wr M E k HK.out.e
                  rw [hrd] at C1 C2
                  obtain ⟨s, hs⟩ : ∃ s, E.sec k = s := ⟨_, rfl⟩
                  rw [hs] at C1 C2
                  have C1' := Lib.hid C1
                  have C2' := Lib.hid C2
                  have hkI : (k : Int) < (m : Int) := by omega
                  have Hlt := Lib.hid hlt
                  have hk6 : k < 6 := by have := H26.out; omega
                  clear C1 C2 hs hrd hlt hk
                  go_wp2_with fail
                  refine C1'.out.mono ?_
                  rintro e w' ⟨rfl, rfl⟩
                  go_wp2_with fail
                  refine C2'.out.mono ?_
                  rintro e w' ⟨rfl, rfl⟩
                  go_wp2
                  go_roundw
                  case rel => exact ⟨k + 1, by go_num, by have := Hlt.out; omega, HK⟩
                  case measure => have := Hlt.out; simp [intOf]; omega
                · have hkI : ¬ (k : Int) < (m : Int) := by omega
                  have C1' := Lib.hid (disk_Writes wr L E HK.out.d)
                  have C2' := Lib.hid (disk_Writes wr M E HK.out.e)
                  obtain ⟨x, hx⟩ : ∃ x, E.writes = x := ⟨_, rfl⟩
                  rw [hx] at C1' C2'
                  have HB := Lib.hid HK.out.b
                  clear hlt hk HK hx
                  go_wp2_with fail
                  refine C1'.out.mono ?_
                  rintro e w' ⟨rfl, rfl⟩
                  go_wp2_with fail
                  refine C2'.out.mono ?_
                  rintro e w' ⟨rfl, rfl⟩
                  go_wp2
                  go_ret
                  exact ⟨rfl, HB.out⟩
            · have hkI : ¬ (k : Int) < (n' : Int) := by omega
              clear hlt hkx hk
              obtain ⟨D, hT, hI⟩ := HK.out
              have CC := fun W K (d : DiskAt W K D) => disk_Crash W K D (.slice none 0 0) [] d (.inl ⟨rfl, none, 0, rfl⟩) (fun _ _ _ _ _ _ => rfl)
              obtain ⟨E, hE⟩ : ∃ E, D.crash [] = E := ⟨_, rfl⟩
              have hlive : E.Live := by rw [← hE]; exact crash_live D []
              have hEl : E.now.length = m := by rw [← hE, crash_len]; exact hI
              rw [hE] at CC
              have CC' := Lib.hid CC
              have HT := Lib.hid hT
              have HLi := Lib.hid hlive
              have HEl := Lib.hid hEl
              clear CC hE hlive hEl HK hI hT
              go_wp2_with fail
              refine (CC'.out _ _ HT.out.d).mono ?_
              rintro e w7 ⟨rfl, d7, k7⟩
              have HT7 := Lib.hid (HT.out.left HF.out HX.out d7 k7)
              clear d7 k7 HT
              go_wp2_with fail
              refine (CC'.out _ _ HT7.out.e).mono ?_
              rintro e w8 ⟨rfl, d8, k8⟩
              have HT8 := Lib.hid (HT7.out.right HG.out HX.out d8 k8)
              clear d8 k8 HT7 CC'
              go_wp2
              go_loopw [117] (fun x wr => ∃ k : Nat, x = .int .i64 k ∧ k ≤ m ∧ Hid (TwoAt w L M E E wr)) (fun x _ => m - (intOf x).toNat)
              case atStart => exact ⟨0, rfl, by omega, HT8⟩
              case round =>
                clear HT8
                obtain ⟨k, rfl, hk, HK⟩ := hrel
                by_cases hlt : k < m
                · have hrd := read_live HLi.out k (by rw [HEl.out]; exact hlt)
                  have C1 := disk_Read wr L E k HK.out.d
                  have C2 := disk_Read wr M E k HK.out.e
                  rw [hrd] at C1 C2
                  obtain ⟨s, hs⟩ : ∃ s, E.sec k = s := ⟨_, rfl⟩
                  rw [hs] at C1 C2
                  have C1' := Lib.hid C1
                  have C2' := Lib.hid C2
                  have hkI : (k : Int) < (m : Int) := by omega
                  have Hlt := Lib.hid hlt
                  have hk6 : k < 6 := by have := H26.out; omega
                  clear C1 C2 hs hrd hlt hk
                  go_wp2_with fail
                  refine C1'.out.mono ?_
                  rintro e w' ⟨rfl, rfl⟩
                  go_wp2_with fail
                  refine C2'.out.mono ?_
                  rintro e w' ⟨rfl, rfl⟩
                  go_wp2
                  go_roundw
                  case rel => exact ⟨k + 1, by go_num, by have := Hlt.out; omega, HK⟩
                  case measure => have := Hlt.out; simp [intOf]; omega
                · have hkI : ¬ (k : Int) < (m : Int) := by omega
                  have C1' := Lib.hid (disk_Writes wr L E HK.out.d)
                  have C2' := Lib.hid (disk_Writes wr M E HK.out.e)
                  obtain ⟨x, hx⟩ : ∃ x, E.writes = x := ⟨_, rfl⟩
                  rw [hx] at C1' C2'
                  have HB := Lib.hid HK.out.b
                  clear hlt hk HK hx
                  go_wp2_with fail
                  refine C1'.out.mono ?_
                  rintro e w' ⟨rfl, rfl⟩
                  go_wp2_with fail
                  refine C2'.out.mono ?_
                  rintro e w' ⟨rfl, rfl⟩
                  go_wp2
                  go_ret
                  exact ⟨rfl, HB.out⟩
end Go.Proofs.Ytcbefilcdelplaa
