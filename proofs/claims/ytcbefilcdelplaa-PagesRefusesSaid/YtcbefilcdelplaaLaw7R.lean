/- dowserlaw07.PagesRefuses, walked: it answers true. -/
import Derived.Test.YtcbefilcdelplaaLaw7A
import Derived.Test.YtcbefilcdelplaaPagesR
namespace Go.Proofs.Ytcbefilcdelplaa
open Go.RowKit
set_option linter.unusedVariables false
set_option linter.unusedSimpArgs false
attribute [local go_sem ↓] max_mx min_mn

def sX : ByteArray := ⟨#[120]⟩

/-- Where the loop of reads stands. -/
def RefAt (w : World) (pb : Nat) (L : Loc) (D : Dk) (h n : Nat) (wr : World) : Prop := DiskAt wr L D ∧ PagesAt wr pb L h n ∧ Below w.heap.size w wr

set_option maxHeartbeats 4000000 in
set_option maxRecDepth 100000 in
theorem refuses_bad (half next size : Int) (w : World) (m : Nat) (hm : mx 2 (mn size 40) = (m : Int)) (h2 : 2 ≤ m) (h40 : m ≤ 40) (D : Dk) (hD : Dk.make (m : Int) = D)
    (hb : ¬ (0 ≤ half ∧ half ≤ 1 ∧ 0 ≤ next ∧ next ≤ D.room)) :
    Calls Try.prog 4 #[.int .i64 half, .int .i64 next, .int .i64 size] w fun e w' => e = .returned (.bool true) ∧ Below w.heap.size w w' := by
  have hlen : D.now.length = m := by rw [← hD, make_now]; omega
  have hroom : D.room = (m - 2) / 2 := by unfold Dk.room; rw [hlen]
  have CN := fun W => disk_New (m : Int) W
  rw [hD] at CN
  have CO := Lib.hid (fun W L (d : DiskAt W L D) => pages_Open_bad W L D half next d hb)
  have CS := fun W L (d : DiskAt W L D) => disk_Size W L D d
  rw [hlen] at CS
  have CN' := Lib.hid CN
  have CS' := Lib.hid CS
  obtain ⟨r, hr⟩ : ∃ r : Nat, ((m : Int) - 2) / 2 = (r : Int) := ⟨(m - 2) / 2, by omega⟩
  rw [hroom] at hb
  have HB0 := Lib.hid (Below.refl w.heap.size w)
  clear CN CS hD hlen hroom
  by_cases hh : half = 0 ∨ half = 1
  · by_cases hn0 : next < 0
    · rcases hh with rfl | rfl
      all_goals
        clear hb
        go_enter Try.func4, Try.ntmps4
        go_wp2_with (first
          | (go_at_call 13; refine (law7_awake _).mono ?_; rintro e w1 ⟨rfl, hb1⟩; have HB1 := Lib.hid (bel_then HB0.out hb1); clear hb1)
          | (go_at_call 14; refine (CN'.out _).mono ?_; rintro e w2 ⟨L, rfl, d2, hf2, hb2⟩; have HD2 := Lib.hid d2; have HB2 := Lib.hid (bel_then HB1.out hb2); clear d2 hf2 hb2)
          | (go_at_call 22; refine (CS'.out _ _ HD2.out).mono ?_; rintro e w' ⟨rfl, rfl⟩)
          | (go_at_call 15; refine (CO.out _ _ HD2.out).mono ?_; rintro e w' ⟨rfl, rfl⟩))
        go_ret
        exact ⟨rfl, HB2.out⟩
    · have hn1 : (r : Int) < next := by omega
      have hn2 : decide (next ≤ (r : Int)) = false := decide_eq_false (by omega)
      rcases hh with rfl | rfl
      all_goals
        clear hb
        go_enter Try.func4, Try.ntmps4
        go_wp2_with (first
          | (go_at_call 13; refine (law7_awake _).mono ?_; rintro e w1 ⟨rfl, hb1⟩; have HB1 := Lib.hid (bel_then HB0.out hb1); clear hb1)
          | (go_at_call 14; refine (CN'.out _).mono ?_; rintro e w2 ⟨L, rfl, d2, hf2, hb2⟩; have HD2 := Lib.hid d2; have HB2 := Lib.hid (bel_then HB1.out hb2); clear d2 hf2 hb2)
          | (go_at_call 22; refine (CS'.out _ _ HD2.out).mono ?_; rintro e w' ⟨rfl, rfl⟩)
          | (go_at_call 15; refine (CO.out _ _ HD2.out).mono ?_; rintro e w' ⟨rfl, rfl⟩))
        go_ret
        exact ⟨rfl, HB2.out⟩
  · have hq0 : (half == 0) = false := by simp; omega
    have hq1 : (half == 1) = false := by simp; omega
    clear hb hh
    go_enter Try.func4, Try.ntmps4
    go_wp2_with (first
      | (go_at_call 13; refine (law7_awake _).mono ?_; rintro e w1 ⟨rfl, hb1⟩; have HB1 := Lib.hid (bel_then HB0.out hb1); clear hb1)
      | (go_at_call 14; refine (CN'.out _).mono ?_; rintro e w2 ⟨L, rfl, d2, hf2, hb2⟩; have HD2 := Lib.hid d2; have HB2 := Lib.hid (bel_then HB1.out hb2); clear d2 hf2 hb2)
      | (go_at_call 22; refine (CS'.out _ _ HD2.out).mono ?_; rintro e w' ⟨rfl, rfl⟩)
      | (go_at_call 15; refine (CO.out _ _ HD2.out).mono ?_; rintro e w' ⟨rfl, rfl⟩))
    go_ret
    exact ⟨rfl, HB2.out⟩

set_option maxHeartbeats 4000000 in
set_option maxRecDepth 100000 in
theorem refuses_good (h n : Nat) (size : Int) (w : World) (m : Nat) (hm : mx 2 (mn size 40) = (m : Int)) (h2 : 2 ≤ m) (h40 : m ≤ 40) (D : Dk) (hD : Dk.make (m : Int) = D)
    (hh : h ≤ 1) (hn : n ≤ D.room) :
    Calls Try.prog 4 #[.int .i64 (h : Int), .int .i64 (n : Int), .int .i64 size] w fun e w' => e = .returned (.bool true) ∧ Below w.heap.size w w' := by
  have hlen : D.now.length = m := by rw [← hD, make_now]; omega
  have hroom : D.room = (m - 2) / 2 := by unfold Dk.room; rw [hlen]
  have hlive : D.Live := by rw [← hD]; exact make_live _
  have hsec : ∀ i, i < D.now.length → D.sec i = zeros 256 := by rw [← hD]; exact fun i => make_sec
  have CN := fun W => disk_New (m : Int) W
  rw [hD] at CN
  have CO := Lib.hid (fun W L (d : DiskAt W L D) => pages_Open W L D h n d hh hn)
  have CS := fun W L (d : DiskAt W L D) => disk_Size W L D d
  rw [hlen] at CS
  have CN' := Lib.hid CN
  have CS' := Lib.hid CS
  have CP := fun W pb L (i : Nat) (hi : i < n) (p : PagesAt W pb L h n) (d : DiskAt W L D) => pages_Read W pb L D h n i p d hh hn
  have hpr : ∀ i : Nat, i < n → D.pgRead h n (i : Int) = (0, ByteArray.empty, 8) := by
    intro i hi
    have hl := sector_lt (D := D) (h := h) (n := i) (by omega) hh (by omega)
    rw [pgRead_live hlive (by omega) h n hh hn i hi, hsec _ hl, parse_zeros]
  have CP2 := Lib.hid (fun W pb L (i : Nat) (hi : i < n) (p : PagesAt W pb L h n) (d : DiskAt W L D) => show Calls Try.prog 21 #[.pointer (some ⟨pb, 0, none⟩), .int .i64 (i : Int)] W fun e w' => e = .returned (.tuple #[.int .i64 0, .string ByteArray.empty, .int .i64 8]) ∧ Below W.heap.size W w' from by have := CP W pb L i hi p d; rw [hpr i hi] at this; exact this)
  obtain ⟨D1, hD1⟩ : ∃ D1, D.doHalt 0 = D1 := ⟨_, rfl⟩
  have CH := fun W L (d : DiskAt W L D) => disk_Halt W L D 0 d (by omega)
  rw [hD1] at CH
  have CH' := Lib.hid CH
  have hn1 : D1.now.length = m := by rw [← hD1]; exact hlen
  have hr1 : D1.room = D.room := room_of (by rw [hn1, hlen])
  obtain ⟨D2, e2⟩ := append_halted (D := D1) (by rw [← hD1]; exact hlive.1) (by rw [← hD1]; simp [Dk.doHalt]) (by omega) h n hh (by omega) 1 sX (by omega) (by omega) (by decide)
  have CA := fun W pb L (p : PagesAt W pb L h n) (d : DiskAt W L D1) => pages_Append W pb L D1 h n 1 sX p d hh (by omega)
  rw [e2, hr1, hroom] at CA
  have CA' := Lib.hid CA
  have CX := Lib.hid (fun W pb L (p : PagesAt W pb L h n) => pages_Next W pb L h n p)
  obtain ⟨r, hr⟩ : ∃ r : Nat, ((m : Int) - 2) / 2 = (r : Int) := ⟨(m - 2) / 2, by omega⟩
  have hrn : (m - 2) / 2 = r := by omega
  rw [hrn] at CA' hroom
  rw [hroom] at hn
  have hnr : (n : Int) ≤ (r : Int) := by omega
  have HB0 := Lib.hid (Below.refl w.heap.size w)
  have hq : (sX : ByteArray) = ⟨#[120]⟩ := rfl
  have HQ := Lib.hid hq
  clear CN CS CP CH CA hD hlen hroom hlive hsec hpr hD1 hn1 hr1 e2 hrn hq
  have hcase : h = 0 ∨ h = 1 := by omega
  rcases hcase with rfl | rfl
  · go_enter Try.func4, Try.ntmps4
    go_wp2_with (first
      | (go_at_call 13; refine (law7_awake _).mono ?_; rintro e w1 ⟨rfl, hb1⟩; have HB1 := Lib.hid (bel_then HB0.out hb1); clear hb1)
      | (go_at_call 14; refine (CN'.out _).mono ?_; rintro e w2 ⟨L, rfl, d2, hf2, hb2⟩; have HD2 := Lib.hid d2; have HF := Lib.hid (fun i (h : L.foot i) => Nat.le_trans HB1.out.size (hf2 i h)); have HB2 := Lib.hid (bel_then HB1.out hb2); clear d2 hf2 hb2)
      | (go_at_call 22; refine (CS'.out _ _ HD2.out).mono ?_; rintro e w' ⟨rfl, rfl⟩)
      | (go_at_call 15; refine (CO.out _ _ HD2.out).mono ?_; rintro e w3 ⟨rfl, p3, hb3⟩; have HR3 : Hid (RefAt w w2.heap.size L D 0 n w3) := ⟨HD2.out.below hb3, p3, bel_then HB2.out hb3⟩; have HPB := Lib.hid HB2.out.size; clear p3 hb3))
    generalize w2.heap.size = pb at *
    go_loopw [73] (fun c wr => ∃ k : Nat, c = .int .i64 k ∧ k ≤ n ∧ Hid (RefAt w pb L D 0 n wr)) (fun c _ => n - (intOf c).toNat)
    case atStart => exact ⟨0, rfl, by omega, HR3⟩
    case round =>
      obtain ⟨k, rfl, hk, HK⟩ := hrel
      by_cases hlt : k < n
      · go_wp2_with (go_at_call 21; refine (CP2.out _ _ _ k hlt HK.out.2.1 HK.out.1).mono ?_; rintro e w4 ⟨rfl, hb4⟩; have HK2 : Hid (RefAt w pb L D 0 n w4) := ⟨HK.out.1.below hb4, HK.out.2.1.below hb4, bel_then HK.out.2.2 hb4⟩; clear hb4)
        go_roundw
        case rel => exact ⟨k + 1, by go_num, by omega, HK2⟩
        case measure => simp [intOf]; omega
      · obtain rfl : k = n := by omega
        clear HR3 CP2
        by_cases hfull : r = k
        · subst hfull
          rw [if_pos rfl] at CA'
          go_wp2_with (first
            | (go_at_call 23; refine (CH'.out _ _ HK.out.1).mono ?_; rintro e w5 ⟨rfl, d5, k5⟩; have HD5 := Lib.hid d5; have HP5 := Lib.hid (HK.out.2.1.keep k5 (HK.out.2.1.foot HK.out.1)); have HB5 := Lib.hid (bel_keep HK.out.2.2 k5 HF.out); clear d5 k5)
            | (go_at_call 17; refine (CA'.out _ _ _ HP5.out HD5.out).mono ?_; rintro e w6 ⟨rfl, _, p6, k6⟩; have HP6 := Lib.hid p6; have HB6 := Lib.hid (bel_keep HB5.out k6 (by rintro i (h | rfl); exact HF.out i h; exact HPB.out)); clear p6 k6)
            | (go_at_call 24; refine (CX.out _ _ _ HP6.out).mono ?_; rintro e w' ⟨rfl, rfl⟩))
          go_ret
          exact ⟨rfl, HB6.out⟩
        · rw [if_neg hfull] at CA'
          have hne : (k : Int) < (r : Int) := by omega
          have hne2 : ((k : Int) == (r : Int)) = false := by simp; omega
          have hne3 : decide ((k : Int) < (r : Int)) = true := decide_eq_true hne
          have hne4 : decide (k < r) = true := decide_eq_true (by omega)
          go_wp2_with (first
            | (go_at_call 23; refine (CH'.out _ _ HK.out.1).mono ?_; rintro e w5 ⟨rfl, d5, k5⟩; have HD5 := Lib.hid d5; have HP5 := Lib.hid (HK.out.2.1.keep k5 (HK.out.2.1.foot HK.out.1)); have HB5 := Lib.hid (bel_keep HK.out.2.2 k5 HF.out); clear d5 k5)
            | (go_at_call 17; refine (CA'.out _ _ _ HP5.out HD5.out).mono ?_; rintro e w6 ⟨rfl, _, p6, k6⟩; have HP6 := Lib.hid p6; have HB6 := Lib.hid (bel_keep HB5.out k6 (by rintro i (h | rfl); exact HF.out i h; exact HPB.out)); clear p6 k6)
            | (go_at_call 24; refine (CX.out _ _ _ HP6.out).mono ?_; rintro e w' ⟨rfl, rfl⟩))
          go_ret
          exact ⟨rfl, HB6.out⟩
  · go_enter Try.func4, Try.ntmps4
    go_wp2_with (first
      | (go_at_call 13; refine (law7_awake _).mono ?_; rintro e w1 ⟨rfl, hb1⟩; have HB1 := Lib.hid (bel_then HB0.out hb1); clear hb1)
      | (go_at_call 14; refine (CN'.out _).mono ?_; rintro e w2 ⟨L, rfl, d2, hf2, hb2⟩; have HD2 := Lib.hid d2; have HF := Lib.hid (fun i (h : L.foot i) => Nat.le_trans HB1.out.size (hf2 i h)); have HB2 := Lib.hid (bel_then HB1.out hb2); clear d2 hf2 hb2)
      | (go_at_call 22; refine (CS'.out _ _ HD2.out).mono ?_; rintro e w' ⟨rfl, rfl⟩)
      | (go_at_call 15; refine (CO.out _ _ HD2.out).mono ?_; rintro e w3 ⟨rfl, p3, hb3⟩; have HR3 : Hid (RefAt w w2.heap.size L D 1 n w3) := ⟨HD2.out.below hb3, p3, bel_then HB2.out hb3⟩; have HPB := Lib.hid HB2.out.size; clear p3 hb3))
    generalize w2.heap.size = pb at *
    go_loopw [73] (fun c wr => ∃ k : Nat, c = .int .i64 k ∧ k ≤ n ∧ Hid (RefAt w pb L D 1 n wr)) (fun c _ => n - (intOf c).toNat)
    case atStart => exact ⟨0, rfl, by omega, HR3⟩
    case round =>
      obtain ⟨k, rfl, hk, HK⟩ := hrel
      by_cases hlt : k < n
      · go_wp2_with (go_at_call 21; refine (CP2.out _ _ _ k hlt HK.out.2.1 HK.out.1).mono ?_; rintro e w4 ⟨rfl, hb4⟩; have HK2 : Hid (RefAt w pb L D 1 n w4) := ⟨HK.out.1.below hb4, HK.out.2.1.below hb4, bel_then HK.out.2.2 hb4⟩; clear hb4)
        go_roundw
        case rel => exact ⟨k + 1, by go_num, by omega, HK2⟩
        case measure => simp [intOf]; omega
      · obtain rfl : k = n := by omega
        clear HR3 CP2
        by_cases hfull : r = k
        · subst hfull
          rw [if_pos rfl] at CA'
          go_wp2_with (first
            | (go_at_call 23; refine (CH'.out _ _ HK.out.1).mono ?_; rintro e w5 ⟨rfl, d5, k5⟩; have HD5 := Lib.hid d5; have HP5 := Lib.hid (HK.out.2.1.keep k5 (HK.out.2.1.foot HK.out.1)); have HB5 := Lib.hid (bel_keep HK.out.2.2 k5 HF.out); clear d5 k5)
            | (go_at_call 17; refine (CA'.out _ _ _ HP5.out HD5.out).mono ?_; rintro e w6 ⟨rfl, _, p6, k6⟩; have HP6 := Lib.hid p6; have HB6 := Lib.hid (bel_keep HB5.out k6 (by rintro i (h | rfl); exact HF.out i h; exact HPB.out)); clear p6 k6)
            | (go_at_call 24; refine (CX.out _ _ _ HP6.out).mono ?_; rintro e w' ⟨rfl, rfl⟩))
          go_ret
          exact ⟨rfl, HB6.out⟩
        · rw [if_neg hfull] at CA'
          have hne : (k : Int) < (r : Int) := by omega
          have hne2 : ((k : Int) == (r : Int)) = false := by simp; omega
          have hne3 : decide ((k : Int) < (r : Int)) = true := decide_eq_true hne
          have hne4 : decide (k < r) = true := decide_eq_true (by omega)
          go_wp2_with (first
            | (go_at_call 23; refine (CH'.out _ _ HK.out.1).mono ?_; rintro e w5 ⟨rfl, d5, k5⟩; have HD5 := Lib.hid d5; have HP5 := Lib.hid (HK.out.2.1.keep k5 (HK.out.2.1.foot HK.out.1)); have HB5 := Lib.hid (bel_keep HK.out.2.2 k5 HF.out); clear d5 k5)
            | (go_at_call 17; refine (CA'.out _ _ _ HP5.out HD5.out).mono ?_; rintro e w6 ⟨rfl, _, p6, k6⟩; have HP6 := Lib.hid p6; have HB6 := Lib.hid (bel_keep HB5.out k6 (by rintro i (h | rfl); exact HF.out i h; exact HPB.out)); clear p6 k6)
            | (go_at_call 24; refine (CX.out _ _ _ HP6.out).mono ?_; rintro e w' ⟨rfl, rfl⟩))
          go_ret
          exact ⟨rfl, HB6.out⟩

theorem refuses_walk (half next size : Int) (w : World) :
    Calls Try.prog 4 #[.int .i64 half, .int .i64 next, .int .i64 size] w fun e w' => e = .returned (.bool true) ∧ Below w.heap.size w w' := by
  obtain ⟨m, hm⟩ : ∃ m : Nat, mx 2 (mn size 40) = (m : Int) := ⟨(max 2 (min size 40)).toNat, by rw [mx_eq, mn_eq]; omega⟩
  have h2 : 2 ≤ m ∧ m ≤ 40 := by rw [mx_eq, mn_eq] at hm; omega
  by_cases hb : 0 ≤ half ∧ half ≤ 1 ∧ 0 ≤ next ∧ next ≤ (Dk.make (m : Int)).room
  · obtain ⟨b1, b2, b3, b4⟩ := hb
    obtain ⟨h, rfl⟩ := Int.eq_ofNat_of_zero_le b1
    obtain ⟨n, rfl⟩ := Int.eq_ofNat_of_zero_le b3
    exact refuses_good h n size w m hm h2.1 h2.2 _ rfl (by omega) (by omega)
  · exact refuses_bad half next size w m hm h2.1 h2.2 _ rfl hb

end Go.Proofs.Ytcbefilcdelplaa
