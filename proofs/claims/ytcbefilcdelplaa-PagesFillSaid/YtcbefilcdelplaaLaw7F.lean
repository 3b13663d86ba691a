/- dowserlaw07.PagesFill, walked: it answers true. -/
import Derived.Test.YtcbefilcdelplaaLaw7R
import Derived.Test.YtcbefilcdelplaaBytes
namespace Go.Proofs.Ytcbefilcdelplaa
open Go.RowKit
set_option linter.unusedVariables false
set_option linter.unusedSimpArgs false
attribute [local go_sem ↓] max_mx min_mn

/-- Behind k appends. -/
structure FillAt (w : World) (pb : Nat) (L : Loc) (m k : Nat) (D : Dk) (wr : World) : Prop where
  disk : DiskAt wr L D
  pages : PagesAt wr pb L 1 k
  below : Below w.heap.size w wr
  live : D.Live
  len : D.now.length = m
  secs : ∀ i, i < k → D.sec (2 + (m - 2) / 2 + i) = sectorOf (i : Int) sX

theorem sector_one {D : Dk} {m : Nat} (h : D.now.length = m) (i : Nat) : D.sector 1 i = 2 + (m - 2) / 2 + i := by
  unfold Dk.sector Dk.room; rw [h]; omega

theorem FillAt.room {w : World} {pb : Nat} {L : Loc} {m k : Nat} {D : Dk} {wr : World} (h : FillAt w pb L m k D wr) : D.room = (m - 2) / 2 := by unfold Dk.room; rw [h.len]

/-- One append more. -/
theorem FillAt.append {w : World} {pb : Nat} {L : Loc} {m k : Nat} {D : Dk} {wr : World} (h : FillAt w pb L m k D wr) (h2 : 2 ≤ m) (h60 : m ≤ 60) (hk : k < (m - 2) / 2) (hf : ∀ i, L.foot i → w.heap.size ≤ i) (hpb : w.heap.size ≤ pb) :
    Calls Try.prog 17 #[.pointer (some ⟨pb, 0, none⟩), .int .i64 (k : Int), .string sX] wr fun e w' => e = .returned (.tuple #[.int .i64 (k : Int), .int .i64 0]) ∧ ∃ D', FillAt w pb L m (k + 1) D' w' := by
  have hr := h.room
  obtain ⟨D', e, l, n, _⟩ := append_live h.live (by rw [h.len]; omega) 1 k (by omega) (by omega) (k : Int) sX (by omega) (by omega) (by decide)
  have C := pages_Append wr pb L D 1 k (k : Int) sX h.pages h.disk (by omega) (by omega)
  rw [e] at C
  refine C.mono ?_
  rintro e w' ⟨rfl, d, p, kp⟩
  have hl : D.sector 1 k < D.now.length := sector_lt (by rw [h.len]; omega) (by omega) (by omega)
  refine ⟨rfl, D', d, p, bel_keep h.below kp (by rintro i (h | rfl); exact hf i h; exact hpb), l, by rw [n, List.length_set, h.len], ?_⟩
  intro i hi
  rw [← sector_one h.len]
  by_cases hik : i = k
  · subst hik; exact sec_set n hl
  · rw [sec_set_ne n (by rw [sector_one h.len, sector_one h.len]; omega), sector_one h.len]
    exact h.secs i (by omega)

theorem FillAt.full {w : World} {pb : Nat} {L : Loc} {m k : Nat} {D : Dk} {wr : World} (h : FillAt w pb L m k D wr) (hk : k = (m - 2) / 2) (hf : ∀ i, L.foot i → w.heap.size ≤ i) (hpb : w.heap.size ≤ pb) :
    Calls Try.prog 17 #[.pointer (some ⟨pb, 0, none⟩), .int .i64 1, .string sX] wr fun e w' => e = .returned (.tuple #[.int .i64 (-1), .int .i64 5]) ∧ FillAt w pb L m k D w' := by
  have hr := h.room
  have C := pages_Append wr pb L D 1 k 1 sX h.pages h.disk (by omega) (by omega)
  have e : D.pgAppend 1 k 1 sX = (D, k, -1, 5) := by
    unfold Dk.pgAppend
    rw [if_neg (by have : sX.size = 1 := rfl; omega), if_pos (by omega)]
  rw [e] at C
  refine C.mono ?_
  rintro e w' ⟨rfl, d, p, kp⟩
  exact ⟨rfl, d, p, bel_keep h.below kp (by rintro i (h | rfl); exact hf i h; exact hpb), h.live, h.len, h.secs⟩

theorem FillAt.free {w : World} {pb : Nat} {L : Loc} {m k : Nat} {D : Dk} {wr : World} (h : FillAt w pb L m k D wr) (hk : k ≤ (m - 2) / 2) :
    Calls Try.prog 26 #[.pointer (some ⟨pb, 0, none⟩)] wr fun e w' => e = .returned (.int .i64 (((m - 2) / 2 - k : Nat) : Int)) ∧ FillAt w pb L m k D w' := by
  have hr := h.room
  have C := pages_Free wr pb L D 1 k h.pages h.disk (by omega)
  rw [hr] at C
  refine C.mono ?_
  rintro e w' ⟨rfl, n, rfl⟩
  exact ⟨rfl, h.disk.drewN n, h.pages.drewN n, bel_drewN h.below n, h.live, h.len, h.secs⟩

theorem FillAt.cut {w : World} {pb : Nat} {L : Loc} {m k j : Nat} {D : Dk} {wr : World} (h : FillAt w pb L m k D wr) (hj : j ≤ k) (hpb : w.heap.size ≤ pb) :
    Calls Try.prog 27 #[.pointer (some ⟨pb, 0, none⟩), .int .i64 (j : Int)] wr fun e w' => e = .returned (.bool true) ∧ FillAt w pb L m j D w' := by
  have C := pages_Cut wr pb L 1 k (j : Int) h.pages
  have hc : (0 : Int) ≤ (j : Int) ∧ (j : Int) ≤ (k : Int) := by omega
  rw [decide_eq_true hc, if_pos hc] at C
  refine C.mono ?_
  rintro e w' ⟨rfl, p, kp⟩
  rw [Int.toNat_natCast] at p
  exact ⟨rfl, h.disk.keep kp (by rintro i hi rfl; exact h.pages.foot h.disk hi), p, bel_keep h.below kp (by rintro i rfl; exact hpb), h.live, h.len, fun i hi => h.secs i (by omega)⟩

theorem FillAt.read {w : World} {pb : Nat} {L : Loc} {m k : Nat} {D : Dk} {wr : World} (h : FillAt w pb L m k D wr) (h2 : 2 ≤ m) (h60 : m ≤ 60) (hk : k ≤ (m - 2) / 2) (i : Nat) (hi : i < k) :
    Calls Try.prog 21 #[.pointer (some ⟨pb, 0, none⟩), .int .i64 (i : Int)] wr fun e w' => e = .returned (.tuple #[.int .i64 (i : Int), .string sX, .int .i64 0]) ∧ FillAt w pb L m k D w' := by
  have hr := h.room
  have C := pages_Read wr pb L D 1 k i h.pages h.disk (by omega) (by omega)
  have e : D.pgRead 1 k (i : Int) = ((i : Int), sX, 0) := by
    rw [pgRead_live h.live (by rw [h.len]; omega) 1 k (by omega) (by omega) i hi, sector_one h.len, h.secs i hi]
    exact parse_sector _ _ (by omega) (by omega) (by decide)
  rw [e] at C
  refine C.mono ?_
  rintro e w' ⟨rfl, hb⟩
  exact ⟨rfl, h.disk.below hb, h.pages.below hb, bel_then h.below hb, h.live, h.len, h.secs⟩

theorem FillAt.readOut {w : World} {pb : Nat} {L : Loc} {m k : Nat} {D : Dk} {wr : World} (h : FillAt w pb L m k D wr) (hk : k ≤ (m - 2) / 2) :
    Calls Try.prog 21 #[.pointer (some ⟨pb, 0, none⟩), .int .i64 (k : Int)] wr fun e w' => e = .returned (.tuple #[.int .i64 0, .string ByteArray.empty, .int .i64 1]) ∧ Below w.heap.size w w' := by
  have hr := h.room
  have C := pages_Read wr pb L D 1 k k h.pages h.disk (by omega) (by omega)
  have e : D.pgRead 1 k (k : Int) = (0, ByteArray.empty, 1) := by
    unfold Dk.pgRead
    rw [if_pos (by omega)]
  rw [e] at C
  refine C.mono ?_
  rintro e w' ⟨rfl, hb⟩
  exact ⟨rfl, bel_then h.below hb⟩

set_option maxHeartbeats 4000000 in
set_option maxRecDepth 100000 in
theorem fill_walk (size cut : Int) (w : World) :
    Calls Try.prog 5 #[.int .i64 size, .int .i64 cut] w fun e w' => e = .returned (.bool true) ∧ Below w.heap.size w w' := by
  obtain ⟨m, hm⟩ : ∃ m : Nat, mx 2 (mn size 60) = (m : Int) := ⟨(max 2 (min size 60)).toNat, by rw [mx_eq, mn_eq]; omega⟩
  have h2 : 2 ≤ m ∧ m ≤ 60 := by rw [mx_eq, mn_eq] at hm; omega
  obtain ⟨h2, h60⟩ := h2
  obtain ⟨r, hr⟩ : ∃ r, r = (m - 2) / 2 := ⟨_, rfl⟩
  obtain ⟨c, hc⟩ : ∃ c : Nat, mx 0 (mn cut (r : Int)) = (c : Int) := ⟨(max 0 (min cut r)).toNat, by rw [mx_eq, mn_eq]; omega⟩
  have hcr : c ≤ r := by rw [mx_eq, mn_eq] at hc; omega
  have CN := Lib.hid (fun W => disk_New (m : Int) W)
  have hroom : (Dk.make (m : Int)).room = r := by rw [hr]; unfold Dk.room; rw [make_now]; omega
  have hlen : (Dk.make (m : Int)).now.length = m := by rw [make_now]; omega
  have hlive := make_live (m : Int)
  generalize Dk.make (m : Int) = D at *
  have CR := fun W L (d : DiskAt W L D) => pages_Room W L D d
  rw [hroom] at CR
  have CR' := Lib.hid CR
  have CO := Lib.hid (fun W L (d : DiskAt W L D) => pages_Open W L D 1 0 d (by omega) (by omega))
  have HB0 := Lib.hid (Below.refl w.heap.size w)
  have HLen := Lib.hid hlen
  have HLive := Lib.hid hlive
  have HR := Lib.hid hr
  have hr29 : (r : Int) ≤ 29 := by omega
  clear CR hroom hlen hlive hr
  go_enter Try.func5, Try.ntmps5
  go_wp2_with (first
    | (go_at_call 13; refine (law7_awake _).mono ?_; rintro e w1 ⟨rfl, hb1⟩; have HB1 := Lib.hid (bel_then HB0.out hb1); clear hb1)
    | (go_at_call 14; refine (CN.out _).mono ?_; rintro e w2 ⟨L, rfl, d2, hf2, hb2⟩; have HD2 := Lib.hid d2; have HF := Lib.hid (fun i (h : L.foot i) => Nat.le_trans HB1.out.size (hf2 i h)); have HB2 := Lib.hid (bel_then HB1.out hb2); clear d2 hf2 hb2)
    | (go_at_call 25; refine (CR'.out _ _ HD2.out).mono ?_; rintro e w' ⟨rfl, rfl⟩)
    | (go_at_call 15; refine (CO.out _ _ HD2.out).mono ?_; rintro e w3 ⟨rfl, p3, hb3⟩; have HR3 : Hid (FillAt w w2.heap.size L m 0 D w3) := ⟨HD2.out.below hb3, p3, bel_then HB2.out hb3, HLive.out, HLen.out, fun i hi => by omega⟩; have HPB := Lib.hid HB2.out.size; clear p3 hb3))
  generalize w2.heap.size = pb at *
  clear CN CR' CO HD2 HB2 HB1 HB0
  go_loopw [43] (fun c wr => ∃ (k : Nat) (E : Dk), c = .int .i64 k ∧ k ≤ r ∧ Hid (FillAt w pb L m k E wr)) (fun c _ => r - (intOf c).toNat)
  case atStart => exact ⟨0, D, rfl, by omega, HR3⟩
  case round =>
    obtain ⟨k, E, rfl, hk, HK⟩ := hrel
    clear HR3
    by_cases hlt : k < r
    · have hand : bits .and .i64 (k : Int) 255 = (k : Int) := by rw [and255]; omega
      have hkr : k < (m - 2) / 2 := by have := HR.out; omega
      have CA := Lib.hid (HK.out.append h2 h60 hkr HF.out HPB.out)
      have CF := fun D' W (h : FillAt w pb L m (k + 1) D' W) => h.free (by omega)
      have e : (((m - 2) / 2 - (k + 1) : Nat) : Int) = (r : Int) - 1 - (k : Int) := by have := HR.out; omega
      rw [e] at CF
      have CF' := Lib.hid CF
      clear HK CF e hkr
      go_wp2_with (first
        | (go_at_call 17; refine CA.out.mono ?_; rintro e w4 ⟨rfl, D4, h4⟩; have H4 := Lib.hid h4; clear h4)
        | (go_at_call 26; refine (CF'.out _ _ H4.out).mono ?_; rintro e w5 ⟨rfl, h5⟩; have H5 := Lib.hid h5; clear h5))
      go_roundw
      case rel => exact ⟨k + 1, D4, by go_num, by omega, H5⟩
      case measure => simp [intOf]; omega
    · obtain rfl : k = r := by omega
      have CA := Lib.hid (HK.out.full HR.out HF.out HPB.out)
      have CC := Lib.hid (fun W (h : FillAt w pb L m k E W) => h.cut (j := c) hcr HPB.out)
      have CF := fun W (h : FillAt w pb L m c E W) => h.free (by have := HR.out; omega)
      have e : (((m - 2) / 2 - c : Nat) : Int) = (k : Int) - (c : Int) := by have := HR.out; omega
      rw [e] at CF
      have CF' := Lib.hid CF
      have CD := Lib.hid (fun W (h : FillAt w pb L m c E W) (i : Nat) (hi : i < c) => h.read h2 h60 (by have := HR.out; omega) i hi)
      have CL := Lib.hid (fun W (h : FillAt w pb L m c E W) => h.readOut (by have := HR.out; omega))
      clear HK CF e hlt hk
      go_wp2_with (first
        | (go_at_call 17; refine CA.out.mono ?_; rintro e w4 ⟨rfl, h4⟩; have H4 := Lib.hid h4; clear h4)
        | (go_at_call 27; refine (CC.out _ H4.out).mono ?_; rintro e w5 ⟨rfl, h5⟩; have H5 := Lib.hid h5; clear h5)
        | (go_at_call 26; refine (CF'.out _ H5.out).mono ?_; rintro e w6 ⟨rfl, h6⟩; have H6 := Lib.hid h6; clear h6))
      go_loopw [94] (fun c0 wr => ∃ j : Nat, c0 = .int .i64 j ∧ j ≤ c ∧ Hid (FillAt w pb L m c E wr)) (fun c0 _ => c - (intOf c0).toNat)
      case atStart => exact ⟨0, rfl, by omega, H6⟩
      case round =>
        obtain ⟨j, rfl, hj, HJ⟩ := hrel
        by_cases hjl : j < c
        · have hand : bits .and .i64 (j : Int) 255 = (j : Int) := by have := HR.out; rw [and255]; omega
          have hsx : (sX.toList == [120]) = true := by rw [ByteArray.toList_eq]; decide
          go_wp2_with (go_at_call 21; refine (CD.out _ HJ.out j hjl).mono ?_; rintro e w7 ⟨rfl, h7⟩; have H7 := Lib.hid h7; clear h7)
          go_roundw
          case rel => exact ⟨j + 1, by go_num, by omega, H7⟩
          case measure => simp [intOf]; omega
        · obtain rfl : j = c := by omega
          go_wp2_with (go_at_call 21; refine (CL.out _ HJ.out).mono ?_; rintro e w8 ⟨rfl, h8⟩; have H8 := Lib.hid h8; clear h8)
          go_ret
          exact ⟨rfl, H8.out⟩

end Go.Proofs.Ytcbefilcdelplaa
