/- Pages' text, Append, Read, walked. -/
import Derived.Test.YtcbefilcdelplaaPagesA
import Derived.Deep.RegionHeld3
namespace Go.Proofs.Ytcbefilcdelplaa
open Go.RowKit
set_option linter.unusedVariables false
set_option linter.unusedSimpArgs false

set_option maxHeartbeats 1000000 in
set_option maxRecDepth 20000 in
theorem pages_text (kind : Int) (s : ByteArray) (w : World) (hs : s.size ≤ 240) :
    Calls Try.prog 51 #[.int .i64 kind, .string s] w fun e w' => e = .returned (.string (pageText kind s)) ∧ Below w.heap.size w w' := by
  obtain ⟨hd, hhd⟩ : ∃ hd, pageHead kind s.size = hd := ⟨_, rfl⟩
  have hhs : hd.size = 2 := by rw [← hhd, pageHead_size]
  obtain ⟨x, hx⟩ : ∃ x, hd ++ s = x := ⟨_, rfl⟩
  have hxs : x.size = 2 + s.size := by rw [← hx, ByteArray.size_append]; omega
  have hxl : (x.size : Int) ≤ 242 := by omega
  have hadd : ¬ (9223372036854775807 < hd.size + s.size) := by omega
  obtain ⟨z, hz⟩ : ∃ z, zeros (252 - (x.size : Int)).toNat = z := ⟨_, rfl⟩
  have C1 := fun W => rep_zero (252 - (x.size : Int)) W (by omega) (by omega)
  rw [hz] at C1
  have hzs : z.size ≤ 252 := by rw [← hz, zeros_size]; omega
  have hadd2 : ¬ (9223372036854775807 < x.size + z.size) := by omega
  have hfin : pageText kind s = x ++ z := by
    rw [pageText, hhd, hx, fillTo, ← hz]; congr 2; omega
  have hsn : strOfNums [kind % 256, (s.size : Int)] = hd := by rw [← hhd, pageHead]; congr 3; omega
  have C1' := Lib.hid C1
  have HFIN := Lib.hid hfin
  have hcv := lit2
  clear hz hfin hhd hhs hzs C1 hxs
  go_enter Try.func51, Try.ntmps51
  go_wp2_with fail
  refine (C1'.out _).mono ?_
  rintro e w1 ⟨rfl, hb1⟩
  clear hcv
  go_wp2
  go_ret
  exact ⟨ret_str (by rw [HFIN.out]), ((Below.refl _ _).alloc (Nat.le_refl _) _).trans (hb1.mono (by simp <;> omega))⟩

set_option maxHeartbeats 2000000 in
set_option maxRecDepth 100000 in
theorem pages_Append_ok (w : World) (b : Nat) (L : Loc) (D : Dk) (h n : Nat) (kind : Int) (s : ByteArray) (p : PagesAt w b L h n) (d : DiskAt w L D) (hh : h ≤ 1) (hn : n < D.room)
    (hk0 : 0 ≤ kind) (hk1 : kind ≤ 255) (hs : s.size ≤ 240) (D' : Dk) (he : D.write (D.sector h n) (sectorOf kind s) = (D', 0)) :
    Calls Try.prog 17 #[.pointer (some ⟨b, 0, none⟩), .int .i64 kind, .string s] w fun e w' =>
      e = .returned (.tuple #[.int .i64 (n : Int), .int .i64 0]) ∧ DiskAt w' L D' ∧ PagesAt w' b L h (n + 1) ∧ Keep (fun k => L.foot k ∨ k = b) w w' := by
  have hr := room_le d.ok
  have CF := pages_Free w b L D h n p d (by omega)
  have CT := fun W => pages_text kind s W hs
  have CS := fun W (p : PagesAt W b L h n) (d : DiskAt W L D) => pages_sector W b L D h n n p d hh (by omega)
  have CW := fun W (d : DiskAt W L D) => disk_Write W L D (D.sector h n) (sectorOf kind s) d
  rw [he] at CW
  obtain ⟨x, hx⟩ : ∃ x, pageText kind s = x := ⟨_, rfl⟩
  have hxs : x.size = 252 := by rw [← hx, pageText_size _ _ (by omega)]
  have CO := fun b0 W hc => crc_Of b0 x W (by unfold maxLen; omega) hc
  obtain ⟨y, hy⟩ : ∃ y, four ((crcOf x.data.toList).toNat : Int) = y := ⟨_, rfl⟩
  have CR := fun W => crc_Four ((crcOf x.data.toList).toNat : Int) W
  have hys : y.size = 4 := by rw [← hy, four_size]
  have hadd : ¬ (9223372036854775807 < y.size + x.size) := by omega
  have hsec : sectorOf kind s = y ++ x := by rw [sectorOf, hx, hy]
  rw [hsec] at CW
  rw [hx] at CT
  rw [hy] at CR
  obtain ⟨f, hf⟩ : ∃ f, f = D.room - n := ⟨_, rfl⟩
  rw [← hf] at CF
  have hfp : (0 : Int) < (f : Int) := by omega
  obtain ⟨q, hq⟩ : ∃ q, q = D.sector h n := ⟨_, rfl⟩
  rw [← hq] at CS CW
  have hks : ¬ (240 : Int) < (s.size : Int) := by omega
  have CF' := Lib.hid CF
  have CT' := Lib.hid CT
  have CS' := Lib.hid CS
  have CO' := Lib.hid CO
  have CR' := Lib.hid CR
  have CW' := Lib.hid CW
  have HP := Lib.hid p
  have HD := Lib.hid d
  have hbf := Lib.hid (p.foot d)
  have hnb : (n : Int) ≤ 32767 := by omega
  clear CF CT CS CO CR CW p d he hx hy hsec hf hq hxs hys hn hr
  go_enter Try.func17, Try.ntmps17
  go_wp2_with fail
  refine CF'.out.mono ?_
  rintro e w0 ⟨rfl, m0, rfl⟩
  go_wp2_with fail
  refine (CT'.out _).mono ?_
  rintro e w1 ⟨rfl, hb1⟩
  have p1 := (HP.out.drewN m0).below hb1
  have d1 := (HD.out.drewN m0).below hb1
  have c0 := p1.c0
  have c2 := p1.c2
  have HP1 := Lib.hid p1
  have HD1 := Lib.hid d1
  have HK1 := Lib.hid (((Keep.refl (fun k => L.foot k ∨ k = b) w).drewN m0).andThen (Keep.below (F := fun k => L.foot k ∨ k = b) hb1) (fun _ _ h => h))
  clear p1 d1 hb1 CF' CT'
  go_wp2_with fail
  go_region_held3 (fun w' => w'.cell? ⟨b, 0, none⟩ = some (.pointer (some ⟨L.a, 0, none⟩)) ∧ w'.cell? ⟨b, 2, none⟩ = some (.int .i64 (n : Int)))
    ((refine PagesAt.two (h := h) ?_; (repeat (first | (with_reducible assumption) | exact HP1.out | refine PagesAt.alloc ?_ _ | refine PagesAt.drewN ?_ _ | refine PagesAt.drew ?_)))) (first
      | (go_at_call 52; (with_reducible refine (CS'.out _ ?_ ?_).mono ?_); (repeat (first | (with_reducible assumption) | exact HP1.out | refine PagesAt.alloc ?_ _ | refine PagesAt.drewN ?_ _ | refine PagesAt.drew ?_)); (repeat (first | (with_reducible assumption) | exact HD1.out | refine DiskAt.alloc ?_ _ | refine DiskAt.drewN ?_ _ | refine DiskAt.drew ?_)); rintro e w2 ⟨rfl, k2, rfl⟩)
      | (go_at_call 54; (with_reducible refine (CO'.out _ _ ?_).mono ?_); (first | exact cell_new1 _ _ _ _ _ rfl | exact cell_new1 w1 _ _ _ _ rfl | exact cell_new1 w1.drew _ _ _ _ rfl); rintro e w' ⟨rfl, rfl⟩)
      | (go_at_call 53; (with_reducible refine (CR'.out _).mono ?_); rintro e w3 ⟨rfl, hb3⟩; have p3 : PagesAt w3 b L h n := (by (refine PagesAt.below ?_ hb3; (repeat (first | (with_reducible assumption) | exact HP1.out | refine PagesAt.alloc ?_ _ | refine PagesAt.drewN ?_ _ | refine PagesAt.drew ?_)))); have d3 : DiskAt w3 L D := (by (refine DiskAt.below ?_ hb3; (repeat (first | (with_reducible assumption) | exact HD1.out | refine DiskAt.alloc ?_ _ | refine DiskAt.drewN ?_ _ | refine DiskAt.drew ?_)))); have k3 : Keep (fun k => L.foot k ∨ k = b) w w3 := (by (refine Keep.andThen ?_ (Keep.below hb3) (fun _ _ h => h); (repeat (first | (with_reducible assumption) | exact HK1.out | refine Keep.alloc ?_ _ | refine Keep.drewN ?_ _ | refine Keep.drew ?_)))); clear hb3)
      | (go_at_call 20; (with_reducible refine (CW'.out _ ?_).mono ?_); (repeat (first | (with_reducible assumption) | exact HD1.out | refine DiskAt.alloc ?_ _ | refine DiskAt.drewN ?_ _ | refine DiskAt.drew ?_)); rintro e w4 ⟨rfl, d4, kk4⟩; have p4 : PagesAt w4 b L h n := (by (refine PagesAt.keep ?_ kk4 hbf.out; (repeat (first | (with_reducible assumption) | exact HP1.out | refine PagesAt.alloc ?_ _ | refine PagesAt.drewN ?_ _ | refine PagesAt.drew ?_)))); have k4 : Keep (fun k => L.foot k ∨ k = b) w w4 := (by (refine Keep.andThen ?_ kk4 (fun _ _ h => .inl h); (repeat (first | (with_reducible assumption) | exact HK1.out | refine Keep.alloc ?_ _ | refine Keep.drewN ?_ _ | refine Keep.drew ?_)))); have c24 := p4.c2; have f24 := p4.frz 2; clear kk4))
  all_goals
    have P5 := p4.setNext (n + 1)
    have D5 := d4.setCell (a := ⟨b, 2, none⟩) hbf.out (.int .i64 ((n + 1 : Nat) : Int))
    have K5 := k4.setCell (p := ⟨b, 2, none⟩) (.inl (.inr rfl)) (.int .i64 ((n + 1 : Nat) : Int))
    have e5 : ((n + 1 : Nat) : Int) = (n : Int) + 1 := by omega
    rw [e5] at P5 D5 K5
    have P6 := Lib.hid P5
    have D6 := Lib.hid D5
    have K6 := Lib.hid K5
    clear p4 d4 k4 P5 D5 K5 e5
    go_wp2
    go_ret2
    exact ⟨rfl, D6.out, P6.out, K6.out⟩

set_option maxHeartbeats 2000000 in
set_option maxRecDepth 100000 in
theorem pages_Append_er (w : World) (b : Nat) (L : Loc) (D : Dk) (h n : Nat) (kind : Int) (s : ByteArray) (p : PagesAt w b L h n) (d : DiskAt w L D) (hh : h ≤ 1) (hn : n < D.room)
    (hk0 : 0 ≤ kind) (hk1 : kind ≤ 255) (hs : s.size ≤ 240) (D' : Dk) (er : Int) (her : er ≠ 0) (he : D.write (D.sector h n) (sectorOf kind s) = (D', er)) :
    Calls Try.prog 17 #[.pointer (some ⟨b, 0, none⟩), .int .i64 kind, .string s] w fun e w' =>
      e = .returned (.tuple #[.int .i64 (-1), .int .i64 er]) ∧ DiskAt w' L D' ∧ PagesAt w' b L h n ∧ Keep (fun k => L.foot k ∨ k = b) w w' := by
  have hr := room_le d.ok
  have CF := pages_Free w b L D h n p d (by omega)
  have CT := fun W => pages_text kind s W hs
  have CS := fun W (p : PagesAt W b L h n) (d : DiskAt W L D) => pages_sector W b L D h n n p d hh (by omega)
  have CW := fun W (d : DiskAt W L D) => disk_Write W L D (D.sector h n) (sectorOf kind s) d
  rw [he] at CW
  obtain ⟨x, hx⟩ : ∃ x, pageText kind s = x := ⟨_, rfl⟩
  have hxs : x.size = 252 := by rw [← hx, pageText_size _ _ (by omega)]
  have CO := fun b0 W hc => crc_Of b0 x W (by unfold maxLen; omega) hc
  obtain ⟨y, hy⟩ : ∃ y, four ((crcOf x.data.toList).toNat : Int) = y := ⟨_, rfl⟩
  have CR := fun W => crc_Four ((crcOf x.data.toList).toNat : Int) W
  have hys : y.size = 4 := by rw [← hy, four_size]
  have hadd : ¬ (9223372036854775807 < y.size + x.size) := by omega
  have hsec : sectorOf kind s = y ++ x := by rw [sectorOf, hx, hy]
  rw [hsec] at CW
  rw [hx] at CT
  rw [hy] at CR
  obtain ⟨f, hf⟩ : ∃ f, f = D.room - n := ⟨_, rfl⟩
  rw [← hf] at CF
  have hfp : (0 : Int) < (f : Int) := by omega
  obtain ⟨q, hq⟩ : ∃ q, q = D.sector h n := ⟨_, rfl⟩
  rw [← hq] at CS CW
  have hks : ¬ (240 : Int) < (s.size : Int) := by omega
  have CF' := Lib.hid CF
  have CT' := Lib.hid CT
  have CS' := Lib.hid CS
  have CO' := Lib.hid CO
  have CR' := Lib.hid CR
  have CW' := Lib.hid CW
  have HP := Lib.hid p
  have HD := Lib.hid d
  have hbf := Lib.hid (p.foot d)
  have hnb : (n : Int) ≤ 32767 := by omega
  have herb : (er != 0) = true := by simpa using her
  have herb2 : (er == 0) = false := by simpa using her
  clear her CF CT CS CO CR CW p d he hx hy hsec hf hq hxs hys hn hr
  go_enter Try.func17, Try.ntmps17
  go_wp2_with fail
  refine CF'.out.mono ?_
  rintro e w0 ⟨rfl, m0, rfl⟩
  go_wp2_with fail
  refine (CT'.out _).mono ?_
  rintro e w1 ⟨rfl, hb1⟩
  have p1 := (HP.out.drewN m0).below hb1
  have d1 := (HD.out.drewN m0).below hb1
  have c0 := p1.c0
  have c2 := p1.c2
  have HP1 := Lib.hid p1
  have HD1 := Lib.hid d1
  have HK1 := Lib.hid (((Keep.refl (fun k => L.foot k ∨ k = b) w).drewN m0).andThen (Keep.below (F := fun k => L.foot k ∨ k = b) hb1) (fun _ _ h => h))
  clear p1 d1 hb1 CF' CT'
  go_wp2_with fail
  go_region_held3 (fun w' => w'.cell? ⟨b, 0, none⟩ = some (.pointer (some ⟨L.a, 0, none⟩)) ∧ w'.cell? ⟨b, 2, none⟩ = some (.int .i64 (n : Int)))
    ((refine PagesAt.two (h := h) ?_; (repeat (first | (with_reducible assumption) | exact HP1.out | refine PagesAt.alloc ?_ _ | refine PagesAt.drewN ?_ _ | refine PagesAt.drew ?_)))) (first
      | (go_at_call 52; (with_reducible refine (CS'.out _ ?_ ?_).mono ?_); (repeat (first | (with_reducible assumption) | exact HP1.out | refine PagesAt.alloc ?_ _ | refine PagesAt.drewN ?_ _ | refine PagesAt.drew ?_)); (repeat (first | (with_reducible assumption) | exact HD1.out | refine DiskAt.alloc ?_ _ | refine DiskAt.drewN ?_ _ | refine DiskAt.drew ?_)); rintro e w2 ⟨rfl, k2, rfl⟩)
      | (go_at_call 54; (with_reducible refine (CO'.out _ _ ?_).mono ?_); (first | exact cell_new1 _ _ _ _ _ rfl | exact cell_new1 w1 _ _ _ _ rfl | exact cell_new1 w1.drew _ _ _ _ rfl); rintro e w' ⟨rfl, rfl⟩)
      | (go_at_call 53; (with_reducible refine (CR'.out _).mono ?_); rintro e w3 ⟨rfl, hb3⟩; have p3 : PagesAt w3 b L h n := (by (refine PagesAt.below ?_ hb3; (repeat (first | (with_reducible assumption) | exact HP1.out | refine PagesAt.alloc ?_ _ | refine PagesAt.drewN ?_ _ | refine PagesAt.drew ?_)))); have d3 : DiskAt w3 L D := (by (refine DiskAt.below ?_ hb3; (repeat (first | (with_reducible assumption) | exact HD1.out | refine DiskAt.alloc ?_ _ | refine DiskAt.drewN ?_ _ | refine DiskAt.drew ?_)))); have k3 : Keep (fun k => L.foot k ∨ k = b) w w3 := (by (refine Keep.andThen ?_ (Keep.below hb3) (fun _ _ h => h); (repeat (first | (with_reducible assumption) | exact HK1.out | refine Keep.alloc ?_ _ | refine Keep.drewN ?_ _ | refine Keep.drew ?_)))); clear hb3)
      | (go_at_call 20; (with_reducible refine (CW'.out _ ?_).mono ?_); (repeat (first | (with_reducible assumption) | exact HD1.out | refine DiskAt.alloc ?_ _ | refine DiskAt.drewN ?_ _ | refine DiskAt.drew ?_)); rintro e w4 ⟨rfl, d4, kk4⟩; have p4 : PagesAt w4 b L h n := (by (refine PagesAt.keep ?_ kk4 hbf.out; (repeat (first | (with_reducible assumption) | exact HP1.out | refine PagesAt.alloc ?_ _ | refine PagesAt.drewN ?_ _ | refine PagesAt.drew ?_)))); have k4 : Keep (fun k => L.foot k ∨ k = b) w w4 := (by (refine Keep.andThen ?_ kk4 (fun _ _ h => .inl h); (repeat (first | (with_reducible assumption) | exact HK1.out | refine Keep.alloc ?_ _ | refine Keep.drewN ?_ _ | refine Keep.drew ?_)))); have c24 := p4.c2; have f24 := p4.frz 2; clear kk4))
  all_goals
    have P6 := Lib.hid p4
    have D6 := Lib.hid d4
    have K6 := Lib.hid k4
    clear p4 d4 k4
    go_wp2
    go_ret2
    exact ⟨rfl, D6.out, P6.out, K6.out⟩

theorem pages_Append (w : World) (b : Nat) (L : Loc) (D : Dk) (h n : Nat) (kind : Int) (s : ByteArray) (p : PagesAt w b L h n) (d : DiskAt w L D) (hh : h ≤ 1) (hn : n ≤ D.room) :
    Calls Try.prog 17 #[.pointer (some ⟨b, 0, none⟩), .int .i64 kind, .string s] w fun e w' =>
      e = .returned (.tuple #[.int .i64 (D.pgAppend h n kind s).2.2.1, .int .i64 (D.pgAppend h n kind s).2.2.2]) ∧ DiskAt w' L (D.pgAppend h n kind s).1 ∧ PagesAt w' b L h (D.pgAppend h n kind s).2.1 ∧ Keep (fun k => L.foot k ∨ k = b) w w' := by
  have hr := room_le d.ok
  by_cases hbad : kind < 0 ∨ 255 < kind ∨ 240 < s.size
  · have e : D.pgAppend h n kind s = (D, n, -1, 1) := by simp only [Dk.pgAppend, if_pos hbad]
    rw [e]
    have HP := Lib.hid p
    have HD := Lib.hid d
    have HK := Lib.hid (Keep.refl (fun k => L.foot k ∨ k = b) w)
    clear p d e hn hr
    by_cases h1 : kind < 0
    · clear hbad
      go_enter Try.func17, Try.ntmps17
      go_wp2
      go_ret2
      exact ⟨rfl, HD.out, HP.out, HK.out⟩
    · by_cases h2 : 255 < kind
      · clear hbad
        go_enter Try.func17, Try.ntmps17
        go_wp2
        go_ret2
        exact ⟨rfl, HD.out, HP.out, HK.out⟩
      · have h3 : (240 : Int) < (s.size : Int) := by omega
        clear hbad
        go_enter Try.func17, Try.ntmps17
        go_wp2
        go_ret2
        exact ⟨rfl, HD.out, HP.out, HK.out⟩
  · by_cases hfull : D.room = n
    · have e : D.pgAppend h n kind s = (D, n, -1, 5) := by simp only [Dk.pgAppend, if_neg hbad, if_pos hfull]
      rw [e]
      have CF := pages_Free w b L D h n p d hn
      have e0 : ((D.room - n : Nat) : Int) = 0 := by omega
      rw [e0] at CF
      have CF' := Lib.hid CF
      have HP := Lib.hid p
      have HD := Lib.hid d
      have HK := Lib.hid (Keep.refl (fun k => L.foot k ∨ k = b) w)
      have h1 : ¬ kind < 0 := by omega
      have h2 : ¬ 255 < kind := by omega
      have h3 : ¬ (240 : Int) < (s.size : Int) := by omega
      clear hbad p d e hn hr hfull CF e0
      go_enter Try.func17, Try.ntmps17
      go_wp2_with fail
      refine CF'.out.mono ?_
      rintro e w0 ⟨rfl, m0, rfl⟩
      go_wp2
      go_ret2
      exact ⟨rfl, HD.out.drewN m0, HP.out.drewN m0, HK.out.drewN m0⟩
    · obtain ⟨D', er, he⟩ : ∃ D' er, D.write (D.sector h n) (sectorOf kind s) = (D', er) := ⟨_, _, rfl⟩
      by_cases hz : er = 0
      · subst hz
        have e : D.pgAppend h n kind s = (D', n + 1, (n : Int), 0) := by simp only [Dk.pgAppend, if_neg hbad, if_neg hfull, he]; rfl
        rw [e]
        exact pages_Append_ok w b L D h n kind s p d hh (by omega) (by omega) (by omega) (by omega) D' he
      · have e : D.pgAppend h n kind s = (D', n, -1, er) := by simp only [Dk.pgAppend, if_neg hbad, if_neg hfull, he, if_pos hz]
        rw [e]
        exact pages_Append_er w b L D h n kind s p d hh (by omega) (by omega) (by omega) (by omega) D' er hz he

end Go.Proofs.Ytcbefilcdelplaa
