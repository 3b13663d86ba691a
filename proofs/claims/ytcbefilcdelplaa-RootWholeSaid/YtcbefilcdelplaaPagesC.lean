/- Pages' Read, walked. -/
import Derived.Test.YtcbefilcdelplaaPagesB
import Derived.Laws.DeepStrings4
namespace Go.Proofs.Ytcbefilcdelplaa
open Go.RowKit
set_option linter.unusedVariables false
set_option linter.unusedSimpArgs false

theorem run_cut (s : ByteArray) (i j : Int) (h0 : 0 ≤ i) (h1 : i ≤ j) (h2 : j ≤ (s.size : Int)) (W : World) : (Instr.slice 9 (.string s) (some (.int .i64 i)) (some (.int .i64 j)) none).run Try.prog W = .ok (.string (s.extract i.toNat j.toNat)) W := by
  rw [run_slice_string_if (h := Try.underlying9), if_pos ⟨by omega, h2⟩, if_pos ⟨h0, h1⟩]

theorem toList_inj {a b : ByteArray} (h : a.toList = b.toList) : a = b := by
  rw [ByteArray.toList_eq, ByteArray.toList_eq] at h
  exact ByteArray.ext (Array.toList_inj.1 h)

theorem get_byte (s : ByteArray) (i : Nat) (h : i < s.size) : s.get! i = s[i] := by
  show s.data[i]! = s.data[i]
  have h' : i < s.data.size := h
  exact getElem!_pos s.data i h'

theorem bel_then {w w1 w2 : World} (h : Below w.heap.size w w1) (k : Below w1.heap.size w1 w2) : Below w.heap.size w w2 := h.trans (k.mono h.size)
theorem bel_alloc {w w1 : World} (h : Below w.heap.size w w1) (o : Obj) : Below w.heap.size w (w1.alloc o) := h.alloc h.size o
theorem bel_drewN {w w1 : World} (h : Below w.heap.size w w1) (n : Nat) : Below w.heap.size w (w1.drewN n) := ⟨h.os, h.tape, h.output, h.size, h.block⟩
theorem bel_drew {w w1 : World} (h : Below w.heap.size w w1) : Below w.heap.size w w1.drew := ⟨h.os, h.tape, h.output, h.size, h.block⟩
theorem pw_below_drewN_ {B : Nat} {w W : World} (h : Below B w W) (n : Nat) : Below B w (W.drewN n) := ⟨h.os, h.tape, h.output, h.size, h.block⟩

set_option maxHeartbeats 2000000 in
set_option maxRecDepth 100000 in
theorem pages_Read_ok (w : World) (b : Nat) (L : Loc) (D : Dk) (h n : Nat) (i : Nat) (p : PagesAt w b L h n) (d : DiskAt w L D) (hh : h ≤ 1) (hn : n ≤ D.room) (hi : i < n)
    (s : ByteArray) (he : D.read (D.sector h i) = (s, 0)) (hs : s.size = 256) :
    Calls Try.prog 21 #[.pointer (some ⟨b, 0, none⟩), .int .i64 (i : Int)] w fun e w' =>
      e = .returned (.tuple #[.int .i64 (pgParse s).1, .string (pgParse s).2.1, .int .i64 (pgParse s).2.2]) ∧ Below w.heap.size w w' := by
  have hr := room_le d.ok
  have c0 := p.c0
  have c2 := p.c2
  have CS := fun W (p : PagesAt W b L h n) (d : DiskAt W L D) => pages_sector W b L D h n i p d hh (by omega)
  have CD := fun W (d : DiskAt W L D) => disk_Read W L D (D.sector h i) d
  rw [he] at CD
  obtain ⟨q, hq⟩ : ∃ q, q = D.sector h i := ⟨_, rfl⟩
  rw [← hq] at CS CD
  have hii : (i : Int) < (n : Int) := by omega
  have h4 : 4 < s.size := by omega
  have h5 : 5 < s.size := by omega
  have g4 := get_byte s 4 h4
  have g5 := get_byte s 5 h5
  have b4 : (s[4].toNat : Int) < 256 := by have := s[4].toNat_lt; omega
  have b5 : (s[5].toNat : Int) < 256 := by have := s[5].toNat_lt; omega
  obtain ⟨K, hK⟩ : ∃ K, K = s[5].toNat := ⟨_, rfl⟩
  obtain ⟨T, hT⟩ : ∃ T, T = s[4].toNat := ⟨_, rfl⟩
  have hpg : pgParse s = if 240 < K then (0, ByteArray.empty, 8) else if s = sectorOf (T : Int) (s.extract 6 (6 + K)) then ((T : Int), s.extract 6 (6 + K), 0) else (0, ByteArray.empty, 8) := by
    rw [pgParse, g4, g5, ← hK, ← hT]
  rw [hpg]
  have CS' := Lib.hid CS
  have CD' := Lib.hid CD
  have HP := Lib.hid p
  have HD := Lib.hid d
  have HK := Lib.hid hK
  have HT := Lib.hid hT
  have hB0 := Lib.hid (Below.refl w.heap.size w)
  by_cases hk : 240 < K
  · rw [if_pos hk]
    have hk2 : (240 : Int) < (s[5].toNat : Int) := by omega
    clear CS CD p d he hq hn hr g4 g5 hpg hK hT hk
    go_enter Try.func21, Try.ntmps21
    go_wp2_with fail
    go_quiet (first | ((go_at_call 52; exact Calls.quiet_of (CS'.out _ (HP.out.drewN _) (HD.out.drewN _)))) | ((go_at_call 18; exact quietS (CD'.out _ (HD.out.drewN _)))))
    go_wp2_with fail
    go_quiet (fail)
    go_wp2
    go_ret3
    exact ⟨rfl, pw_below_drewN_ hB0.out _⟩
  · rw [if_neg hk]
    obtain ⟨pl, hpl⟩ : ∃ pl, s.extract 6 (6 + K) = pl := ⟨_, rfl⟩
    have hps : pl.size = K := by rw [← hpl, ByteArray.size_extract]; omega
    rw [hpl]
    have CT := fun W => pages_text (T : Int) pl W (by omega)
    obtain ⟨x, hx⟩ : ∃ x, pageText (T : Int) pl = x := ⟨_, rfl⟩
    have hxs : x.size = 252 := by rw [← hx, pageText_size _ _ (by omega)]
    have CO := fun b0 W hc => crc_Of b0 x W (by unfold maxLen; omega) hc
    obtain ⟨y, hy⟩ : ∃ y, four ((crcOf x.data.toList).toNat : Int) = y := ⟨_, rfl⟩
    have CR := fun W => crc_Four ((crcOf x.data.toList).toNat : Int) W
    have hys : y.size = 4 := by rw [← hy, four_size]
    have hadd : ¬ (9223372036854775807 < y.size + x.size) := by omega
    have hsec : sectorOf (T : Int) pl = y ++ x := by rw [sectorOf, hx, hy]
    rw [hsec]
    rw [hx] at CT
    rw [hy] at CR
    have hk2 : ¬ (240 : Int) < (K : Int) := by omega
    have hcut := run_cut s 6 (6 + (K : Int)) (by omega) (by omega) (by omega)
    rw [show ((6 : Int) + (K : Int)).toNat = 6 + K from by omega, show (6 : Int).toNat = 6 from rfl, hpl] at hcut
    have hK5 : (s[5].toNat : Int) = (K : Int) := by rw [hK]
    have hT2 : (s[4].toNat : Int) = (T : Int) := by rw [hT]
    have hk3 : 6 + K ≤ s.size := by omega
    have hk4 : (6 : Int) + (K : Int) ≤ (s.size : Int) := by omega
    have CT' := Lib.hid CT
    have CO' := Lib.hid CO
    have CR' := Lib.hid CR
    clear CS CD CT CO CR p d he hq hn hr g4 g5 hpg hK hT hk hpl hx hy hsec hps hxs hys
    by_cases hne : s = y ++ x
    · rw [if_pos hne]
      have hb2 : (s.toList == (y ++ x).toList) = true := by rw [hne]; simp
      clear hne
      go_enter Try.func21, Try.ntmps21
      go_wp2_with fail
      go_quiet (first | ((go_at_call 52; exact Calls.quiet_of (CS'.out _ (HP.out.drewN _) (HD.out.drewN _)))) | ((go_at_call 18; exact quietS (CD'.out _ (HD.out.drewN _)))))
      go_wp2_with fail
      go_quiet (fail)
      go_wp2_with fail
      refine (CT'.out _).mono ?_
      rintro e w1 ⟨rfl, hb1⟩
      go_wp2_with fail
      refine (CO'.out _ _ (cell_new1 _ _ _ _ _ rfl)).mono ?_
      rintro e w' ⟨rfl, rfl⟩
      go_wp2_with fail
      refine (CR'.out _).mono ?_
      rintro e w3 ⟨rfl, hb3⟩
      have hB := Lib.hid (bel_then (bel_alloc (bel_then (bel_drewN hB0.out _) hb1) _) hb3)
      clear hb1 hb3
      go_wp2
      go_ret3
      exact ⟨rfl, hB.out⟩
    · rw [if_neg hne]
      have hb2 : (s.toList == (y ++ x).toList) = false := by
        rw [beq_eq_false_iff_ne]
        intro hx
        exact hne (toList_inj hx)
      clear hne
      go_enter Try.func21, Try.ntmps21
      go_wp2_with fail
      go_quiet (first | ((go_at_call 52; exact Calls.quiet_of (CS'.out _ (HP.out.drewN _) (HD.out.drewN _)))) | ((go_at_call 18; exact quietS (CD'.out _ (HD.out.drewN _)))))
      go_wp2_with fail
      go_quiet (fail)
      go_wp2_with fail
      refine (CT'.out _).mono ?_
      rintro e w1 ⟨rfl, hb1⟩
      go_wp2_with fail
      refine (CO'.out _ _ (cell_new1 _ _ _ _ _ rfl)).mono ?_
      rintro e w' ⟨rfl, rfl⟩
      go_wp2_with fail
      refine (CR'.out _).mono ?_
      rintro e w3 ⟨rfl, hb3⟩
      have hB := Lib.hid (bel_then (bel_alloc (bel_then (bel_drewN hB0.out _) hb1) _) hb3)
      clear hb1 hb3
      go_wp2
      go_ret3
      exact ⟨rfl, hB.out⟩

theorem read_ok_size {D : Dk} (hD : D.Ok) {i : Int} {s : ByteArray} (h : D.read i = (s, 0)) : s.size = 256 := by
  unfold Dk.read at h
  split at h
  · simp at h
  · split at h
    · rename_i h1
      simp [Dk.is] at h1
      have : s = D.sec i.toNat := by simp at h; exact h.symm
      rw [this]
      exact sec_size hD (by omega)
    · simp at h

set_option maxHeartbeats 1000000 in
set_option maxRecDepth 100000 in
theorem pages_Read_er (w : World) (b : Nat) (L : Loc) (D : Dk) (h n : Nat) (i : Nat) (p : PagesAt w b L h n) (d : DiskAt w L D) (hh : h ≤ 1) (hn : n ≤ D.room) (hi : i < n)
    (s : ByteArray) (er : Int) (her : er ≠ 0) (he : D.read (D.sector h i) = (s, er)) :
    Calls Try.prog 21 #[.pointer (some ⟨b, 0, none⟩), .int .i64 (i : Int)] w fun e w' =>
      e = .returned (.tuple #[.int .i64 0, .string ByteArray.empty, .int .i64 er]) ∧ Below w.heap.size w w' := by
  have hr := room_le d.ok
  have c0 := p.c0
  have c2 := p.c2
  have CS := fun W (p : PagesAt W b L h n) (d : DiskAt W L D) => pages_sector W b L D h n i p d hh (by omega)
  have CD := fun W (d : DiskAt W L D) => disk_Read W L D (D.sector h i) d
  rw [he] at CD
  obtain ⟨q, hq⟩ : ∃ q, q = D.sector h i := ⟨_, rfl⟩
  rw [← hq] at CS CD
  have hii : (i : Int) < (n : Int) := by omega
  have hb1 : (er != 0) = true := by simpa using her
  have hb2 : (er == 0) = false := by simpa using her
  have CS' := Lib.hid CS
  have CD' := Lib.hid CD
  have HP := Lib.hid p
  have HD := Lib.hid d
  have hB0 := Lib.hid (Below.refl w.heap.size w)
  clear CS CD p d he hq hn hr her
  go_enter Try.func21, Try.ntmps21
  go_wp2_with fail
  go_quiet (first | ((go_at_call 52; exact Calls.quiet_of (CS'.out _ (HP.out.drewN _) (HD.out.drewN _)))) | ((go_at_call 18; exact quietS (CD'.out _ (HD.out.drewN _)))))
  go_wp2
  go_ret3
  exact ⟨rfl, bel_drewN hB0.out _⟩

theorem pages_Read (w : World) (b : Nat) (L : Loc) (D : Dk) (h n : Nat) (i : Int) (p : PagesAt w b L h n) (d : DiskAt w L D) (hh : h ≤ 1) (hn : n ≤ D.room) :
    Calls Try.prog 21 #[.pointer (some ⟨b, 0, none⟩), .int .i64 i] w fun e w' =>
      e = .returned (.tuple #[.int .i64 (D.pgRead h n i).1, .string (D.pgRead h n i).2.1, .int .i64 (D.pgRead h n i).2.2]) ∧ Below w.heap.size w w' := by
  by_cases hbad : i < 0 ∨ (n : Int) ≤ i
  · have e : D.pgRead h n i = (0, ByteArray.empty, 1) := by simp only [Dk.pgRead, if_pos hbad]
    rw [e]
    have c2 := p.c2
    have hB0 := Lib.hid (Below.refl w.heap.size w)
    clear p d e
    by_cases h1 : i < 0
    · clear hbad
      go_enter Try.func21, Try.ntmps21
      go_wp2
      go_ret3
      exact ⟨rfl, hB0.out⟩
    · have h2 : (n : Int) ≤ i := by omega
      clear hbad
      go_enter Try.func21, Try.ntmps21
      go_wp2
      go_ret3
      exact ⟨rfl, hB0.out⟩
  · obtain ⟨j, rfl⟩ := Int.eq_ofNat_of_zero_le (show 0 ≤ i by omega)
    obtain ⟨s, er, he⟩ : ∃ s er, D.read (D.sector h j) = (s, er) := ⟨_, _, rfl⟩
    by_cases hz : er = 0
    · subst hz
      have e : D.pgRead h n j = pgParse s := by simp only [Dk.pgRead, if_neg hbad, Int.toNat_natCast, he]; rfl
      rw [e]
      exact pages_Read_ok w b L D h n j p d hh hn (by omega) s he (read_ok_size d.ok he)
    · have e : D.pgRead h n j = (0, ByteArray.empty, er) := by simp only [Dk.pgRead, if_neg hbad, Int.toNat_natCast, he, if_pos hz]
      rw [e]
      exact pages_Read_er w b L D h n j p d hh hn (by omega) s er hz he

end Go.Proofs.Ytcbefilcdelplaa
