/- dowserlaw07.PagesSectors, walked: it answers true. -/
import Derived.Test.YtcbefilcdelplaaLaw7A
import Derived.Test.YtcbefilcdelplaaBytes
namespace Go.Proofs.Ytcbefilcdelplaa
open Go.RowKit
set_option linter.unusedVariables false
set_option linter.unusedSimpArgs false
attribute [local go_sem ↓] max_mx min_mn

set_option maxHeartbeats 4000000 in
set_option maxRecDepth 100000 in
theorem sectors_walk (kind : Int) (pay : ByteArray) (half : Bool) (skip : Int) (w : World) (hpay : pay.size ≤ maxLen) :
    Calls Try.prog 3 #[.agg #[.int .i64 kind, .string pay], .bool half, .int .i64 skip] w fun e w' => e = .returned (.bool true) ∧ Below w.heap.size w w' := by
  obtain ⟨σ, hσ⟩ : ∃ σ : Nat, mx 0 (mn skip 9) = (σ : Int) := ⟨(max 0 (min skip 9)).toNat, by rw [mx_eq, mn_eq]; omega⟩
  have hσ9 : (σ : Int) ≤ 9 := by rw [← hσ, mx_eq, mn_eq]; omega
  obtain ⟨κ, hκ⟩ : ∃ κ : Nat, bits .and .i64 kind 255 = (κ : Int) := ⟨(kind % 256).toNat, by rw [and255]; omega⟩
  have hκ9 : (κ : Int) ≤ 255 := by rw [← hκ, and255]; omega
  obtain ⟨s, hs⟩ : ∃ s, cutTo pay 240 = s := ⟨_, rfl⟩
  have hss : s.size ≤ 240 := by rw [← hs, cutTo]; split; rw [ByteArray.size_extract]; omega; omega
  have CC := fun W => law01_Cut pay 240 W (by omega)
  rw [hs] at CC
  have CC' := Lib.hid CC
  have HS := Lib.hid hs
  clear CC hs
  obtain ⟨h, hh⟩ : ∃ h : Nat, h = if half then 1 else 0 := ⟨_, rfl⟩
  have hh1 : h ≤ 1 := by rw [hh]; split <;> omega
  have HH := Lib.hid hh
  clear hh
  cases half with
  | false =>
    have hh0 : h = 0 := by rw [HH.out]; rfl
    subst hh0
    clear HH hh1
    go_enter Try.func3, Try.ntmps3
    go_wp2_with fail
    refine (law7_awake _).mono ?_
    rintro e w1 ⟨rfl, hb1⟩
    have HB1 := Lib.hid (bel_then (bel_alloc (Below.refl w.heap.size w) _) hb1)
    have HX1 := Lib.hid ((hb1.block _ (by simp)).trans (heap_alloc_self w _))
    clear hb1
    go_wp2_with fail
    refine (disk_New 22 _).mono ?_
    rintro e w2 ⟨L, rfl, d2, hf2, hb2⟩
    have hL := make_live 22
    have hlen : (Dk.make 22).now.length = 22 := by rw [make_now]; decide
    have hroom : (Dk.make 22).room = 10 := by unfold Dk.room; rw [hlen]
    generalize Dk.make 22 = D at *
    have HL := Lib.hid hL
    have HLen := Lib.hid hlen
    have HR := Lib.hid hroom
    have HD2 := Lib.hid d2
    have HF := Lib.hid (fun i (h : L.foot i) => Nat.lt_of_lt_of_le (lt_of_heap HX1.out) (hf2 i h))
    have HB2 := Lib.hid (bel_then HB1.out hb2)
    have HX2 := Lib.hid ((hb2.block _ (lt_of_heap HX1.out)).trans HX1.out)
    have CO := Lib.hid (pages_Open w2 L D 0 σ d2 (by omega) (by rw [hroom]; omega))
    clear hL hlen hroom d2 hf2 hb2 HX1 HB1
    go_wp2_with fail
    refine CO.out.mono ?_
    rintro e w3 ⟨rfl, p3, hb3⟩
    have HD3 := Lib.hid (HD2.out.below hb3)
    have HP3 := Lib.hid p3
    have HB3 := Lib.hid (bel_then HB2.out hb3)
    have HX3 := Lib.hid ((hb3.block _ (lt_of_heap HX2.out)).trans HX2.out)
    have q0 : w3.cell? ⟨w.heap.size, 0, none⟩ = some (.int .i64 kind) := (cell_of_heap HX3.out 0).trans rfl
    have q1 : w3.cell? ⟨w.heap.size, 1, none⟩ = some (.string pay) := (cell_of_heap HX3.out 1).trans rfl
    have q2 := frozen_of_heap HX3.out
    have HPF := Lib.hid (show w.heap.size < w2.heap.size from lt_of_heap HX2.out)
    clear p3 hb3 CO HX2 HB2 HD2
    go_wp2_with fail
    refine (CC'.out _).mono ?_
    rintro e w' ⟨rfl, rfl⟩
    go_wp2_with fail
    have nf : ¬ L.foot w.heap.size := fun h => absurd (HF.out _ h) (Nat.lt_irrefl _)
    have HX4 := Lib.hid ((heap_setCell_same (heap_setCell_same HX3.out 0 (.int .i64 (κ : Int))) 1 (.string s)).trans (show _ = some (Obj.cells #[.int .i64 (κ : Int), .string s] 23 (0, 0)) from rfl))
    have HD4 := Lib.hid ((HD3.out.setCell (a := ⟨w.heap.size, 0, none⟩) nf (.int .i64 (κ : Int))).setCell (a := ⟨w.heap.size, 1, none⟩) nf (.string s))
    have HP4 : Hid (PagesAt _ _ L 0 σ) := heap_setCell_ne (heap_setCell_ne HP3.out 0 (.int .i64 (κ : Int)) (Nat.ne_of_gt HPF.out)) 1 (.string s) (Nat.ne_of_gt HPF.out)
    have HB4 := Lib.hid ((HB3.out.setCell (p := ⟨w.heap.size, 0, none⟩) (Nat.le_refl _) (.int .i64 (κ : Int))).setCell (p := ⟨w.heap.size, 1, none⟩) (Nat.le_refl _) (.string s))
    clear HX3 HD3 HP3 HB3 q0 q1 q2
    generalize (w3.setCell ⟨w.heap.size, 0, none⟩ (.int .i64 (κ : Int))).setCell ⟨w.heap.size, 1, none⟩ (.string s) = w4 at *
    generalize w2.heap.size = pb at *
    obtain ⟨D2, e2, l2, n2, _⟩ := append_live HL.out (by rw [HLen.out]; omega) 0 σ (by omega) (by rw [HR.out]; omega) κ s (by omega) hκ9 hss
    have hsl := sector_lt (D := D) (h := 0) (n := σ) (by rw [HLen.out]; omega) (by omega) (by rw [HR.out]; omega)
    have hlen2 : D2.now.length = 22 := by rw [n2, List.length_set]; exact HLen.out
    have hsv : D.sector 0 σ = 2 + 0 * 10 + σ := by unfold Dk.sector; rw [HR.out]
    obtain ⟨S, hS⟩ : ∃ S, sectorOf (κ : Int) s = S := ⟨_, rfl⟩
    have hSz : S.size = 256 := by rw [← hS]; exact sectorOf_size _ _ (by omega)
    have CA := pages_Append w4 pb L D 0 σ κ s HP4.out HD4.out (by omega) (by rw [HR.out]; omega)
    rw [e2] at CA
    have hrd : ∀ i : Int, i = 2 + 0 * 10 + (σ : Int) → D2.read i = (S, 0) := by
      intro i hi
      rw [show i = ((D.sector 0 σ : Nat) : Int) from by rw [hsv]; omega, read_live l2 _ (by rw [n2, List.length_set]; exact hsl), sec_set n2 hsl, hS]
    have CA' := Lib.hid CA
    have CRd := Lib.hid (fun W (d : DiskAt W L D2) (i : Int) (hi : i = 2 + 0 * 10 + (σ : Int)) => show Calls Try.prog 18 #[.pointer (some ⟨L.a, 0, none⟩), .int .i64 i] W fun e w' => e = .returned (.tuple #[.string S, .int .i64 0]) ∧ W = w' from by have := disk_Read W L D2 i d; rw [hrd i hi] at this; exact this)
    have HS2 := Lib.hid hS
    have HN2 := Lib.hid n2
    have HL2 := Lib.hid l2
    have HSV := Lib.hid hsv
    have HSL := Lib.hid hsl
    have CT := fun W => ref07_Text κ s W (by omega)
    rw [hS] at CT
    have CT' := Lib.hid CT
    clear CA CT hrd e2 l2 n2 hS hsv hsl hlen2 CC' hκ HD4 HP4 nf
    go_wp2_with fail
    refine CA'.out.mono ?_
    rintro e w5 ⟨rfl, d5, p5, k5⟩
    have HX5 := Lib.hid (k5.heap HX4.out (by rintro (h | h); exact absurd (HF.out _ h) (Nat.lt_irrefl _); have := HPF.out; omega))
    have HB5 := Lib.hid (bel_keep HB4.out k5 (by rintro i (h | rfl); exact Nat.le_of_lt (HF.out i h); exact Nat.le_of_lt HPF.out))
    have q0 : w5.cell? ⟨w.heap.size, 0, none⟩ = some (.int .i64 (κ : Int)) := (cell_of_heap HX5.out 0).trans rfl
    have q1 : w5.cell? ⟨w.heap.size, 1, none⟩ = some (.string s) := (cell_of_heap HX5.out 1).trans rfl
    have HD5 := Lib.hid d5
    have HP5 := Lib.hid p5
    clear d5 p5 k5 HX4 HB4 CA'
    go_wp2_with fail
    refine (CRd.out _ HD5.out _ ?_).mono ?_
    · omega
    rintro e w' ⟨rfl, rfl⟩
    go_wp2_with fail
    refine (CT'.out _).mono ?_
    rintro e w6 ⟨rfl, hb6⟩
    have HX6 := Lib.hid ((hb6.block _ (lt_of_heap HX5.out)).trans HX5.out)
    have HB6 := Lib.hid (bel_then HB5.out hb6)
    have HD6 := Lib.hid (HD5.out.below hb6)
    have HP6 := Lib.hid (HP5.out.below hb6)
    obtain ⟨W7, cap, rest, kf, hcv, hb7, hrow, hkf⟩ := to_bytes w6 S
    have q0 : W7.cell? ⟨w.heap.size, 0, none⟩ = some (.int .i64 (κ : Int)) := (hb7.cell (p := ⟨w.heap.size, 0, none⟩) (lt_of_heap HX6.out)).trans ((cell_of_heap HX6.out 0).trans rfl)
    have q1 : W7.cell? ⟨w.heap.size, 1, none⟩ = some (.string s) := (hb7.cell (p := ⟨w.heap.size, 1, none⟩) (lt_of_heap HX6.out)).trans ((cell_of_heap HX6.out 1).trans rfl)
    obtain ⟨P, hP⟩ : ∃ P : Nat, P = (s.size * 7 + κ) % 256 := ⟨_, rfl⟩
    have hpos : ((s.size : Int) * 7 + (κ : Int)) % 256 = (P : Int) := by omega
    have hPl : (P : Int) < 256 := by omega
    have hPn : P < S.data.toList.length := by rw [size_len]; omega
    obtain ⟨c, hc⟩ : ∃ c, S.data.toList.getD P 0 = c := ⟨_, rfl⟩
    obtain ⟨m, hm, hcm⟩ := u8_xor1 c
    have q2 : W7.cell? ⟨w6.heap.size, P, none⟩ = some (.int .u8 (c.toNat : Int)) := by
      have hcg : S.data.toList[P]? = some c := by rw [← hc, List.getD_eq_getElem?_getD, List.getElem?_eq_getElem hPn]; rfl
      rw [cell_of_heap hrow P, List.getElem?_toArray, List.getElem?_append_left (by simpa [byteVals] using hPn), byteVals, List.getElem?_map, hcg]
      rfl
    have q3 : W7.frozen? ⟨w6.heap.size, P, none⟩ = false := by
      simp only [World.frozen?, hrow]
      simp
      omega
    have hback := bytes_back W7 w6.heap.size cap S.data.toList rest _ P m hPn hrow
    rw [size_len, hSz] at hback
    rw [hSz] at hcv
    obtain ⟨T, hT⟩ : ∃ T : ByteArray, ⟨(S.data.toList.set P m).toArray⟩ = T := ⟨_, rfl⟩
    have hTl : T.data.toList = S.data.toList.set P m := by rw [← hT]
    have hTz : T.size = 256 := by rw [← size_len, hTl, List.length_set, size_len, hSz]
    rw [hT] at hback
    have HD7 := Lib.hid ((HD6.out.below hb7).setCell (a := ⟨w6.heap.size, P, none⟩) (fun h => absurd (HD6.out.foot_lt h) (Nat.lt_irrefl _)) (.int .u8 (m.toNat : Int)))
    have HP7 : Hid (PagesAt _ pb L 0 (σ + 1)) := heap_setCell_ne (HP6.out.below hb7) P (.int .u8 (m.toNat : Int)) (Nat.ne_of_lt HP6.out.lt)
    have HB7 := Lib.hid ((bel_then HB6.out hb7).setCell (p := ⟨w6.heap.size, P, none⟩) HB6.out.size (.int .u8 (m.toNat : Int)))
    have HTL := Lib.hid hTl
    have HTZ := Lib.hid hTz
    have HC := Lib.hid hc
    have HCM := Lib.hid hcm
    clear hb6 hb7 hrow hkf hP hPn hc hcm hTl hTz hT HX5 HX6 HB5 HB6 HD5 HD6 HP5 HP6 CT' CRd
    go_wp2_with fail
    clear hback hcv q0 q1 q2 q3 hm hpos
    generalize W7.setCell ⟨w6.heap.size, P, none⟩ (.int .u8 (m.toNat : Int)) = w8 at *
    have hl22 : D2.now.length = 22 := by rw [HN2.out, List.length_set]; exact HLen.out
    obtain ⟨e3, l3, n3, _⟩ := write_live HL2.out (D.sector 0 σ) (by rw [HN2.out, List.length_set]; exact HSL.out) T (by rw [HTZ.out]; omega)
    rw [fill_full HTZ.out] at n3
    generalize D2.turn.1.put (D.sector 0 σ) T = D3 at *
    have CW := Lib.hid (fun (i : Int) (hi : i = 2 + 0 * 10 + (σ : Int)) => show Calls Try.prog 20 #[.pointer (some ⟨L.a, 0, none⟩), .int .i64 i, .string T] w8 fun e w' => e = .returned (.int .i64 0) ∧ DiskAt w' L D3 ∧ Keep L.foot w8 w' from by
      have := disk_Write w8 L D2 i T HD7.out
      rw [show i = ((D.sector 0 σ : Nat) : Int) from by rw [HSV.out]; omega, e3] at this
      rw [show i = ((D.sector 0 σ : Nat) : Int) from by rw [HSV.out]; omega]
      exact this)
    have hrp : D3.pgRead 0 (σ + 1) (σ : Int) = (0, ByteArray.empty, 8) := by
      have hl3 : D3.now.length = 22 := by rw [n3, List.length_set]; exact hl22
      rw [pgRead_live l3 (by omega) 0 (σ + 1) (by omega) (by unfold Dk.room; omega) σ (by omega), sector_of (D := D) (by rw [hl3]; exact HLen.out.symm), sec_set n3 (by rw [hl22, ← HLen.out]; exact HSL.out)]
      exact parse_spoilt κ s T hss P (by omega) m (by rw [HS2.out, HC.out]; exact HCM.out) (by rw [HS2.out]; exact HTL.out)
    have HRP := Lib.hid hrp
    have HR3 := Lib.hid (show σ + 1 ≤ D3.room by unfold Dk.room; rw [n3, List.length_set, hl22]; omega)
    clear e3 l3 n3 hrp hl22
    refine (CW.out _ ?_).mono ?_
    · omega
    rintro e w9 ⟨rfl, d9, k9⟩
    have CP := pages_Read w9 pb L D3 0 (σ + 1) σ (HP7.out.keep k9 (HP7.out.foot HD7.out)) d9 (by omega) HR3.out
    rw [HRP.out] at CP
    have HB9 := Lib.hid (bel_keep HB7.out k9 (fun i h => Nat.le_of_lt (HF.out i h)))
    have CP' := Lib.hid CP
    clear CP d9 k9 CW HP7 HD7 HB7
    go_wp2_with fail
    refine CP'.out.mono ?_
    rintro e w10 ⟨rfl, hb10⟩
    have HB10 := Lib.hid (bel_then HB9.out hb10)
    clear hb10 CP'
    go_wp2
    go_ret
    exact ⟨rfl, HB10.out⟩
  | true =>
    have hh0 : h = 1 := by rw [HH.out]; rfl
    subst hh0
    clear HH hh1
    go_enter Try.func3, Try.ntmps3
    go_wp2_with fail
    refine (law7_awake _).mono ?_
    rintro e w1 ⟨rfl, hb1⟩
    have HB1 := Lib.hid (bel_then (bel_alloc (Below.refl w.heap.size w) _) hb1)
    have HX1 := Lib.hid ((hb1.block _ (by simp)).trans (heap_alloc_self w _))
    clear hb1
    go_wp2_with fail
    refine (disk_New 22 _).mono ?_
    rintro e w2 ⟨L, rfl, d2, hf2, hb2⟩
    have hL := make_live 22
    have hlen : (Dk.make 22).now.length = 22 := by rw [make_now]; decide
    have hroom : (Dk.make 22).room = 10 := by unfold Dk.room; rw [hlen]
    generalize Dk.make 22 = D at *
    have HL := Lib.hid hL
    have HLen := Lib.hid hlen
    have HR := Lib.hid hroom
    have HD2 := Lib.hid d2
    have HF := Lib.hid (fun i (h : L.foot i) => Nat.lt_of_lt_of_le (lt_of_heap HX1.out) (hf2 i h))
    have HB2 := Lib.hid (bel_then HB1.out hb2)
    have HX2 := Lib.hid ((hb2.block _ (lt_of_heap HX1.out)).trans HX1.out)
    have CO := Lib.hid (pages_Open w2 L D 1 σ d2 (by omega) (by rw [hroom]; omega))
    clear hL hlen hroom d2 hf2 hb2 HX1 HB1
    go_wp2_with fail
    refine CO.out.mono ?_
    rintro e w3 ⟨rfl, p3, hb3⟩
    have HD3 := Lib.hid (HD2.out.below hb3)
    have HP3 := Lib.hid p3
    have HB3 := Lib.hid (bel_then HB2.out hb3)
    have HX3 := Lib.hid ((hb3.block _ (lt_of_heap HX2.out)).trans HX2.out)
    have q0 : w3.cell? ⟨w.heap.size, 0, none⟩ = some (.int .i64 kind) := (cell_of_heap HX3.out 0).trans rfl
    have q1 : w3.cell? ⟨w.heap.size, 1, none⟩ = some (.string pay) := (cell_of_heap HX3.out 1).trans rfl
    have q2 := frozen_of_heap HX3.out
    have HPF := Lib.hid (show w.heap.size < w2.heap.size from lt_of_heap HX2.out)
    clear p3 hb3 CO HX2 HB2 HD2
    go_wp2_with fail
    refine (CC'.out _).mono ?_
    rintro e w' ⟨rfl, rfl⟩
    go_wp2_with fail
    have nf : ¬ L.foot w.heap.size := fun h => absurd (HF.out _ h) (Nat.lt_irrefl _)
    have HX4 := Lib.hid ((heap_setCell_same (heap_setCell_same HX3.out 0 (.int .i64 (κ : Int))) 1 (.string s)).trans (show _ = some (Obj.cells #[.int .i64 (κ : Int), .string s] 23 (0, 0)) from rfl))
    have HD4 := Lib.hid ((HD3.out.setCell (a := ⟨w.heap.size, 0, none⟩) nf (.int .i64 (κ : Int))).setCell (a := ⟨w.heap.size, 1, none⟩) nf (.string s))
    have HP4 : Hid (PagesAt _ _ L 1 σ) := heap_setCell_ne (heap_setCell_ne HP3.out 0 (.int .i64 (κ : Int)) (Nat.ne_of_gt HPF.out)) 1 (.string s) (Nat.ne_of_gt HPF.out)
    have HB4 := Lib.hid ((HB3.out.setCell (p := ⟨w.heap.size, 0, none⟩) (Nat.le_refl _) (.int .i64 (κ : Int))).setCell (p := ⟨w.heap.size, 1, none⟩) (Nat.le_refl _) (.string s))
    clear HX3 HD3 HP3 HB3 q0 q1 q2
    generalize (w3.setCell ⟨w.heap.size, 0, none⟩ (.int .i64 (κ : Int))).setCell ⟨w.heap.size, 1, none⟩ (.string s) = w4 at *
    generalize w2.heap.size = pb at *
    obtain ⟨D2, e2, l2, n2, _⟩ := append_live HL.out (by rw [HLen.out]; omega) 1 σ (by omega) (by rw [HR.out]; omega) κ s (by omega) hκ9 hss
    have hsl := sector_lt (D := D) (h := 1) (n := σ) (by rw [HLen.out]; omega) (by omega) (by rw [HR.out]; omega)
    have hlen2 : D2.now.length = 22 := by rw [n2, List.length_set]; exact HLen.out
    have hsv : D.sector 1 σ = 2 + 1 * 10 + σ := by unfold Dk.sector; rw [HR.out]
    obtain ⟨S, hS⟩ : ∃ S, sectorOf (κ : Int) s = S := ⟨_, rfl⟩
    have hSz : S.size = 256 := by rw [← hS]; exact sectorOf_size _ _ (by omega)
    have CA := pages_Append w4 pb L D 1 σ κ s HP4.out HD4.out (by omega) (by rw [HR.out]; omega)
    rw [e2] at CA
    have hrd : ∀ i : Int, i = 2 + 1 * 10 + (σ : Int) → D2.read i = (S, 0) := by
      intro i hi
      rw [show i = ((D.sector 1 σ : Nat) : Int) from by rw [hsv]; omega, read_live l2 _ (by rw [n2, List.length_set]; exact hsl), sec_set n2 hsl, hS]
    have CA' := Lib.hid CA
    have CRd := Lib.hid (fun W (d : DiskAt W L D2) (i : Int) (hi : i = 2 + 1 * 10 + (σ : Int)) => show Calls Try.prog 18 #[.pointer (some ⟨L.a, 0, none⟩), .int .i64 i] W fun e w' => e = .returned (.tuple #[.string S, .int .i64 0]) ∧ W = w' from by have := disk_Read W L D2 i d; rw [hrd i hi] at this; exact this)
    have HS2 := Lib.hid hS
    have HN2 := Lib.hid n2
    have HL2 := Lib.hid l2
    have HSV := Lib.hid hsv
    have HSL := Lib.hid hsl
    have CT := fun W => ref07_Text κ s W (by omega)
    rw [hS] at CT
    have CT' := Lib.hid CT
    clear CA CT hrd e2 l2 n2 hS hsv hsl hlen2 CC' hκ HD4 HP4 nf
    go_wp2_with fail
    refine CA'.out.mono ?_
    rintro e w5 ⟨rfl, d5, p5, k5⟩
    have HX5 := Lib.hid (k5.heap HX4.out (by rintro (h | h); exact absurd (HF.out _ h) (Nat.lt_irrefl _); have := HPF.out; omega))
    have HB5 := Lib.hid (bel_keep HB4.out k5 (by rintro i (h | rfl); exact Nat.le_of_lt (HF.out i h); exact Nat.le_of_lt HPF.out))
    have q0 : w5.cell? ⟨w.heap.size, 0, none⟩ = some (.int .i64 (κ : Int)) := (cell_of_heap HX5.out 0).trans rfl
    have q1 : w5.cell? ⟨w.heap.size, 1, none⟩ = some (.string s) := (cell_of_heap HX5.out 1).trans rfl
    have HD5 := Lib.hid d5
    have HP5 := Lib.hid p5
    clear d5 p5 k5 HX4 HB4 CA'
    go_wp2_with fail
    refine (CRd.out _ HD5.out _ ?_).mono ?_
    · omega
    rintro e w' ⟨rfl, rfl⟩
    go_wp2_with fail
    refine (CT'.out _).mono ?_
    rintro e w6 ⟨rfl, hb6⟩
    have HX6 := Lib.hid ((hb6.block _ (lt_of_heap HX5.out)).trans HX5.out)
    have HB6 := Lib.hid (bel_then HB5.out hb6)
    have HD6 := Lib.hid (HD5.out.below hb6)
    have HP6 := Lib.hid (HP5.out.below hb6)
    obtain ⟨W7, cap, rest, kf, hcv, hb7, hrow, hkf⟩ := to_bytes w6 S
    have q0 : W7.cell? ⟨w.heap.size, 0, none⟩ = some (.int .i64 (κ : Int)) := (hb7.cell (p := ⟨w.heap.size, 0, none⟩) (lt_of_heap HX6.out)).trans ((cell_of_heap HX6.out 0).trans rfl)
    have q1 : W7.cell? ⟨w.heap.size, 1, none⟩ = some (.string s) := (hb7.cell (p := ⟨w.heap.size, 1, none⟩) (lt_of_heap HX6.out)).trans ((cell_of_heap HX6.out 1).trans rfl)
    obtain ⟨P, hP⟩ : ∃ P : Nat, P = (s.size * 7 + κ) % 256 := ⟨_, rfl⟩
    have hpos : ((s.size : Int) * 7 + (κ : Int)) % 256 = (P : Int) := by omega
    have hPl : (P : Int) < 256 := by omega
    have hPn : P < S.data.toList.length := by rw [size_len]; omega
    obtain ⟨c, hc⟩ : ∃ c, S.data.toList.getD P 0 = c := ⟨_, rfl⟩
    obtain ⟨m, hm, hcm⟩ := u8_xor1 c
    have q2 : W7.cell? ⟨w6.heap.size, P, none⟩ = some (.int .u8 (c.toNat : Int)) := by
      have hcg : S.data.toList[P]? = some c := by rw [← hc, List.getD_eq_getElem?_getD, List.getElem?_eq_getElem hPn]; rfl
      rw [cell_of_heap hrow P, List.getElem?_toArray, List.getElem?_append_left (by simpa [byteVals] using hPn), byteVals, List.getElem?_map, hcg]
      rfl
    have q3 : W7.frozen? ⟨w6.heap.size, P, none⟩ = false := by
      simp only [World.frozen?, hrow]
      simp
      omega
    have hback := bytes_back W7 w6.heap.size cap S.data.toList rest _ P m hPn hrow
    rw [size_len, hSz] at hback
    rw [hSz] at hcv
    obtain ⟨T, hT⟩ : ∃ T : ByteArray, ⟨(S.data.toList.set P m).toArray⟩ = T := ⟨_, rfl⟩
    have hTl : T.data.toList = S.data.toList.set P m := by rw [← hT]
    have hTz : T.size = 256 := by rw [← size_len, hTl, List.length_set, size_len, hSz]
    rw [hT] at hback
    have HD7 := Lib.hid ((HD6.out.below hb7).setCell (a := ⟨w6.heap.size, P, none⟩) (fun h => absurd (HD6.out.foot_lt h) (Nat.lt_irrefl _)) (.int .u8 (m.toNat : Int)))
    have HP7 : Hid (PagesAt _ pb L 1 (σ + 1)) := heap_setCell_ne (HP6.out.below hb7) P (.int .u8 (m.toNat : Int)) (Nat.ne_of_lt HP6.out.lt)
    have HB7 := Lib.hid ((bel_then HB6.out hb7).setCell (p := ⟨w6.heap.size, P, none⟩) HB6.out.size (.int .u8 (m.toNat : Int)))
    have HTL := Lib.hid hTl
    have HTZ := Lib.hid hTz
    have HC := Lib.hid hc
    have HCM := Lib.hid hcm
    clear hb6 hb7 hrow hkf hP hPn hc hcm hTl hTz hT HX5 HX6 HB5 HB6 HD5 HD6 HP5 HP6 CT' CRd
    go_wp2_with fail
    clear hback hcv q0 q1 q2 q3 hm hpos
    generalize W7.setCell ⟨w6.heap.size, P, none⟩ (.int .u8 (m.toNat : Int)) = w8 at *
    have hl22 : D2.now.length = 22 := by rw [HN2.out, List.length_set]; exact HLen.out
    obtain ⟨e3, l3, n3, _⟩ := write_live HL2.out (D.sector 1 σ) (by rw [HN2.out, List.length_set]; exact HSL.out) T (by rw [HTZ.out]; omega)
    rw [fill_full HTZ.out] at n3
    generalize D2.turn.1.put (D.sector 1 σ) T = D3 at *
    have CW := Lib.hid (fun (i : Int) (hi : i = 2 + 1 * 10 + (σ : Int)) => show Calls Try.prog 20 #[.pointer (some ⟨L.a, 0, none⟩), .int .i64 i, .string T] w8 fun e w' => e = .returned (.int .i64 0) ∧ DiskAt w' L D3 ∧ Keep L.foot w8 w' from by
      have := disk_Write w8 L D2 i T HD7.out
      rw [show i = ((D.sector 1 σ : Nat) : Int) from by rw [HSV.out]; omega, e3] at this
      rw [show i = ((D.sector 1 σ : Nat) : Int) from by rw [HSV.out]; omega]
      exact this)
    have hrp : D3.pgRead 1 (σ + 1) (σ : Int) = (0, ByteArray.empty, 8) := by
      have hl3 : D3.now.length = 22 := by rw [n3, List.length_set]; exact hl22
      rw [pgRead_live l3 (by omega) 1 (σ + 1) (by omega) (by unfold Dk.room; omega) σ (by omega), sector_of (D := D) (by rw [hl3]; exact HLen.out.symm), sec_set n3 (by rw [hl22, ← HLen.out]; exact HSL.out)]
      exact parse_spoilt κ s T hss P (by omega) m (by rw [HS2.out, HC.out]; exact HCM.out) (by rw [HS2.out]; exact HTL.out)
    have HRP := Lib.hid hrp
    have HR3 := Lib.hid (show σ + 1 ≤ D3.room by unfold Dk.room; rw [n3, List.length_set, hl22]; omega)
    clear e3 l3 n3 hrp hl22
    refine (CW.out _ ?_).mono ?_
    · omega
    rintro e w9 ⟨rfl, d9, k9⟩
    have CP := pages_Read w9 pb L D3 1 (σ + 1) σ (HP7.out.keep k9 (HP7.out.foot HD7.out)) d9 (by omega) HR3.out
    rw [HRP.out] at CP
    have HB9 := Lib.hid (bel_keep HB7.out k9 (fun i h => Nat.le_of_lt (HF.out i h)))
    have CP' := Lib.hid CP
    clear CP d9 k9 CW HP7 HD7 HB7
    go_wp2_with fail
    refine CP'.out.mono ?_
    rintro e w10 ⟨rfl, hb10⟩
    have HB10 := Lib.hid (bel_then HB9.out hb10)
    clear hb10 CP'
    go_wp2
    go_ret
    exact ⟨rfl, HB10.out⟩

end Go.Proofs.Ytcbefilcdelplaa
