/- Flush and Write, walked. -/
import Derived.Test.YtendgmblgdkiaaaGreatGInternFull0
import Derived.Test.YtendgmblgdkiaaaGreatGInternFull9
import Derived.Test.YtendgmblgdkiaaaGreatGInternFull8
import Derived.Test.YtendgmblgdkiaaaGreatGInternFull12
import Derived.Deep.RegionHeld3
import Derived.BigRegion
import Derived.BigFrame
namespace Go.Proofs.YtendgmblgdkiaaaGreat
open Go.RowKit
open Go.ChangeMaps (setBlock)
set_option linter.unusedVariables false
set_option linter.unusedSimpArgs false

theorem disk_Flush (w : World) (L : Loc) (D : Dk) (h : DiskAt w L D) :
  Calls Tryz.prog 222 #[.pointer (some ⟨L.a, 0, none⟩)] w fun e w' => e = .returned (.int .i64 D.flush.2) ∧ DiskAt w' L D.flush.1 ∧ Keep L.foot w w' := by
 have h4 := h.cell4
 cases hd : D.down with
 | true =>
  rw [hd] at h4
  have e : D.flush = (D, 6) := by simp [Dk.flush, hd]
  rw [e]
  have hD := hi_ h
  have hk := Keep.refl L.foot w
  clear hd e h
  go_enter Tryz.func222, Tryz.ntmps222
  go_wp2
  go_ret
  exact ⟨rfl, hD.out, hk⟩
 | false =>
  rw [hd] at h4
  have C := disk_turn w L D h
  cases ht : D.turn.2 with
  | false =>
   have e : D.flush = (D.turn.1, 6) := by simp [Dk.flush, hd, ht]
   rw [e]
   rw [ht] at C
   have C' := hi_ C
   clear hd e h C ht
   generalize D.turn.1 = D1 at *
   go_enter Tryz.func222, Tryz.ntmps222
   go_wp2_with (go_at_call 169; refine C'.out.mono ?_; rintro e w1 ⟨rfl, hD1, hk1⟩)
   go_ret
   exact ⟨rfl, hD1, hk1⟩
  | true =>
   have e : D.flush = ({ D.turn.1 with was := [] }, 0) := by simp [Dk.flush, hd, ht]
   rw [e]
   rw [ht] at C
   have C' := hi_ C
   clear hd e h C ht
   generalize D.turn.1 = D1 at *
   go_enter Tryz.func222, Tryz.ntmps222
   go_wp2_with fail
   refine C'.out.mono ?_
   rintro e w1 ⟨rfl, hD1, hk1⟩
   have g1 := hD1.cell1
   obtain ⟨o, hrun, hD2⟩ := clear_was hD1
   have hk2 := hk1.setBlock (b := L.m) (.inl (.inr (.inr rfl))) o
   have HD2 := hi_ hD2
   clear hD1 hD2 hk1
   go_wp2
   go_ret
   exact ⟨rfl, HD2.out, hk2⟩

theorem fill_size {s : ByteArray} (h : s.size ≤ 256) : (Dk.fill s).size = 256 := by
 simp [Dk.fill, zeros_size]; omega

set_option maxHeartbeats 800000 in
set_option maxRecDepth 100000 in
theorem disk_Write_ok (w : World) (L : Loc) (D : Dk) (i : Nat) (s : ByteArray) (h : DiskAt w L D) (hd : D.down = false) (hi : i < D.now.length) (hs : s.size ≤ 256) (ht : D.turn.2 = true) :
  Calls Tryz.prog 128 #[.pointer (some ⟨L.a, 0, none⟩), .int .i64 (i : Int), .string s] w fun e w' => e = .returned (.int .i64 0) ∧ DiskAt w' L (D.turn.1.put i s) ∧ Keep L.foot w w' := by
 have h4 := h.cell4
 rw [hd] at h4
 have hI : D.is (i : Int) = true := by simp [Dk.is, hi]
 have CI := disk_is w L D i h
 rw [hI] at CI
 have CI' := hi_ CI
 have C := disk_turn w L D h
 rw [ht] at C
 have C' := hi_ C
 have hgt : ¬ (256 : Int) < (s.size : Int) := by omega
 have hr0 : (0 : Int) ≤ 256 - (s.size : Int) := by omega
 have hlen : D.turn.1.now.length = D.now.length := by unfold Dk.turn; split <;> rfl
 have hi1 : i < D.turn.1.now.length := by omega
 have CR := fun w => rep_zero (256 - (s.size : Int)) w hr0 om_
 obtain ⟨z, hz⟩ : ∃ z, z = zeros (256 - (s.size : Int)).toNat := ⟨_, rfl⟩
 have hfz : Dk.fill s = s ++ z := by rw [hz, Dk.fill]; congr 2; omega
 have hzs : z.size ≤ 256 := by rw [hz, zeros_size]; omega
 have hcat : ¬ 9223372036854775807 < s.size + z.size := by omega
 have hcat2 : s.size + z.size ≤ 9223372036854775807 := by omega
 rw [← hz] at CR
 have CR' := hi_ CR
 have hfz' := hi_ hfz
 clear hz hzs hfz
 have hfs := fill_size hs
 clear CI C hI hd ht h CR hlen hi
 generalize D.turn.1 = D1 at *
 have hmost : (0 : Int) ≤ (i : Int) := by omega
 have hmost2 : (i : Int) < (D1.now.length : Int) := by omega
 have hpost : ∃ D2, D1.put i s = { D2 with now := D2.now.set i (Dk.fill s) } ∧ D2 = D1.loosen i := ⟨_, rfl, rfl⟩
 obtain ⟨D2, e2, e3⟩ := hpost
 rw [e2]
 clear e2
 cases hl : D1.loose i with
 | true =>
  have e4 : D2 = D1 := by
   have : i ∈ D1.was.map (·.1) := by simpa [Dk.loose] using hl
   rw [e3]; simp only [Dk.loosen, if_pos this]
  subst e4
  have hl' := hi_ hl
  clear e3 hl
  go_enter Tryz.func128, Tryz.ntmps128
  go_wp2_with fail
  refine CI'.out.mono ?_
  rintro e w' ⟨rfl, rfl⟩
  go_wp2_with fail
  refine C'.out.mono ?_
  rintro e w1 ⟨rfl, hD1, hk1⟩
  have g1 := hD1.cell1
  have g0 := hD1.cell0
  have hlk := look_was_ok hD1 i
  rw [hl'.out] at hlk
  have g5 := hD1.cellN hi1
  have HD1 := hi_ hD1
  clear hD1 C' CI'
  have g6 := HD1.out.frzN i
  have hwr : IntKind.i64.wrap (256 - (s.size : Int)) = 256 - (s.size : Int) := IntWalk.i64_in _ om_
  go_wp2_with fail
  go_region_with (go_at_call 138; (with_reducible refine (CR'.out _).mono ?_); rintro e w2 ⟨rfl, hb⟩; have k1 := HD1.out.drew.below hb; have k2 := k1.cell0; have k3 := k1.cellN hi1; have k4 := k1.frzN i; have k5 := hk1.drew.andThen (Keep.below (F := L.foot) hb) (fun _ _ x => x); have K1 := hi_ k1; have K5 := hi_ k5; clear hb k1 k5)
  all_goals go_wp2
  all_goals go_ret
  all_goals exact ⟨rfl, by rw [hfz'.out]; exact K1.out.setNow i _ (by rw [← hfz'.out]; exact hfs), K5.out.setCell (.inl (.inr (.inl rfl))) _⟩
 | false =>
  have hl' := hi_ hl
  have hnl : i ∉ D1.was.map (·.1) := by simpa [Dk.loose] using hl
  have e4 : D2 = { D1 with was := D1.was ++ [(i, D1.sec i)] } := by rw [e3]; simp only [Dk.loosen, if_neg hnl]
  have hnl' := hi_ hnl
  have e4' := hi_ e4
  have hi2 : i < D2.now.length := by rw [e4]; exact hi1
  clear e3 hl hnl e4
  go_enter Tryz.func128, Tryz.ntmps128
  go_wp2_with fail
  refine CI'.out.mono ?_
  rintro e w' ⟨rfl, rfl⟩
  go_wp2_with fail
  refine C'.out.mono ?_
  rintro e w1 ⟨rfl, hD1, hk1⟩
  have g1 := hD1.cell1
  have g0 := hD1.cell0
  have hlk := look_was_ok hD1 i
  rw [hl'.out] at hlk
  have g5 := hD1.cellN hi1
  obtain ⟨o, hup, hD2⟩ := update_was hD1.drew i hi1 hnl'.out
  have hk2 := hi_ (hk1.drew.setBlock (b := L.m) (.inl (.inr (.inr rfl))) o)
  rw [← e4'.out] at hD2
  have HD2 := hi_ hD2
  clear hD1 hD2 hk1 C' CI'
  go_wp2_with fail
  go_region
  clear hup hlk g0 g1 g5
  generalize setBlock w1.drew L.m o = w3 at *
  have g0 := HD2.out.cell0
  have g5 := HD2.out.cellN hi2
  have g6 := HD2.out.frzN i
  have hwr : IntKind.i64.wrap (256 - (s.size : Int)) = 256 - (s.size : Int) := IntWalk.i64_in _ om_
  have hmost3 : (i : Int) < (D2.now.length : Int) := by omega
  go_wp2_with fail
  go_region_with (go_at_call 138; (with_reducible refine (CR'.out _).mono ?_); rintro e w2 ⟨rfl, hb⟩; have k1 := HD2.out.drew.below hb; have k2 := k1.cell0; have k3 := k1.cellN hi2; have k4 := k1.frzN i; have k5 := hk2.out.drew.andThen (Keep.below (F := L.foot) hb) (fun _ _ x => x); have K1 := hi_ k1; have K5 := hi_ k5; clear hb k1 k5)
  all_goals go_wp2
  all_goals go_ret
  all_goals exact ⟨rfl, by rw [hfz'.out]; exact K1.out.setNow i _ (by rw [← hfz'.out]; exact hfs), K5.out.setCell (.inl (.inr (.inl rfl))) _⟩

theorem disk_Write (w : World) (L : Loc) (D : Dk) (i : Int) (s : ByteArray) (h : DiskAt w L D) :
  Calls Tryz.prog 128 #[.pointer (some ⟨L.a, 0, none⟩), .int .i64 i, .string s] w fun e w' => e = .returned (.int .i64 (D.write i s).2) ∧ DiskAt w' L (D.write i s).1 ∧ Keep L.foot w w' := by
 have h4 := h.cell4
 have hk := Keep.refl L.foot w
 cases hd : D.down with
 | true =>
  rw [hd] at h4
  have e : D.write i s = (D, 6) := by simp [Dk.write, hd]
  rw [e]
  have hD := hi_ h
  clear hd e h
  go_enter Tryz.func128, Tryz.ntmps128
  go_wp2
  go_ret
  exact ⟨rfl, hD.out, hk⟩
 | false =>
  rw [hd] at h4
  have CI := disk_is w L D i h
  cases hi : D.is i with
  | false =>
   have e : D.write i s = (D, 7) := by simp [Dk.write, hd, hi]
   rw [e]
   rw [hi] at CI
   have CI' := hi_ CI
   have hD := hi_ h
   clear hd e hi CI h
   go_enter Tryz.func128, Tryz.ntmps128
   go_wp2_with (go_at_call 168; refine CI'.out.mono ?_; rintro e w' ⟨rfl, rfl⟩)
   go_ret
   exact ⟨rfl, hD.out, hk⟩
  | true =>
   rw [hi] at CI
   have CI' := hi_ CI
   by_cases hs : 256 < s.size
   ·have e : D.write i s = (D, 1) := by simp [Dk.write, hd, hi, hs]
    rw [e]
    have hD := hi_ h
    have hs' : (256 : Int) < (s.size : Int) := by omega
    clear hd e hi CI h hs
    go_enter Tryz.func128, Tryz.ntmps128
    go_wp2_with (go_at_call 168; refine CI'.out.mono ?_; rintro e w' ⟨rfl, rfl⟩)
    go_ret
    exact ⟨rfl, hD.out, hk⟩
   ·cases ht : D.turn.2 with
    | false =>
     have e : D.write i s = (D.turn.1, 6) := by simp [Dk.write, hd, hi, hs, ht]
     rw [e]
     have C := disk_turn w L D h
     rw [ht] at C
     have C' := hi_ C
     have hs' : ¬ (256 : Int) < (s.size : Int) := by omega
     clear hd e hi CI h hs C ht
     generalize D.turn.1 = D1 at *
     go_enter Tryz.func128, Tryz.ntmps128
     go_wp2_with (first | (go_at_call 168; refine CI'.out.mono ?_; rintro e w' ⟨rfl, rfl⟩) | (go_at_call 169; refine C'.out.mono ?_; rintro e w1 ⟨rfl, hD1, hk1⟩))
     go_ret
     exact ⟨rfl, hD1, hk1⟩
    | true =>
     have e : D.write i s = (D.turn.1.put i.toNat s, 0) := by simp [Dk.write, hd, hi, hs, ht]
     rw [e]
     have hii : 0 ≤ i ∧ i < D.now.length := by simpa [Dk.is] using hi
     obtain ⟨n, rfl⟩ := Int.eq_ofNat_of_zero_le hii.1
     exact disk_Write_ok w L D n s h hd om_ om_ ht

end Go.Proofs.YtendgmblgdkiaaaGreat
