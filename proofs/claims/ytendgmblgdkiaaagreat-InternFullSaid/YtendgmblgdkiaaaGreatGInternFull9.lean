/- The disk's small methods, walked: Size, Writes, is, Read, turn, Halt. -/
import Derived.Test.YtendgmblgdkiaaaGreatGInternFull0
import Derived.Test.YtendgmblgdkiaaaGreatGInternFull6
import Derived.Outline
import Derived.Lib.Hide
import Derived.BigQuiet
import Derived.Deep.QuietTactic
import Derived.IntWalk
namespace Go.Proofs.YtendgmblgdkiaaaGreat
open Go.RowKit
set_option linter.unusedVariables false
set_option linter.unusedSimpArgs false

theorem disk_Size (w : World) (L : Loc) (D : Dk) (h : DiskAt w L D) :
  Calls Tryz.prog 185 #[.pointer (some ⟨L.a, 0, none⟩)] w fun e w' => e = .returned (.int .i64 D.now.length) ∧ w = w' := by
 have h0 := h.cell0
 go_enter Tryz.func185, Tryz.ntmps185
 go_wp2
 go_ret
 exact ⟨rfl, rfl⟩

theorem disk_is (w : World) (L : Loc) (D : Dk) (i : Int) (h : DiskAt w L D) :
  Calls Tryz.prog 168 #[.pointer (some ⟨L.a, 0, none⟩), .int .i64 i] w fun e w' => e = .returned (.bool (D.is i)) ∧ w = w' := by
 have h0 := h.cell0
 by_cases hi : 0 ≤ i
 ·go_enter Tryz.func168, Tryz.ntmps168
  go_wp2
  go_ret
  exact ⟨by simp [Dk.is, hi], rfl⟩
 ·go_enter Tryz.func168, Tryz.ntmps168
  go_wp2
  go_ret
  exact ⟨by simp [Dk.is, hi]; omega, rfl⟩

theorem disk_turn (w : World) (L : Loc) (D : Dk) (h : DiskAt w L D) :
  Calls Tryz.prog 169 #[.pointer (some ⟨L.a, 0, none⟩)] w fun e w' => e = .returned (.bool D.turn.2) ∧ DiskAt w' L D.turn.1 ∧ Keep L.foot w w' := by
 have h3 := h.cell3
 have h2 := h.cell2
 have h4 := h.cell4
 have hf := h.frz
 have hlo := h.ok.halt
 have hhi := h.ok.haltle
 by_cases hz : D.halt = 0
 ·have e : D.turn = ({ D with down := true }, false) := by simp [Dk.turn, hz]
  have hzb : (D.halt == 0) = true := by simpa using hz
  have hd := hi_ (h.setDown true)
  have hk := (Keep.refl L.foot w).setCell (p := ⟨L.a, 4, none⟩) (.inl (.inl rfl)) (.bool true)
  rw [e]
  clear hz e
  go_enter Tryz.func169, Tryz.ntmps169
  go_wp2
  go_ret
  exact ⟨rfl, hd.out, hk⟩
 ·have hzb : (D.halt == 0) = false := by simpa using hz
  have hk := fun x y => ((Keep.refl L.foot w).setCell (p := ⟨L.a, 3, none⟩) (.inl (.inl rfl)) (.int .i64 x)).setCell (p := ⟨L.a, 2, none⟩) (.inl (.inl rfl)) (.int .i64 y)
  by_cases hl : D.halt < 0
  ·have e : D.turn = ({ D with halt := -1, writes := wrap64 (D.writes + 1) }, true) := by simp [Dk.turn, hz, hl]
   have hd := hi_ ((h.setHalt (-1) om_ om_).setWrites (wrap64 (D.writes + 1)))
   rw [e]
   clear hz e
   go_enter Tryz.func169, Tryz.ntmps169
   go_wp2
   go_ret
   exact ⟨rfl, hd.out, hk _ _⟩
  ·have e : D.turn = ({ D with halt := D.halt - 1, writes := wrap64 (D.writes + 1) }, true) := by simp [Dk.turn, hz, hl]
   have hd := hi_ ((h.setHalt (D.halt - 1) om_ om_).setWrites (wrap64 (D.writes + 1)))
   rw [e]
   have hp : 0 < D.halt := by omega
   clear hz e
   go_enter Tryz.func169, Tryz.ntmps169
   go_wp2
   go_ret
   exact ⟨rfl, hd.out, hk _ _⟩

theorem disk_Read (w : World) (L : Loc) (D : Dk) (i : Int) (h : DiskAt w L D) :
  Calls Tryz.prog 179 #[.pointer (some ⟨L.a, 0, none⟩), .int .i64 i] w fun e w' => e = .returned (.tuple #[.string (D.read i).1, .int .i64 (D.read i).2]) ∧ w = w' := by
 have h0 := h.cell0
 have h4 := h.cell4
 cases hd : D.down with
 | true =>
  rw [hd] at h4
  have e : D.read i = (ByteArray.empty, 6) := by simp [Dk.read, hd]
  rw [e]
  clear hd e
  go_enter Tryz.func179, Tryz.ntmps179
  go_wp2
  go_ret2
  exact ⟨rfl, rfl⟩
 | false =>
  rw [hd] at h4
  cases hi : D.is i with
  | false =>
   have e : D.read i = (ByteArray.empty, 7) := by simp [Dk.read, hd, hi]
   rw [e]
   have C := disk_is w L D i h
   rw [hi] at C
   have C' := hi_ C
   clear hd e hi C
   go_enter Tryz.func179, Tryz.ntmps179
   go_wp2_with (go_at_call 168; refine C'.out.mono ?_; rintro e w' ⟨rfl, rfl⟩)
   go_ret2
   exact ⟨rfl, rfl⟩
  | true =>
   have e : D.read i = (D.sec i.toNat, 0) := by simp [Dk.read, hd, hi]
   rw [e]
   have C := disk_is w L D i h
   rw [hi] at C
   have C' := hi_ C
   simp only [Dk.is, Bool.and_eq_true, decide_eq_true_eq] at hi
   obtain ⟨hi0, hi1⟩ := hi
   have hc := h.cellN (i := i.toNat) om_
   clear hd e C
   go_enter Tryz.func179, Tryz.ntmps179
   go_wp2_with (go_at_call 168; refine C'.out.mono ?_; rintro e w' ⟨rfl, rfl⟩)
   go_ret2
   exact ⟨rfl, rfl⟩

end Go.Proofs.YtendgmblgdkiaaaGreat
