/- written for this seat by its own program (doctor.sh) with the kit's printer -/
import Derived.Test.YtendgmblgdkiaaaGreatGInternFull0
import Derived.Test.YtendgmblgdkiaaaGreatProg
import Derived.Below
import Derived.Deep.Draws
import Derived.Deep.AppendLies
import Derived.Maps.AppendAt
import Derived.OwnWalk
import Derived.Laws.BytesArg
import Derived.Laws.MakeOwn
import Derived.Laws.OwnMore
import Derived.Deep.OwnRows
import Derived.Tactics
import Derived.Lib.ConvBytes
import Derived.Laws.Slices
import Derived.WalkKit
import Derived.KernelRfl
import Derived.RowKit3
import Derived.Deep.LoopGhost
import Derived.Deep.QuietTactic
import Derived.BigQuiet
import Derived.WideLaws
import Derived.Deep.DeepCutAuto
import Derived.Deep.CutBlock
import Derived.Deep.RegionHeld3
import Derived.Laws.Rows
import Derived.Lib.AppendStr
import Derived.ArgAppend
import Derived.Laws.IdiomCopy
import Derived.OrdersHeld
import Derived.Laws.BitsLemmas
import Derived.RowKit
import Derived.Test.YtendgmblgdkiaaaGreatGInternFull13
import Derived.Test.YtendgmblgdkiaaaGreatGInternFull4
import Derived.Test.YtendgmblgdkiaaaGreatGInternFull16
import Derived.Test.YtendgmblgdkiaaaGreatGInternFull14
import Derived.Test.YtendgmblgdkiaaaGreatGInternFull18
namespace Go.Proofs.YtendgmblgdkiaaaGreat.PKy
open Go.RowKit Go.Proofs.YtendgmblgdkiaaaGreatW.PrintWords Go.Proofs.YtendgmblgdkiaaaGreatW.PrintLast Go.Proofs.YtendgmblgdkiaaaGreatW.PrintMore
attribute [local go_sem] max2_int min2_int max_two min_two
set_option linter.unusedVariables false
set_option linter.unusedSimpArgs false



def errW : Option Int → Value
 | none => .nilIface
 | some c => .iface 0 (.int .i64 c)
theorem errW_none : errW none = .nilIface := rfl
theorem errW_some (c : Int) : errW (some c) = .iface 0 (.int .i64 c) := rfl

-- the values' own types

end Go.Proofs.YtendgmblgdkiaaaGreat.PKy

namespace Go.Proofs.YtendgmblgdkiaaaGreat.PKy
open Go.RowKit Go.Proofs.YtendgmblgdkiaaaGreatW.PrintWords Go.Proofs.YtendgmblgdkiaaaGreatW.PrintLast Go.Proofs.YtendgmblgdkiaaaGreatW.PrintMore
attribute [local go_sem] max2_int min2_int max_two min_two
set_option linter.unusedVariables false
set_option linter.unusedSimpArgs false

/-! ### node_key: function 147 -/
def node_key.f (a0 : ByteArray) : Option (Bool) := if a0.toList = ([] : List UInt8) then (some false) else (some (decide ((a0.size : Int) ≤ 16)))
set_option maxHeartbeats 8000000 in
set_option maxRecDepth 100000 in
theorem node_key.calls (a0 : ByteArray) (r : Bool) (w : World) (h : node_key.f a0 = some r) :
  Calls Tryz.prog 147 #[.string a0] w fun e w' => e = .returned (.bool r) ∧ Drawn0 w w' := by
 have H : (if a0.toList = ([] : List UInt8) then (some false) else (some (decide ((a0.size : Int) ≤ 16)))) = some r := h
 clear h
 by_cases c2 : a0.toList = ([] : List UInt8)
 ·rw [if_pos c2] at H
  have c2b0 : (a0.toList == ([] : List UInt8)) = true := beq_iff_eq.mpr c2
  have c2b1 : (a0.toList != ([] : List UInt8)) = false := bne_eq_false_iff_eq.mpr c2
  clear c2
  obtain rfl := Option.some.inj H
  go_enter Tryz.func147, Tryz.ntmps147
  go_wp2
  go_ret
  exact ⟨e1_, dr_⟩
 ·rw [if_neg c2] at H
  have c2b0 : (a0.toList == ([] : List UInt8)) = false := beq_eq_false_iff_ne.mpr c2
  have c2b1 : (a0.toList != ([] : List UInt8)) = true := bne_iff_ne.mpr c2
  obtain rfl := Option.some.inj H
  go_enter Tryz.func147, Tryz.ntmps147
  go_wp2
  go_ret
  exact ⟨e1_, dr_⟩

/-! ### node_value: function 148 -/
def node_value.f (a0 : ByteArray) : Option (Bool) := some (decide ((a0.size : Int) ≤ 32))
set_option maxHeartbeats 8000000 in
set_option maxRecDepth 100000 in
theorem node_value.calls (a0 : ByteArray) (r : Bool) (w : World) (h : node_value.f a0 = some r) :
  Calls Tryz.prog 148 #[.string a0] w fun e w' => e = .returned (.bool r) ∧ Drawn0 w w' := by
 have H : (some (decide ((a0.size : Int) ≤ 32))) = some r := h
 clear h
 obtain rfl := Option.some.inj H
 go_enter Tryz.func148, Tryz.ntmps148
 go_wp2
 go_ret
 exact ⟨e1_, dr_⟩

/-! ### node_page: function 150 -/
def node_page.f (a0 : Int) : Option (Bool) := if a0 ≥ 0 then (some (decide (a0 ≤ 2147483647))) else (some false)
set_option maxHeartbeats 8000000 in
set_option maxRecDepth 100000 in
theorem node_page.calls (a0 : Int) (r : Bool) (w : World) (h : node_page.f a0 = some r) :
  Calls Tryz.prog 150 #[.int .i64 a0] w fun e w' => e = .returned (.bool r) ∧ Drawn0 w w' := by
 have H : (if a0 ≥ 0 then (some (decide (a0 ≤ 2147483647))) else (some false)) = some r := h
 clear h
 by_cases c2 : a0 ≥ 0
 ·rw [if_pos c2] at H
  have c2b0 : decide (0 ≤ a0) = true := decide_eq_true c2
  clear c2
  obtain rfl := Option.some.inj H
  go_enter Tryz.func150, Tryz.ntmps150
  go_wp2
  go_ret
  exact ⟨e1_, dr_⟩
 ·rw [if_neg c2] at H
  have c2b0 : decide (0 ≤ a0) = false := decide_eq_false c2
  clear c2
  obtain rfl := Option.some.inj H
  go_enter Tryz.func150, Tryz.ntmps150
  go_wp2
  go_ret
  exact ⟨e1_, dr_⟩

end Go.Proofs.YtendgmblgdkiaaaGreat.PKy

namespace Go.Proofs.YtendgmblgdkiaaaGreat.PIt
open Go.RowKit Go.Proofs.YtendgmblgdkiaaaGreatW.PrintWords Go.Proofs.YtendgmblgdkiaaaGreatW.PrintLast Go.Proofs.YtendgmblgdkiaaaGreatW.PrintMore
attribute [local go_sem] max2_int min2_int max_two min_two
set_option linter.unusedVariables false
set_option linter.unusedSimpArgs false



def errW : Option Int → Value
 | none => .nilIface
 | some c => .iface 0 (.int .i64 c)
theorem errW_none : errW none = .nilIface := rfl
theorem errW_some (c : Int) : errW (some c) = .iface 0 (.int .i64 c) := rfl

theorem info5 : (Tryz.prog.info? 5).map (fun i => (i.zero, i.size, i.bytes)) = some (some (.int .u8 0), 1, 1) := by kernel_rfl
-- the values' own types

end Go.Proofs.YtendgmblgdkiaaaGreat.PIt

namespace Go.Proofs.YtendgmblgdkiaaaGreat.PIt
open Go.RowKit Go.Proofs.YtendgmblgdkiaaaGreatW.PrintWords Go.Proofs.YtendgmblgdkiaaaGreatW.PrintLast Go.Proofs.YtendgmblgdkiaaaGreatW.PrintMore
attribute [local go_sem] max2_int min2_int max_two min_two
set_option linter.unusedVariables false
set_option linter.unusedSimpArgs false

/-! ### dowserref01_Head: function 61 -/
mutual
def dowserref01_Head.l0 : Nat → ByteArray → Int → Option (Int × Int × Int)
 | 0, _, _ => none
 | k + 1, x0, x5 => if x5 < (x0.size : Int) then (if x5 = 9 then (if 0 ≤ x5 then (dowserref01_Head.j1 k x0 x5 (decide ((bt x0 x5) > 1))) else (none)) else (dowserref01_Head.j1 k x0 x5 false)) else (some (0, 0, 2))
def dowserref01_Head.j1 : Nat → ByteArray → Int → Bool → Option (Int × Int × Int)
 | 0, _, _, _ => none
 | k + 1, x0, x5, x21 => if x21 = true then (some (0, 0, 3)) else (if 0 ≤ x5 then (if x5 < (x0.size : Int) then (if (bt x0 x5) ≥ 128 then (dowserref01_Head.l0 k x0 (wrap64 (x5 + 1))) else (if x5 > 0 then (dowserref01_Head.j2 k x0 x5 ((bt x0 x5) == 0)) else (dowserref01_Head.j2 k x0 x5 false))) else (none)) else (none))
def dowserref01_Head.j2 : Nat → ByteArray → Int → Bool → Option (Int × Int × Int)
 | 0, _, _, _ => none
 | k + 1, x0, x5, x33 => if x33 = true then (some (0, 0, 3)) else (dowserref01_Head.l1 k x0 x5 0 x5)
def dowserref01_Head.l1 : Nat → ByteArray → Int → Int → Int → Option (Int × Int × Int)
 | 0, _, _, _, _ => none
 | k + 1, x0, x5, x6, x7 => if x7 ≥ 0 then (if 0 ≤ x7 then (if x7 < (x0.size : Int) then (dowserref01_Head.l1 k x0 x5 (IntKind.u64.wrap ((IntKind.u64.wrap (x6 * 128)) + (IntKind.u64.wrap (Int.tmod (bt x0 x7) 128)))) (wrap64 (x7 - 1))) else (none)) else (none)) else (some (x6, wrap64 (x5 + 1), 0))
end
def dowserref01_Head.f (k : Nat) (a0 : ByteArray) : Option (Int × Int × Int) := dowserref01_Head.l0 k a0 0
set_option maxHeartbeats 8000000 in
set_option maxRecDepth 100000 in
theorem dowserref01_Head.calls (k : Nat) (a0 : ByteArray) (r1 : Int) (r2 : Int) (r3 : Int) (w : World) (h : dowserref01_Head.f k a0 = some (r1, r2, r3)) :
  Calls Tryz.prog 61 #[.string a0] w fun e w' => e = .returned (.tuple #[.int .u64 r1, .int .i64 r2, .int .i64 r3]) ∧ Drawn0 w w' := by
 have H : (dowserref01_Head.l0 k a0 0) = some (r1, r2, r3) := h
 clear h
 have H' := am_ H
 clear H
 go_enter Tryz.func61, Tryz.ntmps61
 go_wp2
 go_loopg [5] k (fun kq v5 w' => ∃ (x5_1 : Int), v5 = .int .i64 x5_1 ∧ Aside0 (dowserref01_Head.l0 kq a0 x5_1 = some (r1, r2, r3)) ∧ Aside0 (kq ≤ k) ∧ Drawn0 w w')
 case atStart => exact ⟨(0), (by first | rfl | (simp; done) | (simp [*]; done)), H', ⟨Nat.le_refl _⟩, by repeat (first | exact Drawn0.refl _ | apply Drawn0.step)⟩
 case round =>
  clear H'
  obtain ⟨x5_1, rfl, HA, HK1, ⟨m1, rfl⟩⟩ := hrel
  cases gk with
  | zero => exact absurd HA.out (by simp [dowserref01_Head.l0])
  | succ k1 =>
   have H := HA.out
   clear HA
   simp only [dowserref01_Head.l0] at H
   by_cases c2 : x5_1 < (a0.size : Int)
   ·rw [if_pos c2] at H
    have c2b0 : decide (x5_1 < (a0.size : Int)) = true := decide_eq_true c2
    clear c2
    have HC3 := am_ H
    clear H
    go_upto_region 4 with (fail)
    go_cut [21] (fun v21 wc => ∃ (kq : Nat) (x21_2 : Bool), v21 = .bool x21_2 ∧ Aside0 (dowserref01_Head.j1 kq a0 x5_1 x21_2 = some (r1, r2, r3)) ∧ Aside0 (kq ≤ k1) ∧ Drawn0 w wc)
    case first =>
     have H := HC3.out
     clear HC3
     by_cases c4 : x5_1 = 9
     ·rw [if_pos c4] at H
      have c4b0 : (x5_1 == 9) = true := beq_iff_eq.mpr c4
      have c4b1 : (x5_1 != 9) = false := bne_eq_false_iff_eq.mpr c4
      clear c4
      (first | rw [c4b0] | (simp only [i64_w, i32_w]; rw [c4b0]) | skip)
      by_cases c5 : 0 ≤ x5_1
      ·rw [if_pos c5] at H
       have c5b0 : decide (0 ≤ x5_1) = true := decide_eq_true c5
       clear c5
       have H' := am_ H
       clear H
       have p6 : 0 ≤ (x5_1 : Int) := of_decide_eq_true as_
       have q6 : x5_1 < (a0.size : Int) := of_decide_eq_true as_
       have hx6 := bt_at a0 x5_1
       replace p6 := eq_true p6
       replace q6 := eq_true q6
       go_wp2
       go_meet
       case rel => exact ⟨_, (decide ((bt a0 x5_1) > 1)), (by first | rfl | (simp; done) | (simp [*]; done)), H', ⟨by have := HK1.out; first | omega | exact Nat.le_refl _⟩, by repeat (first | exact Drawn0.refl _ | apply Drawn0.step)⟩
      ·rw [if_neg c5] at H
       exact absurd H (by simp)
     ·rw [if_neg c4] at H
      have c4b0 : (x5_1 == 9) = false := beq_eq_false_iff_ne.mpr c4
      have c4b1 : (x5_1 != 9) = true := bne_iff_ne.mpr c4
      (first | rw [c4b0] | (simp only [i64_w, i32_w]; rw [c4b0]) | skip)
      have H' := am_ H
      clear H
      go_wp2
      go_meet
      case rel => exact ⟨_, (false), (by first | rfl | (simp; done) | (simp [*]; done)), H', ⟨by have := HK1.out; first | omega | exact Nat.le_refl _⟩, by repeat (first | exact Drawn0.refl _ | apply Drawn0.step)⟩
    case rest =>
     clear HC3; try clear c2
     try clear c2b0
     obtain ⟨kq, x21_2, rfl, HA, HJ2, ⟨mc2, rfl⟩⟩ := hcut
     cases kq with
     | zero => exact absurd HA.out (by simp [dowserref01_Head.j1])
     | succ kj2 =>
      have H := HA.out
      clear HA
      simp only [dowserref01_Head.j1] at H
      by_cases c7 : x21_2 = true
      ·subst c7
       rw [if_pos rfl] at H
       simp only [Option.some.injEq, Prod.mk.injEq] at H
       obtain ⟨rfl, rfl, rfl⟩ := H
       go_wp2
       go_ret3
       exact ⟨e1_, dr_⟩
      ·replace c7 := Bool.eq_false_iff.mpr c7
       subst c7
       rw [if_neg (show ¬ (false = true) by decide)] at H
       by_cases c8 : 0 ≤ x5_1
       ·rw [if_pos c8] at H
        have c8b0 : decide (0 ≤ x5_1) = true := decide_eq_true c8
        clear c8
        by_cases c9 : x5_1 < (a0.size : Int)
        ·rw [if_pos c9] at H
         have c9b0 : decide (x5_1 < (a0.size : Int)) = true := decide_eq_true c9
         clear c9
         by_cases c11 : (bt a0 x5_1) ≥ 128
         ·rw [if_pos c11] at H
          have c11b0 : decide (128 ≤ (bt a0 x5_1)) = true := decide_eq_true c11
          clear c11
          have H' := am_ H
          clear H
          have p10 : 0 ≤ (x5_1 : Int) := of_decide_eq_true as_
          have q10 : x5_1 < (a0.size : Int) := of_decide_eq_true as_
          have hx10 := bt_at a0 x5_1
          replace p10 := eq_true p10
          replace q10 := eq_true q10
          go_wp2
          go_roundg kj2
          case measure => have := HK1.out; have := HJ2.out; omega
          case rel => exact ⟨(wrap64 (x5_1 + 1)), (by first | rfl | (simp; done) | (simp [*]; done)), H', ⟨by have := HK1.out; have := HJ2.out; omega⟩, by repeat (first | exact Drawn0.refl _ | apply Drawn0.step)⟩
         ·rw [if_neg c11] at H
          have c11b0 : decide (128 ≤ (bt a0 x5_1)) = false := decide_eq_false c11
          clear c11
          have HC12 := am_ H
          clear H
          have p10 : 0 ≤ (x5_1 : Int) := of_decide_eq_true as_
          have q10 : x5_1 < (a0.size : Int) := of_decide_eq_true as_
          have hx10 := bt_at a0 x5_1
          replace p10 := eq_true p10
          replace q10 := eq_true q10
          go_upto_region 7 with (fail)
          go_cut [33] (fun v33 wc => ∃ (kq : Nat) (x33_11 : Bool), v33 = .bool x33_11 ∧ Aside0 (dowserref01_Head.j2 kq a0 x5_1 x33_11 = some (r1, r2, r3)) ∧ Aside0 (kq ≤ kj2) ∧ Drawn0 w wc)
          case first =>
           have H := HC12.out
           clear HC12
           by_cases c13 : x5_1 > 0
           ·rw [if_pos c13] at H
            have c13b0 : decide (0 < x5_1) = true := decide_eq_true c13
            clear c13
            (first | rw [c13b0] | (simp only [i64_w, i32_w]; rw [c13b0]) | skip)
            have H' := am_ H
            clear H
            have p14 : 0 ≤ (x5_1 : Int) := of_decide_eq_true as_
            have q14 : x5_1 < (a0.size : Int) := of_decide_eq_true as_
            have hx14 := bt_at a0 x5_1
            replace p14 := eq_true p14
            replace q14 := eq_true q14
            go_wp2
            go_meet
            case rel => exact ⟨_, (((bt a0 x5_1) == 0)), (by first | rfl | (simp; done) | (simp [*]; done)), H', ⟨by have := HK1.out; have := HJ2.out; first | omega | exact Nat.le_refl _⟩, by repeat (first | exact Drawn0.refl _ | apply Drawn0.step)⟩
           ·rw [if_neg c13] at H
            have c13b0 : decide (0 < x5_1) = false := decide_eq_false c13
            clear c13
            (first | rw [c13b0] | (simp only [i64_w, i32_w]; rw [c13b0]) | skip)
            have H' := am_ H
            clear H
            go_wp2
            go_meet
            case rel => exact ⟨_, (false), (by first | rfl | (simp; done) | (simp [*]; done)), H', ⟨by have := HK1.out; have := HJ2.out; first | omega | exact Nat.le_refl _⟩, by repeat (first | exact Drawn0.refl _ | apply Drawn0.step)⟩
          case rest =>
           clear HC12; try clear c2
           try clear c2b0; try clear c7; try clear c8; try clear c8b0; try clear c9; try clear c9b0; try clear p10; try clear q10; try clear hx10; try clear c11; try clear c11b0; try clear p10; try clear q10
           obtain ⟨kq, x33_11, rfl, HA, HJ11, ⟨mc11, rfl⟩⟩ := hcut
           cases kq with
           | zero => exact absurd HA.out (by simp [dowserref01_Head.j2])
           | succ kj11 =>
            have H := HA.out
            clear HA
            simp only [dowserref01_Head.j2] at H
            by_cases c15 : x33_11 = true
            ·subst c15
             rw [if_pos rfl] at H
             simp only [Option.some.injEq, Prod.mk.injEq] at H
             obtain ⟨rfl, rfl, rfl⟩ := H
             go_wp2
             go_ret3
             exact ⟨e1_, dr_⟩
            ·replace c15 := Bool.eq_false_iff.mpr c15
             subst c15
             rw [if_neg (show ¬ (false = true) by decide)] at H
             have H' := am_ H
             clear H
             go_wp2
             go_loopg [6, 7] kj11 (fun kq v6 v7 w' => ∃ (x6_4 : Int) (x7_4 : Int), v6 = .int .u64 x6_4 ∧ v7 = .int .i64 x7_4 ∧ Aside0 (dowserref01_Head.l1 kq a0 x5_1 x6_4 x7_4 = some (r1, r2, r3)) ∧ Aside0 (kq ≤ kj11) ∧ Drawn0 w w')
             case atStart => exact ⟨(0), (x5_1), (by first | rfl | (simp; done) | (simp [*]; done)), (by first | rfl | (simp; done) | (simp [*]; done)), H', ⟨Nat.le_refl _⟩, by repeat (first | exact Drawn0.refl _ | apply Drawn0.step)⟩
             case round =>
              clear H'; try clear c2
              try clear c2b0; try clear c7; try clear c8; try clear c8b0; try clear c9; try clear c9b0; try clear p10; try clear q10; try clear hx10; try clear c11; try clear c11b0; try clear c15; try clear p10; try clear q10
              obtain ⟨x6_4, x7_4, rfl, rfl, HA, HK4, ⟨m4, rfl⟩⟩ := hrel
              cases gk with
              | zero => exact absurd HA.out (by simp [dowserref01_Head.l1])
              | succ k4 =>
               have H := HA.out
               clear HA
               simp only [dowserref01_Head.l1] at H
               by_cases c16 : x7_4 ≥ 0
               ·rw [if_pos c16] at H
                have c16b0 : decide (0 ≤ x7_4) = true := decide_eq_true c16
                clear c16
                by_cases c17 : 0 ≤ x7_4
                ·rw [if_pos c17] at H
                 have c17b0 : decide (0 ≤ x7_4) = true := decide_eq_true c17
                 clear c17
                 by_cases c18 : x7_4 < (a0.size : Int)
                 ·rw [if_pos c18] at H
                  have c18b0 : decide (x7_4 < (a0.size : Int)) = true := decide_eq_true c18
                  clear c18
                  have H' := am_ H
                  clear H
                  have p19 : 0 ≤ (x7_4 : Int) := of_decide_eq_true as_
                  have q19 : x7_4 < (a0.size : Int) := of_decide_eq_true as_
                  have hx19 := bt_at a0 x7_4
                  replace p19 := eq_true p19
                  replace q19 := eq_true q19
                  go_wp2
                  go_roundg k4
                  case measure => have := HK1.out; have := HJ2.out; have := HJ11.out; have := HK4.out; omega
                  case rel => exact ⟨(IntKind.u64.wrap ((IntKind.u64.wrap (x6_4 * 128)) + (IntKind.u64.wrap (Int.tmod (bt a0 x7_4) 128)))), (wrap64 (x7_4 - 1)), (by first | rfl | (simp; done) | (simp [*]; done)), (by first | rfl | (simp; done) | (simp [*]; done)), H', ⟨by have := HK1.out; have := HJ2.out; have := HJ11.out; have := HK4.out; omega⟩, by repeat (first | exact Drawn0.refl _ | apply Drawn0.step)⟩
                 ·rw [if_neg c18] at H
                  exact absurd H (by simp)
                ·rw [if_neg c17] at H
                 exact absurd H (by simp)
               ·rw [if_neg c16] at H
                have c16b0 : decide (0 ≤ x7_4) = false := decide_eq_false c16
                clear c16
                simp only [Option.some.injEq, Prod.mk.injEq] at H
                obtain ⟨rfl, rfl, rfl⟩ := H
                go_wp2
                go_ret3
                exact ⟨e1_, dr_⟩
        ·rw [if_neg c9] at H
         exact absurd H (by simp)
       ·rw [if_neg c8] at H
        exact absurd H (by simp)
   ·rw [if_neg c2] at H
    have c2b0 : decide (x5_1 < (a0.size : Int)) = false := decide_eq_false c2
    clear c2
    simp only [Option.some.injEq, Prod.mk.injEq] at H
    obtain ⟨rfl, rfl, rfl⟩ := H
    go_wp2
    go_ret3
    exact ⟨e1_, dr_⟩

/-! ### dowserref02_On: function 114 -/
/-! ### dowserref02_Of: function 52 -/
/-! ### dowserref02_Four: function 57 -/
end Go.Proofs.YtendgmblgdkiaaaGreat.PIt

namespace Go.Proofs.YtendgmblgdkiaaaGreat.PIt
open Go.RowKit Go.Proofs.YtendgmblgdkiaaaGreatW.PrintWords Go.Proofs.YtendgmblgdkiaaaGreatW.PrintLast Go.Proofs.YtendgmblgdkiaaaGreatW.PrintMore
attribute [local go_sem] max2_int min2_int max_two min_two
set_option linter.unusedVariables false
set_option linter.unusedSimpArgs false

/-! ### crc_Four: function 117 -/
def crc_Four.f (a0 : Int) : Option (ByteArray) := some (strOfNums (([(a0 / 16777216) % 256, (a0 / 65536) % 256, (a0 / 256) % 256, (a0) % 256] : List Int)))
set_option maxHeartbeats 8000000 in
set_option maxRecDepth 100000 in
theorem crc_Four.calls (a0 : Int) (r : ByteArray) (w : World) (h : crc_Four.f a0 = some r) :
  Calls Tryz.prog 117 #[.int .u32 a0] w fun e w' => e = .returned (.string r) ∧ Below w.heap.size w w' := by
 have HB := am_ (Below.refl w.heap.size w)
 have H : (some (strOfNums (([(a0 / 16777216) % 256, (a0 / 65536) % 256, (a0 / 256) % 256, (a0) % 256] : List Int)))) = some r := h
 clear h
 obtain ⟨y101, hy101⟩ : ∃ y_ : List Int, y_ = (([(a0 / 16777216) % 256, (a0 / 65536) % 256, (a0 / 256) % 256, (a0) % 256] : List Int)) := ⟨_, rfl⟩
 (first | rw [Option.bind_some, ← hy101] at H | rw [← hy101] at H | skip); try dsimp only at H
 have Ny101 := am_ hy101
 clear hy101
 obtain rfl := Option.some.inj H
 go_enter Tryz.func117, Tryz.ntmps117
 go_wp2_with (first | ((with_reducible refine gate_dst (N := 14) rfl ?_); refine Kd.R_lit (Kd.int .u8) _ 5 ?hg (N := 14) ?hd (xs := ([(a0 / 16777216) % 256, (a0 / 65536) % 256, (a0 / 256) % 256, (a0) % 256] : List Int)) (inner := [.int .u8 ((a0 / 16777216) % 256), .int .u8 ((a0 / 65536) % 256), .int .u8 ((a0 / 256) % 256), .int .u8 ((a0) % 256)]) (ok := fun _ => True) (okp := fun _ => True) ?hr ?hp (fun _ hk => hk) trivial (Below.refl _ _) (Nat.le_refl _) (by simp) ?_; (case hd => rfl); (case hg => rfl); (case hr => first | (go_simp; done) | (go_simp; rfl)); (case hp => exact (Reps.one (show Kd.M (Kd.int .u8) _ _ _ ((a0 / 16777216) % 256) [.int .u8 ((a0 / 16777216) % 256)] from rfl) (Reps.one (show Kd.M (Kd.int .u8) _ _ _ ((a0 / 65536) % 256) [.int .u8 ((a0 / 65536) % 256)] from rfl) (Reps.one (show Kd.M (Kd.int .u8) _ _ _ ((a0 / 256) % 256) [.int .u8 ((a0 / 256) % 256)] from rfl) (Reps.one (show Kd.M (Kd.int .u8) _ _ _ ((a0) % 256) [.int .u8 ((a0) % 256)] from rfl) (Reps.none _ _)))))); intro v102 w2 ho3 hb hg_ hnew_; clear hg_ hnew_; (first | rw [← Ny101.out] at ho3 | (simp only [Int.reduceToNat] at ho3; rw [← Ny101.out] at ho3)); have HO103 := am_ (Kd.R_lower ho3 (below_size bl_)); replace HB := am_ (below_step bl_ hb); clear hb ho3; have hcv4 := own_string (P := Tryz.prog) Tryz.underlying55 Tryz.underlying5 Tryz.underlying9 (Kd.own_of_R HO103.out)))
 go_ret
 exact ⟨er_, by exact bl_⟩

/-! ### intern_Ref_Key: function 56 -/
def intern_Ref_Key.f (a0_0 : Int) (a0_1 : Int) : Option (ByteArray) := (crc_Four.f a0_0).bind fun t105 => (if 1 + t105.size ≤ 9223372036854775807 then ((some (([(a0_1) % 256] : List Int) : List Int)).bind fun y106 => (if ((⟨#[115]⟩ : ByteArray) ++ t105).size + (strOfNums y106).size ≤ 9223372036854775807 then (some (((⟨#[115]⟩ : ByteArray) ++ t105) ++ (strOfNums y106))) else (none))) else (none))
def intern_Ref_Key.T1 : Bool × List (List Nat × List Nat) := (true, [([], []), ([0], [0]), ([1], [1]), ([2], [2]), ([], []), ([4], [4]), ([5], [5]), ([6], [6]), ([7], [7]), ([3, 8], [3, 8]), ([9, 2, 0, 1, 2, 3, 4, 5, 6, 7, 8, 9], [9])])
def intern_Ref_Key.B1 : List Nat := [0, 1, 3, 7, 0, 16, 48, 112, 240, 511, 1023]
theorem intern_Ref_Key.tab1 : rtab .any (opsOf Tryz.f56 1) = intern_Ref_Key.T1 := by kernel_rfl
theorem intern_Ref_Key.bits1 : waitsOk intern_Ref_Key.T1.2 intern_Ref_Key.B1 = true := by kernel_rfl
set_option maxHeartbeats 8000000 in
set_option maxRecDepth 100000 in
theorem intern_Ref_Key.calls (a0_0 : Int) (a0_1 : Int) (r : ByteArray) (w : World) (h : intern_Ref_Key.f a0_0 a0_1 = some r) :
  Calls Tryz.prog 56 #[.agg #[.int .u32 a0_0, .int .i64 a0_1]] w fun e w' => e = .returned (.string r) ∧ Below w.heap.size w w' := by
 have hu77 := Tryz.underlying77
 have HB := am_ (Below.refl w.heap.size w)
 have H : ((crc_Four.f a0_0).bind fun t105 => (if 1 + t105.size ≤ 9223372036854775807 then ((some (([(a0_1) % 256] : List Int) : List Int)).bind fun y106 => (if ((⟨#[115]⟩ : ByteArray) ++ t105).size + (strOfNums y106).size ≤ 9223372036854775807 then (some (((⟨#[115]⟩ : ByteArray) ++ t105) ++ (strOfNums y106))) else (none))) else (none))) = some r := h
 clear h
 obtain ⟨t105, A2, H⟩ := bi_ H
 try dsimp only at H
 by_cases c3 : 1 + t105.size ≤ 9223372036854775807
 ·rw [if_pos c3] at H
  have c3b0 := eq_true c3
  have c3b1 : decide (1 + t105.size ≤ 9223372036854775807) = true := decide_eq_true c3
  try have c3b2 : (9223372036854775807 < 1 + t105.size) = False := eq_false (Nat.not_lt.2 c3)
  obtain ⟨y106, hy106⟩ : ∃ y_ : List Int, y_ = (([(a0_1) % 256] : List Int)) := ⟨_, rfl⟩
  (first | rw [Option.bind_some, ← hy106] at H | rw [← hy106] at H | skip); try dsimp only at H
  have Ny106 := am_ hy106
  clear hy106
  by_cases c4 : ((⟨#[115]⟩ : ByteArray) ++ t105).size + (strOfNums y106).size ≤ 9223372036854775807
  ·rw [if_pos c4] at H
   have c4b0 := eq_true c4
   have c4b1 : decide (((⟨#[115]⟩ : ByteArray) ++ t105).size + (strOfNums y106).size ≤ 9223372036854775807) = true := decide_eq_true c4
   try have c4b2 : (9223372036854775807 < ((⟨#[115]⟩ : ByteArray) ++ t105).size + (strOfNums y106).size) = False := eq_false (Nat.not_lt.2 c4)
   have c4n_ : (9223372036854775807 < 1 + t105.size + (strOfNums y106).size) = False := by have hz_ : ((⟨#[115]⟩ : ByteArray) ++ t105).size = 1 + t105.size := ByteArray.size_append; rw [hz_] at c4; exact eq_false (Nat.not_lt.2 c4)
   obtain rfl := Option.some.inj H
   go_enter Tryz.func56, Tryz.ntmps56
   try go_wp2_with (first | ((with_reducible refine gate_dst (N := 1) rfl ?_); refine be_ (N := 1) (cs := #[.int .u32 a0_0, .int .i64 a0_1]) (t := 77) ?_; intro gb104 hg w5 hbox hb; have BK104 := am_ (hbox); have GW104 := am_ ((sz_ hg : w.heap.size ≤ gb104)); have GE104 := am_ ((sz_ hg : w.heap.size ≤ gb104)); replace HB := am_ (below_step bl_ hb); clear hb hbox hg))
   replace BK104 := am_ (blk_drew BK104.out)
   replace HB := am_ (below_drew1 HB.out)
   refine start_ (n := 11) (S := fun w' => w'.cell? ⟨gb104, 0, none⟩ = some (.int .u32 a0_0) ∧ w'.cell? ⟨gb104, 1, none⟩ = some (.int .i64 a0_1)) (ds := []) (bz 11 0) kr_ rfl rfl ⟨bc_ BK104 0, bc_ BK104 1⟩ (fun hHeld => ?_); refine with_tabW intern_Ref_Key.tab1 intern_Ref_Key.bits1 (fun HT_ HW_ => ?_)
   generalize w5.drew = w6 at BK104 HB hHeld ⊢
   refine pu_ (fun x y z => pure_ (i := 0) (N := some 3) (bz 11 1) rfl rfl (any_of HT_.out kr_) (fun _ _ _ h => h) (Or.inl ⟨by rfl, x⟩) y z) ?_
   refine pu_ (fun x y z => pure_ (i := 4) (N := some 7) (bz 11 17) rfl rfl (any_of HT_.out kr_) (fun _ _ _ h => h) (Or.inl ⟨by rfl, x⟩) y z) ?_
   refine take_ (i := 1) (N := some 4) (v := ?_) (a' := ?_) (bz 11 19) rfl rfl (take_ofW HT_.out HW_.out kr_) (fun _ _ _ h => h) (Or.inl ⟨by rfl, ?_⟩) hHeld ?_ ?_
   rotate_left
   ·rintro w' ⟨s0, s1⟩
    go_simp
    with_reducible rfl
   rotate_left
   ·simp only [Act.put, List.setIfInBounds_toArray, List.set_cons_zero, List.set_cons_succ, i64_w, i32_w]
    rfl
   refine take_ (i := 5) (N := some 8) (v := ?_) (a' := ?_) (bz 11 51) rfl rfl (take_ofW HT_.out HW_.out kr_) (fun _ _ _ h => h) (Or.inl ⟨by rfl, ?_⟩) hHeld ?_ ?_
   rotate_left
   ·rintro w' ⟨s0, s1⟩
    go_simp
    with_reducible rfl
   rotate_left
   ·simp only [Act.put, List.setIfInBounds_toArray, List.set_cons_zero, List.set_cons_succ, i64_w, i32_w]
    rfl
   refine pu_ (fun x y z => pure_ (i := 6) (N := some 9) (bz 11 115) rfl rfl (any_of HT_.out kr_) (fun _ _ _ h => h) (Or.inl ⟨by rfl, x⟩) y z) ?_
   refine join_ (σ := Value) 2 (bz 11 511) (fun s_ => [(5, .string t105), (10, s_), (11, .string (strOfNums y106)), (6, .string ((⟨#[115]⟩ : ByteArray) ++ t105))]) (fun s_ w' => (w'.cell? ⟨gb104, 0, none⟩ = some (.int .u32 a0_0) ∧ w'.cell? ⟨gb104, 1, none⟩ = some (.int .i64 a0_1)) ∧ (Kd.R (Kd.int .u8) 5 w' w.heap.size (fun _ => True) s_ y106) ∧ (w'.heap[gb104]? = some (.cells #[.int .u32 a0_0, .int .i64 a0_1] 77 (0, 0))) ∧ (Below w.heap.size w w')) ?_ ?_
   rotate_left
   ·intro hCont
    refine two_ (i := 2) (j := 7) (Ni := some 5) (Nj := some 10) (bz 11 119) (bz 11 243) rfl rfl rfl rfl (two_of HT_.out kr_) (by decide) (by decide) (fun K hK => ?_) (fun K hK => ?_)
    ·skip
     refine goes_ Tryz.func117 kr_ rfl #[.int .u32 a0_0] (by rfl) rfl rfl ar_ ?_
     with_reducible refine (crc_Four.calls a0_0 t105 _ A2.out).mono ?_
     rintro e w7 ⟨rfl, hb⟩
     refine ⟨_, rfl, ?_⟩
     replace BK104 := am_ (bw_ BK104 hb)
     replace HB := am_ (below_step bl_ hb)
     (try clear hb)
     refine hK.out _ _ ⟨bc_ BK104 0, bc_ BK104 1⟩ (fun hHeld => ?_)
     clear hK K
     refine no_ (some 5) ?_
     refine pu_ (fun x y z => pure_ (i := 3) (N := some 6) (bz 11 127) rfl rfl (any_of HT_.out kr_) (fun _ _ _ h => h) (Or.inl ⟨by rfl, x⟩) y z) ?_
     refine one_ (i := 7) (N := some 10) (bz 11 255) rfl rfl (one_of HT_.out kr_) (by decide) (fun K hK => ?_)
     refine Kd.R_lit_step (Kd.int .u8) _ 5 ?hg (N := 10) ?hd (xs := ([(a0_1) % 256] : List Int)) (inner := [.int .u8 ((a0_1) % 256)]) (ok := fun _ => True) (okp := fun _ => True) ?hr ?hp (fun _ hk => hk) trivial (Below.refl _ _) (Nat.le_refl _) (by simp) ?_; (case hd => rfl); (case hg => rfl); (case hr => first | (go_simp; done) | (go_simp; rfl)); (case hp => exact (Reps.one (show Kd.M (Kd.int .u8) _ _ _ ((a0_1) % 256) [.int .u8 ((a0_1) % 256)] from rfl) (Reps.none _ _)))
     intro v107 w8 ho9 hb hg_ hnew_
     clear hg_ hnew_
     (first | rw [← Ny106.out] at ho9 | (simp only [Int.reduceToNat] at ho9; rw [← Ny106.out] at ho9))
     have HO108 := am_ (Kd.R_lower ho9 (below_size bl_))
     replace BK104 := am_ (bw_ BK104 hb)
     replace HB := am_ (below_step bl_ hb)
     clear hb ho9
     refine hK.out _ _ ⟨bc_ BK104 0, bc_ BK104 1⟩ (fun hHeld => ?_)
     clear hK K
     refine no_ (some 10) ?_
     refine one_ (i := 8) (N := some 11) (bz 11 511) rfl rfl (one_of HT_.out kr_) (by decide) (fun K hK => ?_)
     have hcv10 := own_string (P := Tryz.prog) Tryz.underlying55 Tryz.underlying5 Tryz.underlying9 (Kd.own_of_R HO108.out)
     refine value_ (w1 := ?_) (v := ?_) (by rfl) rfl ?_ ?_
     rotate_left 2
     ·go_simp
      constructor
      ·rfl
      ·rfl
     clear hcv10
     refine hK.out _ _ ⟨bc_ BK104 0, bc_ BK104 1⟩ (fun hHeld => ?_)
     clear hK K
     refine no_ (some 11) ?_
     exact norm_ (by simp only [putAll, Act.put, List.setIfInBounds_toArray, List.set_cons_zero, List.set_cons_succ]) (hCont (v107) _ ⟨hHeld, (rx_ HO108), (bx_ BK104), bl_⟩)
    ·skip
     refine Kd.R_lit_step (Kd.int .u8) _ 5 ?hg (N := 10) ?hd (xs := ([(a0_1) % 256] : List Int)) (inner := [.int .u8 ((a0_1) % 256)]) (ok := fun _ => True) (okp := fun _ => True) ?hr ?hp (fun _ hk => hk) trivial (Below.refl _ _) (Nat.le_refl _) (by simp) ?_; (case hd => rfl); (case hg => rfl); (case hr => first | (go_simp; done) | (go_simp; rfl)); (case hp => exact (Reps.one (show Kd.M (Kd.int .u8) _ _ _ ((a0_1) % 256) [.int .u8 ((a0_1) % 256)] from rfl) (Reps.none _ _)))
     intro v107 w7 ho8 hb hg_ hnew_
     clear hg_ hnew_
     (first | rw [← Ny106.out] at ho8 | (simp only [Int.reduceToNat] at ho8; rw [← Ny106.out] at ho8))
     have HO108 := am_ (Kd.R_lower ho8 (below_size bl_))
     replace BK104 := am_ (bw_ BK104 hb)
     replace HB := am_ (below_step bl_ hb)
     clear hb ho8
     refine hK.out _ _ ⟨bc_ BK104 0, bc_ BK104 1⟩ (fun hHeld => ?_)
     clear hK K
     refine no_ (some 10) ?_
     refine two_ (i := 2) (j := 8) (Ni := some 5) (Nj := some 11) (bz 11 247) (bz 11 499) rfl rfl rfl rfl (two_of HT_.out kr_) (by decide) (by decide) (fun K hK => ?_) (fun K hK => ?_)
     ·skip
      refine goes_ Tryz.func117 kr_ rfl #[.int .u32 a0_0] (by rfl) rfl rfl ar_ ?_
      with_reducible refine (crc_Four.calls a0_0 t105 _ A2.out).mono ?_
      rintro e w9 ⟨rfl, hb⟩
      refine ⟨_, rfl, ?_⟩
      replace HO108 := am_ (Kd.R_below (rx_ HO108) hb)
      replace BK104 := am_ (bw_ BK104 hb)
      replace HB := am_ (below_step bl_ hb)
      (try clear hb); (try clear hk)
      refine hK.out _ _ ⟨bc_ BK104 0, bc_ BK104 1⟩ (fun hHeld => ?_)
      clear hK K
      refine no_ (some 5) ?_
      refine pu_ (fun x y z => pure_ (i := 3) (N := some 6) (bz 11 255) rfl rfl (any_of HT_.out kr_) (fun _ _ _ h => h) (Or.inl ⟨by rfl, x⟩) y z) ?_
      refine one_ (i := 8) (N := some 11) (bz 11 511) rfl rfl (one_of HT_.out kr_) (by decide) (fun K hK => ?_)
      have hcv10 := own_string (P := Tryz.prog) Tryz.underlying55 Tryz.underlying5 Tryz.underlying9 (Kd.own_of_R HO108.out)
      refine value_ (w1 := ?_) (v := ?_) (by rfl) rfl ?_ ?_
      rotate_left 2
      ·go_simp
       constructor
       ·rfl
       ·rfl
      clear hcv10
      refine hK.out _ _ ⟨bc_ BK104 0, bc_ BK104 1⟩ (fun hHeld => ?_)
      clear hK K
      refine no_ (some 11) ?_
      exact norm_ (by simp only [putAll, Act.put, List.setIfInBounds_toArray, List.set_cons_zero, List.set_cons_succ]) (hCont (v107) _ ⟨hHeld, (rx_ HO108), (bx_ BK104), bl_⟩)
     ·skip
      have hcv9 := own_string (P := Tryz.prog) Tryz.underlying55 Tryz.underlying5 Tryz.underlying9 (Kd.own_of_R HO108.out)
      refine value_ (w1 := ?_) (v := ?_) (by rfl) rfl ?_ ?_
      rotate_left 2
      ·go_simp
       constructor
       ·rfl
       ·rfl
      clear hcv9
      refine hK.out _ _ ⟨bc_ BK104 0, bc_ BK104 1⟩ (fun hHeld => ?_)
      clear hK K
      refine no_ (some 11) ?_
      refine one_ (i := 2) (N := some 5) (bz 11 503) rfl rfl (one_of HT_.out kr_) (by decide) (fun K hK => ?_)
      refine goes_ Tryz.func117 kr_ rfl #[.int .u32 a0_0] (by rfl) rfl rfl ar_ ?_
      with_reducible refine (crc_Four.calls a0_0 t105 _ A2.out).mono ?_
      rintro e w10 ⟨rfl, hb⟩
      refine ⟨_, rfl, ?_⟩
      replace HO108 := am_ (Kd.R_below (rx_ HO108) hb)
      replace BK104 := am_ (bw_ BK104 hb)
      replace HB := am_ (below_step bl_ hb)
      (try clear hb); (try clear hk)
      refine hK.out _ _ ⟨bc_ BK104 0, bc_ BK104 1⟩ (fun hHeld => ?_)
      clear hK K
      refine no_ (some 5) ?_
      refine pu_ (fun x y z => pure_ (i := 3) (N := some 6) (bz 11 511) rfl rfl (any_of HT_.out kr_) (fun _ _ _ h => h) (Or.inl ⟨by rfl, x⟩) y z) ?_
      exact norm_ (by simp only [putAll, Act.put, List.setIfInBounds_toArray, List.set_cons_zero, List.set_cons_succ]) (hCont (v107) _ ⟨hHeld, (rx_ HO108), (bx_ BK104), bl_⟩)
   rintro v107 w11 ⟨hS_, h0_, h1_, h2_⟩
   have n0_ : Aside0 (Kd.R (Kd.int .u8) 5 w11 w.heap.size (fun _ => True) v107 y106) := ⟨h0_⟩
   have n1_ : Aside0 (w11.heap[gb104]? = some (.cells #[.int .u32 a0_0, .int .i64 a0_1] 77 (0, 0))) := ⟨h1_⟩
   have n2_ : Aside0 (Below w.heap.size w w11) := ⟨h2_⟩
   clear BK104 HB h0_ h1_ h2_
   have HO108 := n0_
   have BK104 := n1_
   have HB := n2_
   clear n0_ n1_ n2_
   have hHeld : w11.cell? ⟨gb104, 0, none⟩ = some (.int .u32 a0_0) ∧ w11.cell? ⟨gb104, 1, none⟩ = some (.int .i64 a0_1) := hS_
   refine norm_ (a' := ?_) ?_ ?_
   rotate_left
   ·simp only [putAll, Act.put, List.setIfInBounds_toArray, List.set_cons_zero, List.set_cons_succ]
    rfl
   refine pu_ (fun x y z => pure_ (i := 9) (N := some 12) (bz 11 1023) rfl rfl (any_of HT_.out kr_) (fun _ _ _ h => h) (Or.inl ⟨by rfl, x⟩) y z) ?_
   refine pu_ (fun x y z => pure_ (i := 10) (N := some 2) (bz 11 2047) rfl rfl (any_of HT_.out kr_) (fun _ _ _ h => h) (Or.inl ⟨by rfl, x⟩) y z) ?_
   refine done_ (done_of HT_.out kr_) ?_
   try go_wp2
   go_ret
   exact ⟨er_, by exact bl_⟩
  ·rw [if_neg c4] at H
   exact absurd H (by simp)
 ·rw [if_neg c3] at H
  exact absurd H (by simp)

/-! ### intern_Of: function 55 -/
/-! ### dowserref01_Num: function 60 -/
end Go.Proofs.YtendgmblgdkiaaaGreat.PIt
