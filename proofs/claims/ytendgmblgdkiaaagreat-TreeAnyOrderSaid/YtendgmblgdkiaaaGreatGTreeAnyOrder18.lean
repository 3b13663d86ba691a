/- written for this seat by its own program (doctor.sh) with the kit's printer -/
import Derived.Test.YtendgmblgdkiaaaGreatGTreeAnyOrder0
import Derived.Test.YtendgmblgdkiaaaGreatProg
import Derived.Below
import Derived.Deep.Draws
import Derived.Deep.AppendLies
import Derived.Maps.AppendAt
import Derived.OwnWalk
import Derived.Laws.BytesArg
import Derived.Laws.MakeOwn
import Derived.Laws.OwnMore
import Derived.Deep.OwnRows
import Derived.Tactics
import Derived.Lib.ConvBytes
import Derived.Laws.Slices
import Derived.WalkKit
import Derived.KernelRfl
import Derived.RowKit3
import Derived.Deep.LoopGhost
import Derived.Deep.QuietTactic
import Derived.BigQuiet
import Derived.WideLaws
import Derived.Deep.DeepCutAuto
import Derived.Deep.CutBlock
import Derived.Deep.RegionHeld3
import Derived.Laws.Rows
import Derived.Lib.AppendStr
import Derived.ArgAppend
import Derived.Laws.IdiomCopy
import Derived.OrdersHeld
import Derived.Laws.BitsLemmas
import Derived.RowKit
import Derived.Test.YtendgmblgdkiaaaGreatGTreeAnyOrder13
import Derived.Test.YtendgmblgdkiaaaGreatGTreeAnyOrder5
import Derived.Test.YtendgmblgdkiaaaGreatGTreeAnyOrder16
import Derived.Test.YtendgmblgdkiaaaGreatGTreeAnyOrder15
import Derived.Test.YtendgmblgdkiaaaGreatGTreeAnyOrder17
namespace Go.Proofs.YtendgmblgdkiaaaGreat.PKy
open Go.RowKit Go.Proofs.YtendgmblgdkiaaaGreatW.PrintWords Go.Proofs.YtendgmblgdkiaaaGreatW.PrintLast Go.Proofs.YtendgmblgdkiaaaGreatW.PrintMore
attribute [local go_sem] max2_int max_two
set_option linter.unusedVariables false
set_option linter.unusedSimpArgs false



def errW : Option Int → Value
 | none => .nilIface
 | some c => .iface 0 (.int .i64 c)
theorem errW_none : errW none = .nilIface := rfl
theorem errW_some (c : Int) : errW (some c) = .iface 0 (.int .i64 c) := rfl

-- the values' own types

end Go.Proofs.YtendgmblgdkiaaaGreat.PKy

namespace Go.Proofs.YtendgmblgdkiaaaGreat.PKy
open Go.RowKit Go.Proofs.YtendgmblgdkiaaaGreatW.PrintWords Go.Proofs.YtendgmblgdkiaaaGreatW.PrintLast Go.Proofs.YtendgmblgdkiaaaGreatW.PrintMore
attribute [local go_sem] max2_int max_two
set_option linter.unusedVariables false
set_option linter.unusedSimpArgs false

/-! ### node_key: function 147 -/
def node_key.f (a0 : ByteArray) : Option (Bool) := if a0.toList = ([] : List UInt8) then (some false) else (some (decide ((a0.size : Int) ≤ 16)))
set_option maxHeartbeats 8000000 in
set_option maxRecDepth 100000 in
theorem node_key.calls (a0 : ByteArray) (r : Bool) (w : World) (h : node_key.f a0 = some r) :
  Calls Tryz.prog 147 #[.string a0] w fun e w' => e = .returned (.bool r) ∧ Drawn0 w w' := by
 have H : (if a0.toList = ([] : List UInt8) then (some false) else (some (decide ((a0.size : Int) ≤ 16)))) = some r := h
 clear h
 by_cases c2 : a0.toList = ([] : List UInt8)
 ·rw [if_pos c2] at H
  have c2b0 : (a0.toList == ([] : List UInt8)) = true := beq_iff_eq.mpr c2
  have c2b1 : (a0.toList != ([] : List UInt8)) = false := bne_eq_false_iff_eq.mpr c2
  clear c2
  obtain rfl := Option.some.inj H
  go_enter Tryz.func147, Tryz.ntmps147
  go_wp2
  go_ret
  exact ⟨e1_, dr_⟩
 ·rw [if_neg c2] at H
  have c2b0 : (a0.toList == ([] : List UInt8)) = false := beq_eq_false_iff_ne.mpr c2
  have c2b1 : (a0.toList != ([] : List UInt8)) = true := bne_iff_ne.mpr c2
  obtain rfl := Option.some.inj H
  go_enter Tryz.func147, Tryz.ntmps147
  go_wp2
  go_ret
  exact ⟨e1_, dr_⟩

/-! ### node_value: function 148 -/
def node_value.f (a0 : ByteArray) : Option (Bool) := some (decide ((a0.size : Int) ≤ 32))
set_option maxHeartbeats 8000000 in
set_option maxRecDepth 100000 in
theorem node_value.calls (a0 : ByteArray) (r : Bool) (w : World) (h : node_value.f a0 = some r) :
  Calls Tryz.prog 148 #[.string a0] w fun e w' => e = .returned (.bool r) ∧ Drawn0 w w' := by
 have H : (some (decide ((a0.size : Int) ≤ 32))) = some r := h
 clear h
 obtain rfl := Option.some.inj H
 go_enter Tryz.func148, Tryz.ntmps148
 go_wp2
 go_ret
 exact ⟨e1_, dr_⟩

/-! ### node_page: function 150 -/
def node_page.f (a0 : Int) : Option (Bool) := if a0 ≥ 0 then (some (decide (a0 ≤ 2147483647))) else (some false)
set_option maxHeartbeats 8000000 in
set_option maxRecDepth 100000 in
theorem node_page.calls (a0 : Int) (r : Bool) (w : World) (h : node_page.f a0 = some r) :
  Calls Tryz.prog 150 #[.int .i64 a0] w fun e w' => e = .returned (.bool r) ∧ Drawn0 w w' := by
 have H : (if a0 ≥ 0 then (some (decide (a0 ≤ 2147483647))) else (some false)) = some r := h
 clear h
 by_cases c2 : a0 ≥ 0
 ·rw [if_pos c2] at H
  have c2b0 : decide (0 ≤ a0) = true := decide_eq_true c2
  clear c2
  obtain rfl := Option.some.inj H
  go_enter Tryz.func150, Tryz.ntmps150
  go_wp2
  go_ret
  exact ⟨e1_, dr_⟩
 ·rw [if_neg c2] at H
  have c2b0 : decide (0 ≤ a0) = false := decide_eq_false c2
  clear c2
  obtain rfl := Option.some.inj H
  go_enter Tryz.func150, Tryz.ntmps150
  go_wp2
  go_ret
  exact ⟨e1_, dr_⟩

end Go.Proofs.YtendgmblgdkiaaaGreat.PKy
