/- written for this seat by its own program (doctor.sh) with the kit's printer (node.Node).Check, in plain words. -/
import Derived.Test.YtendgmblgdkiaaaGreatGInternFull0
import Derived.Test.YtendgmblgdkiaaaGreatProg
import Derived.Below
import Derived.Deep.Draws
import Derived.Deep.AppendLies
import Derived.Maps.AppendAt
import Derived.OwnWalk
import Derived.Laws.BytesArg
import Derived.Laws.MakeOwn
import Derived.Laws.OwnMore
import Derived.Deep.OwnRows
import Derived.Tactics
import Derived.Lib.ConvBytes
import Derived.Laws.Slices
import Derived.WalkKit
import Derived.KernelRfl
import Derived.RowKit3
import Derived.Deep.LoopGhost
import Derived.Deep.QuietTactic
import Derived.BigQuiet
import Derived.WideLaws
import Derived.Deep.DeepCutAuto
import Derived.Deep.CutBlock
import Derived.Deep.RegionHeld3
import Derived.Laws.Rows
import Derived.Lib.AppendStr
import Derived.ArgAppend
import Derived.Laws.IdiomCopy
import Derived.OrdersHeld
import Derived.Laws.BitsLemmas
import Derived.RowKit
import Derived.Test.YtendgmblgdkiaaaGreatGInternFull13
import Derived.Test.YtendgmblgdkiaaaGreatGInternFull4
import Derived.Test.YtendgmblgdkiaaaGreatGInternFull16
import Derived.Test.YtendgmblgdkiaaaGreatGInternFull14
import Derived.Test.YtendgmblgdkiaaaGreatGInternFull26
import Derived.WalkLawsBesides
import Derived.WalkSpells
import Derived.Test.YtendgmblgdkiaaaGreatGInternFull5
import Derived.Test.YtendgmblgdkiaaaGreatGInternFull18
import Derived.Test.YtendgmblgdkiaaaGreatGInternFull3
namespace Go.Proofs.YtendgmblgdkiaaaGreat.PCk
open Go.RowKit Go.Proofs.YtendgmblgdkiaaaGreatW.PrintWords Go.Proofs.YtendgmblgdkiaaaGreatW.PrintLast Go.Proofs.YtendgmblgdkiaaaGreatW.PrintMore
attribute [local go_sem] max2_int min2_int max_two min_two
set_option linter.unusedVariables false
set_option linter.unusedSimpArgs false



def errW : Option Int → Value
 | none => .nilIface
 | some c => .iface 0 (.int .i64 c)
theorem errW_none : errW none = .nilIface := rfl
theorem errW_some (c : Int) : errW (some c) = .iface 0 (.int .i64 c) := rfl

theorem info9 : (Tryz.prog.info? 9).map (fun i => (i.zero, i.size, i.bytes)) = some (some (.string ⟨#[]⟩), 1, 16) := by kernel_rfl
-- the values' own types

end Go.Proofs.YtendgmblgdkiaaaGreat.PCk

namespace Go.Proofs.YtendgmblgdkiaaaGreat.PCk
open Go.RowKit Go.Proofs.YtendgmblgdkiaaaGreatW.PrintWords Go.Proofs.YtendgmblgdkiaaaGreatW.PrintLast Go.Proofs.YtendgmblgdkiaaaGreatW.PrintMore
attribute [local go_sem] max2_int min2_int max_two min_two
set_option linter.unusedVariables false
set_option linter.unusedSimpArgs false

/-! ### slices_IndexFunc_string_string: function 225 -/
def slices_IndexFunc_string_string.f (l0 : List ByteArray) : Option (Bool) := some (l0.all valOk)
set_option maxHeartbeats 8000000 in
set_option maxRecDepth 100000 in
theorem slices_IndexFunc_string_string.calls (A0 : Option Addr) (c0 : Nat) (l0 : List ByteArray) (r : Bool) (w : World) (hr0 : Kd.C Kd.string w A0 l0.length l0) (hc0 : l0.length ≤ c0) (h : slices_IndexFunc_string_string.f l0 = some r) :
  Calls Tryz.prog 146 #[.slice A0 l0.length c0, .func (.func 148) #[] #[]] w fun e w' => e = .returned (.bool r) ∧ Below w.heap.size w w' := by
 obtain rfl := Option.some.inj h
 exact allVal A0 c0 l0 w hr0

/-! ### slices_ContainsFunc_string_string: function 186 -/
def slices_ContainsFunc_string_string.f (l0 : List ByteArray) : Option (Bool) := some (l0.all keyOk)
set_option maxHeartbeats 8000000 in
set_option maxRecDepth 100000 in
theorem slices_ContainsFunc_string_string.calls (A0 : Option Addr) (c0 : Nat) (l0 : List ByteArray) (r : Bool) (w : World) (hr0 : Kd.C Kd.string w A0 l0.length l0) (hc0 : l0.length ≤ c0) (h : slices_ContainsFunc_string_string.f l0 = some r) :
  Calls Tryz.prog 146 #[.slice A0 l0.length c0, .func (.func 147) #[] #[]] w fun e w' => e = .returned (.bool r) ∧ Below w.heap.size w w' := by
 obtain rfl := Option.some.inj h
 exact allKey A0 c0 l0 w hr0

-- NOT PRINTED: function 226 (slices_IndexFunc_int_int)

/-! ### slices_ContainsFunc_int_int: function 188 -/
def slices_ContainsFunc_int_int.f (l0 : List Int) : Option (Bool) := some (l0.all pageOk)
set_option maxHeartbeats 8000000 in
set_option maxRecDepth 100000 in
theorem slices_ContainsFunc_int_int.calls (A0 : Option Addr) (c0 : Nat) (l0 : List Int) (r : Bool) (w : World) (hr0 : Kd.C (Kd.int .i64) w A0 l0.length l0) (hc0 : l0.length ≤ c0) (h : slices_ContainsFunc_int_int.f l0 = some r) :
  Calls Tryz.prog 149 #[.slice A0 l0.length c0, .func (.func 150) #[] #[]] w fun e w' => e = .returned (.bool r) ∧ Below w.heap.size w w' := by
 obtain rfl := Option.some.inj h
 exact allPage A0 c0 l0 w hr0

-- NOT PRINTED: function 146 (node_all_string)

/-! ### node_key: function 147 -/
def node_key.f (a0 : ByteArray) : Option (Bool) := if a0.toList = ([] : List UInt8) then (some false) else (some (decide ((a0.size : Int) ≤ 16)))
set_option maxHeartbeats 8000000 in
set_option maxRecDepth 100000 in
theorem node_key.calls (a0 : ByteArray) (r : Bool) (w : World) (h : node_key.f a0 = some r) :
  Calls Tryz.prog 147 #[.string a0] w fun e w' => e = .returned (.bool r) ∧ Drawn0 w w' := by
 have H : (if a0.toList = ([] : List UInt8) then (some false) else (some (decide ((a0.size : Int) ≤ 16)))) = some r := h
 clear h
 by_cases c2 : a0.toList = ([] : List UInt8)
 ·rw [if_pos c2] at H
  have c2b0 : (a0.toList == ([] : List UInt8)) = true := beq_iff_eq.mpr c2
  have c2b1 : (a0.toList != ([] : List UInt8)) = false := bne_eq_false_iff_eq.mpr c2
  clear c2
  obtain rfl := Option.some.inj H
  go_enter Tryz.func147, Tryz.ntmps147
  go_wp2
  go_ret
  exact ⟨e1_, dr_⟩
 ·rw [if_neg c2] at H
  have c2b0 : (a0.toList == ([] : List UInt8)) = false := beq_eq_false_iff_ne.mpr c2
  have c2b1 : (a0.toList != ([] : List UInt8)) = true := bne_iff_ne.mpr c2
  obtain rfl := Option.some.inj H
  go_enter Tryz.func147, Tryz.ntmps147
  go_wp2
  go_ret
  exact ⟨e1_, dr_⟩

/-! ### node_value: function 148 -/
def node_value.f (a0 : ByteArray) : Option (Bool) := some (decide ((a0.size : Int) ≤ 32))
set_option maxHeartbeats 8000000 in
set_option maxRecDepth 100000 in
theorem node_value.calls (a0 : ByteArray) (r : Bool) (w : World) (h : node_value.f a0 = some r) :
  Calls Tryz.prog 148 #[.string a0] w fun e w' => e = .returned (.bool r) ∧ Drawn0 w w' := by
 have H : (some (decide ((a0.size : Int) ≤ 32))) = some r := h
 clear h
 obtain rfl := Option.some.inj H
 go_enter Tryz.func148, Tryz.ntmps148
 go_wp2
 go_ret
 exact ⟨e1_, dr_⟩

-- NOT PRINTED: function 149 (node_all_int)

/-! ### node_page: function 150 -/
def node_page.f (a0 : Int) : Option (Bool) := if a0 ≥ 0 then (some (decide (a0 ≤ 2147483647))) else (some false)
set_option maxHeartbeats 8000000 in
set_option maxRecDepth 100000 in
theorem node_page.calls (a0 : Int) (r : Bool) (w : World) (h : node_page.f a0 = some r) :
  Calls Tryz.prog 150 #[.int .i64 a0] w fun e w' => e = .returned (.bool r) ∧ Drawn0 w w' := by
 have H : (if a0 ≥ 0 then (some (decide (a0 ≤ 2147483647))) else (some false)) = some r := h
 clear h
 by_cases c2 : a0 ≥ 0
 ·rw [if_pos c2] at H
  have c2b0 : decide (0 ≤ a0) = true := decide_eq_true c2
  clear c2
  obtain rfl := Option.some.inj H
  go_enter Tryz.func150, Tryz.ntmps150
  go_wp2
  go_ret
  exact ⟨e1_, dr_⟩
 ·rw [if_neg c2] at H
  have c2b0 : decide (0 ≤ a0) = false := decide_eq_false c2
  clear c2
  obtain rfl := Option.some.inj H
  go_enter Tryz.func150, Tryz.ntmps150
  go_wp2
  go_ret
  exact ⟨e1_, dr_⟩

/-! ### node_Node_Check: function 98 -/
mutual
def node_Node_Check.j0 : Nat → Bool → Int → List ByteArray → List ByteArray → List Int → Option (Int)
 | 0, _, _, _, _, _ => none
 | k + 1, x3, x111000, x111001, x111002, x111003 => node_Node_Check.l0 k x3 1 x111000 x111001 x111002 x111003
def node_Node_Check.l0 : Nat → Bool → Int → Int → List ByteArray → List ByteArray → List Int → Option (Int)
 | 0, _, _, _, _, _, _ => none
 | k + 1, x3, x4, x111000, x111001, x111002, x111003 => if x4 < (x111001.length : Int) then (if x3 = true then (if 0 ≤ (wrap64 (x4 - 1)) then (if (wrap64 (x4 - 1)) < (x111001.length : Int) then (if 0 ≤ x4 then (node_Node_Check.l0 k (Op.bytesLess ((rdOf ByteArray.empty x111001 (wrap64 (x4 - 1))).toList) ((rdOf ByteArray.empty x111001 x4).toList)) (wrap64 (x4 + 1)) x111000 x111001 x111002 x111003) else (none)) else (none)) else (none)) else (node_Node_Check.l0 k false (wrap64 (x4 + 1)) x111000 x111001 x111002 x111003)) else (if x111000 = 1 then (if x3 = true then (if (x111002.length : Int) = (x111001.length : Int) then (if ((x111003.length : Int) = 0) then (some 0) else (some 1)) else (some 1)) else (some 1)) else (if x111000 = 2 then (if x3 = true then (if (x111003.length : Int) = (x111001.length : Int) then (if (x111002.length : Int) = 0 then (if ((x111001.length : Int) > 0) then (some 0) else (some 1)) else (some 1)) else (some 1)) else (some 1)) else (some 1)))
end
def node_Node_Check.f (k : Nat) (a0_0 : Int) (l0_1 : List ByteArray) (l0_2 : List ByteArray) (l0_3 : List Int) : Option (Int) := (slices_ContainsFunc_string_string.f l0_1).bind fun t111 => (if t111 = true then ((slices_IndexFunc_string_string.f l0_2).bind fun t112 => (if t112 = true then ((slices_ContainsFunc_int_int.f l0_3).bind fun t113 => (node_Node_Check.j0 k t113 a0_0 l0_1 l0_2 l0_3)) else (node_Node_Check.j0 k false a0_0 l0_1 l0_2 l0_3))) else (node_Node_Check.j0 k false a0_0 l0_1 l0_2 l0_3))
set_option maxHeartbeats 8000000 in
set_option maxRecDepth 100000 in
theorem node_Node_Check.calls (k : Nat) (a0_0 : Int) (A0_1 : Option Addr) (c0_1 : Nat) (l0_1 : List ByteArray) (A0_2 : Option Addr) (c0_2 : Nat) (l0_2 : List ByteArray) (A0_3 : Option Addr) (c0_3 : Nat) (l0_3 : List Int) (r : Int) (w : World) (hr0_1 : Kd.C Kd.string w A0_1 l0_1.length l0_1) (hc0_1 : l0_1.length ≤ c0_1) (hr0_2 : Kd.C Kd.string w A0_2 l0_2.length l0_2) (hc0_2 : l0_2.length ≤ c0_2) (hr0_3 : Kd.C (Kd.int .i64) w A0_3 l0_3.length l0_3) (hc0_3 : l0_3.length ≤ c0_3) (h : node_Node_Check.f k a0_0 l0_1 l0_2 l0_3 = some r) :
  Calls Tryz.prog 98 #[.agg #[.int .i64 a0_0, .slice A0_1 l0_1.length c0_1, .slice A0_2 l0_2.length c0_2, .slice A0_3 l0_3.length c0_3]] w fun e w' => e = .returned (.int .i64 r) ∧ Below w.heap.size w w' := by
 have hu149 := Tryz.underlying149
 have HR0_1 := am_ hr0_1
 have HC0_1 := am_ hc0_1
 clear hr0_1 hc0_1
 have HR0_2 := am_ hr0_2
 have HC0_2 := am_ hc0_2
 clear hr0_2 hc0_2
 have HR0_3 := am_ hr0_3
 have HC0_3 := am_ hc0_3
 clear hr0_3 hc0_3
 have HB := am_ (Below.refl w.heap.size w)
 have H : ((slices_ContainsFunc_string_string.f l0_1).bind fun t111 => (if t111 = true then ((slices_IndexFunc_string_string.f l0_2).bind fun t112 => (if t112 = true then ((slices_ContainsFunc_int_int.f l0_3).bind fun t113 => (node_Node_Check.j0 k t113 a0_0 l0_1 l0_2 l0_3)) else (node_Node_Check.j0 k false a0_0 l0_1 l0_2 l0_3))) else (node_Node_Check.j0 k false a0_0 l0_1 l0_2 l0_3))) = some r := h
 clear h
 have HC2 := am_ H
 clear H
 go_enter Tryz.func98, Tryz.ntmps98
 go_upto_region 1 with (first | ((with_reducible refine gate_dst (N := 1) rfl ?_); (try (refine gate_guard (by rfl) ?_; dsimp only)); refine be_ (N := 1) (cs := #[.int .i64 a0_0, .slice A0_1 l0_1.length c0_1, .slice A0_2 l0_2.length c0_2, .slice A0_3 l0_3.length c0_3]) (t := 149) ?_; intro gb110 hg w3 hbox hb; have BK110 := am_ (hbox); have GW110 := am_ ((sz_ hg : w.heap.size ≤ gb110)); have GE110 := am_ ((sz_ hg : w.heap.size ≤ gb110)); replace HB := am_ (below_step bl_ hb); clear hb hbox hg))
 repeat (go_quiet (first | ((with_reducible refine gate_dst (N := 1) rfl ?_); (try (refine gate_guard (by rfl) ?_; dsimp only)); refine be_ (N := 1) (cs := #[.int .i64 a0_0, .slice A0_1 l0_1.length c0_1, .slice A0_2 l0_2.length c0_2, .slice A0_3 l0_3.length c0_3]) (t := 149) ?_; intro gb110 hg w3 hbox hb; have BK110 := am_ (hbox); have GW110 := am_ ((sz_ hg : w.heap.size ≤ gb110)); have GE110 := am_ ((sz_ hg : w.heap.size ≤ gb110)); replace HB := am_ (below_step bl_ hb); clear hb hbox hg)); go_upto_region 1 with (first | ((with_reducible refine gate_dst (N := 1) rfl ?_); (try (refine gate_guard (by rfl) ?_; dsimp only)); refine be_ (N := 1) (cs := #[.int .i64 a0_0, .slice A0_1 l0_1.length c0_1, .slice A0_2 l0_2.length c0_2, .slice A0_3 l0_3.length c0_3]) (t := 149) ?_; intro gb110 hg w3 hbox hb; have BK110 := am_ (hbox); have GW110 := am_ ((sz_ hg : w.heap.size ≤ gb110)); have GE110 := am_ ((sz_ hg : w.heap.size ≤ gb110)); replace HB := am_ (below_step bl_ hb); clear hb hbox hg)))
 (try simp only [Act.put, List.setIfInBounds_toArray, List.set_cons_zero, List.set_cons_succ])
 go_cut [3] (fun v3 wc => ∃ (kq : Nat) (x3_1 : Bool), v3 = .bool x3_1 ∧ Aside0 (node_Node_Check.j0 kq x3_1 a0_0 l0_1 l0_2 l0_3 = some r) ∧ Aside0 (kq ≤ k) ∧ Aside0 (wc.heap[gb110]? = some (.cells #[.int .i64 a0_0, (.slice A0_1 l0_1.length c0_1), (.slice A0_2 l0_2.length c0_2), (.slice A0_3 l0_3.length c0_3)] 149 (0, 0))) ∧ Aside0 (Below w.heap.size w wc))
 case first =>
  have H := HC2.out
  clear HC2
  obtain ⟨t111, A4, H⟩ := bi_ H
  try dsimp only at H
  by_cases c5 : t111 = true
  ·subst c5
   rw [if_pos rfl] at H
   obtain ⟨t112, A6, H⟩ := bi_ H
   try dsimp only at H
   by_cases c7 : t112 = true
   ·subst c7
    rw [if_pos rfl] at H
    obtain ⟨t113, A8, H⟩ := bi_ H
    try dsimp only at H
    have H' := am_ H
    clear H
    have hcz9_0 : w3.cell? ⟨gb110, 0, none⟩ = some (.int .i64 a0_0) := bc_ BK110 0
    have hcz9_1 : w3.cell? ⟨gb110, 1, none⟩ = some (.slice A0_1 l0_1.length c0_1) := bc_ BK110 1
    have hcz9_2 : w3.cell? ⟨gb110, 2, none⟩ = some (.slice A0_2 l0_2.length c0_2) := bc_ BK110 2
    have hcz9_3 : w3.cell? ⟨gb110, 3, none⟩ = some (.slice A0_3 l0_3.length c0_3) := bc_ BK110 3
    have hfz9_0 := blk_frozen BK110.out 0
    have hfz9_1 := blk_frozen BK110.out 1
    have hfz9_2 := blk_frozen BK110.out 2
    have hfz9_3 := blk_frozen BK110.out 3
    go_wp2_with (first | (go_at_call 146; (with_reducible refine (slices_ContainsFunc_string_string.calls _ _ l0_1 true _ ?side1 ?side2 A4.out).mono ?_); (case side1 => exact cl_); (case side2 => exact HC0_1.out); rintro e w10 ⟨rfl, hb⟩; replace BK110 := am_ (bw_ BK110 hb); replace HB := am_ (below_step bl_ hb); (try clear hb); (try clear hb2); (try clear hk); (try clear hi); have hcz11_0 : w10.cell? ⟨gb110, 0, none⟩ = some (.int .i64 a0_0) := bc_ BK110 0; have hcz11_1 : w10.cell? ⟨gb110, 1, none⟩ = some (.slice A0_1 l0_1.length c0_1) := bc_ BK110 1; have hcz11_2 : w10.cell? ⟨gb110, 2, none⟩ = some (.slice A0_2 l0_2.length c0_2) := bc_ BK110 2; have hcz11_3 : w10.cell? ⟨gb110, 3, none⟩ = some (.slice A0_3 l0_3.length c0_3) := bc_ BK110 3; have hfz11_0 := blk_frozen BK110.out 0; have hfz11_1 := blk_frozen BK110.out 1; have hfz11_2 := blk_frozen BK110.out 2; have hfz11_3 := blk_frozen BK110.out 3) | (go_at_call 146; (with_reducible refine (slices_IndexFunc_string_string.calls _ _ l0_2 true _ ?side1 ?side2 A6.out).mono ?_); (case side1 => exact cl_); (case side2 => exact HC0_2.out); rintro e w12 ⟨rfl, hb⟩; replace BK110 := am_ (bw_ BK110 hb); replace HB := am_ (below_step bl_ hb); (try clear hb); (try clear hb2); (try clear hk); (try clear hi); have hcz13_0 : w12.cell? ⟨gb110, 0, none⟩ = some (.int .i64 a0_0) := bc_ BK110 0; have hcz13_1 : w12.cell? ⟨gb110, 1, none⟩ = some (.slice A0_1 l0_1.length c0_1) := bc_ BK110 1; have hcz13_2 : w12.cell? ⟨gb110, 2, none⟩ = some (.slice A0_2 l0_2.length c0_2) := bc_ BK110 2; have hcz13_3 : w12.cell? ⟨gb110, 3, none⟩ = some (.slice A0_3 l0_3.length c0_3) := bc_ BK110 3; have hfz13_0 := blk_frozen BK110.out 0; have hfz13_1 := blk_frozen BK110.out 1; have hfz13_2 := blk_frozen BK110.out 2; have hfz13_3 := blk_frozen BK110.out 3) | (go_at_call 149; (with_reducible refine (slices_ContainsFunc_int_int.calls _ _ l0_3 t113 _ ?side1 ?side2 A8.out).mono ?_); (case side1 => exact cl_); (case side2 => exact HC0_3.out); rintro e w14 ⟨rfl, hb⟩; replace BK110 := am_ (bw_ BK110 hb); replace HB := am_ (below_step bl_ hb); (try clear hb); (try clear hb2); (try clear hk); (try clear hi)))
    repeat (go_quiet (first | (go_at_call 146; (with_reducible refine (slices_ContainsFunc_string_string.calls _ _ l0_1 true _ ?side1 ?side2 A4.out).mono ?_); (case side1 => exact cl_); (case side2 => exact HC0_1.out); rintro e w10 ⟨rfl, hb⟩; replace BK110 := am_ (bw_ BK110 hb); replace HB := am_ (below_step bl_ hb); (try clear hb); (try clear hb2); (try clear hk); (try clear hi); have hcz11_0 : w10.cell? ⟨gb110, 0, none⟩ = some (.int .i64 a0_0) := bc_ BK110 0; have hcz11_1 : w10.cell? ⟨gb110, 1, none⟩ = some (.slice A0_1 l0_1.length c0_1) := bc_ BK110 1; have hcz11_2 : w10.cell? ⟨gb110, 2, none⟩ = some (.slice A0_2 l0_2.length c0_2) := bc_ BK110 2; have hcz11_3 : w10.cell? ⟨gb110, 3, none⟩ = some (.slice A0_3 l0_3.length c0_3) := bc_ BK110 3; have hfz11_0 := blk_frozen BK110.out 0; have hfz11_1 := blk_frozen BK110.out 1; have hfz11_2 := blk_frozen BK110.out 2; have hfz11_3 := blk_frozen BK110.out 3) | (go_at_call 146; (with_reducible refine (slices_IndexFunc_string_string.calls _ _ l0_2 true _ ?side1 ?side2 A6.out).mono ?_); (case side1 => exact cl_); (case side2 => exact HC0_2.out); rintro e w12 ⟨rfl, hb⟩; replace BK110 := am_ (bw_ BK110 hb); replace HB := am_ (below_step bl_ hb); (try clear hb); (try clear hb2); (try clear hk); (try clear hi); have hcz13_0 : w12.cell? ⟨gb110, 0, none⟩ = some (.int .i64 a0_0) := bc_ BK110 0; have hcz13_1 : w12.cell? ⟨gb110, 1, none⟩ = some (.slice A0_1 l0_1.length c0_1) := bc_ BK110 1; have hcz13_2 : w12.cell? ⟨gb110, 2, none⟩ = some (.slice A0_2 l0_2.length c0_2) := bc_ BK110 2; have hcz13_3 : w12.cell? ⟨gb110, 3, none⟩ = some (.slice A0_3 l0_3.length c0_3) := bc_ BK110 3; have hfz13_0 := blk_frozen BK110.out 0; have hfz13_1 := blk_frozen BK110.out 1; have hfz13_2 := blk_frozen BK110.out 2; have hfz13_3 := blk_frozen BK110.out 3) | (go_at_call 149; (with_reducible refine (slices_ContainsFunc_int_int.calls _ _ l0_3 t113 _ ?side1 ?side2 A8.out).mono ?_); (case side1 => exact cl_); (case side2 => exact HC0_3.out); rintro e w14 ⟨rfl, hb⟩; replace BK110 := am_ (bw_ BK110 hb); replace HB := am_ (below_step bl_ hb); (try clear hb); (try clear hb2); (try clear hk); (try clear hi))); try go_wp2_with (first | (go_at_call 146; (with_reducible refine (slices_ContainsFunc_string_string.calls _ _ l0_1 true _ ?side1 ?side2 A4.out).mono ?_); (case side1 => exact cl_); (case side2 => exact HC0_1.out); rintro e w10 ⟨rfl, hb⟩; replace BK110 := am_ (bw_ BK110 hb); replace HB := am_ (below_step bl_ hb); (try clear hb); (try clear hb2); (try clear hk); (try clear hi); have hcz11_0 : w10.cell? ⟨gb110, 0, none⟩ = some (.int .i64 a0_0) := bc_ BK110 0; have hcz11_1 : w10.cell? ⟨gb110, 1, none⟩ = some (.slice A0_1 l0_1.length c0_1) := bc_ BK110 1; have hcz11_2 : w10.cell? ⟨gb110, 2, none⟩ = some (.slice A0_2 l0_2.length c0_2) := bc_ BK110 2; have hcz11_3 : w10.cell? ⟨gb110, 3, none⟩ = some (.slice A0_3 l0_3.length c0_3) := bc_ BK110 3; have hfz11_0 := blk_frozen BK110.out 0; have hfz11_1 := blk_frozen BK110.out 1; have hfz11_2 := blk_frozen BK110.out 2; have hfz11_3 := blk_frozen BK110.out 3) | (go_at_call 146; (with_reducible refine (slices_IndexFunc_string_string.calls _ _ l0_2 true _ ?side1 ?side2 A6.out).mono ?_); (case side1 => exact cl_); (case side2 => exact HC0_2.out); rintro e w12 ⟨rfl, hb⟩; replace BK110 := am_ (bw_ BK110 hb); replace HB := am_ (below_step bl_ hb); (try clear hb); (try clear hb2); (try clear hk); (try clear hi); have hcz13_0 : w12.cell? ⟨gb110, 0, none⟩ = some (.int .i64 a0_0) := bc_ BK110 0; have hcz13_1 : w12.cell? ⟨gb110, 1, none⟩ = some (.slice A0_1 l0_1.length c0_1) := bc_ BK110 1; have hcz13_2 : w12.cell? ⟨gb110, 2, none⟩ = some (.slice A0_2 l0_2.length c0_2) := bc_ BK110 2; have hcz13_3 : w12.cell? ⟨gb110, 3, none⟩ = some (.slice A0_3 l0_3.length c0_3) := bc_ BK110 3; have hfz13_0 := blk_frozen BK110.out 0; have hfz13_1 := blk_frozen BK110.out 1; have hfz13_2 := blk_frozen BK110.out 2; have hfz13_3 := blk_frozen BK110.out 3) | (go_at_call 149; (with_reducible refine (slices_ContainsFunc_int_int.calls _ _ l0_3 t113 _ ?side1 ?side2 A8.out).mono ?_); (case side1 => exact cl_); (case side2 => exact HC0_3.out); rintro e w14 ⟨rfl, hb⟩; replace BK110 := am_ (bw_ BK110 hb); replace HB := am_ (below_step bl_ hb); (try clear hb); (try clear hb2); (try clear hk); (try clear hi))))
    go_meet
    case rel => exact ⟨_, (t113), (by first | rfl | (simp; done) | (simp [*]; done)), H', ⟨by first | omega | exact Nat.le_refl _⟩, ⟨bx_ BK110⟩, ⟨by exact bl_⟩⟩
   ·replace c7 := Bool.eq_false_iff.mpr c7
    subst c7
    rw [if_neg (show ¬ (false = true) by decide)] at H
    have H' := am_ H
    clear H
    have hcz15_0 : w3.cell? ⟨gb110, 0, none⟩ = some (.int .i64 a0_0) := bc_ BK110 0
    have hcz15_1 : w3.cell? ⟨gb110, 1, none⟩ = some (.slice A0_1 l0_1.length c0_1) := bc_ BK110 1
    have hcz15_2 : w3.cell? ⟨gb110, 2, none⟩ = some (.slice A0_2 l0_2.length c0_2) := bc_ BK110 2
    have hcz15_3 : w3.cell? ⟨gb110, 3, none⟩ = some (.slice A0_3 l0_3.length c0_3) := bc_ BK110 3
    have hfz15_0 := blk_frozen BK110.out 0
    have hfz15_1 := blk_frozen BK110.out 1
    have hfz15_2 := blk_frozen BK110.out 2
    have hfz15_3 := blk_frozen BK110.out 3
    go_wp2_with (first | (go_at_call 146; (with_reducible refine (slices_ContainsFunc_string_string.calls _ _ l0_1 true _ ?side1 ?side2 A4.out).mono ?_); (case side1 => exact cl_); (case side2 => exact HC0_1.out); rintro e w16 ⟨rfl, hb⟩; replace BK110 := am_ (bw_ BK110 hb); replace HB := am_ (below_step bl_ hb); (try clear hb); (try clear hb2); (try clear hk); (try clear hi); have hcz17_0 : w16.cell? ⟨gb110, 0, none⟩ = some (.int .i64 a0_0) := bc_ BK110 0; have hcz17_1 : w16.cell? ⟨gb110, 1, none⟩ = some (.slice A0_1 l0_1.length c0_1) := bc_ BK110 1; have hcz17_2 : w16.cell? ⟨gb110, 2, none⟩ = some (.slice A0_2 l0_2.length c0_2) := bc_ BK110 2; have hcz17_3 : w16.cell? ⟨gb110, 3, none⟩ = some (.slice A0_3 l0_3.length c0_3) := bc_ BK110 3; have hfz17_0 := blk_frozen BK110.out 0; have hfz17_1 := blk_frozen BK110.out 1; have hfz17_2 := blk_frozen BK110.out 2; have hfz17_3 := blk_frozen BK110.out 3) | (go_at_call 146; (with_reducible refine (slices_IndexFunc_string_string.calls _ _ l0_2 false _ ?side1 ?side2 A6.out).mono ?_); (case side1 => exact cl_); (case side2 => exact HC0_2.out); rintro e w18 ⟨rfl, hb⟩; replace BK110 := am_ (bw_ BK110 hb); replace HB := am_ (below_step bl_ hb); (try clear hb); (try clear hb2); (try clear hk); (try clear hi)))
    repeat (go_quiet (first | (go_at_call 146; (with_reducible refine (slices_ContainsFunc_string_string.calls _ _ l0_1 true _ ?side1 ?side2 A4.out).mono ?_); (case side1 => exact cl_); (case side2 => exact HC0_1.out); rintro e w16 ⟨rfl, hb⟩; replace BK110 := am_ (bw_ BK110 hb); replace HB := am_ (below_step bl_ hb); (try clear hb); (try clear hb2); (try clear hk); (try clear hi); have hcz17_0 : w16.cell? ⟨gb110, 0, none⟩ = some (.int .i64 a0_0) := bc_ BK110 0; have hcz17_1 : w16.cell? ⟨gb110, 1, none⟩ = some (.slice A0_1 l0_1.length c0_1) := bc_ BK110 1; have hcz17_2 : w16.cell? ⟨gb110, 2, none⟩ = some (.slice A0_2 l0_2.length c0_2) := bc_ BK110 2; have hcz17_3 : w16.cell? ⟨gb110, 3, none⟩ = some (.slice A0_3 l0_3.length c0_3) := bc_ BK110 3; have hfz17_0 := blk_frozen BK110.out 0; have hfz17_1 := blk_frozen BK110.out 1; have hfz17_2 := blk_frozen BK110.out 2; have hfz17_3 := blk_frozen BK110.out 3) | (go_at_call 146; (with_reducible refine (slices_IndexFunc_string_string.calls _ _ l0_2 false _ ?side1 ?side2 A6.out).mono ?_); (case side1 => exact cl_); (case side2 => exact HC0_2.out); rintro e w18 ⟨rfl, hb⟩; replace BK110 := am_ (bw_ BK110 hb); replace HB := am_ (below_step bl_ hb); (try clear hb); (try clear hb2); (try clear hk); (try clear hi))); try go_wp2_with (first | (go_at_call 146; (with_reducible refine (slices_ContainsFunc_string_string.calls _ _ l0_1 true _ ?side1 ?side2 A4.out).mono ?_); (case side1 => exact cl_); (case side2 => exact HC0_1.out); rintro e w16 ⟨rfl, hb⟩; replace BK110 := am_ (bw_ BK110 hb); replace HB := am_ (below_step bl_ hb); (try clear hb); (try clear hb2); (try clear hk); (try clear hi); have hcz17_0 : w16.cell? ⟨gb110, 0, none⟩ = some (.int .i64 a0_0) := bc_ BK110 0; have hcz17_1 : w16.cell? ⟨gb110, 1, none⟩ = some (.slice A0_1 l0_1.length c0_1) := bc_ BK110 1; have hcz17_2 : w16.cell? ⟨gb110, 2, none⟩ = some (.slice A0_2 l0_2.length c0_2) := bc_ BK110 2; have hcz17_3 : w16.cell? ⟨gb110, 3, none⟩ = some (.slice A0_3 l0_3.length c0_3) := bc_ BK110 3; have hfz17_0 := blk_frozen BK110.out 0; have hfz17_1 := blk_frozen BK110.out 1; have hfz17_2 := blk_frozen BK110.out 2; have hfz17_3 := blk_frozen BK110.out 3) | (go_at_call 146; (with_reducible refine (slices_IndexFunc_string_string.calls _ _ l0_2 false _ ?side1 ?side2 A6.out).mono ?_); (case side1 => exact cl_); (case side2 => exact HC0_2.out); rintro e w18 ⟨rfl, hb⟩; replace BK110 := am_ (bw_ BK110 hb); replace HB := am_ (below_step bl_ hb); (try clear hb); (try clear hb2); (try clear hk); (try clear hi))))
    go_meet
    case rel => exact ⟨_, (false), (by first | rfl | (simp; done) | (simp [*]; done)), H', ⟨by first | omega | exact Nat.le_refl _⟩, ⟨bx_ BK110⟩, ⟨by exact bl_⟩⟩
  ·replace c5 := Bool.eq_false_iff.mpr c5
   subst c5
   rw [if_neg (show ¬ (false = true) by decide)] at H
   have H' := am_ H
   clear H
   have hcz19_0 : w3.cell? ⟨gb110, 0, none⟩ = some (.int .i64 a0_0) := bc_ BK110 0
   have hcz19_1 : w3.cell? ⟨gb110, 1, none⟩ = some (.slice A0_1 l0_1.length c0_1) := bc_ BK110 1
   have hcz19_2 : w3.cell? ⟨gb110, 2, none⟩ = some (.slice A0_2 l0_2.length c0_2) := bc_ BK110 2
   have hcz19_3 : w3.cell? ⟨gb110, 3, none⟩ = some (.slice A0_3 l0_3.length c0_3) := bc_ BK110 3
   have hfz19_0 := blk_frozen BK110.out 0
   have hfz19_1 := blk_frozen BK110.out 1
   have hfz19_2 := blk_frozen BK110.out 2
   have hfz19_3 := blk_frozen BK110.out 3
   go_wp2_with (first | (go_at_call 146; (with_reducible refine (slices_ContainsFunc_string_string.calls _ _ l0_1 false _ ?side1 ?side2 A4.out).mono ?_); (case side1 => exact cl_); (case side2 => exact HC0_1.out); rintro e w20 ⟨rfl, hb⟩; replace BK110 := am_ (bw_ BK110 hb); replace HB := am_ (below_step bl_ hb); (try clear hb); (try clear hb2); (try clear hk); (try clear hi)))
   repeat (go_quiet (first | (go_at_call 146; (with_reducible refine (slices_ContainsFunc_string_string.calls _ _ l0_1 false _ ?side1 ?side2 A4.out).mono ?_); (case side1 => exact cl_); (case side2 => exact HC0_1.out); rintro e w20 ⟨rfl, hb⟩; replace BK110 := am_ (bw_ BK110 hb); replace HB := am_ (below_step bl_ hb); (try clear hb); (try clear hb2); (try clear hk); (try clear hi))); try go_wp2_with (first | (go_at_call 146; (with_reducible refine (slices_ContainsFunc_string_string.calls _ _ l0_1 false _ ?side1 ?side2 A4.out).mono ?_); (case side1 => exact cl_); (case side2 => exact HC0_1.out); rintro e w20 ⟨rfl, hb⟩; replace BK110 := am_ (bw_ BK110 hb); replace HB := am_ (below_step bl_ hb); (try clear hb); (try clear hb2); (try clear hk); (try clear hi))))
   go_meet
   case rel => exact ⟨_, (false), (by first | rfl | (simp; done) | (simp [*]; done)), H', ⟨by first | omega | exact Nat.le_refl _⟩, ⟨bx_ BK110⟩, ⟨by exact bl_⟩⟩
 case rest =>
  clear HC2
  obtain ⟨kq, x3_1, rfl, HA, HJ1, BK110, HB⟩ := hcut
  cases kq with
  | zero => exact absurd HA.out (by simp [node_Node_Check.j0])
  | succ kj1 =>
   have H := HA.out
   clear HA
   simp only [node_Node_Check.j0] at H
   have H' := am_ H
   clear H
   go_wp2
   repeat (go_quiet (fail); try go_wp2)
   go_loopg [3, 4] kj1 (fun kq v3 v4 w' => ∃ (x3_2 : Bool) (x4_2 : Int), v3 = .bool x3_2 ∧ v4 = .int .i64 x4_2 ∧ Aside0 (node_Node_Check.l0 kq x3_2 x4_2 a0_0 l0_1 l0_2 l0_3 = some r) ∧ Aside0 (kq ≤ kj1) ∧ Aside0 (w'.heap[gb110]? = some (.cells #[.int .i64 a0_0, (.slice A0_1 l0_1.length c0_1), (.slice A0_2 l0_2.length c0_2), (.slice A0_3 l0_3.length c0_3)] 149 (0, 0))) ∧ Aside0 (Below w.heap.size w w'))
   case atStart => exact ⟨(x3_1), (1), (by first | rfl | (simp; done) | (simp [*]; done)), (by first | rfl | (simp; done) | (simp [*]; done)), H', ⟨Nat.le_refl _⟩, ⟨bx_ BK110⟩, ⟨by exact bl_⟩⟩
   case round =>
    clear H'
    obtain ⟨x3_2, x4_2, rfl, rfl, HA, HK2, BK110, HB⟩ := hrel
    cases gk with
    | zero => exact absurd HA.out (by simp [node_Node_Check.l0])
    | succ k2 =>
     have H := HA.out
     clear HA
     simp only [node_Node_Check.l0] at H
     by_cases c21 : x4_2 < (l0_1.length : Int)
     ·rw [if_pos c21] at H
      have c21b0 : decide (x4_2 < (l0_1.length : Int)) = true := decide_eq_true c21
      clear c21
      by_cases c22 : x3_2 = true
      ·subst c22
       rw [if_pos rfl] at H
       obtain ⟨ji23, hji23⟩ : ∃ j_ : Int, (wrap64 (x4_2 - 1)) = j_ := ⟨_, rfl⟩
       replace H : (if 0 ≤ (ji23) then (if (ji23) < (l0_1.length : Int) then (if 0 ≤ x4_2 then (node_Node_Check.l0 k2 (Op.bytesLess ((rdOf ByteArray.empty l0_1 (ji23)).toList) ((rdOf ByteArray.empty l0_1 x4_2).toList)) (wrap64 (x4_2 + 1)) a0_0 l0_1 l0_2 l0_3) else (none)) else (none)) else (none)) = some r := by first | (rw [hji23] at H; exact H) | (simp only [hji23] at H ⊢; exact H)
       have hji23w : (IntKind.i64.wrap (x4_2 - 1)) = ji23 := (i64_w _).trans hji23
       by_cases c24 : 0 ≤ (ji23)
       ·rw [if_pos c24] at H
        have c24b0 : decide (0 ≤ (ji23)) = true := decide_eq_true c24
        clear c24
        by_cases c25 : (ji23) < (l0_1.length : Int)
        ·rw [if_pos c25] at H
         have c25b0 : decide ((ji23) < (l0_1.length : Int)) = true := decide_eq_true c25
         clear c25
         by_cases c26 : 0 ≤ x4_2
         ·rw [if_pos c26] at H
          have c26b0 : decide (0 ≤ x4_2) = true := decide_eq_true c26
          clear c26
          have H' := am_ H
          clear H
          have hcz27_0 : wr.cell? ⟨gb110, 0, none⟩ = some (.int .i64 a0_0) := bc_ BK110 0
          have hcz27_1 : wr.cell? ⟨gb110, 1, none⟩ = some (.slice A0_1 l0_1.length c0_1) := bc_ BK110 1
          have hcz27_2 : wr.cell? ⟨gb110, 2, none⟩ = some (.slice A0_2 l0_2.length c0_2) := bc_ BK110 2
          have hcz27_3 : wr.cell? ⟨gb110, 3, none⟩ = some (.slice A0_3 l0_3.length c0_3) := bc_ BK110 3
          have hfz27_0 := blk_frozen BK110.out 0
          have hfz27_1 := blk_frozen BK110.out 1
          have hfz27_2 := blk_frozen BK110.out 2
          have hfz27_3 := blk_frozen BK110.out 3
          have p114 : 0 ≤ ((ji23) : Int) := of_decide_eq_true as_
          have q114 : (ji23) < (l0_1.length : Int) := of_decide_eq_true as_
          obtain ⟨ad114, e114, hx114_0⟩ := Kd.at_string HR0_1.out (ji23) p114 q114
          cases e114
          replace hx114_0 := (HB.out.cell (World.block_lt_of_cell? w _ hx114_0)).trans hx114_0
          replace p114 := eq_true p114
          replace q114 := eq_true q114
          have p115 : 0 ≤ (x4_2 : Int) := of_decide_eq_true as_
          have q115 : x4_2 < (l0_1.length : Int) := of_decide_eq_true as_
          obtain ⟨ad115, e115, hx115_0⟩ := Kd.at_string HR0_1.out x4_2 p115 q115
          obtain rfl : ad114 = ad115 := (by injection e115)
          replace hx115_0 := (HB.out.cell (World.block_lt_of_cell? w _ hx115_0)).trans hx115_0
          replace p115 := eq_true p115
          replace q115 := eq_true q115
          go_wp2
          repeat (go_quiet (fail); try go_wp2)
          go_roundg k2
          case measure => have := HJ1.out; have := HK2.out; omega
          case rel => exact ⟨((Op.bytesLess ((rdOf ByteArray.empty l0_1 (ji23)).toList) ((rdOf ByteArray.empty l0_1 x4_2).toList))), (wrap64 (x4_2 + 1)), (by first | rfl | (simp; done) | (simp only [← hji23] <;> (first | rfl | simp)) | (simp [*]; done)), (by first | rfl | (simp; done) | (simp [*]; done)), H', ⟨by have := HJ1.out; have := HK2.out; omega⟩, ⟨bx_ BK110⟩, ⟨by exact bl_⟩⟩
         ·rw [if_neg c26] at H
          exact absurd H (by simp)
        ·rw [if_neg c25] at H
         exact absurd H (by simp)
       ·rw [if_neg c24] at H
        exact absurd H (by simp)
      ·replace c22 := Bool.eq_false_iff.mpr c22
       subst c22
       rw [if_neg (show ¬ (false = true) by decide)] at H
       have H' := am_ H
       clear H
       have hcz28_0 : wr.cell? ⟨gb110, 0, none⟩ = some (.int .i64 a0_0) := bc_ BK110 0
       have hcz28_1 : wr.cell? ⟨gb110, 1, none⟩ = some (.slice A0_1 l0_1.length c0_1) := bc_ BK110 1
       have hcz28_2 : wr.cell? ⟨gb110, 2, none⟩ = some (.slice A0_2 l0_2.length c0_2) := bc_ BK110 2
       have hcz28_3 : wr.cell? ⟨gb110, 3, none⟩ = some (.slice A0_3 l0_3.length c0_3) := bc_ BK110 3
       have hfz28_0 := blk_frozen BK110.out 0
       have hfz28_1 := blk_frozen BK110.out 1
       have hfz28_2 := blk_frozen BK110.out 2
       have hfz28_3 := blk_frozen BK110.out 3
       go_wp2
       repeat (go_quiet (fail); try go_wp2)
       go_roundg k2
       case measure => have := HJ1.out; have := HK2.out; omega
       case rel => exact ⟨(false), (wrap64 (x4_2 + 1)), (by first | rfl | (simp; done) | (simp [*]; done)), (by first | rfl | (simp; done) | (simp [*]; done)), H', ⟨by have := HJ1.out; have := HK2.out; omega⟩, ⟨bx_ BK110⟩, ⟨by exact bl_⟩⟩
     ·rw [if_neg c21] at H
      have c21b0 : decide (x4_2 < (l0_1.length : Int)) = false := decide_eq_false c21
      clear c21
      by_cases c29 : a0_0 = 1
      ·rw [if_pos c29] at H
       have c29b0 : (a0_0 == 1) = true := beq_iff_eq.mpr c29
       have c29b1 : (a0_0 != 1) = false := bne_eq_false_iff_eq.mpr c29
       clear c29
       by_cases c30 : x3_2 = true
       ·subst c30
        rw [if_pos rfl] at H
        by_cases c31 : (l0_2.length : Int) = (l0_1.length : Int)
        ·rw [if_pos c31] at H
         have c31b0 : ((l0_2.length : Int) == (l0_1.length : Int)) = true := beq_iff_eq.mpr c31
         have c31b1 : ((l0_2.length : Int) != (l0_1.length : Int)) = false := bne_eq_false_iff_eq.mpr c31
         have c31b2 : (l0_2.length == l0_1.length) = true := by first | simpa using c31 | (simp at c31 ⊢; omega)
         clear c31
         by_cases c32 : ((l0_3.length : Int) = 0)
         ·rw [if_pos c32] at H
          have c32b0 : ((l0_3.length : Int) == 0) = true := beq_iff_eq.mpr c32
          have c32b1 : ((l0_3.length : Int) != 0) = false := bne_eq_false_iff_eq.mpr c32
          clear c32
          obtain rfl := Option.some.inj H
          have hcz33_0 : wr.cell? ⟨gb110, 0, none⟩ = some (.int .i64 a0_0) := bc_ BK110 0
          have hcz33_1 : wr.cell? ⟨gb110, 1, none⟩ = some (.slice A0_1 l0_1.length c0_1) := bc_ BK110 1
          have hcz33_2 : wr.cell? ⟨gb110, 2, none⟩ = some (.slice A0_2 l0_2.length c0_2) := bc_ BK110 2
          have hcz33_3 : wr.cell? ⟨gb110, 3, none⟩ = some (.slice A0_3 l0_3.length c0_3) := bc_ BK110 3
          have hfz33_0 := blk_frozen BK110.out 0
          have hfz33_1 := blk_frozen BK110.out 1
          have hfz33_2 := blk_frozen BK110.out 2
          have hfz33_3 := blk_frozen BK110.out 3
          go_wp2
          repeat (go_quiet (fail); try go_wp2)
          go_ret
          exact ⟨er_, by exact bl_⟩
         ·rw [if_neg c32] at H
          have c32b0 : ((l0_3.length : Int) == 0) = false := beq_eq_false_iff_ne.mpr c32
          have c32b1 : ((l0_3.length : Int) != 0) = true := bne_iff_ne.mpr c32
          have c32b2 : ¬ (l0_3 = []) := fun h_ => c32 (by rw [h_]; rfl)
          obtain rfl := Option.some.inj H
          have hcz34_0 : wr.cell? ⟨gb110, 0, none⟩ = some (.int .i64 a0_0) := bc_ BK110 0
          have hcz34_1 : wr.cell? ⟨gb110, 1, none⟩ = some (.slice A0_1 l0_1.length c0_1) := bc_ BK110 1
          have hcz34_2 : wr.cell? ⟨gb110, 2, none⟩ = some (.slice A0_2 l0_2.length c0_2) := bc_ BK110 2
          have hcz34_3 : wr.cell? ⟨gb110, 3, none⟩ = some (.slice A0_3 l0_3.length c0_3) := bc_ BK110 3
          have hfz34_0 := blk_frozen BK110.out 0
          have hfz34_1 := blk_frozen BK110.out 1
          have hfz34_2 := blk_frozen BK110.out 2
          have hfz34_3 := blk_frozen BK110.out 3
          go_wp2
          repeat (go_quiet (fail); try go_wp2)
          go_ret
          exact ⟨er_, by exact bl_⟩
        ·rw [if_neg c31] at H
         have c31b0 : ((l0_2.length : Int) == (l0_1.length : Int)) = false := beq_eq_false_iff_ne.mpr c31
         have c31b1 : ((l0_2.length : Int) != (l0_1.length : Int)) = true := bne_iff_ne.mpr c31
         have c31b2 : (l0_2.length == l0_1.length) = false := by first | simpa using c31 | (simp at c31 ⊢; omega)
         obtain rfl := Option.some.inj H
         have hcz35_0 : wr.cell? ⟨gb110, 0, none⟩ = some (.int .i64 a0_0) := bc_ BK110 0
         have hcz35_1 : wr.cell? ⟨gb110, 1, none⟩ = some (.slice A0_1 l0_1.length c0_1) := bc_ BK110 1
         have hcz35_2 : wr.cell? ⟨gb110, 2, none⟩ = some (.slice A0_2 l0_2.length c0_2) := bc_ BK110 2
         have hcz35_3 : wr.cell? ⟨gb110, 3, none⟩ = some (.slice A0_3 l0_3.length c0_3) := bc_ BK110 3
         have hfz35_0 := blk_frozen BK110.out 0
         have hfz35_1 := blk_frozen BK110.out 1
         have hfz35_2 := blk_frozen BK110.out 2
         have hfz35_3 := blk_frozen BK110.out 3
         go_wp2
         repeat (go_quiet (fail); try go_wp2)
         go_ret
         exact ⟨er_, by exact bl_⟩
       ·replace c30 := Bool.eq_false_iff.mpr c30
        subst c30
        rw [if_neg (show ¬ (false = true) by decide)] at H
        obtain rfl := Option.some.inj H
        have hcz36_0 : wr.cell? ⟨gb110, 0, none⟩ = some (.int .i64 a0_0) := bc_ BK110 0
        have hcz36_1 : wr.cell? ⟨gb110, 1, none⟩ = some (.slice A0_1 l0_1.length c0_1) := bc_ BK110 1
        have hcz36_2 : wr.cell? ⟨gb110, 2, none⟩ = some (.slice A0_2 l0_2.length c0_2) := bc_ BK110 2
        have hcz36_3 : wr.cell? ⟨gb110, 3, none⟩ = some (.slice A0_3 l0_3.length c0_3) := bc_ BK110 3
        have hfz36_0 := blk_frozen BK110.out 0
        have hfz36_1 := blk_frozen BK110.out 1
        have hfz36_2 := blk_frozen BK110.out 2
        have hfz36_3 := blk_frozen BK110.out 3
        go_wp2
        repeat (go_quiet (fail); try go_wp2)
        go_ret
        exact ⟨er_, by exact bl_⟩
      ·rw [if_neg c29] at H
       have c29b0 : (a0_0 == 1) = false := beq_eq_false_iff_ne.mpr c29
       have c29b1 : (a0_0 != 1) = true := bne_iff_ne.mpr c29
       by_cases c37 : a0_0 = 2
       ·rw [if_pos c37] at H
        have c37b0 : (a0_0 == 2) = true := beq_iff_eq.mpr c37
        have c37b1 : (a0_0 != 2) = false := bne_eq_false_iff_eq.mpr c37
        clear c37
        by_cases c38 : x3_2 = true
        ·subst c38
         rw [if_pos rfl] at H
         by_cases c39 : (l0_3.length : Int) = (l0_1.length : Int)
         ·rw [if_pos c39] at H
          have c39b0 : ((l0_3.length : Int) == (l0_1.length : Int)) = true := beq_iff_eq.mpr c39
          have c39b1 : ((l0_3.length : Int) != (l0_1.length : Int)) = false := bne_eq_false_iff_eq.mpr c39
          have c39b2 : (l0_3.length == l0_1.length) = true := by first | simpa using c39 | (simp at c39 ⊢; omega)
          clear c39
          by_cases c40 : (l0_2.length : Int) = 0
          ·rw [if_pos c40] at H
           have c40b0 : ((l0_2.length : Int) == 0) = true := beq_iff_eq.mpr c40
           have c40b1 : ((l0_2.length : Int) != 0) = false := bne_eq_false_iff_eq.mpr c40
           clear c40
           by_cases c41 : ((l0_1.length : Int) > 0)
           ·rw [if_pos c41] at H
            have c41b0 : decide (0 < (l0_1.length : Int)) = true := decide_eq_true c41
            have c41b1 : decide (0 < l0_1.length) = true := decide_eq_true om_
            clear c41
            obtain rfl := Option.some.inj H
            have hcz42_0 : wr.cell? ⟨gb110, 0, none⟩ = some (.int .i64 a0_0) := bc_ BK110 0
            have hcz42_1 : wr.cell? ⟨gb110, 1, none⟩ = some (.slice A0_1 l0_1.length c0_1) := bc_ BK110 1
            have hcz42_2 : wr.cell? ⟨gb110, 2, none⟩ = some (.slice A0_2 l0_2.length c0_2) := bc_ BK110 2
            have hcz42_3 : wr.cell? ⟨gb110, 3, none⟩ = some (.slice A0_3 l0_3.length c0_3) := bc_ BK110 3
            have hfz42_0 := blk_frozen BK110.out 0
            have hfz42_1 := blk_frozen BK110.out 1
            have hfz42_2 := blk_frozen BK110.out 2
            have hfz42_3 := blk_frozen BK110.out 3
            go_wp2
            repeat (go_quiet (fail); try go_wp2)
            go_ret
            exact ⟨er_, by exact bl_⟩
           ·rw [if_neg c41] at H
            have c41b0 : decide (0 < (l0_1.length : Int)) = false := decide_eq_false c41
            have c41b1 : decide (0 < l0_1.length) = false := decide_eq_false om_
            clear c41
            obtain rfl := Option.some.inj H
            have hcz43_0 : wr.cell? ⟨gb110, 0, none⟩ = some (.int .i64 a0_0) := bc_ BK110 0
            have hcz43_1 : wr.cell? ⟨gb110, 1, none⟩ = some (.slice A0_1 l0_1.length c0_1) := bc_ BK110 1
            have hcz43_2 : wr.cell? ⟨gb110, 2, none⟩ = some (.slice A0_2 l0_2.length c0_2) := bc_ BK110 2
            have hcz43_3 : wr.cell? ⟨gb110, 3, none⟩ = some (.slice A0_3 l0_3.length c0_3) := bc_ BK110 3
            have hfz43_0 := blk_frozen BK110.out 0
            have hfz43_1 := blk_frozen BK110.out 1
            have hfz43_2 := blk_frozen BK110.out 2
            have hfz43_3 := blk_frozen BK110.out 3
            go_wp2
            repeat (go_quiet (fail); try go_wp2)
            go_ret
            exact ⟨er_, by exact bl_⟩
          ·rw [if_neg c40] at H
           have c40b0 : ((l0_2.length : Int) == 0) = false := beq_eq_false_iff_ne.mpr c40
           have c40b1 : ((l0_2.length : Int) != 0) = true := bne_iff_ne.mpr c40
           have c40b2 : ¬ (l0_2 = []) := fun h_ => c40 (by rw [h_]; rfl)
           obtain rfl := Option.some.inj H
           have hcz44_0 : wr.cell? ⟨gb110, 0, none⟩ = some (.int .i64 a0_0) := bc_ BK110 0
           have hcz44_1 : wr.cell? ⟨gb110, 1, none⟩ = some (.slice A0_1 l0_1.length c0_1) := bc_ BK110 1
           have hcz44_2 : wr.cell? ⟨gb110, 2, none⟩ = some (.slice A0_2 l0_2.length c0_2) := bc_ BK110 2
           have hcz44_3 : wr.cell? ⟨gb110, 3, none⟩ = some (.slice A0_3 l0_3.length c0_3) := bc_ BK110 3
           have hfz44_0 := blk_frozen BK110.out 0
           have hfz44_1 := blk_frozen BK110.out 1
           have hfz44_2 := blk_frozen BK110.out 2
           have hfz44_3 := blk_frozen BK110.out 3
           go_wp2
           repeat (go_quiet (fail); try go_wp2)
           go_ret
           exact ⟨er_, by exact bl_⟩
         ·rw [if_neg c39] at H
          have c39b0 : ((l0_3.length : Int) == (l0_1.length : Int)) = false := beq_eq_false_iff_ne.mpr c39
          have c39b1 : ((l0_3.length : Int) != (l0_1.length : Int)) = true := bne_iff_ne.mpr c39
          have c39b2 : (l0_3.length == l0_1.length) = false := by first | simpa using c39 | (simp at c39 ⊢; omega)
          obtain rfl := Option.some.inj H
          have hcz45_0 : wr.cell? ⟨gb110, 0, none⟩ = some (.int .i64 a0_0) := bc_ BK110 0
          have hcz45_1 : wr.cell? ⟨gb110, 1, none⟩ = some (.slice A0_1 l0_1.length c0_1) := bc_ BK110 1
          have hcz45_2 : wr.cell? ⟨gb110, 2, none⟩ = some (.slice A0_2 l0_2.length c0_2) := bc_ BK110 2
          have hcz45_3 : wr.cell? ⟨gb110, 3, none⟩ = some (.slice A0_3 l0_3.length c0_3) := bc_ BK110 3
          have hfz45_0 := blk_frozen BK110.out 0
          have hfz45_1 := blk_frozen BK110.out 1
          have hfz45_2 := blk_frozen BK110.out 2
          have hfz45_3 := blk_frozen BK110.out 3
          go_wp2
          repeat (go_quiet (fail); try go_wp2)
          go_ret
          exact ⟨er_, by exact bl_⟩
        ·replace c38 := Bool.eq_false_iff.mpr c38
         subst c38
         rw [if_neg (show ¬ (false = true) by decide)] at H
         obtain rfl := Option.some.inj H
         have hcz46_0 : wr.cell? ⟨gb110, 0, none⟩ = some (.int .i64 a0_0) := bc_ BK110 0
         have hcz46_1 : wr.cell? ⟨gb110, 1, none⟩ = some (.slice A0_1 l0_1.length c0_1) := bc_ BK110 1
         have hcz46_2 : wr.cell? ⟨gb110, 2, none⟩ = some (.slice A0_2 l0_2.length c0_2) := bc_ BK110 2
         have hcz46_3 : wr.cell? ⟨gb110, 3, none⟩ = some (.slice A0_3 l0_3.length c0_3) := bc_ BK110 3
         have hfz46_0 := blk_frozen BK110.out 0
         have hfz46_1 := blk_frozen BK110.out 1
         have hfz46_2 := blk_frozen BK110.out 2
         have hfz46_3 := blk_frozen BK110.out 3
         go_wp2
         repeat (go_quiet (fail); try go_wp2)
         go_ret
         exact ⟨er_, by exact bl_⟩
       ·rw [if_neg c37] at H
        have c37b0 : (a0_0 == 2) = false := beq_eq_false_iff_ne.mpr c37
        have c37b1 : (a0_0 != 2) = true := bne_iff_ne.mpr c37
        obtain rfl := Option.some.inj H
        have hcz47_0 : wr.cell? ⟨gb110, 0, none⟩ = some (.int .i64 a0_0) := bc_ BK110 0
        have hcz47_1 : wr.cell? ⟨gb110, 1, none⟩ = some (.slice A0_1 l0_1.length c0_1) := bc_ BK110 1
        have hcz47_2 : wr.cell? ⟨gb110, 2, none⟩ = some (.slice A0_2 l0_2.length c0_2) := bc_ BK110 2
        have hcz47_3 : wr.cell? ⟨gb110, 3, none⟩ = some (.slice A0_3 l0_3.length c0_3) := bc_ BK110 3
        have hfz47_0 := blk_frozen BK110.out 0
        have hfz47_1 := blk_frozen BK110.out 1
        have hfz47_2 := blk_frozen BK110.out 2
        have hfz47_3 := blk_frozen BK110.out 3
        go_wp2
        repeat (go_quiet (fail); try go_wp2)
        go_ret
        exact ⟨er_, by exact bl_⟩

end Go.Proofs.YtendgmblgdkiaaaGreat.PCk

namespace Go.Proofs.YtendgmblgdkiaaaGreat
open Go.RowKit
open Go.Proofs.YtendgmblgdkiaaaGreatW
open PrintWords (Kd rd rdOf)
set_option linter.unusedVariables false
set_option linter.unusedSimpArgs false

def nodeTail (kind : Int) (keys vals : List ByteArray) (kids : List Int) : Bool :=
 if kind = 1 then decide (vals.length = keys.length ∧ kids.length = 0) else if kind = 2 then decide (kids.length = keys.length ∧ vals.length = 0 ∧ 0 < keys.length) else false
theorem drop_two (l : List ByteArray) (i : Nat) (h1 : 1 ≤ i) (h : i < l.length) : l.drop (i - 1) = l.getD (i - 1) ByteArray.empty :: l.drop i := by
 rw [List.drop_eq_getElem_cons (by omega), show i - 1 + 1 = i by omega, List.getD_eq_getElem?_getD, List.getElem?_eq_getElem (by omega)]
 rfl
theorem rising_two (l : List ByteArray) (i : Nat) (h1 : 1 ≤ i) (h : i < l.length) : rising (l.drop (i - 1)) = (blt (l.getD (i - 1) ByteArray.empty) (l.getD i ByteArray.empty) && rising (l.drop i)) := by
 rw [drop_two l i h1 h]
 have e : l.drop i = l.getD i ByteArray.empty :: l.drop (i + 1) := by
  have := drop_two l (i + 1) om_
  rw [List.drop_eq_getElem_cons h, List.getD_eq_getElem?_getD, List.getElem?_eq_getElem h]
  rfl
 rw [e, rising]
theorem rising_end (l : List ByteArray) (i : Nat) (h : l.length ≤ i) : rising (l.drop (i - 1)) = true := by
 have : (l.drop (i - 1)).length ≤ 1 := by simp; omega
 match l.drop (i - 1), this with
 | [], _ => rfl
 | [_], _ => rfl
theorem check_l0 (kind : Int) (keys vals : List ByteArray) (kids : List Int) (hl : keys.length ≤ 9223372036854775807) : ∀ (d k i : Nat) (g : Bool), 1 ≤ i → keys.length - i = d → d < k → i ≤ 9223372036854775807 →
  PCk.node_Node_Check.l0 k g (i : Int) kind keys vals kids = some (if g && rising (keys.drop (i - 1)) && nodeTail kind keys vals kids then 0 else 1)
 | d, 0, _, _, _, _, h, _ => by omega
 | d, k + 1, i, g, h1, hd, hk, hi => by
  unfold PCk.node_Node_Check.l0
  by_cases hlt : i < keys.length
  ·have e1 : wrap64 ((i : Int) - 1) = ((i - 1 : Nat) : Int) := by unfold wrap64; omega
   have e2 : wrap64 ((i : Int) + 1) = ((i + 1 : Nat) : Int) := by unfold wrap64; omega
   obtain ⟨d, rfl⟩ : ∃ e, d = e + 1 := ⟨d - 1, by omega⟩
   rw [if_pos (by omega), e1, e2]
   cases g with
   | false =>
    rw [if_neg (by simp), check_l0 kind keys vals kids hl d k (i + 1) false (by omega) (by omega) (by omega) (by omega)]
    simp
   | true =>
    rw [if_pos rfl, if_pos (by omega), if_pos (by omega), if_pos (by omega), check_l0 kind keys vals kids hl d k (i + 1) _ (by omega) (by omega) (by omega) (by omega)]
    rw [rising_two keys i h1 hlt]
    rfl
  ·rw [if_neg (by omega), rising_end keys i (by omega)]
   unfold nodeTail
   by_cases h1 : kind = 1
   ·rw [if_pos h1, if_pos h1]
    cases g
    ·simp
    ·by_cases h2 : (vals.length : Int) = keys.length
     ·by_cases h3 : kids.length = 0
      ·rw [if_pos rfl, if_pos h2, if_pos (by omega)]; simp [h3, show vals.length = keys.length by omega]
      ·rw [if_pos rfl, if_pos h2, if_neg (by omega)]; simp [h3]
     ·rw [if_pos rfl, if_neg h2]; simp [show vals.length ≠ keys.length by omega]
   ·rw [if_neg h1, if_neg h1]
    by_cases h2 : kind = 2
    ·rw [if_pos h2, if_pos h2]
     cases g
     ·simp
     ·by_cases h3 : (kids.length : Int) = keys.length
      ·by_cases h4 : vals.length = 0
       ·by_cases h5 : 0 < keys.length
        ·rw [if_pos rfl, if_pos h3, if_pos (by omega), if_pos (by omega)]; simp [h4, h5, show kids.length = keys.length by omega]
        ·rw [if_pos rfl, if_pos h3, if_pos (by omega), if_neg (by omega)]; simp [h5]
       ·rw [if_pos rfl, if_pos h3, if_neg (by omega)]; simp [h4]
      ·rw [if_pos rfl, if_neg h3]; simp [show kids.length ≠ keys.length by omega]
    ·rw [if_neg h2, if_neg h2]; simp
theorem check_plain (kind : Int) (keys vals : List ByteArray) (kids : List Int) (hl : keys.length ≤ 9223372036854775807) : ∃ k, PCk.node_Node_Check.f k kind keys vals kids = some (if nodeOk kind keys vals kids then 0 else 1) := by
 have hj : ∀ g, PCk.node_Node_Check.j0 (keys.length + 2) g kind keys vals kids = some (if g && rising keys && nodeTail kind keys vals kids then 0 else 1) := fun g => by
  unfold PCk.node_Node_Check.j0
  exact check_l0 kind keys vals kids hl _ _ 1 g om_ rfl om_ om_
 refine ⟨keys.length + 2, ?_⟩
 unfold PCk.node_Node_Check.f PCk.slices_ContainsFunc_string_string.f PCk.slices_IndexFunc_string_string.f PCk.slices_ContainsFunc_int_int.f nodeOk
 simp only [Option.bind_some, hj]
 have e : nodeTail kind keys vals kids = (if kind = 1 then decide (vals.length = keys.length ∧ kids.length = 0) else if kind = 2 then decide (kids.length = keys.length ∧ vals.length = 0 ∧ 0 < keys.length) else false) := rfl
 rw [← e]
 cases keys.all keyOk <;> cases vals.all valOk <;> simp

theorem node_Check (kind : Int) (A1 : Option Addr) (c1 : Nat) (keys : List ByteArray) (A2 : Option Addr) (c2 : Nat) (vals : List ByteArray) (A3 : Option Addr) (c3 : Nat) (kids : List Int) (r : Int) (w : World)
  (h1 : Kd.C Kd.string w A1 keys.length keys) (k1 : keys.length ≤ c1) (h2 : Kd.C Kd.string w A2 vals.length vals) (k2 : vals.length ≤ c2) (h3 : Kd.C (Kd.int .i64) w A3 kids.length kids) (k3 : kids.length ≤ c3) (hr : (if nodeOk kind keys vals kids then 0 else 1) = r) :
  Calls Tryz.prog 98 #[.agg #[.int .i64 kind, .slice A1 keys.length c1, .slice A2 vals.length c2, .slice A3 kids.length c3]] w fun e w' => e = .returned (.int .i64 r) ∧ Below w.heap.size w w' := by
 obtain ⟨k, hk⟩ := check_plain kind keys vals kids h1.2.1
 rw [hr] at hk
 exact PCk.node_Node_Check.calls k kind A1 c1 keys A2 c2 vals A3 c3 kids r w h1 k1 h2 k2 h3 k3 hk
end Go.Proofs.YtendgmblgdkiaaaGreat
