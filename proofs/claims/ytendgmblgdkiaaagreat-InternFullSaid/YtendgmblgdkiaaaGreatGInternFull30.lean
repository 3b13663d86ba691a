/- written for this seat by its own program (doctor.sh) with the kit's printer What the printed functions on numbers, texts and entries answer, in plain words. What was packed is parsed: plain. A packed node is parsed: plain. The number at the head of bytes: the code's scan and the reference's Head say -/
import Derived.Test.YtendgmblgdkiaaaGreatGInternFull0
import Derived.Test.YtendgmblgdkiaaaGreatProg
import Derived.Below
import Derived.Deep.Draws
import Derived.Deep.AppendLies
import Derived.Maps.AppendAt
import Derived.OwnWalk
import Derived.Laws.BytesArg
import Derived.Laws.MakeOwn
import Derived.Laws.OwnMore
import Derived.Deep.OwnRows
import Derived.Tactics
import Derived.Lib.ConvBytes
import Derived.Laws.Slices
import Derived.WalkKit
import Derived.KernelRfl
import Derived.RowKit3
import Derived.Deep.LoopGhost
import Derived.Deep.QuietTactic
import Derived.BigQuiet
import Derived.WideLaws
import Derived.Deep.DeepCutAuto
import Derived.Deep.CutBlock
import Derived.Deep.RegionHeld3
import Derived.Laws.Rows
import Derived.Lib.AppendStr
import Derived.ArgAppend
import Derived.Laws.IdiomCopy
import Derived.OrdersHeld
import Derived.Laws.BitsLemmas
import Derived.RowKit
import Derived.Test.YtendgmblgdkiaaaGreatGInternFull13
import Derived.Test.YtendgmblgdkiaaaGreatGInternFull4
import Derived.Test.YtendgmblgdkiaaaGreatGInternFull16
import Derived.Test.YtendgmblgdkiaaaGreatGInternFull14
import Derived.Test.YtendgmblgdkiaaaGreatGInternFull5
import Derived.Test.YtendgmblgdkiaaaGreatGInternFull25
import Derived.Test.YtendgmblgdkiaaaGreatGInternFull27
import Derived.Test.YtendgmblgdkiaaaGreatGInternFull29
import Derived.WalkSpells
import Derived.Outline
import Derived.Test.YtendgmblgdkiaaaGreatGInternFull18
import Derived.Test.YtendgmblgdkiaaaGreatGInternFull19
namespace Go.Proofs.YtendgmblgdkiaaaGreat.PNd
open Go.RowKit Go.Proofs.YtendgmblgdkiaaaGreatW.PrintWords Go.Proofs.YtendgmblgdkiaaaGreatW.PrintLast Go.Proofs.YtendgmblgdkiaaaGreatW.PrintMore
attribute [local go_sem] max2_int min2_int max_two min_two
set_option linter.unusedVariables false
set_option linter.unusedSimpArgs false



def errW : Option Int → Value
 | none => .nilIface
 | some c => .iface 0 (.int .i64 c)
theorem errW_none : errW none = .nilIface := rfl
theorem errW_some (c : Int) : errW (some c) = .iface 0 (.int .i64 c) := rfl

theorem info3 : (Tryz.prog.info? 3).map (fun i => (i.zero, i.size, i.bytes)) = some (some (.int .i64 0), 1, 8) := by kernel_rfl
theorem info5 : (Tryz.prog.info? 5).map (fun i => (i.zero, i.size, i.bytes)) = some (some (.int .u8 0), 1, 1) := by kernel_rfl
theorem info9 : (Tryz.prog.info? 9).map (fun i => (i.zero, i.size, i.bytes)) = some (some (.string ⟨#[]⟩), 1, 16) := by kernel_rfl
-- the values' own types
/-! #### struct type 65 -/
end Go.Proofs.YtendgmblgdkiaaaGreat.PNd

namespace Go.Proofs.YtendgmblgdkiaaaGreat.PNd
open Go.RowKit Go.Proofs.YtendgmblgdkiaaaGreatW.PrintWords Go.Proofs.YtendgmblgdkiaaaGreatW.PrintLast Go.Proofs.YtendgmblgdkiaaaGreatW.PrintMore
attribute [local go_sem] max2_int min2_int max_two min_two
set_option linter.unusedVariables false
set_option linter.unusedSimpArgs false

/-! ### varint_Num: function 118 -/
def varint_Num.l0 : Nat → Int → List Int → Option (ByteArray)
 | 0, _, _ => none
 | k + 1, x0, x3 => if x0 ≥ 128 then (if x3.length < 140737488355328 then (varint_Num.l0 k (x0 / 128) (x3 ++ [Go.bits .or .u8 ((x0) % 256) 128])) else (none)) else (if x3.length < 140737488355328 then (some (strOfNums (x3 ++ [(x0) % 256]))) else (none))
def varint_Num.f (k : Nat) (a0 : Int) : Option (ByteArray) := varint_Num.l0 k a0 ([] : List Int)
theorem varint_Num.mono_l : ∀ k, (∀ y0 y1, LeO (varint_Num.l0 k y0 y1) (varint_Num.l0 (k + 1) y0 y1))
 | 0 => fun _ _ r h => by simp [varint_Num.l0] at h
 | k + 1 => by
  have ih0 := varint_Num.mono_l k
  ·intro y0 y1
   unfold varint_Num.l0
   repeat' first
   | (with_reducible exact ih0 _ _)
   | (with_reducible exact LeO.refl _)
   | (with_reducible exact LeO.none _)
   | (with_reducible refine LeO.ite ?_ ?_)
   | (with_reducible refine LeO.bind ?_ (fun _ => ?_))
   | exact ih0 _ _
   | exact LeO.none _
   | refine LeO.ite ?_ ?_
   | refine LeO.bind ?_ (fun _ => ?_)
theorem varint_Num.mono : ∀ a0 k, LeO (varint_Num.f k a0) (varint_Num.f (k + 1) a0) := by
 intro a0 k
 have ih0 := varint_Num.mono_l k
 unfold varint_Num.f
 repeat' first
   | (with_reducible exact ih0 _ _)
   | (with_reducible exact LeO.refl _)
   | (with_reducible exact LeO.none _)
   | (with_reducible refine LeO.ite ?_ ?_)
   | (with_reducible refine LeO.bind ?_ (fun _ => ?_))
   | exact ih0 _ _
   | exact LeO.none _
   | refine LeO.ite ?_ ?_
   | refine LeO.bind ?_ (fun _ => ?_)
set_option maxHeartbeats 8000000 in
set_option maxRecDepth 100000 in
theorem varint_Num.calls (k : Nat) (a0 : Int) (r : ByteArray) (w : World) (h : varint_Num.f k a0 = some r) :
  Calls Tryz.prog 118 #[.int .u64 a0] w fun e w' => e = .returned (.string r) ∧ Below w.heap.size w w' := by
 have HB := am_ (Below.refl w.heap.size w)
 have H : (varint_Num.l0 k a0 ([] : List Int)) = some r := h
 clear h
 have H' := am_ H
 clear H
 go_enter Tryz.func118, Tryz.ntmps118
 go_wp2
 go_loopg [0, 3] k (fun kq v0 v3 w' => ∃ (x0_1 : Int) (x3_1 : List Int), v0 = .int .u64 x0_1 ∧ Aside0 (varint_Num.l0 kq x0_1 x3_1 = some r) ∧ Aside0 (kq ≤ k) ∧ Aside0 (Kd.R (Kd.int .u8) 5 w' w.heap.size (fun _ => True) v3 x3_1) ∧ Aside0 (Below w.heap.size w w'))
 case atStart => exact ⟨(a0), (([] : List Int)), eq_, H', ⟨Nat.le_refl _⟩, ⟨ni_⟩, ⟨by exact bl_⟩⟩
 case round =>
  clear H'
  obtain ⟨x0_1, x3_1, rfl, HA, HK1, HO_3, HB⟩ := hrel
  cases gk with
  | zero => exact absurd HA.out (by simp [varint_Num.l0])
  | succ k1 =>
   have H := HA.out
   clear HA
   simp only [varint_Num.l0] at H
   by_cases c2 : x0_1 ≥ 128
   ·rw [if_pos c2] at H
    have c2b0 : decide (128 ≤ x0_1) = true := decide_eq_true c2
    clear c2
    by_cases c3 : x3_1.length < 140737488355328
    ·rw [if_pos c3] at H
     have LMc3 := am_ c3
     clear c3
     obtain ⟨y167, hy167⟩ : ∃ y_ : List Int, y_ = (x3_1 ++ [Go.bits .or .u8 ((x0_1) % 256) 128]) := ⟨_, rfl⟩
     (first | rw [Option.bind_some, ← hy167] at H | rw [← hy167] at H | skip); try dsimp only at H
     have Ny167 := am_ hy167
     clear hy167
     have H' := am_ H
     clear H
     go_wp2_with (first | ((with_reducible refine gate_builtin (b := .append) (xs := #[.tmp 6, .tmp 10]) rfl ?_); at_builtin; refine Kd.R_append (Kd.int .u8) (w0 := w) w.heap.size rfl (.tmp 6) (.tmp 10) 55 5 (.int .u8 0) 1 rfl Tryz.underlying55 info5 rfl (by decide) om_ u3 x3_1 (Go.bits .or .u8 ((x0_1) % 256) 128) [.int .u8 (Go.bits .or .u8 ((x0_1) % 256) 128)] (fun _ => True) (fun _ => False) rfl rfl ?aP (fun _ hk => hk.elim) ?aF ?aO ?aB ?aS ?aL ?_; (case aP => exact rfl); (case aB => exact bl_); (case aF => exact (fun _ _ => trivial)); (case aO => exact (rx_ HO_3)); (case aS => exact (below_size bl_)); (case aL => have := LMc3.out; omega); intro v168 w4 ho hb hg hat; rw [← Ny167.out] at ho; have HO169 := am_ (ho); replace HB := am_ (hb); clear HO_3; clear ho hb hg hat))
     go_roundg k1
     case measure => have := HK1.out; omega
     case rel => exact ⟨(x0_1 / 128), (y167), eq_, H', ⟨by have := HK1.out; omega⟩, ⟨rx_ HO169⟩, ⟨by exact bl_⟩⟩
    ·rw [if_neg c3] at H
     exact absurd H (by simp)
   ·rw [if_neg c2] at H
    have c2b0 : decide (128 ≤ x0_1) = false := decide_eq_false c2
    clear c2
    by_cases c5 : x3_1.length < 140737488355328
    ·rw [if_pos c5] at H
     have LMc5 := am_ c5
     clear c5
     obtain ⟨y170, hy170⟩ : ∃ y_ : List Int, y_ = (x3_1 ++ [(x0_1) % 256]) := ⟨_, rfl⟩
     (first | rw [Option.bind_some, ← hy170] at H | rw [← hy170] at H | skip); try dsimp only at H
     have Ny170 := am_ hy170
     clear hy170
     obtain rfl := Option.some.inj H
     go_wp2_with (first | ((with_reducible refine gate_builtin (b := .append) (xs := #[.tmp 14, .tmp 17]) rfl ?_); at_builtin; refine Kd.R_append (Kd.int .u8) (w0 := w) w.heap.size rfl (.tmp 14) (.tmp 17) 55 5 (.int .u8 0) 1 rfl Tryz.underlying55 info5 rfl (by decide) om_ u3 x3_1 ((x0_1) % 256) [.int .u8 ((x0_1) % 256)] (fun _ => True) (fun _ => False) rfl rfl ?aP (fun _ hk => hk.elim) ?aF ?aO ?aB ?aS ?aL ?_; (case aP => exact rfl); (case aB => exact bl_); (case aF => exact (fun _ _ => trivial)); (case aO => exact (rx_ HO_3)); (case aS => exact (below_size bl_)); (case aL => have := LMc5.out; omega); intro v171 w6 ho hb hg hat; rw [← Ny170.out] at ho; have HO172 := am_ (ho); replace HB := am_ (hb); clear HO_3; clear ho hb hg hat; have hcv7 := own_string (P := Tryz.prog) Tryz.underlying55 Tryz.underlying5 Tryz.underlying9 (Kd.own_of_R HO172.out)))
     go_ret
     exact ⟨er_, by exact bl_⟩
    ·rw [if_neg c5] at H
     exact absurd H (by simp)

/-! ### varint_Text: function 205 -/
def varint_Text.f (k : Nat) (a0 : ByteArray) : Option (ByteArray) := (varint_Num.f k (IntKind.u64.wrap ((a0.size : Int)))).bind fun t173 => (if t173.size + a0.size ≤ 9223372036854775807 then (some (t173 ++ a0)) else (none))
theorem varint_Text.mono : ∀ a0 k, LeO (varint_Text.f k a0) (varint_Text.f (k + 1) a0) := by
 intro a0 k
 unfold varint_Text.f
 repeat' first
   | (with_reducible exact varint_Num.mono _ _)
   | (with_reducible exact LeO.refl _)
   | (with_reducible exact LeO.none _)
   | (with_reducible refine LeO.ite ?_ ?_)
   | (with_reducible refine LeO.bind ?_ (fun _ => ?_))
   | exact varint_Num.mono _ _
   | exact LeO.none _
   | refine LeO.ite ?_ ?_
   | refine LeO.bind ?_ (fun _ => ?_)
set_option maxHeartbeats 8000000 in
set_option maxRecDepth 100000 in
theorem varint_Text.calls (k : Nat) (a0 : ByteArray) (r : ByteArray) (w : World) (h : varint_Text.f k a0 = some r) :
  Calls Tryz.prog 205 #[.string a0] w fun e w' => e = .returned (.string r) ∧ Below w.heap.size w w' := by
 have HB := am_ (Below.refl w.heap.size w)
 have H : ((varint_Num.f k (IntKind.u64.wrap ((a0.size : Int)))).bind fun t173 => (if t173.size + a0.size ≤ 9223372036854775807 then (some (t173 ++ a0)) else (none))) = some r := h
 clear h
 obtain ⟨t173, A2, H⟩ := bi_ H
 try dsimp only at H
 by_cases c3 : t173.size + a0.size ≤ 9223372036854775807
 ·rw [if_pos c3] at H
  have c3b0 := eq_true c3
  have c3b1 : decide (t173.size + a0.size ≤ 9223372036854775807) = true := decide_eq_true c3
  try have c3b2 : (9223372036854775807 < t173.size + a0.size) = False := eq_false (Nat.not_lt.2 c3)
  obtain rfl := Option.some.inj H
  have hz_ : IntKind.u64.wrap ((a0.size : Int)) = (a0.size : Int) := by show (a0.size : Int) % 18446744073709551616 = _; omega
  rw [hz_] at A2
  clear hz_
  go_enter Tryz.func205, Tryz.ntmps205
  go_wp2_with (first | ((with_reducible refine gate_callee (f := 118) rfl ?_); refine goesL_ (some 6) rfl rfl Tryz.func118 kr_ rfl #[.int .u64 (a0.size : Int)] rfl ar_ ?_; (with_reducible refine (varint_Num.calls k (a0.size : Int) t173 _ A2.out).mono ?_); rintro e w4 ⟨rfl, hb⟩; refine ⟨_, rfl, ?_⟩; replace HB := am_ (below_step bl_ hb); (try clear hb); (try clear hb2); (try clear hk); (try clear hi)))
  go_ret
  exact ⟨er_, by exact bl_⟩
 ·rw [if_neg c3] at H
  exact absurd H (by simp)

/-! ### node_Node_entry: function 173 -/
def node_Node_entry.f (k : Nat) (a0_0 : Int) (l0_1 : List ByteArray) (l0_2 : List ByteArray) (l0_3 : List Int) (a1 : Int) : Option (ByteArray) := if a0_0 = 1 then (if 0 ≤ a1 then (if a1 < (l0_1.length : Int) then ((varint_Text.f k (rdOf ByteArray.empty l0_1 a1)).bind fun t176 => (if a1 < (l0_2.length : Int) then ((varint_Text.f k (rdOf ByteArray.empty l0_2 a1)).bind fun t178 => (if t176.size + t178.size ≤ 9223372036854775807 then (some (t176 ++ t178)) else (none))) else (none))) else (none)) else (none)) else (if 0 ≤ a1 then (if a1 < (l0_1.length : Int) then ((varint_Text.f k (rdOf ByteArray.empty l0_1 a1)).bind fun t180 => (if a1 < (l0_3.length : Int) then ((varint_Num.f k (IntKind.u64.wrap (rd l0_3 a1))).bind fun t182 => (if t180.size + t182.size ≤ 9223372036854775807 then (some (t180 ++ t182)) else (none))) else (none))) else (none)) else (none))
theorem node_Node_entry.mono : ∀ a0 a1 a2 a3 a4 k, LeO (node_Node_entry.f k a0 a1 a2 a3 a4) (node_Node_entry.f (k + 1) a0 a1 a2 a3 a4) := by
 intro a0 a1 a2 a3 a4 k
 unfold node_Node_entry.f
 repeat' first
   | (with_reducible exact varint_Num.mono _ _)
   | (with_reducible exact varint_Text.mono _ _)
   | (with_reducible exact LeO.refl _)
   | (with_reducible exact LeO.none _)
   | (with_reducible refine LeO.ite ?_ ?_)
   | (with_reducible refine LeO.bind ?_ (fun _ => ?_))
   | exact varint_Num.mono _ _
   | exact varint_Text.mono _ _
   | exact LeO.none _
   | refine LeO.ite ?_ ?_
   | refine LeO.bind ?_ (fun _ => ?_)
def node_Node_entry.T2 : Bool × List (List Nat × List Nat) := (true, [([], []), ([0], [0]), ([], []), ([1, 2], [1, 2]), ([3], [3]), ([4], [4]), ([], []), ([6], [6]), ([], []), ([7, 8], [7, 8]), ([9], [9]), ([10, 5], [10]), ([5, 11], [5, 11]), ([12, 11, 0, 1, 2, 3, 4, 5, 6, 7, 8, 9, 10, 11, 12], [12])])
def node_Node_entry.B2 : List Nat := [0, 1, 0, 7, 15, 31, 0, 64, 0, 448, 960, 2047, 4095, 8191]
theorem node_Node_entry.tab2 : rtab .any (opsOf Tryz.f173 2) = node_Node_entry.T2 := by kernel_rfl
theorem node_Node_entry.bits2 : waitsOk node_Node_entry.T2.2 node_Node_entry.B2 = true := by kernel_rfl
def node_Node_entry.T3 : Bool × List (List Nat × List Nat) := (true, [([], []), ([0], [0]), ([], []), ([1, 2], [1, 2]), ([3], [3]), ([4], [4]), ([], []), ([6], [6]), ([], []), ([7, 8], [7, 8]), ([9], [9]), ([10], [10]), ([11, 5], [11]), ([5, 12], [5, 12]), ([13, 12, 0, 1, 2, 3, 4, 5, 6, 7, 8, 9, 10, 11, 12, 13], [13])])
def node_Node_entry.B3 : List Nat := [0, 1, 0, 7, 15, 31, 0, 64, 0, 448, 960, 1984, 4095, 8191, 16383]
theorem node_Node_entry.tab3 : rtab .any (opsOf Tryz.f173 3) = node_Node_entry.T3 := by kernel_rfl
theorem node_Node_entry.bits3 : waitsOk node_Node_entry.T3.2 node_Node_entry.B3 = true := by kernel_rfl
set_option maxHeartbeats 8000000 in
set_option maxRecDepth 100000 in
theorem node_Node_entry.calls (k : Nat) (a0_0 : Int) (A0_1 : Option Addr) (c0_1 : Nat) (l0_1 : List ByteArray) (A0_2 : Option Addr) (c0_2 : Nat) (l0_2 : List ByteArray) (A0_3 : Option Addr) (c0_3 : Nat) (l0_3 : List Int) (a1 : Int) (r : ByteArray) (w : World) (hr0_1 : Kd.C Kd.string w A0_1 l0_1.length l0_1) (hc0_1 : l0_1.length ≤ c0_1) (hr0_2 : Kd.C Kd.string w A0_2 l0_2.length l0_2) (hc0_2 : l0_2.length ≤ c0_2) (hr0_3 : Kd.C (Kd.int .i64) w A0_3 l0_3.length l0_3) (hc0_3 : l0_3.length ≤ c0_3) (h : node_Node_entry.f k a0_0 l0_1 l0_2 l0_3 a1 = some r) :
  Calls Tryz.prog 173 #[.agg #[.int .i64 a0_0, .slice A0_1 l0_1.length c0_1, .slice A0_2 l0_2.length c0_2, .slice A0_3 l0_3.length c0_3], .int .i64 a1] w fun e w' => e = .returned (.string r) ∧ Below w.heap.size w w' := by
 have hu149 := Tryz.underlying149
 have HR0_1 := am_ hr0_1
 have HC0_1 := am_ hc0_1
 clear hr0_1 hc0_1
 have HR0_2 := am_ hr0_2
 have HC0_2 := am_ hc0_2
 clear hr0_2 hc0_2
 have HR0_3 := am_ hr0_3
 have HC0_3 := am_ hc0_3
 clear hr0_3 hc0_3
 have HB := am_ (Below.refl w.heap.size w)
 have H : (if a0_0 = 1 then (if 0 ≤ a1 then (if a1 < (l0_1.length : Int) then ((varint_Text.f k (rdOf ByteArray.empty l0_1 a1)).bind fun t176 => (if a1 < (l0_2.length : Int) then ((varint_Text.f k (rdOf ByteArray.empty l0_2 a1)).bind fun t178 => (if t176.size + t178.size ≤ 9223372036854775807 then (some (t176 ++ t178)) else (none))) else (none))) else (none)) else (none)) else (if 0 ≤ a1 then (if a1 < (l0_1.length : Int) then ((varint_Text.f k (rdOf ByteArray.empty l0_1 a1)).bind fun t180 => (if a1 < (l0_3.length : Int) then ((varint_Num.f k (IntKind.u64.wrap (rd l0_3 a1))).bind fun t182 => (if t180.size + t182.size ≤ 9223372036854775807 then (some (t180 ++ t182)) else (none))) else (none))) else (none)) else (none))) = some r := h
 clear h
 by_cases c3 : a0_0 = 1
 ·rw [if_pos c3] at H
  have c3b0 : (a0_0 == 1) = true := beq_iff_eq.mpr c3
  have c3b1 : (a0_0 != 1) = false := bne_eq_false_iff_eq.mpr c3
  clear c3
  by_cases c4 : 0 ≤ a1
  ·rw [if_pos c4] at H
   have c4b0 : decide (0 ≤ a1) = true := decide_eq_true c4
   clear c4
   by_cases c5 : a1 < (l0_1.length : Int)
   ·rw [if_pos c5] at H
    have c5b0 : decide (a1 < (l0_1.length : Int)) = true := decide_eq_true c5
    clear c5
    obtain ⟨t176, A6, H⟩ := bi_ H
    try dsimp only at H
    by_cases c7 : a1 < (l0_2.length : Int)
    ·rw [if_pos c7] at H
     have c7b0 : decide (a1 < (l0_2.length : Int)) = true := decide_eq_true c7
     clear c7
     obtain ⟨t178, A8, H⟩ := bi_ H
     try dsimp only at H
     by_cases c9 : t176.size + t178.size ≤ 9223372036854775807
     ·rw [if_pos c9] at H
      have c9b0 := eq_true c9
      have c9b1 : decide (t176.size + t178.size ≤ 9223372036854775807) = true := decide_eq_true c9
      try have c9b2 : (9223372036854775807 < t176.size + t178.size) = False := eq_false (Nat.not_lt.2 c9)
      obtain rfl := Option.some.inj H
      go_enter Tryz.func173, Tryz.ntmps173
      try go_wp2_with (first | ((with_reducible refine gate_dst (N := 2) rfl ?_); refine be_ (N := 2) (cs := #[.int .i64 a0_0, .slice A0_1 l0_1.length c0_1, .slice A0_2 l0_2.length c0_2, .slice A0_3 l0_3.length c0_3]) (t := 149) ?_; intro gb174 hg w10 hbox hb; have BK174 := am_ (hbox); have GW174 := am_ ((sz_ hg : w.heap.size ≤ gb174)); have GE174 := am_ ((sz_ hg : w.heap.size ≤ gb174)); replace HB := am_ (below_step bl_ hb); clear hb hbox hg; have hcz11_0 : w10.cell? ⟨gb174, 0, none⟩ = some (.int .i64 a0_0) := bc_ BK174 0; have hcz11_1 : w10.cell? ⟨gb174, 1, none⟩ = some (.slice A0_1 l0_1.length c0_1) := bc_ BK174 1; have hcz11_2 : w10.cell? ⟨gb174, 2, none⟩ = some (.slice A0_2 l0_2.length c0_2) := bc_ BK174 2; have hcz11_3 : w10.cell? ⟨gb174, 3, none⟩ = some (.slice A0_3 l0_3.length c0_3) := bc_ BK174 3; have hfz11_0 := blk_frozen BK174.out 0; have hfz11_1 := blk_frozen BK174.out 1; have hfz11_2 := blk_frozen BK174.out 2; have hfz11_3 := blk_frozen BK174.out 3))
      replace BK174 := am_ (blk_drew BK174.out)
      replace HB := am_ (below_drew1 HB.out)
      have p175 : 0 ≤ (a1 : Int) := of_decide_eq_true as_
      have q175 : a1 < (l0_1.length : Int) := of_decide_eq_true as_
      obtain ⟨ad175, e175, hx175_0⟩ := Kd.at_string HR0_1.out a1 p175 q175
      have hw175_0 := hx175_0
      cases e175
      replace hx175_0 := (HB.out.cell (World.block_lt_of_cell? w _ hx175_0)).trans hx175_0
      replace p175 := eq_true p175
      replace q175 := eq_true q175
      have p177 : 0 ≤ (a1 : Int) := of_decide_eq_true as_
      have q177 : a1 < (l0_2.length : Int) := of_decide_eq_true as_
      obtain ⟨ad177, e177, hx177_0⟩ := Kd.at_string HR0_2.out a1 p177 q177
      have hw177_0 := hx177_0
      cases e177
      replace hx177_0 := (HB.out.cell (World.block_lt_of_cell? w _ hx177_0)).trans hx177_0
      replace p177 := eq_true p177
      replace q177 := eq_true q177
      refine start_ (n := 14) (S := fun w' => w'.cell? ⟨gb174, 0, none⟩ = some (.int .i64 a0_0) ∧ w'.cell? ⟨gb174, 1, none⟩ = some (.slice (some ad175) l0_1.length c0_1) ∧ w'.cell? ⟨gb174, 2, none⟩ = some (.slice (some ad177) l0_2.length c0_2) ∧ w'.cell? ⟨gb174, 3, none⟩ = some (.slice A0_3 l0_3.length c0_3) ∧ w'.cell? (ad175.add (a1).toNat) = some (.string (rdOf ByteArray.empty l0_1 a1)) ∧ w'.cell? (ad177.add (a1).toNat) = some (.string (rdOf ByteArray.empty l0_2 a1))) (ds := []) (bz 14 0) kr_ rfl rfl ⟨bc_ BK174 0, bc_ BK174 1, bc_ BK174 2, bc_ BK174 3, ((HB.out.cell (World.block_lt_of_cell? w _ hw175_0)).trans hw175_0), ((HB.out.cell (World.block_lt_of_cell? w _ hw177_0)).trans hw177_0)⟩ (fun hHeld => ?_); refine with_tabW node_Node_entry.tab2 node_Node_entry.bits2 (fun HT_ HW_ => ?_)
      generalize w10.drew = w12 at BK174 HB hx175_0 hx177_0 hHeld ⊢
      refine pu_ (fun x y z => pure_ (i := 0) (N := some 8) (bz 14 1) rfl rfl (any_of HT_.out kr_) (fun _ _ _ h => h) (Or.inl ⟨by rfl, x⟩) y z) ?_
      refine pu_ (fun x y z => pure_ (i := 2) (N := some 10) (bz 14 5) rfl rfl (any_of HT_.out kr_) (fun _ _ _ h => h) (Or.inl ⟨by rfl, x⟩) y z) ?_
      refine pu_ (fun x y z => pure_ (i := 6) (N := some 14) (bz 14 69) rfl rfl (any_of HT_.out kr_) (fun _ _ _ h => h) (Or.inl ⟨by rfl, x⟩) y z) ?_
      refine pu_ (fun x y z => pure_ (i := 8) (N := some 16) (bz 14 325) rfl rfl (any_of HT_.out kr_) (fun _ _ _ h => h) (Or.inl ⟨by rfl, x⟩) y z) ?_
      refine take_ (i := 1) (N := some 9) (v := ?_) (a' := ?_) (bz 14 327) rfl rfl (take_ofW HT_.out HW_.out kr_) (fun _ _ _ h => h) (Or.inl ⟨by rfl, ?_⟩) hHeld ?_ ?_
      rotate_left
      ·rintro w' ⟨s0, s1, s2, s3, s4, s5⟩
       go_simp
       with_reducible rfl
      rotate_left
      ·simp only [Act.put, List.setIfInBounds_toArray, List.set_cons_zero, List.set_cons_succ, i64_w, i32_w]
       rfl
      refine pu_ (fun x y z => pure_ (i := 3) (N := some 11) (bz 14 335) rfl rfl (any_of HT_.out kr_) (fun _ _ _ h => h) (Or.inl ⟨by rfl, x⟩) y z) ?_
      refine take_ (i := 4) (N := some 12) (v := ?_) (a' := ?_) (bz 14 351) rfl rfl (take_ofW HT_.out HW_.out kr_) (fun _ _ _ h => h) (Or.inl ⟨by rfl, ?_⟩) hHeld ?_ ?_
      rotate_left
      ·rintro w' ⟨s0, s1, s2, s3, s4, s5⟩
       go_simp
       with_reducible rfl
      rotate_left
      ·simp only [Act.put, List.setIfInBounds_toArray, List.set_cons_zero, List.set_cons_succ, i64_w, i32_w]
       rfl
      refine take_ (i := 7) (N := some 15) (v := ?_) (a' := ?_) (bz 14 479) rfl rfl (take_ofW HT_.out HW_.out kr_) (fun _ _ _ h => h) (Or.inl ⟨by rfl, ?_⟩) hHeld ?_ ?_
      rotate_left
      ·rintro w' ⟨s0, s1, s2, s3, s4, s5⟩
       go_simp
       with_reducible rfl
      rotate_left
      ·simp only [Act.put, List.setIfInBounds_toArray, List.set_cons_zero, List.set_cons_succ, i64_w, i32_w]
       rfl
      refine pu_ (fun x y z => pure_ (i := 9) (N := some 17) (bz 14 991) rfl rfl (any_of HT_.out kr_) (fun _ _ _ h => h) (Or.inl ⟨by rfl, x⟩) y z) ?_
      refine take_ (i := 10) (N := some 18) (v := ?_) (a' := ?_) (bz 14 2015) rfl rfl (take_ofW HT_.out HW_.out kr_) (fun _ _ _ h => h) (Or.inl ⟨by rfl, ?_⟩) hHeld ?_ ?_
      rotate_left
      ·rintro w' ⟨s0, s1, s2, s3, s4, s5⟩
       go_simp
       with_reducible rfl
      rotate_left
      ·simp only [Act.put, List.setIfInBounds_toArray, List.set_cons_zero, List.set_cons_succ, i64_w, i32_w]
       rfl
      refine one_ (i := 5) (N := some 13) (bz 14 2047) rfl rfl (one_of HT_.out kr_) (by decide) (fun K hK => ?_)
      refine goes_ Tryz.func205 kr_ rfl #[.string (rdOf ByteArray.empty l0_1 a1)] (by rfl) rfl rfl ar_ ?_
      with_reducible refine (varint_Text.calls k (rdOf ByteArray.empty l0_1 a1) t176 _ A6.out).mono ?_
      rintro e w13 ⟨rfl, hb⟩
      refine ⟨_, rfl, ?_⟩
      replace BK174 := am_ (bw_ BK174 hb)
      replace HB := am_ (below_step bl_ hb)
      (try clear hb)
      refine hK.out _ _ ⟨bc_ BK174 0, bc_ BK174 1, bc_ BK174 2, bc_ BK174 3, ((HB.out.cell (World.block_lt_of_cell? w _ hw175_0)).trans hw175_0), ((HB.out.cell (World.block_lt_of_cell? w _ hw177_0)).trans hw177_0)⟩ (fun hHeld => ?_)
      clear hK K
      refine no_ (some 13) ?_
      refine one_ (i := 11) (N := some 19) (bz 14 4095) rfl rfl (one_of HT_.out kr_) (by decide) (fun K hK => ?_)
      refine goes_ Tryz.func205 kr_ rfl #[.string (rdOf ByteArray.empty l0_2 a1)] (by rfl) rfl rfl ar_ ?_
      with_reducible refine (varint_Text.calls k (rdOf ByteArray.empty l0_2 a1) t178 _ A8.out).mono ?_
      rintro e w14 ⟨rfl, hb⟩
      refine ⟨_, rfl, ?_⟩
      replace BK174 := am_ (bw_ BK174 hb)
      replace HB := am_ (below_step bl_ hb)
      (try clear hb)
      refine hK.out _ _ ⟨bc_ BK174 0, bc_ BK174 1, bc_ BK174 2, bc_ BK174 3, ((HB.out.cell (World.block_lt_of_cell? w _ hw175_0)).trans hw175_0), ((HB.out.cell (World.block_lt_of_cell? w _ hw177_0)).trans hw177_0)⟩ (fun hHeld => ?_)
      clear hK K
      refine no_ (some 19) ?_
      refine pu_ (fun x y z => pure_ (i := 12) (N := some 20) (bz 14 8191) rfl rfl (any_of HT_.out kr_) (fun _ _ _ h => h) (Or.inl ⟨by rfl, x⟩) y z) ?_
      refine pu_ (fun x y z => pure_ (i := 13) (N := some 4) (bz 14 16383) rfl rfl (any_of HT_.out kr_) (fun _ _ _ h => h) (Or.inl ⟨by rfl, x⟩) y z) ?_
      refine done_ (done_of HT_.out kr_) ?_
      try go_wp2
      go_ret
      exact ⟨er_, by exact bl_⟩
     ·rw [if_neg c9] at H
      exact absurd H (by simp)
    ·rw [if_neg c7] at H
     exact absurd H (by simp)
   ·rw [if_neg c5] at H
    exact absurd H (by simp)
  ·rw [if_neg c4] at H
   exact absurd H (by simp)
 ·rw [if_neg c3] at H
  have c3b0 : (a0_0 == 1) = false := beq_eq_false_iff_ne.mpr c3
  have c3b1 : (a0_0 != 1) = true := bne_iff_ne.mpr c3
  by_cases c15 : 0 ≤ a1
  ·rw [if_pos c15] at H
   have c15b0 : decide (0 ≤ a1) = true := decide_eq_true c15
   clear c15
   by_cases c16 : a1 < (l0_1.length : Int)
   ·rw [if_pos c16] at H
    have c16b0 : decide (a1 < (l0_1.length : Int)) = true := decide_eq_true c16
    clear c16
    obtain ⟨t180, A17, H⟩ := bi_ H
    try dsimp only at H
    by_cases c18 : a1 < (l0_3.length : Int)
    ·rw [if_pos c18] at H
     have c18b0 : decide (a1 < (l0_3.length : Int)) = true := decide_eq_true c18
     clear c18
     obtain ⟨t182, A19, H⟩ := bi_ H
     try dsimp only at H
     by_cases c20 : t180.size + t182.size ≤ 9223372036854775807
     ·rw [if_pos c20] at H
      have c20b0 := eq_true c20
      have c20b1 : decide (t180.size + t182.size ≤ 9223372036854775807) = true := decide_eq_true c20
      try have c20b2 : (9223372036854775807 < t180.size + t182.size) = False := eq_false (Nat.not_lt.2 c20)
      obtain rfl := Option.some.inj H
      go_enter Tryz.func173, Tryz.ntmps173
      try go_wp2_with (first | ((with_reducible refine gate_dst (N := 2) rfl ?_); refine be_ (N := 2) (cs := #[.int .i64 a0_0, .slice A0_1 l0_1.length c0_1, .slice A0_2 l0_2.length c0_2, .slice A0_3 l0_3.length c0_3]) (t := 149) ?_; intro gb174 hg w21 hbox hb; have BK174 := am_ (hbox); have GW174 := am_ ((sz_ hg : w.heap.size ≤ gb174)); have GE174 := am_ ((sz_ hg : w.heap.size ≤ gb174)); replace HB := am_ (below_step bl_ hb); clear hb hbox hg; have hcz22_0 : w21.cell? ⟨gb174, 0, none⟩ = some (.int .i64 a0_0) := bc_ BK174 0; have hcz22_1 : w21.cell? ⟨gb174, 1, none⟩ = some (.slice A0_1 l0_1.length c0_1) := bc_ BK174 1; have hcz22_2 : w21.cell? ⟨gb174, 2, none⟩ = some (.slice A0_2 l0_2.length c0_2) := bc_ BK174 2; have hcz22_3 : w21.cell? ⟨gb174, 3, none⟩ = some (.slice A0_3 l0_3.length c0_3) := bc_ BK174 3; have hfz22_0 := blk_frozen BK174.out 0; have hfz22_1 := blk_frozen BK174.out 1; have hfz22_2 := blk_frozen BK174.out 2; have hfz22_3 := blk_frozen BK174.out 3))
      replace BK174 := am_ (blk_drew BK174.out)
      replace HB := am_ (below_drew1 HB.out)
      have p179 : 0 ≤ (a1 : Int) := of_decide_eq_true as_
      have q179 : a1 < (l0_1.length : Int) := of_decide_eq_true as_
      obtain ⟨ad179, e179, hx179_0⟩ := Kd.at_string HR0_1.out a1 p179 q179
      have hw179_0 := hx179_0
      cases e179
      replace hx179_0 := (HB.out.cell (World.block_lt_of_cell? w _ hx179_0)).trans hx179_0
      replace p179 := eq_true p179
      replace q179 := eq_true q179
      have p181 : 0 ≤ (a1 : Int) := of_decide_eq_true as_
      have q181 : a1 < (l0_3.length : Int) := of_decide_eq_true as_
      obtain ⟨ad181, e181, hx181_0⟩ := Kd.at_int HR0_3.out a1 p181 q181
      have hw181_0 := hx181_0
      cases e181
      replace hx181_0 := (HB.out.cell (World.block_lt_of_cell? w _ hx181_0)).trans hx181_0
      replace p181 := eq_true p181
      replace q181 := eq_true q181
      refine start_ (n := 15) (S := fun w' => w'.cell? ⟨gb174, 0, none⟩ = some (.int .i64 a0_0) ∧ w'.cell? ⟨gb174, 1, none⟩ = some (.slice (some ad179) l0_1.length c0_1) ∧ w'.cell? ⟨gb174, 2, none⟩ = some (.slice A0_2 l0_2.length c0_2) ∧ w'.cell? ⟨gb174, 3, none⟩ = some (.slice (some ad181) l0_3.length c0_3) ∧ w'.cell? (ad179.add (a1).toNat) = some (.string (rdOf ByteArray.empty l0_1 a1)) ∧ w'.cell? (ad181.add (a1).toNat) = some (.int .i64 (rd l0_3 a1))) (ds := []) (bz 15 0) kr_ rfl rfl ⟨bc_ BK174 0, bc_ BK174 1, bc_ BK174 2, bc_ BK174 3, ((HB.out.cell (World.block_lt_of_cell? w _ hw179_0)).trans hw179_0), ((HB.out.cell (World.block_lt_of_cell? w _ hw181_0)).trans hw181_0)⟩ (fun hHeld => ?_); refine with_tabW node_Node_entry.tab3 node_Node_entry.bits3 (fun HT_ HW_ => ?_)
      generalize w21.drew = w23 at BK174 HB hx179_0 hx181_0 hHeld ⊢
      refine pu_ (fun x y z => pure_ (i := 0) (N := some 21) (bz 15 1) rfl rfl (any_of HT_.out kr_) (fun _ _ _ h => h) (Or.inl ⟨by rfl, x⟩) y z) ?_
      refine pu_ (fun x y z => pure_ (i := 2) (N := some 23) (bz 15 5) rfl rfl (any_of HT_.out kr_) (fun _ _ _ h => h) (Or.inl ⟨by rfl, x⟩) y z) ?_
      refine pu_ (fun x y z => pure_ (i := 6) (N := some 27) (bz 15 69) rfl rfl (any_of HT_.out kr_) (fun _ _ _ h => h) (Or.inl ⟨by rfl, x⟩) y z) ?_
      refine pu_ (fun x y z => pure_ (i := 8) (N := some 29) (bz 15 325) rfl rfl (any_of HT_.out kr_) (fun _ _ _ h => h) (Or.inl ⟨by rfl, x⟩) y z) ?_
      refine take_ (i := 1) (N := some 22) (v := ?_) (a' := ?_) (bz 15 327) rfl rfl (take_ofW HT_.out HW_.out kr_) (fun _ _ _ h => h) (Or.inl ⟨by rfl, ?_⟩) hHeld ?_ ?_
      rotate_left
      ·rintro w' ⟨s0, s1, s2, s3, s4, s5⟩
       go_simp
       with_reducible rfl
      rotate_left
      ·simp only [Act.put, List.setIfInBounds_toArray, List.set_cons_zero, List.set_cons_succ, i64_w, i32_w]
       rfl
      refine pu_ (fun x y z => pure_ (i := 3) (N := some 24) (bz 15 335) rfl rfl (any_of HT_.out kr_) (fun _ _ _ h => h) (Or.inl ⟨by rfl, x⟩) y z) ?_
      refine take_ (i := 4) (N := some 25) (v := ?_) (a' := ?_) (bz 15 351) rfl rfl (take_ofW HT_.out HW_.out kr_) (fun _ _ _ h => h) (Or.inl ⟨by rfl, ?_⟩) hHeld ?_ ?_
      rotate_left
      ·rintro w' ⟨s0, s1, s2, s3, s4, s5⟩
       go_simp
       with_reducible rfl
      rotate_left
      ·simp only [Act.put, List.setIfInBounds_toArray, List.set_cons_zero, List.set_cons_succ, i64_w, i32_w]
       rfl
      refine take_ (i := 7) (N := some 28) (v := ?_) (a' := ?_) (bz 15 479) rfl rfl (take_ofW HT_.out HW_.out kr_) (fun _ _ _ h => h) (Or.inl ⟨by rfl, ?_⟩) hHeld ?_ ?_
      rotate_left
      ·rintro w' ⟨s0, s1, s2, s3, s4, s5⟩
       go_simp
       with_reducible rfl
      rotate_left
      ·simp only [Act.put, List.setIfInBounds_toArray, List.set_cons_zero, List.set_cons_succ, i64_w, i32_w]
       rfl
      refine pu_ (fun x y z => pure_ (i := 9) (N := some 30) (bz 15 991) rfl rfl (any_of HT_.out kr_) (fun _ _ _ h => h) (Or.inl ⟨by rfl, x⟩) y z) ?_
      refine take_ (i := 10) (N := some 31) (v := ?_) (a' := ?_) (bz 15 2015) rfl rfl (take_ofW HT_.out HW_.out kr_) (fun _ _ _ h => h) (Or.inl ⟨by rfl, ?_⟩) hHeld ?_ ?_
      rotate_left
      ·rintro w' ⟨s0, s1, s2, s3, s4, s5⟩
       go_simp
       with_reducible rfl
      rotate_left
      ·simp only [Act.put, List.setIfInBounds_toArray, List.set_cons_zero, List.set_cons_succ, i64_w, i32_w]
       rfl
      refine pu_ (fun x y z => pure_ (i := 11) (N := some 32) (bz 15 4063) rfl rfl (any_of HT_.out kr_) (fun _ _ _ h => h) (Or.inl ⟨by rfl, x⟩) y z) ?_
      refine one_ (i := 5) (N := some 26) (bz 15 4095) rfl rfl (one_of HT_.out kr_) (by decide) (fun K hK => ?_)
      refine goes_ Tryz.func205 kr_ rfl #[.string (rdOf ByteArray.empty l0_1 a1)] (by rfl) rfl rfl ar_ ?_
      with_reducible refine (varint_Text.calls k (rdOf ByteArray.empty l0_1 a1) t180 _ A17.out).mono ?_
      rintro e w24 ⟨rfl, hb⟩
      refine ⟨_, rfl, ?_⟩
      replace BK174 := am_ (bw_ BK174 hb)
      replace HB := am_ (below_step bl_ hb)
      (try clear hb)
      refine hK.out _ _ ⟨bc_ BK174 0, bc_ BK174 1, bc_ BK174 2, bc_ BK174 3, ((HB.out.cell (World.block_lt_of_cell? w _ hw179_0)).trans hw179_0), ((HB.out.cell (World.block_lt_of_cell? w _ hw181_0)).trans hw181_0)⟩ (fun hHeld => ?_)
      clear hK K
      refine no_ (some 26) ?_
      refine one_ (i := 12) (N := some 33) (bz 15 8191) rfl rfl (one_of HT_.out kr_) (by decide) (fun K hK => ?_)
      refine goes_ Tryz.func118 kr_ rfl #[.int .u64 (IntKind.u64.wrap (rd l0_3 a1))] (by rfl) rfl rfl ar_ ?_
      with_reducible refine (varint_Num.calls k (IntKind.u64.wrap (rd l0_3 a1)) t182 _ A19.out).mono ?_
      rintro e w25 ⟨rfl, hb⟩
      refine ⟨_, rfl, ?_⟩
      replace BK174 := am_ (bw_ BK174 hb)
      replace HB := am_ (below_step bl_ hb)
      (try clear hb)
      refine hK.out _ _ ⟨bc_ BK174 0, bc_ BK174 1, bc_ BK174 2, bc_ BK174 3, ((HB.out.cell (World.block_lt_of_cell? w _ hw179_0)).trans hw179_0), ((HB.out.cell (World.block_lt_of_cell? w _ hw181_0)).trans hw181_0)⟩ (fun hHeld => ?_)
      clear hK K
      refine no_ (some 33) ?_
      refine pu_ (fun x y z => pure_ (i := 13) (N := some 34) (bz 15 16383) rfl rfl (any_of HT_.out kr_) (fun _ _ _ h => h) (Or.inl ⟨by rfl, x⟩) y z) ?_
      refine pu_ (fun x y z => pure_ (i := 14) (N := some 4) (bz 15 32767) rfl rfl (any_of HT_.out kr_) (fun _ _ _ h => h) (Or.inl ⟨by rfl, x⟩) y z) ?_
      refine done_ (done_of HT_.out kr_) ?_
      try go_wp2
      go_ret
      exact ⟨er_, by exact bl_⟩
     ·rw [if_neg c20] at H
      exact absurd H (by simp)
    ·rw [if_neg c18] at H
     exact absurd H (by simp)
   ·rw [if_neg c16] at H
    exact absurd H (by simp)
  ·rw [if_neg c15] at H
   exact absurd H (by simp)

/-! ### node_Node_Len: function 112 -/
def node_Node_Len.f (a0_0 : Int) (l0_1 : List ByteArray) (l0_2 : List ByteArray) (l0_3 : List Int) : Option (Int) := some (l0_1.length : Int)
set_option maxHeartbeats 8000000 in
set_option maxRecDepth 100000 in
theorem node_Node_Len.calls (a0_0 : Int) (A0_1 : Option Addr) (c0_1 : Nat) (l0_1 : List ByteArray) (A0_2 : Option Addr) (c0_2 : Nat) (l0_2 : List ByteArray) (A0_3 : Option Addr) (c0_3 : Nat) (l0_3 : List Int) (r : Int) (w : World) (hr0_1 : Kd.C Kd.string w A0_1 l0_1.length l0_1) (hc0_1 : l0_1.length ≤ c0_1) (hr0_2 : Kd.C Kd.string w A0_2 l0_2.length l0_2) (hc0_2 : l0_2.length ≤ c0_2) (hr0_3 : Kd.C (Kd.int .i64) w A0_3 l0_3.length l0_3) (hc0_3 : l0_3.length ≤ c0_3) (h : node_Node_Len.f a0_0 l0_1 l0_2 l0_3 = some r) :
  Calls Tryz.prog 112 #[.agg #[.int .i64 a0_0, .slice A0_1 l0_1.length c0_1, .slice A0_2 l0_2.length c0_2, .slice A0_3 l0_3.length c0_3]] w fun e w' => e = .returned (.int .i64 r) ∧ Below w.heap.size w w' := by
 have hu149 := Tryz.underlying149
 have HR0_1 := am_ hr0_1
 have HC0_1 := am_ hc0_1
 clear hr0_1 hc0_1
 have HR0_2 := am_ hr0_2
 have HC0_2 := am_ hc0_2
 clear hr0_2 hc0_2
 have HR0_3 := am_ hr0_3
 have HC0_3 := am_ hc0_3
 clear hr0_3 hc0_3
 have HB := am_ (Below.refl w.heap.size w)
 have H : (some (l0_1.length : Int)) = some r := h
 clear h
 obtain rfl := Option.some.inj H
 go_enter Tryz.func112, Tryz.ntmps112
 go_wp2_with (first | ((with_reducible refine gate_dst (N := 1) rfl ?_); refine be_ (N := 1) (cs := #[.int .i64 a0_0, .slice A0_1 l0_1.length c0_1, .slice A0_2 l0_2.length c0_2, .slice A0_3 l0_3.length c0_3]) (t := 149) ?_; intro gb183 hg w2 hbox hb; have BK183 := am_ (hbox); have GW183 := am_ ((sz_ hg : w.heap.size ≤ gb183)); have GE183 := am_ ((sz_ hg : w.heap.size ≤ gb183)); replace HB := am_ (below_step bl_ hb); clear hb hbox hg; have hcz3_0 : w2.cell? ⟨gb183, 0, none⟩ = some (.int .i64 a0_0) := bc_ BK183 0; have hcz3_1 : w2.cell? ⟨gb183, 1, none⟩ = some (.slice A0_1 l0_1.length c0_1) := bc_ BK183 1; have hcz3_2 : w2.cell? ⟨gb183, 2, none⟩ = some (.slice A0_2 l0_2.length c0_2) := bc_ BK183 2; have hcz3_3 : w2.cell? ⟨gb183, 3, none⟩ = some (.slice A0_3 l0_3.length c0_3) := bc_ BK183 3; have hfz3_0 := blk_frozen BK183.out 0; have hfz3_1 := blk_frozen BK183.out 1; have hfz3_2 := blk_frozen BK183.out 2; have hfz3_3 := blk_frozen BK183.out 3))
 go_ret
 exact ⟨er_, by exact bl_⟩

-- NOT PRINTED: function 236 (abi_NoEscape)

-- NOT PRINTED: function 204 (strings_Builder_copyCheck)

-- NOT PRINTED: function 172 (strings_Builder_WriteString)

-- NOT PRINTED: function 174 (strings_Builder_String)

end Go.Proofs.YtendgmblgdkiaaaGreat.PNd

namespace Go.Proofs.YtendgmblgdkiaaaGreat
open Go.RowKit
open Go.Proofs.YtendgmblgdkiaaaGreatW
open PrintWords (rd rdOf)
set_option linter.unusedVariables false
set_option linter.unusedSimpArgs false

theorem or128 : ∀ v : Fin 256, Go.bits .or .u8 ((v.val : Nat) : Int) 128 = ((v.val % 128 + 128 : Nat) : Int) := by decide +kernel
theorem vNumL_small {x : Nat} (h : x < 128) : vNumL x = [UInt8.ofNat x] := by rw [vNumL]; simp [h]
theorem vNumL_big {x : Nat} (h : ¬ x < 128) : vNumL x = UInt8.ofNat (x % 128 + 128) :: vNumL (x / 128) := by rw [vNumL]; simp [h]
theorem nums_bytes (l : List UInt8) : strOfNums (l.map fun b => (b.toNat : Int)) = ⟨l.toArray⟩ := by
 apply ByteArray.ext
 have e : ((fun n : Int => UInt8.ofNat n.toNat) ∘ fun b : UInt8 => (b.toNat : Int)) = id := by
  funext b
  simp
 simp [strOfNums, e]
theorem vnum_l : ∀ (k x : Nat) (acc : List UInt8), x < 128 ^ k → 0 < k → acc.length + k ≤ 1000 →
  PNd.varint_Num.l0 k (x : Int) (acc.map fun b => (b.toNat : Int)) = some ⟨(acc ++ vNumL x).toArray⟩
 | 0, _, _, _, h, _ => by omega
 | k + 1, x, acc, hx, _, ha => by
  unfold PNd.varint_Num.l0
  by_cases h : x < 128
  ·rw [if_neg (by omega), if_pos (by rw [List.length_map]; omega), vNumL_small h]
   have e : ((x : Int) % 256) = ((UInt8.ofNat x).toNat : Int) := by simp [UInt8.toNat_ofNat']
   rw [e, ← List.map_singleton (f := fun b : UInt8 => (b.toNat : Int)), ← List.map_append, nums_bytes]
  ·have hk : 0 < k := by
    rcases Nat.eq_zero_or_pos k with rfl | hk
    ·simp at hx; omega
    ·exact hk
   rw [if_pos (by omega), if_pos (by rw [List.length_map]; omega), vNumL_big h]
   have e : Go.bits .or .u8 ((x : Int) % 256) 128 = ((UInt8.ofNat (x % 128 + 128)).toNat : Int) := by
    have := or128 ⟨x % 256, by omega⟩
    rw [show ((x : Int) % 256) = ((x % 256 : Nat) : Int) by omega, this, UInt8.toNat_ofNat']
    show ((x % 256 % 128 + 128 : Nat) : Int) = _
    omega
   have e2 : ((x : Int) / 128) = ((x / 128 : Nat) : Int) := by omega
   rw [e, e2, ← List.map_singleton (f := fun b : UInt8 => (b.toNat : Int)), ← List.map_append]
   rw [vnum_l k (x / 128) (acc ++ [UInt8.ofNat (x % 128 + 128)]) (by rw [Nat.pow_succ] at hx; omega) hk (by rw [List.length_append, List.length_singleton]; omega)]
   simp
theorem varint_num (x : Nat) (h : x < 18446744073709551616) : PNd.varint_Num.f 10 (x : Int) = some (vNum x) := by
 have := vnum_l 10 x [] om_ om_ (by simp)
 simpa [PNd.varint_Num.f, vNum] using this
theorem vNumL_len : ∀ (k x : Nat), x < 128 ^ k → 0 < k → 1 ≤ (vNumL x).length ∧ (vNumL x).length ≤ k
 | 0, _, _, h => by omega
 | k + 1, x, hx, _ => by
  by_cases h : x < 128
  ·rw [vNumL_small h]; simp
  ·have hk : 0 < k := by
    rcases Nat.eq_zero_or_pos k with rfl | hk
    ·simp at hx; omega
    ·exact hk
   have := vNumL_len k (x / 128) (by rw [Nat.pow_succ] at hx; omega) hk
   rw [vNumL_big h]
   simp
   omega
theorem vNum_size (x : Nat) : (vNum x).size = (vNumL x).length := by simp [vNum, ByteArray.size]
theorem vNum_le {x : Nat} (h : x < 18446744073709551616) : 1 ≤ (vNum x).size ∧ (vNum x).size ≤ 10 := by
 rw [vNum_size]; exact vNumL_len 10 x om_ om_
theorem vNum_one {x : Nat} (h : x < 128) : (vNum x).size = 1 := by rw [vNum_size, vNumL_small h]; rfl
theorem vText_size (s : ByteArray) : (vText s).size = (vNum s.size).size + s.size := ByteArray.size_append
theorem varint_text (s : ByteArray) (h : s.size ≤ 1000000) : PNd.varint_Text.f 10 s = some (vText s) := by
 have e : IntKind.u64.wrap (s.size : Int) = (s.size : Int) := by show (s.size : Int) % 18446744073709551616 = _; omega
 have := vNum_le (x := s.size) om_
 unfold PNd.varint_Text.f
 rw [e, varint_num _ (by omega)]
 simp only [Option.bind_some]
 rw [if_pos (by omega)]
 rfl
theorem rdOf_nat (l : List ByteArray) (i : Nat) : rdOf ByteArray.empty l (i : Int) = l.getD i ByteArray.empty := rfl
theorem rd_nat (l : List Int) (i : Nat) : rd l (i : Int) = l.getD i 0 := rfl
theorem getD_all {l : List ByteArray} {p : ByteArray → Bool} (h : l.all p = true) {i : Nat} (hi : i < l.length) : p (l.getD i ByteArray.empty) = true := by
 rw [List.getD_eq_getElem?_getD, List.getElem?_eq_getElem hi]
 exact List.all_eq_true.1 h _ (List.getElem_mem hi)
theorem getD_allI {l : List Int} {p : Int → Bool} (h : l.all p = true) {i : Nat} (hi : i < l.length) : p (l.getD i 0) = true := by
 rw [List.getD_eq_getElem?_getD, List.getElem?_eq_getElem hi]
 exact List.all_eq_true.1 h _ (List.getElem_mem hi)
structure PackFine (kind : Int) (keys vals : List ByteArray) (kids : List Int) : Prop where
 len : keys.length ≤ 1000000
 k : ∀ i, i < keys.length → (keys.getD i ByteArray.empty).size ≤ 1000
 v : kind = 1 → vals.length = keys.length ∧ ∀ i, i < keys.length → (vals.getD i ByteArray.empty).size ≤ 1000
 c : kind ≠ 1 → kids.length = keys.length ∧ ∀ i, i < keys.length → 0 ≤ kids.getD i 0 ∧ kids.getD i 0 ≤ 2147483647
theorem packFine_out {kind : Int} {keys vals : List ByteArray} {kids : List Int} (h : packFine kind keys vals kids = true) : PackFine kind keys vals kids := by
 simp only [packFine, Bool.and_eq_true, decide_eq_true_eq] at h
 obtain ⟨⟨⟨⟨h1, h2⟩, h3⟩, h4⟩, h5⟩ := h
 refine ⟨h1, fun i hi => by simpa using getD_all h2 hi, fun hk => ?_, fun hk => ?_⟩
 ·rw [if_pos hk] at h5
  have h5 : vals.length = keys.length := by simpa using h5
  exact ⟨h5, fun i hi => by simpa using getD_all h3 om_⟩
 ·rw [if_neg hk] at h5
  have h5 : kids.length = keys.length := by simpa using h5
  exact ⟨h5, fun i hi => by simpa [pageOk] using getD_allI h4 om_⟩
theorem entryOf_size {kind : Int} {k v : ByteArray} {c : Int} (hk : k.size ≤ 1000) (hv : kind = 1 → v.size ≤ 1000) (hc : kind ≠ 1 → 0 ≤ c ∧ c ≤ 2147483647) : (entryOf kind k v c).size ≤ 2020 := by
 have h1 := vNum_le (x := k.size) om_
 unfold entryOf
 by_cases h : kind = 1
 ·have := hv h
  have h2 := vNum_le (x := v.size) om_
  rw [if_pos h, ByteArray.size_append, vText_size, vText_size]
  omega
 ·have := hc h
  have h2 := vNum_le (x := c.toNat) om_
  rw [if_neg h, ByteArray.size_append, vText_size]
  omega
theorem node_entry {kind : Int} {keys vals : List ByteArray} {kids : List Int} (F : PackFine kind keys vals kids) {i : Nat} (hi : i < keys.length) :
  PNd.node_Node_entry.f 10 kind keys vals kids (i : Int) = some (entryOf kind (keys.getD i ByteArray.empty) (vals.getD i ByteArray.empty) (kids.getD i 0)) := by
 have hk := F.k i hi
 have h1 := vNum_le (x := (keys.getD i ByteArray.empty).size) om_
 unfold PNd.node_Node_entry.f entryOf
 by_cases h : kind = 1
 ·obtain ⟨hl, hv⟩ := F.v h
  have hv := hv i hi
  have h2 := vNum_le (x := (vals.getD i ByteArray.empty).size) om_
  rw [if_pos h, if_pos h, if_pos (by omega), if_pos (by omega), rdOf_nat, varint_text _ (by omega)]
  simp only [Option.bind_some]
  rw [if_pos (by omega), rdOf_nat, varint_text _ (by omega)]
  simp only [Option.bind_some]
  rw [if_pos (by rw [vText_size, vText_size]; omega)]
 ·obtain ⟨hl, hc⟩ := F.c h
  have hc := hc i hi
  have e : IntKind.u64.wrap (kids.getD i 0) = ((kids.getD i 0).toNat : Int) := by show (kids.getD i 0) % 18446744073709551616 = _; omega
  have h2 := vNum_le (x := (kids.getD i 0).toNat) om_
  rw [if_neg h, if_neg h, if_pos (by omega), if_pos (by omega), rdOf_nat, varint_text _ (by omega)]
  simp only [Option.bind_some]
  rw [if_pos (by omega), rd_nat, e, varint_num _ (by omega)]
  simp only [Option.bind_some]
  rw [if_pos (by rw [vText_size]; omega)]
theorem entriesOf_size {kind : Int} {keys vals : List ByteArray} {kids : List Int} (F : PackFine kind keys vals kids) : ∀ n, n ≤ keys.length → (entriesOf kind keys vals kids n).size ≤ n * 2020
 | 0, _ => by simp [entriesOf]
 | n + 1, h => by
  have := entriesOf_size F n om_
  have := entryOf_size (kind := kind) (c := kids.getD n 0) (F.k n om_) (fun e => (F.v e).2 n om_) (fun e => (F.c e).2 n om_)
  rw [entriesOf, ByteArray.size_append]
  omega
end Go.Proofs.YtendgmblgdkiaaaGreat

namespace Go.Proofs.YtendgmblgdkiaaaGreat.PNd
open Go.RowKit Go.Proofs.YtendgmblgdkiaaaGreatW.PrintWords Go.Proofs.YtendgmblgdkiaaaGreatW.PrintLast Go.Proofs.YtendgmblgdkiaaaGreatW.PrintMore
attribute [local go_sem] max2_int min2_int max_two min_two
set_option linter.unusedVariables false
set_option linter.unusedSimpArgs false

/-! ### cmp_isNaN_string: function 231 -/
def cmp_isNaN_string.f (a0 : ByteArray) : Option (Bool) := some (a0.toList != a0.toList)
set_option maxHeartbeats 8000000 in
set_option maxRecDepth 100000 in
theorem cmp_isNaN_string.calls (a0 : ByteArray) (r : Bool) (w : World) (h : cmp_isNaN_string.f a0 = some r) :
  Calls Tryz.prog 231 #[.string a0] w fun e w' => e = .returned (.bool r) ∧ Drawn0 w w' := by
 have H : (some (a0.toList != a0.toList)) = some r := h
 clear h
 obtain rfl := Option.some.inj H
 go_enter Tryz.func231, Tryz.ntmps231
 go_wp2
 go_ret
 exact ⟨e1_, dr_⟩

/-! ### cmp_Less_string: function 194 -/
def cmp_Less_string.f (a0 : ByteArray) (a1 : ByteArray) : Option (Bool) := (cmp_isNaN_string.f a0).bind fun t101 => (if t101 = true then ((cmp_isNaN_string.f a1).bind fun t102 => (if t102 = true then (some (Op.bytesLess a0.toList a1.toList)) else (some true))) else (some (Op.bytesLess a0.toList a1.toList)))
set_option maxHeartbeats 8000000 in
set_option maxRecDepth 100000 in
theorem cmp_Less_string.calls (a0 : ByteArray) (a1 : ByteArray) (r : Bool) (w : World) (h : cmp_Less_string.f a0 a1 = some r) :
  Calls Tryz.prog 194 #[.string a0, .string a1] w fun e w' => e = .returned (.bool r) ∧ Drawn0 w w' := by
 have H : ((cmp_isNaN_string.f a0).bind fun t101 => (if t101 = true then ((cmp_isNaN_string.f a1).bind fun t102 => (if t102 = true then (some (Op.bytesLess a0.toList a1.toList)) else (some true))) else (some (Op.bytesLess a0.toList a1.toList)))) = some r := h
 clear h
 obtain ⟨t101, A3, H⟩ := bi_ H
 try dsimp only at H
 by_cases c4 : t101 = true
 ·subst c4
  rw [if_pos rfl] at H
  obtain ⟨t102, A5, H⟩ := bi_ H
  try dsimp only at H
  by_cases c6 : t102 = true
  ·subst c6
   rw [if_pos rfl] at H
   obtain rfl := Option.some.inj H
   go_enter Tryz.func194, Tryz.ntmps194
   go_wp2_with (first | ((with_reducible refine gate_callee (f := 231) rfl ?_); refine goesL_ (some 6) rfl rfl Tryz.func231 kr_ rfl #[.string a0] rfl ar_ ?_; (with_reducible refine (cmp_isNaN_string.calls a0 true _ A3.out).mono ?_); rintro e w' ⟨rfl, ⟨nd, rfl⟩⟩; refine ⟨_, rfl, ?_⟩) | (go_at_call 231; (with_reducible refine (cmp_isNaN_string.calls a1 true _ A5.out).mono ?_); rintro e w' ⟨rfl, ⟨nd, rfl⟩⟩))
   go_ret
   exact ⟨e1_, dr_⟩
  ·replace c6 := Bool.eq_false_iff.mpr c6
   subst c6
   rw [if_neg (show ¬ (false = true) by decide)] at H
   obtain rfl := Option.some.inj H
   go_enter Tryz.func194, Tryz.ntmps194
   go_wp2_with (first | ((with_reducible refine gate_callee (f := 231) rfl ?_); refine goesL_ (some 6) rfl rfl Tryz.func231 kr_ rfl #[.string a0] rfl ar_ ?_; (with_reducible refine (cmp_isNaN_string.calls a0 true _ A3.out).mono ?_); rintro e w' ⟨rfl, ⟨nd, rfl⟩⟩; refine ⟨_, rfl, ?_⟩) | (go_at_call 231; (with_reducible refine (cmp_isNaN_string.calls a1 false _ A5.out).mono ?_); rintro e w' ⟨rfl, ⟨nd, rfl⟩⟩))
   go_ret
   exact ⟨e1_, dr_⟩
 ·replace c4 := Bool.eq_false_iff.mpr c4
  subst c4
  rw [if_neg (show ¬ (false = true) by decide)] at H
  obtain rfl := Option.some.inj H
  go_enter Tryz.func194, Tryz.ntmps194
  go_wp2_with (first | ((with_reducible refine gate_callee (f := 231) rfl ?_); refine goesL_ (some 6) rfl rfl Tryz.func231 kr_ rfl #[.string a0] rfl ar_ ?_; (with_reducible refine (cmp_isNaN_string.calls a0 false _ A3.out).mono ?_); rintro e w' ⟨rfl, ⟨nd, rfl⟩⟩; refine ⟨_, rfl, ?_⟩))
  go_ret
  exact ⟨e1_, dr_⟩

/-! ### slices_isNaN_string: function 195 -/
def slices_isNaN_string.f (a0 : ByteArray) : Option (Bool) := some (a0.toList != a0.toList)
set_option maxHeartbeats 8000000 in
set_option maxRecDepth 100000 in
theorem slices_isNaN_string.calls (a0 : ByteArray) (r : Bool) (w : World) (h : slices_isNaN_string.f a0 = some r) :
  Calls Tryz.prog 195 #[.string a0] w fun e w' => e = .returned (.bool r) ∧ Drawn0 w w' := by
 have H : (some (a0.toList != a0.toList)) = some r := h
 clear h
 obtain rfl := Option.some.inj H
 go_enter Tryz.func195, Tryz.ntmps195
 go_wp2
 go_ret
 exact ⟨e1_, dr_⟩

/-! ### slices_BinarySearch_string_string: function 153 -/
def slices_BinarySearch_string_string.l0 : Nat → List ByteArray → ByteArray → Int → Int → Int → Option (Int × Bool)
 | 0, _, _, _, _, _ => none
 | k + 1, x0, x1, x6, x7, x8 => if x7 < x8 then (if 0 ≤ (wrap64 ((IntKind.u64.wrap (wrap64 (x7 + x8))) / 2)) then (if (wrap64 ((IntKind.u64.wrap (wrap64 (x7 + x8))) / 2)) < (x0.length : Int) then ((cmp_Less_string.f (rdOf ByteArray.empty x0 (wrap64 ((IntKind.u64.wrap (wrap64 (x7 + x8))) / 2))) x1).bind fun t104 => (if t104 = true then (slices_BinarySearch_string_string.l0 k x0 x1 x6 (wrap64 ((wrap64 ((IntKind.u64.wrap (wrap64 (x7 + x8))) / 2)) + 1)) x8) else (slices_BinarySearch_string_string.l0 k x0 x1 x6 x7 (wrap64 ((IntKind.u64.wrap (wrap64 (x7 + x8))) / 2))))) else (none)) else (none)) else (if x7 < x6 then (if 0 ≤ x7 then (if x7 < (x0.length : Int) then (if (rdOf ByteArray.empty x0 x7).toList = x1.toList then (some (x7, true)) else ((slices_isNaN_string.f (rdOf ByteArray.empty x0 x7)).bind fun t107 => (if t107 = true then ((slices_isNaN_string.f x1).bind fun t108 => (some (x7, t108))) else (some (x7, false))))) else (none)) else (none)) else (some (x7, false)))
def slices_BinarySearch_string_string.f (k : Nat) (l0 : List ByteArray) (a1 : ByteArray) : Option (Int × Bool) := slices_BinarySearch_string_string.l0 k l0 a1 (l0.length : Int) 0 (l0.length : Int)
set_option maxHeartbeats 8000000 in
set_option maxRecDepth 100000 in
theorem slices_BinarySearch_string_string.calls (k : Nat) (A0 : Option Addr) (c0 : Nat) (l0 : List ByteArray) (a1 : ByteArray) (r1 : Int) (r2 : Bool) (w : World) (hr0 : Kd.C Kd.string w A0 l0.length l0) (hc0 : l0.length ≤ c0) (h : slices_BinarySearch_string_string.f k l0 a1 = some (r1, r2)) :
  Calls Tryz.prog 153 #[.slice A0 l0.length c0, .string a1] w fun e w' => e = .returned (.tuple #[.int .i64 r1, .bool r2]) ∧ Drawn0 w w' := by
 have HR0 := am_ hr0
 have HC0 := am_ hc0
 clear hr0 hc0
 have H : (slices_BinarySearch_string_string.l0 k l0 a1 (l0.length : Int) 0 (l0.length : Int)) = some (r1, r2) := h
 clear h
 have H' := am_ H
 clear H
 go_enter Tryz.func153, Tryz.ntmps153
 go_wp2
 go_loopg [7, 8] k (fun kq v7 v8 w' => ∃ (x7_1 : Int) (x8_1 : Int), v7 = .int .i64 x7_1 ∧ v8 = .int .i64 x8_1 ∧ Aside0 (slices_BinarySearch_string_string.l0 kq l0 a1 (l0.length : Int) x7_1 x8_1 = some (r1, r2)) ∧ Aside0 (kq ≤ k) ∧ Drawn0 w w')
 case atStart => exact ⟨(0), ((l0.length : Int)), eq_, eq_, H', ⟨Nat.le_refl _⟩, by repeat (first | exact Drawn0.refl _ | apply Drawn0.step)⟩
 case round =>
  clear H'
  obtain ⟨x7_1, x8_1, rfl, rfl, HA, HK1, ⟨m1, rfl⟩⟩ := hrel
  cases gk with
  | zero => exact absurd HA.out (by simp [slices_BinarySearch_string_string.l0])
  | succ k1 =>
   have H := HA.out
   clear HA
   simp only [slices_BinarySearch_string_string.l0] at H
   by_cases c3 : x7_1 < x8_1
   ·rw [if_pos c3] at H
    have c3b0 : decide (x7_1 < x8_1) = true := decide_eq_true c3
    clear c3
    obtain ⟨ji4, hji4⟩ : ∃ j_ : Int, (wrap64 ((IntKind.u64.wrap (wrap64 (x7_1 + x8_1))) / 2)) = j_ := ⟨_, rfl⟩
    replace H : (if 0 ≤ (ji4) then (if (ji4) < (l0.length : Int) then ((cmp_Less_string.f (rdOf ByteArray.empty l0 (ji4)) a1).bind fun t104 => (if t104 = true then (slices_BinarySearch_string_string.l0 k1 l0 a1 (l0.length : Int) (wrap64 ((ji4) + 1)) x8_1) else (slices_BinarySearch_string_string.l0 k1 l0 a1 (l0.length : Int) x7_1 ji4))) else (none)) else (none)) = some (r1, r2) := by first | (rw [hji4] at H; exact H) | (simp only [hji4] at H ⊢; exact H)
    have hji4w : (IntKind.i64.wrap ((IntKind.u64.wrap (wrap64 (x7_1 + x8_1))) / 2)) = ji4 := (i64_w _).trans hji4
    by_cases c5 : 0 ≤ (ji4)
    ·rw [if_pos c5] at H
     have c5b0 : decide (0 ≤ (ji4)) = true := decide_eq_true c5
     clear c5
     by_cases c6 : (ji4) < (l0.length : Int)
     ·rw [if_pos c6] at H
      have c6b0 : decide ((ji4) < (l0.length : Int)) = true := decide_eq_true c6
      clear c6
      obtain ⟨t104, A7, H⟩ := bi_ H
      try dsimp only at H
      by_cases c8 : t104 = true
      ·subst c8
       rw [if_pos rfl] at H
       have H' := am_ H
       clear H
       have p103 : 0 ≤ ((ji4) : Int) := of_decide_eq_true as_
       have q103 : (ji4) < (l0.length : Int) := of_decide_eq_true as_
       obtain ⟨ad103, e103, hx103_0⟩ := Kd.at_string HR0.out (ji4) p103 q103
       cases e103
       replace p103 := eq_true p103
       replace q103 := eq_true q103
       go_wp2_with (first | ((with_reducible refine gate_callee (f := 194) rfl ?_); refine goesL_ (some 27) rfl rfl Tryz.func194 kr_ rfl #[.string (rdOf ByteArray.empty l0 (ji4)), .string a1] rfl (by (try simp only [List.map_toArray, List.map_cons, List.map_nil]); first | done | (simp only [hji4]; rfl) | rfl | (simp only [List.length_drop, List.length_take]; rfl)) ?_; (with_reducible refine (cmp_Less_string.calls (rdOf ByteArray.empty l0 (ji4)) a1 true _ A7.out).mono ?_); rintro e w' ⟨rfl, ⟨nd, rfl⟩⟩; refine ⟨_, rfl, ?_⟩))
       go_roundg k1
       case measure => have := HK1.out; omega
       case rel => exact ⟨(wrap64 ((ji4) + 1)), (x8_1), (by first | rfl | (simp; done) | (simp only [← hji4] <;> (first | rfl | simp)) | (simp [*]; done)), eq_, H', ⟨by have := HK1.out; omega⟩, by repeat (first | exact Drawn0.refl _ | apply Drawn0.step)⟩
      ·replace c8 := Bool.eq_false_iff.mpr c8
       subst c8
       rw [if_neg (show ¬ (false = true) by decide)] at H
       have H' := am_ H
       clear H
       have p103 : 0 ≤ ((ji4) : Int) := of_decide_eq_true as_
       have q103 : (ji4) < (l0.length : Int) := of_decide_eq_true as_
       obtain ⟨ad103, e103, hx103_0⟩ := Kd.at_string HR0.out (ji4) p103 q103
       cases e103
       replace p103 := eq_true p103
       replace q103 := eq_true q103
       go_wp2_with (first | ((with_reducible refine gate_callee (f := 194) rfl ?_); refine goesL_ (some 27) rfl rfl Tryz.func194 kr_ rfl #[.string (rdOf ByteArray.empty l0 (ji4)), .string a1] rfl (by (try simp only [List.map_toArray, List.map_cons, List.map_nil]); first | done | (simp only [hji4]; rfl) | rfl | (simp only [List.length_drop, List.length_take]; rfl)) ?_; (with_reducible refine (cmp_Less_string.calls (rdOf ByteArray.empty l0 (ji4)) a1 false _ A7.out).mono ?_); rintro e w' ⟨rfl, ⟨nd, rfl⟩⟩; refine ⟨_, rfl, ?_⟩))
       go_roundg k1
       case measure => have := HK1.out; omega
       case rel => exact ⟨(x7_1), (ji4), eq_, (by first | rfl | (simp; done) | (simp only [← hji4] <;> (first | rfl | simp)) | (simp [*]; done)), H', ⟨by have := HK1.out; omega⟩, by repeat (first | exact Drawn0.refl _ | apply Drawn0.step)⟩
     ·rw [if_neg c6] at H
      exact absurd H (by simp)
    ·rw [if_neg c5] at H
     exact absurd H (by simp)
   ·rw [if_neg c3] at H
    have c3b0 : decide (x7_1 < x8_1) = false := decide_eq_false c3
    clear c3
    by_cases c9 : x7_1 < (l0.length : Int)
    ·rw [if_pos c9] at H
     have c9b0 : decide (x7_1 < (l0.length : Int)) = true := decide_eq_true c9
     clear c9
     by_cases c10 : 0 ≤ x7_1
     ·rw [if_pos c10] at H
      have c10b0 : decide (0 ≤ x7_1) = true := decide_eq_true c10
      clear c10
      by_cases c11 : x7_1 < (l0.length : Int)
      ·rw [if_pos c11] at H
       have c11b0 : decide (x7_1 < (l0.length : Int)) = true := decide_eq_true c11
       clear c11
       by_cases c12 : (rdOf ByteArray.empty l0 x7_1).toList = a1.toList
       ·rw [if_pos c12] at H
        have c12b0 : ((rdOf ByteArray.empty l0 x7_1).toList == a1.toList) = true := beq_iff_eq.mpr c12
        have c12b1 : ((rdOf ByteArray.empty l0 x7_1).toList != a1.toList) = false := bne_eq_false_iff_eq.mpr c12
        clear c12
        simp only [Option.some.injEq, Prod.mk.injEq] at H
        obtain ⟨rfl, rfl⟩ := H
        have p105 : 0 ≤ (x7_1 : Int) := of_decide_eq_true as_
        have q105 : x7_1 < (l0.length : Int) := of_decide_eq_true as_
        obtain ⟨ad105, e105, hx105_0⟩ := Kd.at_string HR0.out x7_1 p105 q105
        cases e105
        replace p105 := eq_true p105
        replace q105 := eq_true q105
        go_wp2
        go_ret2
        exact ⟨e1_, dr_⟩
       ·rw [if_neg c12] at H
        have c12b0 : ((rdOf ByteArray.empty l0 x7_1).toList == a1.toList) = false := beq_eq_false_iff_ne.mpr c12
        have c12b1 : ((rdOf ByteArray.empty l0 x7_1).toList != a1.toList) = true := bne_iff_ne.mpr c12
        obtain ⟨t107, A13, H⟩ := bi_ H
        try dsimp only at H
        by_cases c14 : t107 = true
        ·subst c14
         rw [if_pos rfl] at H
         obtain ⟨t108, A15, H⟩ := bi_ H
         try dsimp only at H
         simp only [Option.some.injEq, Prod.mk.injEq] at H
         obtain ⟨rfl, rfl⟩ := H
         have p105 : 0 ≤ (x7_1 : Int) := of_decide_eq_true as_
         have q105 : x7_1 < (l0.length : Int) := of_decide_eq_true as_
         obtain ⟨ad105, e105, hx105_0⟩ := Kd.at_string HR0.out x7_1 p105 q105
         cases e105
         replace p105 := eq_true p105
         replace q105 := eq_true q105
         have p106 : 0 ≤ (x7_1 : Int) := of_decide_eq_true as_
         have q106 : x7_1 < (l0.length : Int) := of_decide_eq_true as_
         obtain ⟨ad106, e106, hx106_0⟩ := Kd.at_string HR0.out x7_1 p106 q106
         obtain rfl : ad105 = ad106 := (by injection e106)
         replace p106 := eq_true p106
         replace q106 := eq_true q106
         go_wp2_with (first | (go_at_call 195; (with_reducible refine (slices_isNaN_string.calls (rdOf ByteArray.empty l0 x7_1) true _ A13.out).mono ?_); rintro e w' ⟨rfl, ⟨nd, rfl⟩⟩) | (go_at_call 195; (with_reducible refine (slices_isNaN_string.calls a1 t108 _ A15.out).mono ?_); rintro e w' ⟨rfl, ⟨nd, rfl⟩⟩))
         go_ret2
         exact ⟨e1_, dr_⟩
        ·replace c14 := Bool.eq_false_iff.mpr c14
         subst c14
         rw [if_neg (show ¬ (false = true) by decide)] at H
         simp only [Option.some.injEq, Prod.mk.injEq] at H
         obtain ⟨rfl, rfl⟩ := H
         have p105 : 0 ≤ (x7_1 : Int) := of_decide_eq_true as_
         have q105 : x7_1 < (l0.length : Int) := of_decide_eq_true as_
         obtain ⟨ad105, e105, hx105_0⟩ := Kd.at_string HR0.out x7_1 p105 q105
         cases e105
         replace p105 := eq_true p105
         replace q105 := eq_true q105
         have p106 : 0 ≤ (x7_1 : Int) := of_decide_eq_true as_
         have q106 : x7_1 < (l0.length : Int) := of_decide_eq_true as_
         obtain ⟨ad106, e106, hx106_0⟩ := Kd.at_string HR0.out x7_1 p106 q106
         obtain rfl : ad105 = ad106 := (by injection e106)
         replace p106 := eq_true p106
         replace q106 := eq_true q106
         go_wp2_with (first | (go_at_call 195; (with_reducible refine (slices_isNaN_string.calls (rdOf ByteArray.empty l0 x7_1) false _ A13.out).mono ?_); rintro e w' ⟨rfl, ⟨nd, rfl⟩⟩))
         go_ret2
         exact ⟨e1_, dr_⟩
      ·rw [if_neg c11] at H
       exact absurd H (by simp)
     ·rw [if_neg c10] at H
      exact absurd H (by simp)
    ·rw [if_neg c9] at H
     have c9b0 : decide (x7_1 < (l0.length : Int)) = false := decide_eq_false c9
     clear c9
     simp only [Option.some.injEq, Prod.mk.injEq] at H
     obtain ⟨rfl, rfl⟩ := H
     go_wp2
     go_ret2
     exact ⟨e1_, dr_⟩

/-! ### node_Node_Find: function 101 -/
def node_Node_Find.f (k : Nat) (a0_0 : Int) (l0_1 : List ByteArray) (l0_2 : List ByteArray) (l0_3 : List Int) (a1 : ByteArray) : Option (Int × Bool) := (slices_BinarySearch_string_string.f k l0_1 a1).bind fun bt110 => (some (bt110.1, bt110.2))
set_option maxHeartbeats 8000000 in
set_option maxRecDepth 100000 in
theorem node_Node_Find.calls (k : Nat) (a0_0 : Int) (A0_1 : Option Addr) (c0_1 : Nat) (l0_1 : List ByteArray) (A0_2 : Option Addr) (c0_2 : Nat) (l0_2 : List ByteArray) (A0_3 : Option Addr) (c0_3 : Nat) (l0_3 : List Int) (a1 : ByteArray) (r1 : Int) (r2 : Bool) (w : World) (hr0_1 : Kd.C Kd.string w A0_1 l0_1.length l0_1) (hc0_1 : l0_1.length ≤ c0_1) (hr0_2 : Kd.C Kd.string w A0_2 l0_2.length l0_2) (hc0_2 : l0_2.length ≤ c0_2) (hr0_3 : Kd.C (Kd.int .i64) w A0_3 l0_3.length l0_3) (hc0_3 : l0_3.length ≤ c0_3) (h : node_Node_Find.f k a0_0 l0_1 l0_2 l0_3 a1 = some (r1, r2)) :
  Calls Tryz.prog 101 #[.agg #[.int .i64 a0_0, .slice A0_1 l0_1.length c0_1, .slice A0_2 l0_2.length c0_2, .slice A0_3 l0_3.length c0_3], .string a1] w fun e w' => e = .returned (.tuple #[.int .i64 r1, .bool r2]) ∧ Below w.heap.size w w' := by
 have hu149 := Tryz.underlying149
 have HR0_1 := am_ hr0_1
 have HC0_1 := am_ hc0_1
 clear hr0_1 hc0_1
 have HR0_2 := am_ hr0_2
 have HC0_2 := am_ hc0_2
 clear hr0_2 hc0_2
 have HR0_3 := am_ hr0_3
 have HC0_3 := am_ hc0_3
 clear hr0_3 hc0_3
 have HB := am_ (Below.refl w.heap.size w)
 have H : ((slices_BinarySearch_string_string.f k l0_1 a1).bind fun bt110 => (some (bt110.1, bt110.2))) = some (r1, r2) := h
 clear h
 obtain ⟨⟨t110, t111⟩, A3, H⟩ := bi_ H
 try dsimp only at H
 simp only [Option.some.injEq, Prod.mk.injEq] at H
 obtain ⟨rfl, rfl⟩ := H
 go_enter Tryz.func101, Tryz.ntmps101
 go_wp2_with (first | ((with_reducible refine gate_dst (N := 2) rfl ?_); refine be_ (N := 2) (cs := #[.int .i64 a0_0, .slice A0_1 l0_1.length c0_1, .slice A0_2 l0_2.length c0_2, .slice A0_3 l0_3.length c0_3]) (t := 149) ?_; intro gb109 hg w4 hbox hb; have BK109 := am_ (hbox); have GW109 := am_ ((sz_ hg : w.heap.size ≤ gb109)); have GE109 := am_ ((sz_ hg : w.heap.size ≤ gb109)); replace HB := am_ (below_step bl_ hb); clear hb hbox hg; have hcz5_0 : w4.cell? ⟨gb109, 0, none⟩ = some (.int .i64 a0_0) := bc_ BK109 0; have hcz5_1 : w4.cell? ⟨gb109, 1, none⟩ = some (.slice A0_1 l0_1.length c0_1) := bc_ BK109 1; have hcz5_2 : w4.cell? ⟨gb109, 2, none⟩ = some (.slice A0_2 l0_2.length c0_2) := bc_ BK109 2; have hcz5_3 : w4.cell? ⟨gb109, 3, none⟩ = some (.slice A0_3 l0_3.length c0_3) := bc_ BK109 3; have hfz5_0 := blk_frozen BK109.out 0; have hfz5_1 := blk_frozen BK109.out 1; have hfz5_2 := blk_frozen BK109.out 2; have hfz5_3 := blk_frozen BK109.out 3) | ((with_reducible refine gate_callee (f := 153) rfl ?_); refine goesL_ (some 9) rfl rfl Tryz.func153 kr_ rfl #[.slice A0_1 l0_1.length c0_1, .string a1] rfl ar_ ?_; (with_reducible refine (slices_BinarySearch_string_string.calls k _ _ l0_1 a1 t110 t111 _ ?side1 ?side2 A3.out).mono ?_); (case side1 => exact cl_); (case side2 => exact HC0_1.out); rintro e w' ⟨rfl, ⟨nd, rfl⟩⟩; refine ⟨_, rfl, ?_⟩))
 go_ret2
 exact ⟨er_, by exact bl_⟩

/-! ### tree_child: function 110 -/
def tree_child.f (k : Nat) (a0_0 : Int) (l0_1 : List ByteArray) (l0_2 : List ByteArray) (l0_3 : List Int) (a1 : ByteArray) : Option (Int) := (node_Node_Find.f k a0_0 l0_1 l0_2 l0_3 a1).bind fun bt113 => (if bt113.2 = true then (some bt113.1) else (some (mx (wrap64 (bt113.1 - 1)) 0)))
set_option maxHeartbeats 8000000 in
set_option maxRecDepth 100000 in
theorem tree_child.calls (k : Nat) (a0_0 : Int) (A0_1 : Option Addr) (c0_1 : Nat) (l0_1 : List ByteArray) (A0_2 : Option Addr) (c0_2 : Nat) (l0_2 : List ByteArray) (A0_3 : Option Addr) (c0_3 : Nat) (l0_3 : List Int) (a1 : ByteArray) (r : Int) (w : World) (hr0_1 : Kd.C Kd.string w A0_1 l0_1.length l0_1) (hc0_1 : l0_1.length ≤ c0_1) (hr0_2 : Kd.C Kd.string w A0_2 l0_2.length l0_2) (hc0_2 : l0_2.length ≤ c0_2) (hr0_3 : Kd.C (Kd.int .i64) w A0_3 l0_3.length l0_3) (hc0_3 : l0_3.length ≤ c0_3) (h : tree_child.f k a0_0 l0_1 l0_2 l0_3 a1 = some r) :
  Calls Tryz.prog 110 #[.agg #[.int .i64 a0_0, .slice A0_1 l0_1.length c0_1, .slice A0_2 l0_2.length c0_2, .slice A0_3 l0_3.length c0_3], .string a1] w fun e w' => e = .returned (.int .i64 r) ∧ Below w.heap.size w w' := by
 have hu149 := Tryz.underlying149
 have HR0_1 := am_ hr0_1
 have HC0_1 := am_ hc0_1
 clear hr0_1 hc0_1
 have HR0_2 := am_ hr0_2
 have HC0_2 := am_ hc0_2
 clear hr0_2 hc0_2
 have HR0_3 := am_ hr0_3
 have HC0_3 := am_ hc0_3
 clear hr0_3 hc0_3
 have HB := am_ (Below.refl w.heap.size w)
 have H : ((node_Node_Find.f k a0_0 l0_1 l0_2 l0_3 a1).bind fun bt113 => (if bt113.2 = true then (some bt113.1) else (some (mx (wrap64 (bt113.1 - 1)) 0)))) = some r := h
 clear h
 obtain ⟨⟨t113, t114⟩, A3, H⟩ := bi_ H
 try dsimp only at H
 by_cases c4 : t114 = true
 ·subst c4
  rw [if_pos rfl] at H
  obtain rfl := Option.some.inj H
  go_enter Tryz.func110, Tryz.ntmps110
  go_wp2_with (first | ((with_reducible refine gate_dst (N := 2) rfl ?_); refine be_ (N := 2) (cs := #[.int .i64 a0_0, .slice A0_1 l0_1.length c0_1, .slice A0_2 l0_2.length c0_2, .slice A0_3 l0_3.length c0_3]) (t := 149) ?_; intro gb112 hg w5 hbox hb; have BK112 := am_ (hbox); have GW112 := am_ ((sz_ hg : w.heap.size ≤ gb112)); have GE112 := am_ ((sz_ hg : w.heap.size ≤ gb112)); replace HB := am_ (below_step bl_ hb); clear hb hbox hg; have hcz6_0 : w5.cell? ⟨gb112, 0, none⟩ = some (.int .i64 a0_0) := bc_ BK112 0; have hcz6_1 : w5.cell? ⟨gb112, 1, none⟩ = some (.slice A0_1 l0_1.length c0_1) := bc_ BK112 1; have hcz6_2 : w5.cell? ⟨gb112, 2, none⟩ = some (.slice A0_2 l0_2.length c0_2) := bc_ BK112 2; have hcz6_3 : w5.cell? ⟨gb112, 3, none⟩ = some (.slice A0_3 l0_3.length c0_3) := bc_ BK112 3; have hfz6_0 := blk_frozen BK112.out 0; have hfz6_1 := blk_frozen BK112.out 1; have hfz6_2 := blk_frozen BK112.out 2; have hfz6_3 := blk_frozen BK112.out 3) | ((with_reducible refine gate_callee (f := 101) rfl ?_); refine goesL_ (some 10) rfl rfl Tryz.func101 kr_ rfl #[.agg #[.int .i64 a0_0, .slice A0_1 l0_1.length c0_1, .slice A0_2 l0_2.length c0_2, .slice A0_3 l0_3.length c0_3], .string a1] rfl ar_ ?_; (with_reducible refine (node_Node_Find.calls k a0_0 _ _ l0_1 _ _ l0_2 _ _ l0_3 a1 t113 true _ ?side1 ?side2 ?side3 ?side4 ?side5 ?side6 A3.out).mono ?_); (case side1 => exact cl_); (case side2 => exact HC0_1.out); (case side3 => exact cl_); (case side4 => exact HC0_2.out); (case side5 => exact cl_); (case side6 => exact HC0_3.out); rintro e w7 ⟨rfl, hb⟩; refine ⟨_, rfl, ?_⟩; replace BK112 := am_ (bw_ BK112 hb); replace HB := am_ (below_step bl_ hb); (try clear hb); (try clear hb2); (try clear hk); (try clear hi)))
  go_ret
  exact ⟨er_, by exact bl_⟩
 ·replace c4 := Bool.eq_false_iff.mpr c4
  subst c4
  rw [if_neg (show ¬ (false = true) by decide)] at H
  obtain ⟨ji8, hji8⟩ : ∃ j_ : Int, (mx (wrap64 (t113 - 1)) 0) = j_ := ⟨_, rfl⟩
  replace H : (some ji8) = some r := by first | (rw [hji8] at H; exact H) | (simp only [hji8] at H ⊢; exact H)
  (try rw [hji8] at A3)
  (try (have hji8l : 0 ≤ ji8 := by (rw [← hji8]; unfold mx; (repeat' split) <;> omega)))
  (try (have hji8m : 0 ≤ ji8 := by omega))
  have hji8_ : (if (wrap64 (t113 - 1)) < 0 then 0 else (wrap64 (t113 - 1))) = ji8 := hji8
  obtain rfl := Option.some.inj H
  go_enter Tryz.func110, Tryz.ntmps110
  go_wp2_with (first | ((with_reducible refine gate_dst (N := 2) rfl ?_); refine be_ (N := 2) (cs := #[.int .i64 a0_0, .slice A0_1 l0_1.length c0_1, .slice A0_2 l0_2.length c0_2, .slice A0_3 l0_3.length c0_3]) (t := 149) ?_; intro gb112 hg w9 hbox hb; have BK112 := am_ (hbox); have GW112 := am_ ((sz_ hg : w.heap.size ≤ gb112)); have GE112 := am_ ((sz_ hg : w.heap.size ≤ gb112)); replace HB := am_ (below_step bl_ hb); clear hb hbox hg; have hcz10_0 : w9.cell? ⟨gb112, 0, none⟩ = some (.int .i64 a0_0) := bc_ BK112 0; have hcz10_1 : w9.cell? ⟨gb112, 1, none⟩ = some (.slice A0_1 l0_1.length c0_1) := bc_ BK112 1; have hcz10_2 : w9.cell? ⟨gb112, 2, none⟩ = some (.slice A0_2 l0_2.length c0_2) := bc_ BK112 2; have hcz10_3 : w9.cell? ⟨gb112, 3, none⟩ = some (.slice A0_3 l0_3.length c0_3) := bc_ BK112 3; have hfz10_0 := blk_frozen BK112.out 0; have hfz10_1 := blk_frozen BK112.out 1; have hfz10_2 := blk_frozen BK112.out 2; have hfz10_3 := blk_frozen BK112.out 3) | ((with_reducible refine gate_callee (f := 101) rfl ?_); refine goesL_ (some 10) rfl rfl Tryz.func101 kr_ rfl #[.agg #[.int .i64 a0_0, .slice A0_1 l0_1.length c0_1, .slice A0_2 l0_2.length c0_2, .slice A0_3 l0_3.length c0_3], .string a1] rfl ar_ ?_; (with_reducible refine (node_Node_Find.calls k a0_0 _ _ l0_1 _ _ l0_2 _ _ l0_3 a1 t113 false _ ?side1 ?side2 ?side3 ?side4 ?side5 ?side6 A3.out).mono ?_); (case side1 => exact cl_); (case side2 => exact HC0_1.out); (case side3 => exact cl_); (case side4 => exact HC0_2.out); (case side5 => exact cl_); (case side6 => exact HC0_3.out); rintro e w11 ⟨rfl, hb⟩; refine ⟨_, rfl, ?_⟩; replace BK112 := am_ (bw_ BK112 hb); replace HB := am_ (below_step bl_ hb); (try clear hb); (try clear hb2); (try clear hk); (try clear hi)))
  go_ret
  exact ⟨by first | rfl | (simp [errW_none, errW_some] <;> rfl) | (simp only [← hji8]; first | rfl | (simp [errW_none, errW_some] <;> rfl)) | (simp [*, errW_none, errW_some] <;> rfl), by exact bl_⟩

-- NOT PRINTED: function 225 (slices_IndexFunc_string_string)

-- NOT PRINTED: function 186 (slices_ContainsFunc_string_string)

-- NOT PRINTED: function 146 (node_all_string)

/-! ### node_key: function 147 -/
def node_key.f (a0 : ByteArray) : Option (Bool) := if a0.toList = ([] : List UInt8) then (some false) else (some (decide ((a0.size : Int) ≤ 16)))
set_option maxHeartbeats 8000000 in
set_option maxRecDepth 100000 in
theorem node_key.calls (a0 : ByteArray) (r : Bool) (w : World) (h : node_key.f a0 = some r) :
  Calls Tryz.prog 147 #[.string a0] w fun e w' => e = .returned (.bool r) ∧ Drawn0 w w' := by
 have H : (if a0.toList = ([] : List UInt8) then (some false) else (some (decide ((a0.size : Int) ≤ 16)))) = some r := h
 clear h
 by_cases c2 : a0.toList = ([] : List UInt8)
 ·rw [if_pos c2] at H
  have c2b0 : (a0.toList == ([] : List UInt8)) = true := beq_iff_eq.mpr c2
  have c2b1 : (a0.toList != ([] : List UInt8)) = false := bne_eq_false_iff_eq.mpr c2
  clear c2
  obtain rfl := Option.some.inj H
  go_enter Tryz.func147, Tryz.ntmps147
  go_wp2
  go_ret
  exact ⟨e1_, dr_⟩
 ·rw [if_neg c2] at H
  have c2b0 : (a0.toList == ([] : List UInt8)) = false := beq_eq_false_iff_ne.mpr c2
  have c2b1 : (a0.toList != ([] : List UInt8)) = true := bne_iff_ne.mpr c2
  obtain rfl := Option.some.inj H
  go_enter Tryz.func147, Tryz.ntmps147
  go_wp2
  go_ret
  exact ⟨e1_, dr_⟩

/-! ### node_value: function 148 -/
def node_value.f (a0 : ByteArray) : Option (Bool) := some (decide ((a0.size : Int) ≤ 32))
set_option maxHeartbeats 8000000 in
set_option maxRecDepth 100000 in
theorem node_value.calls (a0 : ByteArray) (r : Bool) (w : World) (h : node_value.f a0 = some r) :
  Calls Tryz.prog 148 #[.string a0] w fun e w' => e = .returned (.bool r) ∧ Drawn0 w w' := by
 have H : (some (decide ((a0.size : Int) ≤ 32))) = some r := h
 clear h
 obtain rfl := Option.some.inj H
 go_enter Tryz.func148, Tryz.ntmps148
 go_wp2
 go_ret
 exact ⟨e1_, dr_⟩

-- NOT PRINTED: function 226 (slices_IndexFunc_int_int)

-- NOT PRINTED: function 188 (slices_ContainsFunc_int_int)

-- NOT PRINTED: function 149 (node_all_int)

/-! ### node_page: function 150 -/
def node_page.f (a0 : Int) : Option (Bool) := if a0 ≥ 0 then (some (decide (a0 ≤ 2147483647))) else (some false)
set_option maxHeartbeats 8000000 in
set_option maxRecDepth 100000 in
theorem node_page.calls (a0 : Int) (r : Bool) (w : World) (h : node_page.f a0 = some r) :
  Calls Tryz.prog 150 #[.int .i64 a0] w fun e w' => e = .returned (.bool r) ∧ Drawn0 w w' := by
 have H : (if a0 ≥ 0 then (some (decide (a0 ≤ 2147483647))) else (some false)) = some r := h
 clear h
 by_cases c2 : a0 ≥ 0
 ·rw [if_pos c2] at H
  have c2b0 : decide (0 ≤ a0) = true := decide_eq_true c2
  clear c2
  obtain rfl := Option.some.inj H
  go_enter Tryz.func150, Tryz.ntmps150
  go_wp2
  go_ret
  exact ⟨e1_, dr_⟩
 ·rw [if_neg c2] at H
  have c2b0 : decide (0 ≤ a0) = false := decide_eq_false c2
  clear c2
  obtain rfl := Option.some.inj H
  go_enter Tryz.func150, Tryz.ntmps150
  go_wp2
  go_ret
  exact ⟨e1_, dr_⟩

/-! ### node_Node_Check: function 98 -/
def node_Node_Check.f (a0_0 : Int) (l0_1 : List ByteArray) (l0_2 : List ByteArray) (l0_3 : List Int) : Option (Int) := some (if nodeOk a0_0 l0_1 l0_2 l0_3 then 0 else 1)
set_option maxHeartbeats 8000000 in
set_option maxRecDepth 100000 in
theorem node_Node_Check.calls (a0_0 : Int) (A0_1 : Option Addr) (c0_1 : Nat) (l0_1 : List ByteArray) (A0_2 : Option Addr) (c0_2 : Nat) (l0_2 : List ByteArray) (A0_3 : Option Addr) (c0_3 : Nat) (l0_3 : List Int) (r : Int) (w : World) (hr0_1 : Kd.C Kd.string w A0_1 l0_1.length l0_1) (hc0_1 : l0_1.length ≤ c0_1) (hr0_2 : Kd.C Kd.string w A0_2 l0_2.length l0_2) (hc0_2 : l0_2.length ≤ c0_2) (hr0_3 : Kd.C (Kd.int .i64) w A0_3 l0_3.length l0_3) (hc0_3 : l0_3.length ≤ c0_3) (h : node_Node_Check.f a0_0 l0_1 l0_2 l0_3 = some r) :
  Calls Tryz.prog 98 #[.agg #[.int .i64 a0_0, .slice A0_1 l0_1.length c0_1, .slice A0_2 l0_2.length c0_2, .slice A0_3 l0_3.length c0_3]] w fun e w' => e = .returned (.int .i64 r) ∧ Below w.heap.size w w' := node_Check a0_0 A0_1 c0_1 l0_1 A0_2 c0_2 l0_2 A0_3 c0_3 l0_3 r w hr0_1 hc0_1 hr0_2 hc0_2 hr0_3 hc0_3 (Option.some.inj h)

/-- A state of type 223 at block g of W; what its slices lead to came in by w0. -/
def IsS223 (w0 W : World) (g : Nat) (f0 : ByteArray) (f1 : Int) : Prop := W.heap[g]? = some (.cells #[.string f0, .int .i64 f1] 223 (0, 0)) ∧ w0.heap.size ≤ g
theorem IsS223.grown {w0 W : World} {g : Nat} {f0 : ByteArray} {f1 : Int} {W1 : World} {row : Option Nat} (h : IsS223 w0 W g f0 f1) (hw : W.grownBy W1 row) (hne : some g ≠ row) : IsS223 w0 W1 g f0 f1 := by
 obtain ⟨hb, hg⟩ := h
 exact ⟨blk_grown hb hw hne, hg⟩
theorem IsS223.kept {w0 W : World} {g : Nat} {f0 : ByteArray} {f1 : Int} {W1 : World} {S : Nat → Prop} (h : IsS223 w0 W g f0 f1) (hk : Kept W W1 S) (hne : ¬ S g) : IsS223 w0 W1 g f0 f1 := by
 obtain ⟨hb, hg⟩ := h
 exact ⟨blk_kept hb hk hne, hg⟩
theorem IsS223.below {w0 W : World} {g : Nat} {f0 : ByteArray} {f1 : Int} {W1 : World} (h : IsS223 w0 W g f0 f1) (hw : Below W.heap.size W W1) : IsS223 w0 W1 g f0 f1 := h.grown (grown_of_below hw none) (by simp)
theorem IsS223.alloc {w0 W : World} {g : Nat} {f0 : ByteArray} {f1 : Int} (h : IsS223 w0 W g f0 f1) (o : Obj) : IsS223 w0 (W.alloc o) g f0 f1 := h.below (below_alloc (Below.refl _ _) o)
theorem IsS223.drewN {w0 W : World} {g : Nat} {f0 : ByteArray} {f1 : Int} (h : IsS223 w0 W g f0 f1) (m : Nat) : IsS223 w0 (W.drewN m) g f0 f1 := h
theorem IsS223.drew {w0 W : World} {g : Nat} {f0 : ByteArray} {f1 : Int} (h : IsS223 w0 W g f0 f1) : IsS223 w0 W.drew g f0 f1 := h
theorem IsS223.at_ {w0 W : World} {g : Nat} {f0 : ByteArray} {f1 : Int} {w' : World} {m : Nat} (hq : W.drewN m = w') (h : IsS223 w0 W g f0 f1) : IsS223 w0 w' g f0 f1 := by subst hq; exact IsS223.drewN h m
theorem IsS223.apart {w0 W : World} {g : Nat} {f0 : ByteArray} {f1 : Int} {α : Type} {d : Kd α} {e : Nat} {base : Nat} {ok : Nat → Prop} {v : Value} {xs : List α} (h : IsS223 w0 W g f0 f1) (ho : d.R e W base ok v xs) (ht : ∀ q, q ∈ e :: d.E → q ≠ 223) : d.R e W base (fun k => ok k ∧ k ≠ g) v xs := by
 obtain ⟨hb, hg⟩ := h
 exact Kd.R_types ho hb ht
theorem IsS223.own_ne {w0 W : World} {g : Nat} {f0 : ByteArray} {f1 : Int} {α : Type} {d : Kd α} {e : Nat} {base : Nat} {ok : Nat → Prop} {v : Value} {xs : List α} (h : IsS223 w0 W g f0 f1) (ho : d.R e W base ok v xs) (ht : e ≠ 223) : some g ≠ v.ownBlock := by
 obtain ⟨hb, hg⟩ := h
 exact Kd.R_ne ho hb ht
theorem IsS223.lt {w0 W : World} {g : Nat} {f0 : ByteArray} {f1 : Int} (h : IsS223 w0 W g f0 f1) : g < W.heap.size := by
 obtain ⟨hb, hg⟩ := h
 exact blk_lt hb
theorem IsS223.ge {w0 W : World} {g : Nat} {f0 : ByteArray} {f1 : Int} (h : IsS223 w0 W g f0 f1) : w0.heap.size ≤ g := by
 obtain ⟨hb, hg⟩ := h
 exact hg
theorem IsS223.ne_blk {w0 W : World} {g : Nat} {f0 : ByteArray} {f1 : Int} {a : Nat} {cs : Array Value} {t : TypeId} {fr : Nat × Nat} (h : IsS223 w0 W g f0 f1) (hb2 : W.heap[a]? = some (.cells cs t fr)) (ht : t ≠ 223) : g ≠ a := by
 obtain ⟨hb, hg⟩ := h
 rintro rfl
 rw [hb] at hb2
 injection hb2 with hb2
 injection hb2 with _ ht2
 exact ht ht2.symm
theorem IsS223.far {w0 W : World} {g : Nat} {f0 : ByteArray} {f1 : Int} {p : Addr} (h : IsS223 w0 W g f0 f1) (hne : g ≠ p.block) (u : Value) : IsS223 w0 (W.setCell p u) g f0 f1 := by
 obtain ⟨hb, hg⟩ := h
 exact ⟨blk_far hb hne u, hg⟩
theorem cellS223_0 {W : World} {g : Nat} {f0 : ByteArray} {f1 : Int} (h : W.heap[g]? = some (.cells #[.string f0, .int .i64 f1] 223 (0, 0))) : W.cell? ⟨g, 0, none⟩ = some (.string f0) := (blk_cell h 0).trans rfl
theorem IsS223.set_0 {w0 W : World} {g : Nat} {f0 : ByteArray} {f1 : Int} (h : IsS223 w0 W g f0 f1) (x : ByteArray) : IsS223 w0 (W.setCell ⟨g, 0, none⟩ (.string x)) g x f1 := by
 obtain ⟨hb, hg⟩ := h
 exact ⟨by simpa using blk_set hb 0 (.string x), hg⟩
theorem cellS223_1 {W : World} {g : Nat} {f0 : ByteArray} {f1 : Int} (h : W.heap[g]? = some (.cells #[.string f0, .int .i64 f1] 223 (0, 0))) : W.cell? ⟨g, 1, none⟩ = some (.int .i64 f1) := (blk_cell h 1).trans rfl
theorem IsS223.set_1 {w0 W : World} {g : Nat} {f0 : ByteArray} {f1 : Int} (h : IsS223 w0 W g f0 f1) (x : Int) : IsS223 w0 (W.setCell ⟨g, 1, none⟩ (.int .i64 x)) g f0 x := by
 obtain ⟨hb, hg⟩ := h
 exact ⟨by simpa using blk_set hb 1 (.int .i64 x), hg⟩
theorem IsS223.new (w0 W : World) (f0 : ByteArray) (f1 : Int) (hB : Below w0.heap.size w0 W) : IsS223 w0 (W.alloc (.cells #[.string f0, .int .i64 f1] 223)) W.heap.size f0 f1 := ⟨by simpa using heap_alloc_new W _, hB.size⟩

/-! ### varint_Of: function 120 -/
def varint_Of.f (a0 : ByteArray) : Option (ByteArray × Int) := some (a0, 0)
set_option maxHeartbeats 8000000 in
set_option maxRecDepth 100000 in
theorem varint_Of.calls (a0 : ByteArray) (r1 : ByteArray) (r2 : Int) (w0 w : World) (hB : Below w0.heap.size w0 w) (h : varint_Of.f a0 = some (r1, r2)) :
  Calls Tryz.prog 120 #[.string a0] w fun e w' => ∃ g_ : Nat, e = .returned (.pointer (some ⟨g_, 0, none⟩)) ∧ IsS223 w0 w' g_ r1 r2 ∧ Below w0.heap.size w0 w' ∧ Below w.heap.size w w' := by
 have hu223 := Tryz.underlying223
 have HBW := am_ (Below.refl w.heap.size w)
 have HW0 := am_ hB.size
 have HB := am_ hB
 clear hB
 have H : (some (a0, 0)) = some (r1, r2) := h
 clear h
 simp only [Option.some.injEq, Prod.mk.injEq] at H
 obtain ⟨rfl, rfl⟩ := H
 go_enter Tryz.func120, Tryz.ntmps120
 go_wp2_with (first | ((with_reducible refine gate_dst (N := 5) rfl ?_); refine be_ (N := 5) (cs := #[.string a0, .int .i64 0]) (t := 223) ?_; intro gb118 hg w2 hbox hb; have BK118 := am_ (hbox); have GW118 := am_ ((by rw [hg]; exact (below_size (by repeat (first | (with_reducible first | exact HBW.out | apply below_alloc | apply pw_below_drewN | apply below_drew1) | exact HBW.out))) : w.heap.size ≤ gb118)); have GE118 := am_ ((Nat.le_trans HW0.out (by rw [hg]; exact (below_size (by repeat (first | (with_reducible first | exact HBW.out | apply below_alloc | apply pw_below_drewN | apply below_drew1) | exact HBW.out))) : w.heap.size ≤ gb118) : w0.heap.size ≤ gb118)); replace HB := am_ (below_step bl_ hb); replace HBW := am_ (below_step HBW.out hb); clear hb hbox hg))
 go_ret
 exact ⟨_, rfl, (show IsS223 w0 _ gb118 a0 0 from ⟨bx_ BK118, GE118.out⟩), by exact bl_, by repeat (first | (with_reducible first | exact HBW.out | apply below_alloc | apply pw_below_drewN | apply below_drew1 | refine below_set ?_ GW118.out) | exact HBW.out)⟩

end Go.Proofs.YtendgmblgdkiaaaGreat.PNd

namespace Go.Proofs.YtendgmblgdkiaaaGreat.PNd
open Go.RowKit Go.Proofs.YtendgmblgdkiaaaGreatW.PrintWords Go.Proofs.YtendgmblgdkiaaaGreatW.PrintLast Go.Proofs.YtendgmblgdkiaaaGreatW.PrintMore
attribute [local go_sem] max2_int min2_int max_two min_two
set_option linter.unusedVariables false
set_option linter.unusedSimpArgs false

/-! ### varint_scan: function 165 -/
mutual
def varint_scan.l0 : Nat → ByteArray → Int → Int → Int → Option (Int × Int × Int)
 | 0, _, _, _, _ => none
 | k + 1, x0, x5, x9, x10 => if x10 < x9 then (if 0 ≤ x10 then (if x10 < (x0.size : Int) then (if x10 = 9 then (varint_scan.j1 k x0 x5 x10 (bt x0 x10) x9 x10 (decide ((bt x0 x10) > 1))) else (varint_scan.j1 k x0 x5 x10 (bt x0 x10) x9 x10 false)) else (none)) else (none)) else (some (0, 0, 2))
def varint_scan.j1 : Nat → ByteArray → Int → Int → Int → Int → Int → Bool → Option (Int × Int × Int)
 | 0, _, _, _, _, _, _, _ => none
 | k + 1, x0, x5, x6, x7, x9, x10, x16 => if x16 = true then (varint_scan.j2 k x0 x5 x6 x7 x9 x10 x16) else (if x6 > 0 then (varint_scan.j2 k x0 x5 x6 x7 x9 x10 (x7 == 0)) else (varint_scan.j2 k x0 x5 x6 x7 x9 x10 false))
def varint_scan.j2 : Nat → ByteArray → Int → Int → Int → Int → Int → Bool → Option (Int × Int × Int)
 | 0, _, _, _, _, _, _, _ => none
 | k + 1, x0, x5, x6, x7, x9, x10, x16 => if x16 = true then (some (0, 0, 3)) else (if 0 ≤ (wrap64 (7 * x6)) then (if x7 < 128 then (some (Go.bits .or .u64 x5 (shl .u64 (IntKind.u64.wrap (Go.bits .and .u8 x7 127)) (wrap64 (7 * x6))), wrap64 (x6 + 1), 0)) else (varint_scan.l0 k x0 (Go.bits .or .u64 x5 (shl .u64 (IntKind.u64.wrap (Go.bits .and .u8 x7 127)) (wrap64 (7 * x6)))) x9 (wrap64 (x10 + 1)))) else (none))
end
def varint_scan.f (k : Nat) (a0 : ByteArray) : Option (Int × Int × Int) := varint_scan.l0 k a0 0 (a0.size : Int) 0
set_option maxHeartbeats 8000000 in
set_option maxRecDepth 100000 in
theorem varint_scan.calls (k : Nat) (a0 : ByteArray) (r1 : Int) (r2 : Int) (r3 : Int) (w : World) (h : varint_scan.f k a0 = some (r1, r2, r3)) :
  Calls Tryz.prog 165 #[.string a0] w fun e w' => e = .returned (.tuple #[.int .u64 r1, .int .i64 r2, .int .i64 r3]) ∧ Drawn0 w w' := by
 have H : (varint_scan.l0 k a0 0 (a0.size : Int) 0) = some (r1, r2, r3) := h
 clear h
 have H' := am_ H
 clear H
 go_enter Tryz.func165, Tryz.ntmps165
 go_wp2
 go_loopg [5, 10] k (fun kq v5 v10 w' => ∃ (x5_1 : Int) (x10_1 : Int), v5 = .int .u64 x5_1 ∧ v10 = .int .i64 x10_1 ∧ Aside0 (varint_scan.l0 kq a0 x5_1 (a0.size : Int) x10_1 = some (r1, r2, r3)) ∧ Aside0 (kq ≤ k) ∧ Drawn0 w w')
 case atStart => exact ⟨(0), (0), eq_, eq_, H', ⟨Nat.le_refl _⟩, by repeat (first | exact Drawn0.refl _ | apply Drawn0.step)⟩
 case round =>
  clear H'
  obtain ⟨x5_1, x10_1, rfl, rfl, HA, HK1, ⟨m1, rfl⟩⟩ := hrel
  cases gk with
  | zero => exact absurd HA.out (by simp [varint_scan.l0])
  | succ k1 =>
   have H := HA.out
   clear HA
   simp only [varint_scan.l0] at H
   by_cases c2 : x10_1 < (a0.size : Int)
   ·rw [if_pos c2] at H
    have c2b0 : decide (x10_1 < (a0.size : Int)) = true := decide_eq_true c2
    clear c2
    by_cases c3 : 0 ≤ x10_1
    ·rw [if_pos c3] at H
     have c3b0 : decide (0 ≤ x10_1) = true := decide_eq_true c3
     clear c3
     by_cases c4 : x10_1 < (a0.size : Int)
     ·rw [if_pos c4] at H
      have c4b0 : decide (x10_1 < (a0.size : Int)) = true := decide_eq_true c4
      clear c4
      have HC6 := am_ H
      clear H
      have p5 : 0 ≤ (x10_1 : Int) := of_decide_eq_true as_
      have q5 : x10_1 < (a0.size : Int) := of_decide_eq_true as_
      have hx5 := bt_at a0 x10_1
      replace p5 := eq_true p5
      replace q5 := eq_true q5
      go_upto_region 6 with (fail)
      go_cut [16] (fun v16 wc => ∃ (kq : Nat) (x16_5 : Bool), v16 = .bool x16_5 ∧ Aside0 (varint_scan.j1 kq a0 x5_1 x10_1 (bt a0 x10_1) (a0.size : Int) x10_1 x16_5 = some (r1, r2, r3)) ∧ Aside0 (kq ≤ k1) ∧ Drawn0 w wc)
      case first =>
       have H := HC6.out
       clear HC6
       by_cases c7 : x10_1 = 9
       ·rw [if_pos c7] at H
        have c7b0 : (x10_1 == 9) = true := beq_iff_eq.mpr c7
        have c7b1 : (x10_1 != 9) = false := bne_eq_false_iff_eq.mpr c7
        clear c7
        (first | rw [c7b0] | (simp only [i64_w, i32_w]; rw [c7b0]) | skip)
        have H' := am_ H
        clear H
        go_wp2
        go_meet
        case rel => exact ⟨_, (decide ((bt a0 x10_1) > 1)), eq_, H', ⟨by have := HK1.out; first | omega | exact Nat.le_refl _⟩, by repeat (first | exact Drawn0.refl _ | apply Drawn0.step)⟩
       ·rw [if_neg c7] at H
        have c7b0 : (x10_1 == 9) = false := beq_eq_false_iff_ne.mpr c7
        have c7b1 : (x10_1 != 9) = true := bne_iff_ne.mpr c7
        (first | rw [c7b0] | (simp only [i64_w, i32_w]; rw [c7b0]) | skip)
        have H' := am_ H
        clear H
        go_wp2
        go_meet
        case rel => exact ⟨_, (false), eq_, H', ⟨by have := HK1.out; first | omega | exact Nat.le_refl _⟩, by repeat (first | exact Drawn0.refl _ | apply Drawn0.step)⟩
      case rest =>
       clear HC6; try clear c2
       try clear c2b0; try clear c3; try clear c3b0; try clear c4; try clear c4b0; try clear p5; try clear q5; try clear hx5; try clear p5; try clear q5
       obtain ⟨kq, x16_5, rfl, HA, HJ5, ⟨mc5, rfl⟩⟩ := hcut
       cases kq with
       | zero => exact absurd HA.out (by simp [varint_scan.j1])
       | succ kj5 =>
        have H := HA.out
        clear HA
        simp only [varint_scan.j1] at H
        have HC8 := am_ H
        clear H
        go_upto_if 16 with (fail)
        go_cut [16] (fun v16 wc => ∃ (kq : Nat) (x16_7 : Bool), v16 = .bool x16_7 ∧ Aside0 (varint_scan.j2 kq a0 x5_1 x10_1 (bt a0 x10_1) (a0.size : Int) x10_1 x16_7 = some (r1, r2, r3)) ∧ Aside0 (kq ≤ kj5) ∧ Drawn0 w wc)
        case first =>
         have H := HC8.out
         clear HC8
         by_cases c9 : x16_5 = true
         ·subst c9
          rw [if_pos rfl] at H
          have H' := am_ H
          clear H
          go_wp2
          go_meet
          case rel => exact ⟨_, (true), eq_, H', ⟨by have := HK1.out; have := HJ5.out; first | omega | exact Nat.le_refl _⟩, by repeat (first | exact Drawn0.refl _ | apply Drawn0.step)⟩
         ·replace c9 := Bool.eq_false_iff.mpr c9
          subst c9
          rw [if_neg (show ¬ (false = true) by decide)] at H
          by_cases c10 : x10_1 > 0
          ·rw [if_pos c10] at H
           have c10b0 : decide (0 < x10_1) = true := decide_eq_true c10
           clear c10
           (first | rw [c10b0] | (simp only [i64_w, i32_w]; rw [c10b0]) | skip)
           have H' := am_ H
           clear H
           go_wp2
           go_meet
           case rel => exact ⟨_, (((bt a0 x10_1) == 0)), eq_, H', ⟨by have := HK1.out; have := HJ5.out; first | omega | exact Nat.le_refl _⟩, by repeat (first | exact Drawn0.refl _ | apply Drawn0.step)⟩
          ·rw [if_neg c10] at H
           have c10b0 : decide (0 < x10_1) = false := decide_eq_false c10
           clear c10
           (first | rw [c10b0] | (simp only [i64_w, i32_w]; rw [c10b0]) | skip)
           have H' := am_ H
           clear H
           go_wp2
           go_meet
           case rel => exact ⟨_, (false), eq_, H', ⟨by have := HK1.out; have := HJ5.out; first | omega | exact Nat.le_refl _⟩, by repeat (first | exact Drawn0.refl _ | apply Drawn0.step)⟩
        case rest =>
         clear HC8; try clear c2
         try clear c2b0; try clear c3; try clear c3b0; try clear c4; try clear c4b0; try clear p5; try clear q5; try clear hx5; try clear p5; try clear q5
         obtain ⟨kq, x16_7, rfl, HA, HJ7, ⟨mc7, rfl⟩⟩ := hcut
         cases kq with
         | zero => exact absurd HA.out (by simp [varint_scan.j2])
         | succ kj7 =>
          have H := HA.out
          clear HA
          simp only [varint_scan.j2] at H
          by_cases c11 : x16_7 = true
          ·subst c11
           rw [if_pos rfl] at H
           simp only [Option.some.injEq, Prod.mk.injEq] at H
           obtain ⟨rfl, rfl, rfl⟩ := H
           go_wp2
           go_ret3
           exact ⟨e1_, dr_⟩
          ·replace c11 := Bool.eq_false_iff.mpr c11
           subst c11
           rw [if_neg (show ¬ (false = true) by decide)] at H
           obtain ⟨ji12, hji12⟩ : ∃ j_ : Int, (wrap64 (7 * x10_1)) = j_ := ⟨_, rfl⟩
           replace H : (if 0 ≤ (ji12) then (if (bt a0 x10_1) < 128 then (some (Go.bits .or .u64 x5_1 (shl .u64 (IntKind.u64.wrap (Go.bits .and .u8 (bt a0 x10_1) 127)) (ji12)), wrap64 (x10_1 + 1), 0)) else (varint_scan.l0 kj7 a0 (Go.bits .or .u64 x5_1 (shl .u64 (IntKind.u64.wrap (Go.bits .and .u8 (bt a0 x10_1) 127)) (ji12))) (a0.size : Int) (wrap64 (x10_1 + 1)))) else (none)) = some (r1, r2, r3) := by first | (rw [hji12] at H; exact H) | (simp only [hji12] at H ⊢; exact H)
           have hji12w : (IntKind.i64.wrap (7 * x10_1)) = ji12 := (i64_w _).trans hji12
           by_cases c13 : 0 ≤ (ji12)
           ·rw [if_pos c13] at H
            have c13b0 := eq_true c13
            have c13b1 : decide (0 ≤ (ji12)) = true := decide_eq_true c13
            clear c13
            obtain ⟨ji14, hji14⟩ : ∃ j_ : Int, (shl .u64 (IntKind.u64.wrap (Go.bits .and .u8 (bt a0 x10_1) 127)) (ji12)) = j_ := ⟨_, rfl⟩
            replace H : (if (bt a0 x10_1) < 128 then (some (Go.bits .or .u64 x5_1 (ji14), wrap64 (x10_1 + 1), 0)) else (varint_scan.l0 kj7 a0 (Go.bits .or .u64 x5_1 (ji14)) (a0.size : Int) (wrap64 (x10_1 + 1)))) = some (r1, r2, r3) := by first | (rw [hji14] at H; exact H) | (simp only [hji14] at H ⊢; exact H)
            have hji14_ : (IntKind.u64.wrap ((IntKind.u64.wrap (Go.bits .and .u8 (bt a0 x10_1) 127)) * 2 ^ min (ji12).toNat 64)) = ji14 := hji14
            have hji14z : (ji12) ≤ 64 → (IntKind.u64.wrap ((IntKind.u64.wrap (Go.bits .and .u8 (bt a0 x10_1) 127)) * 2 ^ (ji12).toNat)) = ji14 := shl_small hji14
            by_cases c15 : (bt a0 x10_1) < 128
            ·rw [if_pos c15] at H
             have c15b0 : decide ((bt a0 x10_1) < 128) = true := decide_eq_true c15
             clear c15
             simp only [Option.some.injEq, Prod.mk.injEq] at H
             obtain ⟨rfl, rfl, rfl⟩ := H
             go_wp2
             go_ret3
             exact ⟨by first | rfl | (simp; done) | (simp only [← hji12, ← hji14] <;> (first | rfl | simp)) | (simp [*]; done), by repeat (first | exact Drawn0.refl _ | apply Drawn0.step)⟩
            ·rw [if_neg c15] at H
             have c15b0 : decide ((bt a0 x10_1) < 128) = false := decide_eq_false c15
             clear c15
             have H' := am_ H
             clear H
             go_wp2
             go_roundg kj7
             case measure => have := HK1.out; have := HJ5.out; have := HJ7.out; omega
             case rel => exact ⟨(Go.bits .or .u64 x5_1 (ji14)), (wrap64 (x10_1 + 1)), (by first | rfl | (simp; done) | (simp only [← hji14] <;> (first | rfl | simp)) | (simp [*]; done)), eq_, H', ⟨by have := HK1.out; have := HJ5.out; have := HJ7.out; omega⟩, by repeat (first | exact Drawn0.refl _ | apply Drawn0.step)⟩
           ·rw [if_neg c13] at H
            exact absurd H (by simp)
     ·rw [if_neg c4] at H
      exact absurd H (by simp)
    ·rw [if_neg c3] at H
     exact absurd H (by simp)
   ·rw [if_neg c2] at H
    have c2b0 : decide (x10_1 < (a0.size : Int)) = false := decide_eq_false c2
    clear c2
    simp only [Option.some.injEq, Prod.mk.injEq] at H
    obtain ⟨rfl, rfl, rfl⟩ := H
    go_wp2
    go_ret3
    exact ⟨e1_, dr_⟩

/-! ### varint_In_Fail: function 166 -/
def varint_In_Fail.f (s0_0 : ByteArray) (s0_1 : Int) (a1 : Int) : Option (ByteArray × Int) := if s0_1 = 0 then (if a1 = 0 then (some (s0_0, s0_1)) else (some ((⟨#[]⟩ : ByteArray), a1))) else (some (s0_0, s0_1))
set_option maxHeartbeats 8000000 in
set_option maxRecDepth 100000 in
theorem varint_In_Fail.calls (g : Nat) (s0_0 : ByteArray) (s0_1 : Int) (a1 : Int) (r1 : ByteArray) (r2 : Int) (w0 w : World) (hI : IsS223 w0 w g s0_0 s0_1) (hB : Below w0.heap.size w0 w) (h : varint_In_Fail.f s0_0 s0_1 a1 = some (r1, r2)) :
  Calls Tryz.prog 166 #[.pointer (some ⟨g, 0, none⟩), .int .i64 a1] w fun e w' => e = .returned (.tuple #[]) ∧ IsS223 w0 w' g r1 r2 ∧ Below w0.heap.size w0 w' ∧ KeepBut w w' g none := by
 have HI0 := am_ hI
 have HK := am_ (KeepBut.refl w g none)
 have HL := am_ hB.size
 clear hI
 have HW0 := am_ hB.size
 have HB := am_ hB
 clear hB
 have H : (if s0_1 = 0 then (if a1 = 0 then (some (s0_0, s0_1)) else (some ((⟨#[]⟩ : ByteArray), a1))) else (some (s0_0, s0_1))) = some (r1, r2) := h
 clear h
 by_cases c3 : s0_1 = 0
 ·rw [if_pos c3] at H
  have c3b0 : (s0_1 == 0) = true := beq_iff_eq.mpr c3
  have c3b1 : (s0_1 != 0) = false := bne_eq_false_iff_eq.mpr c3
  clear c3
  by_cases c4 : a1 = 0
  ·rw [if_pos c4] at H
   have c4b0 : (a1 == 0) = true := beq_iff_eq.mpr c4
   have c4b1 : (a1 != 0) = false := bne_eq_false_iff_eq.mpr c4
   clear c4
   simp only [Option.some.injEq, Prod.mk.injEq] at H
   obtain ⟨rfl, rfl⟩ := H
   obtain ⟨HGz5, hgz5⟩ := HI0.out
   have hcz5_0 := cellS223_0 HGz5
   have hcz5_1 := cellS223_1 HGz5
   have hfz5_0 := blk_frozen HGz5 0
   have hfz5_1 := blk_frozen HGz5 1
   clear HGz5 hgz5
   go_enter Tryz.func166, Tryz.ntmps166
   go_wp2
   first | go_end0 | ((try simp only [Exit.inBlock, Exit.then]); refine bodyPost_ret (results_none rfl _ _ _) rfl ?_)
   exact ⟨er_, by exact is_, by exact bl_, by exact kb_⟩
  ·rw [if_neg c4] at H
   have c4b0 : (a1 == 0) = false := beq_eq_false_iff_ne.mpr c4
   have c4b1 : (a1 != 0) = true := bne_iff_ne.mpr c4
   simp only [Option.some.injEq, Prod.mk.injEq] at H
   obtain ⟨rfl, rfl⟩ := H
   obtain ⟨HGz6, hgz6⟩ := HI0.out
   have hcz6_0 := cellS223_0 HGz6
   have hcz6_1 := cellS223_1 HGz6
   have hfz6_0 := blk_frozen HGz6 0
   have hfz6_1 := blk_frozen HGz6 1
   clear HGz6 hgz6
   go_enter Tryz.func166, Tryz.ntmps166
   go_wp2
   first | go_end0 | ((try simp only [Exit.inBlock, Exit.then]); refine bodyPost_ret (results_none rfl _ _ _) rfl ?_)
   exact ⟨er_, by exact is_, by exact bl_, by exact kb_⟩
 ·rw [if_neg c3] at H
  have c3b0 : (s0_1 == 0) = false := beq_eq_false_iff_ne.mpr c3
  have c3b1 : (s0_1 != 0) = true := bne_iff_ne.mpr c3
  simp only [Option.some.injEq, Prod.mk.injEq] at H
  obtain ⟨rfl, rfl⟩ := H
  obtain ⟨HGz7, hgz7⟩ := HI0.out
  have hcz7_0 := cellS223_0 HGz7
  have hcz7_1 := cellS223_1 HGz7
  have hfz7_0 := blk_frozen HGz7 0
  have hfz7_1 := blk_frozen HGz7 1
  clear HGz7 hgz7
  go_enter Tryz.func166, Tryz.ntmps166
  go_wp2
  first | go_end0 | ((try simp only [Exit.inBlock, Exit.then]); refine bodyPost_ret (results_none rfl _ _ _) rfl ?_)
  exact ⟨er_, by exact is_, by exact bl_, by exact kb_⟩

/-! ### varint_In_Num: function 121 -/
def varint_In_Num.f (k : Nat) (s0_0 : ByteArray) (s0_1 : Int) (a1 : Int) : Option (Int × ByteArray × Int) := if s0_1 = 0 then ((varint_scan.f k s0_0).bind fun bt119 => (if bt119.2.2 = 0 then (if bt119.1 > a1 then ((varint_In_Fail.f s0_0 s0_1 4).bind fun bt122 => (some (0, bt122.1, bt122.2))) else (if 0 ≤ bt119.2.1 then (if bt119.2.1 ≤ (s0_0.size : Int) then (some (bt119.1, s0_0.extract (bt119.2.1 : Int).toNat s0_0.size, s0_1)) else (none)) else (none))) else ((varint_In_Fail.f s0_0 s0_1 bt119.2.2).bind fun bt124 => (some (0, bt124.1, bt124.2))))) else (some (0, s0_0, s0_1))
set_option maxHeartbeats 8000000 in
set_option maxRecDepth 100000 in
theorem varint_In_Num.calls (k : Nat) (g : Nat) (s0_0 : ByteArray) (s0_1 : Int) (a1 : Int) (r1 : Int) (r2 : ByteArray) (r3 : Int) (w0 w : World) (hI : IsS223 w0 w g s0_0 s0_1) (hB : Below w0.heap.size w0 w) (h : varint_In_Num.f k s0_0 s0_1 a1 = some (r1, r2, r3)) :
  Calls Tryz.prog 121 #[.pointer (some ⟨g, 0, none⟩), .int .u64 a1] w fun e w' => e = .returned (.int .u64 r1) ∧ IsS223 w0 w' g r2 r3 ∧ Below w0.heap.size w0 w' ∧ KeepBut w w' g none := by
 have HI0 := am_ hI
 have HK := am_ (KeepBut.refl w g none)
 have HL := am_ hB.size
 clear hI
 have HW0 := am_ hB.size
 have HB := am_ hB
 clear hB
 have H : (if s0_1 = 0 then ((varint_scan.f k s0_0).bind fun bt119 => (if bt119.2.2 = 0 then (if bt119.1 > a1 then ((varint_In_Fail.f s0_0 s0_1 4).bind fun bt122 => (some (0, bt122.1, bt122.2))) else (if 0 ≤ bt119.2.1 then (if bt119.2.1 ≤ (s0_0.size : Int) then (some (bt119.1, s0_0.extract (bt119.2.1 : Int).toNat s0_0.size, s0_1)) else (none)) else (none))) else ((varint_In_Fail.f s0_0 s0_1 bt119.2.2).bind fun bt124 => (some (0, bt124.1, bt124.2))))) else (some (0, s0_0, s0_1))) = some (r1, r2, r3) := h
 clear h
 by_cases c3 : s0_1 = 0
 ·rw [if_pos c3] at H
  have c3b0 : (s0_1 == 0) = true := beq_iff_eq.mpr c3
  have c3b1 : (s0_1 != 0) = false := bne_eq_false_iff_eq.mpr c3
  clear c3
  obtain ⟨⟨t119, t120, t121⟩, A4, H⟩ := bi_ H
  try dsimp only at H
  by_cases c5 : t121 = 0
  ·rw [if_pos c5] at H
   have c5b0 : (t121 == 0) = true := beq_iff_eq.mpr c5
   have c5b1 : (t121 != 0) = false := bne_eq_false_iff_eq.mpr c5
   clear c5
   by_cases c6 : t119 > a1
   ·rw [if_pos c6] at H
    have c6b0 : decide (a1 < t119) = true := decide_eq_true c6
    clear c6
    obtain ⟨⟨t122, t123⟩, A7, H⟩ := bi_ H
    try dsimp only at H
    simp only [Option.some.injEq, Prod.mk.injEq] at H
    obtain ⟨rfl, rfl, rfl⟩ := H
    obtain ⟨HGz8, hgz8⟩ := HI0.out
    have hcz8_0 := cellS223_0 HGz8
    have hcz8_1 := cellS223_1 HGz8
    have hfz8_0 := blk_frozen HGz8 0
    have hfz8_1 := blk_frozen HGz8 1
    clear HGz8 hgz8
    go_enter Tryz.func121, Tryz.ntmps121
    go_wp2_with (first | ((with_reducible refine gate_callee (f := 165) rfl ?_); refine goesL_ (some 18) rfl rfl Tryz.func165 kr_ rfl #[.string s0_0] rfl ar_ ?_; (with_reducible refine (varint_scan.calls k s0_0 t119 t120 t121 _ A4.out).mono ?_); rintro e w' ⟨rfl, ⟨nd, rfl⟩⟩; refine ⟨_, rfl, ?_⟩) | ((with_reducible refine gate_callee (f := 166) rfl ?_); refine goesL_ (some 33) rfl rfl Tryz.func166 kr_ rfl #[.pointer (some ⟨g, 0, none⟩), .int .i64 4] rfl ar_ ?_; (with_reducible refine (varint_In_Fail.calls g s0_0 s0_1 4 t122 t123 w0 _ ?side1 ?side2 A7.out).mono ?_); (case side1 => exact is_); (case side2 => exact bl_); rintro e w9 ⟨rfl, hi, hb, hk⟩; refine ⟨_, rfl, ?_⟩; replace HK := am_ (KeepBut.trans kb_ hk (.inl rfl)); replace HB := am_ (hb); replace HI0 := am_ (hi); (try clear hb); (try clear hb2); (try clear hk); (try clear hi)))
    go_ret
    exact ⟨er_, by exact is_, by exact bl_, by exact kb_⟩
   ·rw [if_neg c6] at H
    have c6b0 : decide (a1 < t119) = false := decide_eq_false c6
    clear c6
    by_cases c10 : 0 ≤ t120
    ·rw [if_pos c10] at H
     have c10b0 := eq_true c10
     have c10b1 : decide (0 ≤ t120) = true := decide_eq_true c10
     clear c10
     by_cases c11 : t120 ≤ (s0_0.size : Int)
     ·rw [if_pos c11] at H
      have c11b0 := eq_true c11
      have c11b1 : decide (t120 ≤ (s0_0.size : Int)) = true := decide_eq_true c11
      clear c11
      simp only [Option.some.injEq, Prod.mk.injEq] at H
      obtain ⟨rfl, rfl, rfl⟩ := H
      obtain ⟨HGz12, hgz12⟩ := HI0.out
      have hcz12_0 := cellS223_0 HGz12
      have hcz12_1 := cellS223_1 HGz12
      have hfz12_0 := blk_frozen HGz12 0
      have hfz12_1 := blk_frozen HGz12 1
      clear HGz12 hgz12
      go_enter Tryz.func121, Tryz.ntmps121
      go_wp2_with (first | ((with_reducible refine gate_callee (f := 165) rfl ?_); refine goesL_ (some 18) rfl rfl Tryz.func165 kr_ rfl #[.string s0_0] rfl ar_ ?_; (with_reducible refine (varint_scan.calls k s0_0 t119 t120 t121 _ A4.out).mono ?_); rintro e w' ⟨rfl, ⟨nd, rfl⟩⟩; refine ⟨_, rfl, ?_⟩))
      go_ret
      exact ⟨er_, by exact is_, by exact bl_, by exact kb_⟩
     ·rw [if_neg c11] at H
      exact absurd H (by simp)
    ·rw [if_neg c10] at H
     exact absurd H (by simp)
  ·rw [if_neg c5] at H
   have c5b0 : (t121 == 0) = false := beq_eq_false_iff_ne.mpr c5
   have c5b1 : (t121 != 0) = true := bne_iff_ne.mpr c5
   obtain ⟨⟨t124, t125⟩, A13, H⟩ := bi_ H
   try dsimp only at H
   simp only [Option.some.injEq, Prod.mk.injEq] at H
   obtain ⟨rfl, rfl, rfl⟩ := H
   obtain ⟨HGz14, hgz14⟩ := HI0.out
   have hcz14_0 := cellS223_0 HGz14
   have hcz14_1 := cellS223_1 HGz14
   have hfz14_0 := blk_frozen HGz14 0
   have hfz14_1 := blk_frozen HGz14 1
   clear HGz14 hgz14
   go_enter Tryz.func121, Tryz.ntmps121
   go_wp2_with (first | ((with_reducible refine gate_callee (f := 165) rfl ?_); refine goesL_ (some 18) rfl rfl Tryz.func165 kr_ rfl #[.string s0_0] rfl ar_ ?_; (with_reducible refine (varint_scan.calls k s0_0 t119 t120 t121 _ A4.out).mono ?_); rintro e w' ⟨rfl, ⟨nd, rfl⟩⟩; refine ⟨_, rfl, ?_⟩) | ((with_reducible refine gate_callee (f := 166) rfl ?_); refine goesL_ (some 27) rfl rfl Tryz.func166 kr_ rfl #[.pointer (some ⟨g, 0, none⟩), .int .i64 t121] rfl ar_ ?_; (with_reducible refine (varint_In_Fail.calls g s0_0 s0_1 t121 t124 t125 w0 _ ?side1 ?side2 A13.out).mono ?_); (case side1 => exact is_); (case side2 => exact bl_); rintro e w15 ⟨rfl, hi, hb, hk⟩; refine ⟨_, rfl, ?_⟩; replace HK := am_ (KeepBut.trans kb_ hk (.inl rfl)); replace HB := am_ (hb); replace HI0 := am_ (hi); (try clear hb); (try clear hb2); (try clear hk); (try clear hi)))
   go_ret
   exact ⟨er_, by exact is_, by exact bl_, by exact kb_⟩
 ·rw [if_neg c3] at H
  have c3b0 : (s0_1 == 0) = false := beq_eq_false_iff_ne.mpr c3
  have c3b1 : (s0_1 != 0) = true := bne_iff_ne.mpr c3
  simp only [Option.some.injEq, Prod.mk.injEq] at H
  obtain ⟨rfl, rfl, rfl⟩ := H
  obtain ⟨HGz16, hgz16⟩ := HI0.out
  have hcz16_0 := cellS223_0 HGz16
  have hcz16_1 := cellS223_1 HGz16
  have hfz16_0 := blk_frozen HGz16 0
  have hfz16_1 := blk_frozen HGz16 1
  clear HGz16 hgz16
  go_enter Tryz.func121, Tryz.ntmps121
  go_wp2
  go_ret
  exact ⟨er_, by exact is_, by exact bl_, by exact kb_⟩

/-! ### varint_In_End: function 122 -/
def varint_In_End.f (s0_0 : ByteArray) (s0_1 : Int) : Option (Int × ByteArray × Int) := if s0_0.toList = ([] : List UInt8) then (some (s0_1, s0_0, s0_1)) else (some (3, s0_0, s0_1))
set_option maxHeartbeats 8000000 in
set_option maxRecDepth 100000 in
theorem varint_In_End.calls (g : Nat) (s0_0 : ByteArray) (s0_1 : Int) (r1 : Int) (r2 : ByteArray) (r3 : Int) (w0 w : World) (hI : IsS223 w0 w g s0_0 s0_1) (hB : Below w0.heap.size w0 w) (h : varint_In_End.f s0_0 s0_1 = some (r1, r2, r3)) :
  Calls Tryz.prog 122 #[.pointer (some ⟨g, 0, none⟩)] w fun e w' => e = .returned (.int .i64 r1) ∧ IsS223 w0 w' g r2 r3 ∧ Below w0.heap.size w0 w' ∧ KeepBut w w' g none := by
 have HI0 := am_ hI
 have HK := am_ (KeepBut.refl w g none)
 have HL := am_ hB.size
 clear hI
 have HW0 := am_ hB.size
 have HB := am_ hB
 clear hB
 have H : (if s0_0.toList = ([] : List UInt8) then (some (s0_1, s0_0, s0_1)) else (some (3, s0_0, s0_1))) = some (r1, r2, r3) := h
 clear h
 by_cases c2 : s0_0.toList = ([] : List UInt8)
 ·rw [if_pos c2] at H
  have c2b0 : (s0_0.toList == ([] : List UInt8)) = true := beq_iff_eq.mpr c2
  have c2b1 : (s0_0.toList != ([] : List UInt8)) = false := bne_eq_false_iff_eq.mpr c2
  clear c2
  simp only [Option.some.injEq, Prod.mk.injEq] at H
  obtain ⟨rfl, rfl, rfl⟩ := H
  obtain ⟨HGz3, hgz3⟩ := HI0.out
  have hcz3_0 := cellS223_0 HGz3
  have hcz3_1 := cellS223_1 HGz3
  have hfz3_0 := blk_frozen HGz3 0
  have hfz3_1 := blk_frozen HGz3 1
  clear HGz3 hgz3
  go_enter Tryz.func122, Tryz.ntmps122
  go_wp2
  go_ret
  exact ⟨er_, by exact is_, by exact bl_, by exact kb_⟩
 ·rw [if_neg c2] at H
  have c2b0 : (s0_0.toList == ([] : List UInt8)) = false := beq_eq_false_iff_ne.mpr c2
  have c2b1 : (s0_0.toList != ([] : List UInt8)) = true := bne_iff_ne.mpr c2
  simp only [Option.some.injEq, Prod.mk.injEq] at H
  obtain ⟨rfl, rfl, rfl⟩ := H
  obtain ⟨HGz4, hgz4⟩ := HI0.out
  have hcz4_0 := cellS223_0 HGz4
  have hcz4_1 := cellS223_1 HGz4
  have hfz4_0 := blk_frozen HGz4 0
  have hfz4_1 := blk_frozen HGz4 1
  clear HGz4 hgz4
  go_enter Tryz.func122, Tryz.ntmps122
  go_wp2
  go_ret
  exact ⟨er_, by exact is_, by exact bl_, by exact kb_⟩

/-! ### varint_In_Err: function 197 -/
def varint_In_Err.f (s0_0 : ByteArray) (s0_1 : Int) : Option (Int × ByteArray × Int) := some (s0_1, s0_0, s0_1)
set_option maxHeartbeats 8000000 in
set_option maxRecDepth 100000 in
theorem varint_In_Err.calls (g : Nat) (s0_0 : ByteArray) (s0_1 : Int) (r1 : Int) (r2 : ByteArray) (r3 : Int) (w0 w : World) (hI : IsS223 w0 w g s0_0 s0_1) (hB : Below w0.heap.size w0 w) (h : varint_In_Err.f s0_0 s0_1 = some (r1, r2, r3)) :
  Calls Tryz.prog 197 #[.pointer (some ⟨g, 0, none⟩)] w fun e w' => e = .returned (.int .i64 r1) ∧ IsS223 w0 w' g r2 r3 ∧ Below w0.heap.size w0 w' ∧ KeepBut w w' g none := by
 have HI0 := am_ hI
 have HK := am_ (KeepBut.refl w g none)
 have HL := am_ hB.size
 clear hI
 have HW0 := am_ hB.size
 have HB := am_ hB
 clear hB
 have H : (some (s0_1, s0_0, s0_1)) = some (r1, r2, r3) := h
 clear h
 simp only [Option.some.injEq, Prod.mk.injEq] at H
 obtain ⟨rfl, rfl, rfl⟩ := H
 obtain ⟨HGz2, hgz2⟩ := HI0.out
 have hcz2_0 := cellS223_0 HGz2
 have hcz2_1 := cellS223_1 HGz2
 have hfz2_0 := blk_frozen HGz2 0
 have hfz2_1 := blk_frozen HGz2 1
 clear HGz2 hgz2
 go_enter Tryz.func197, Tryz.ntmps197
 go_wp2
 go_ret
 exact ⟨er_, by exact is_, by exact bl_, by exact kb_⟩

/-! ### varint_In_Raw: function 233 -/
def varint_In_Raw.f (s0_0 : ByteArray) (s0_1 : Int) (a1 : Int) : Option (ByteArray × ByteArray × Int) := if (mx a1 0) > (s0_0.size : Int) then ((varint_In_Fail.f s0_0 s0_1 2).bind fun bt126 => (if bt126.2 = 0 then (if 0 ≤ (mx a1 0) then (if (mx a1 0) ≤ (bt126.1.size : Int) then (some (bt126.1.extract 0 ((mx a1 0) : Int).toNat, bt126.1.extract ((mx a1 0) : Int).toNat bt126.1.size, bt126.2)) else (none)) else (none)) else (some ((⟨#[]⟩ : ByteArray), bt126.1, bt126.2)))) else (if s0_1 = 0 then (if 0 ≤ (mx a1 0) then (if (mx a1 0) ≤ (s0_0.size : Int) then (some (s0_0.extract 0 ((mx a1 0) : Int).toNat, s0_0.extract ((mx a1 0) : Int).toNat s0_0.size, s0_1)) else (none)) else (none)) else (some ((⟨#[]⟩ : ByteArray), s0_0, s0_1)))
set_option maxHeartbeats 8000000 in
set_option maxRecDepth 100000 in
theorem varint_In_Raw.calls (g : Nat) (s0_0 : ByteArray) (s0_1 : Int) (a1 : Int) (r1 : ByteArray) (r2 : ByteArray) (r3 : Int) (w0 w : World) (hI : IsS223 w0 w g s0_0 s0_1) (hB : Below w0.heap.size w0 w) (h : varint_In_Raw.f s0_0 s0_1 a1 = some (r1, r2, r3)) :
  Calls Tryz.prog 233 #[.pointer (some ⟨g, 0, none⟩), .int .i64 a1] w fun e w' => e = .returned (.string r1) ∧ IsS223 w0 w' g r2 r3 ∧ Below w0.heap.size w0 w' ∧ KeepBut w w' g none := by
 have HI0 := am_ hI
 have HK := am_ (KeepBut.refl w g none)
 have HL := am_ hB.size
 clear hI
 have HW0 := am_ hB.size
 have HB := am_ hB
 clear hB
 have H : (if (mx a1 0) > (s0_0.size : Int) then ((varint_In_Fail.f s0_0 s0_1 2).bind fun bt126 => (if bt126.2 = 0 then (if 0 ≤ (mx a1 0) then (if (mx a1 0) ≤ (bt126.1.size : Int) then (some (bt126.1.extract 0 ((mx a1 0) : Int).toNat, bt126.1.extract ((mx a1 0) : Int).toNat bt126.1.size, bt126.2)) else (none)) else (none)) else (some ((⟨#[]⟩ : ByteArray), bt126.1, bt126.2)))) else (if s0_1 = 0 then (if 0 ≤ (mx a1 0) then (if (mx a1 0) ≤ (s0_0.size : Int) then (some (s0_0.extract 0 ((mx a1 0) : Int).toNat, s0_0.extract ((mx a1 0) : Int).toNat s0_0.size, s0_1)) else (none)) else (none)) else (some ((⟨#[]⟩ : ByteArray), s0_0, s0_1)))) = some (r1, r2, r3) := h
 clear h
 obtain ⟨ji3, hji3⟩ : ∃ j_ : Int, (mx a1 0) = j_ := ⟨_, rfl⟩
 replace H : (if (ji3) > (s0_0.size : Int) then ((varint_In_Fail.f s0_0 s0_1 2).bind fun bt126 => (if bt126.2 = 0 then (if 0 ≤ (ji3) then (if (ji3) ≤ (bt126.1.size : Int) then (some (bt126.1.extract 0 ((ji3) : Int).toNat, bt126.1.extract ((ji3) : Int).toNat bt126.1.size, bt126.2)) else (none)) else (none)) else (some ((⟨#[]⟩ : ByteArray), bt126.1, bt126.2)))) else (if s0_1 = 0 then (if 0 ≤ (ji3) then (if (ji3) ≤ (s0_0.size : Int) then (some (s0_0.extract 0 ((ji3) : Int).toNat, s0_0.extract ((ji3) : Int).toNat s0_0.size, s0_1)) else (none)) else (none)) else (some ((⟨#[]⟩ : ByteArray), s0_0, s0_1)))) = some (r1, r2, r3) := by first | (rw [hji3] at H; exact H) | (simp only [hji3] at H ⊢; exact H)
 (try (have hji3l : 0 ≤ ji3 := by (rw [← hji3]; unfold mx; (repeat' split) <;> omega)))
 (try (have hji3m : 0 ≤ ji3 := by omega))
 have hji3_ : (if a1 < 0 then 0 else a1) = ji3 := hji3
 by_cases c4 : (ji3) > (s0_0.size : Int)
 ·rw [if_pos c4] at H
  have c4b0 : decide ((s0_0.size : Int) < (ji3)) = true := decide_eq_true c4
  clear c4
  obtain ⟨⟨t126, t127⟩, A5, H⟩ := bi_ H
  try dsimp only at H
  by_cases c6 : t127 = 0
  ·rw [if_pos c6] at H
   have c6b0 : (t127 == 0) = true := beq_iff_eq.mpr c6
   have c6b1 : (t127 != 0) = false := bne_eq_false_iff_eq.mpr c6
   clear c6
   by_cases c7 : 0 ≤ (ji3)
   ·rw [if_pos c7] at H
    have c7b0 := eq_true c7
    have c7b1 : decide (0 ≤ (ji3)) = true := decide_eq_true c7
    clear c7
    by_cases c8 : (ji3) ≤ (t126.size : Int)
    ·rw [if_pos c8] at H
     have c8b0 := eq_true c8
     have c8b1 : decide ((ji3) ≤ (t126.size : Int)) = true := decide_eq_true c8
     clear c8
     have c9b0 := eq_true (of_decide_eq_true as_ : 0 ≤ (ji3))
     have c10b0 := eq_true (of_decide_eq_true as_ : (ji3) ≤ (t126.size : Int))
     simp only [Option.some.injEq, Prod.mk.injEq] at H
     obtain ⟨rfl, rfl, rfl⟩ := H
     obtain ⟨HGz11, hgz11⟩ := HI0.out
     have hcz11_0 := cellS223_0 HGz11
     have hcz11_1 := cellS223_1 HGz11
     have hfz11_0 := blk_frozen HGz11 0
     have hfz11_1 := blk_frozen HGz11 1
     clear HGz11 hgz11
     go_enter Tryz.func233, Tryz.ntmps233
     go_wp2_with (first | ((with_reducible refine gate_callee (f := 166) rfl ?_); refine goesL_ (some 16) rfl rfl Tryz.func166 kr_ rfl #[.pointer (some ⟨g, 0, none⟩), .int .i64 2] rfl ar_ ?_; (with_reducible refine (varint_In_Fail.calls g s0_0 s0_1 2 t126 t127 w0 _ ?side1 ?side2 A5.out).mono ?_); (case side1 => exact is_); (case side2 => exact bl_); rintro e w12 ⟨rfl, hi, hb, hk⟩; refine ⟨_, rfl, ?_⟩; replace HK := am_ (KeepBut.trans kb_ hk (.inl rfl)); replace HB := am_ (hb); replace HI0 := am_ (hi); (try clear hb); (try clear hb2); (try clear hk); (try clear hi); obtain ⟨HGz13, hgz13⟩ := HI0.out; have hcz13_0 := cellS223_0 HGz13; have hcz13_1 := cellS223_1 HGz13; have hfz13_0 := blk_frozen HGz13 0; have hfz13_1 := blk_frozen HGz13 1; clear HGz13 hgz13))
     go_ret
     exact ⟨by first | rfl | (simp [errW_none, errW_some] <;> rfl) | (simp only [← hji3]; first | rfl | (simp [errW_none, errW_some] <;> rfl)) | (simp [*, errW_none, errW_some] <;> rfl), by exact is_, by exact bl_, by exact kb_⟩
    ·rw [if_neg c8] at H
     exact absurd H (by simp)
   ·rw [if_neg c7] at H
    exact absurd H (by simp)
  ·rw [if_neg c6] at H
   have c6b0 : (t127 == 0) = false := beq_eq_false_iff_ne.mpr c6
   have c6b1 : (t127 != 0) = true := bne_iff_ne.mpr c6
   simp only [Option.some.injEq, Prod.mk.injEq] at H
   obtain ⟨rfl, rfl, rfl⟩ := H
   obtain ⟨HGz14, hgz14⟩ := HI0.out
   have hcz14_0 := cellS223_0 HGz14
   have hcz14_1 := cellS223_1 HGz14
   have hfz14_0 := blk_frozen HGz14 0
   have hfz14_1 := blk_frozen HGz14 1
   clear HGz14 hgz14
   go_enter Tryz.func233, Tryz.ntmps233
   go_wp2_with (first | ((with_reducible refine gate_callee (f := 166) rfl ?_); refine goesL_ (some 16) rfl rfl Tryz.func166 kr_ rfl #[.pointer (some ⟨g, 0, none⟩), .int .i64 2] rfl ar_ ?_; (with_reducible refine (varint_In_Fail.calls g s0_0 s0_1 2 t126 t127 w0 _ ?side1 ?side2 A5.out).mono ?_); (case side1 => exact is_); (case side2 => exact bl_); rintro e w15 ⟨rfl, hi, hb, hk⟩; refine ⟨_, rfl, ?_⟩; replace HK := am_ (KeepBut.trans kb_ hk (.inl rfl)); replace HB := am_ (hb); replace HI0 := am_ (hi); (try clear hb); (try clear hb2); (try clear hk); (try clear hi); obtain ⟨HGz16, hgz16⟩ := HI0.out; have hcz16_0 := cellS223_0 HGz16; have hcz16_1 := cellS223_1 HGz16; have hfz16_0 := blk_frozen HGz16 0; have hfz16_1 := blk_frozen HGz16 1; clear HGz16 hgz16))
   go_ret
   exact ⟨by first | rfl | (simp [errW_none, errW_some] <;> rfl) | (simp only [← hji3]; first | rfl | (simp [errW_none, errW_some] <;> rfl)) | (simp [*, errW_none, errW_some] <;> rfl), by exact is_, by exact bl_, by exact kb_⟩
 ·rw [if_neg c4] at H
  have c4b0 : decide ((s0_0.size : Int) < (ji3)) = false := decide_eq_false c4
  clear c4
  by_cases c17 : s0_1 = 0
  ·rw [if_pos c17] at H
   have c17b0 : (s0_1 == 0) = true := beq_iff_eq.mpr c17
   have c17b1 : (s0_1 != 0) = false := bne_eq_false_iff_eq.mpr c17
   clear c17
   by_cases c18 : 0 ≤ (ji3)
   ·rw [if_pos c18] at H
    have c18b0 := eq_true c18
    have c18b1 : decide (0 ≤ (ji3)) = true := decide_eq_true c18
    clear c18
    by_cases c19 : (ji3) ≤ (s0_0.size : Int)
    ·rw [if_pos c19] at H
     have c19b0 := eq_true c19
     have c19b1 : decide ((ji3) ≤ (s0_0.size : Int)) = true := decide_eq_true c19
     clear c19
     have c20b0 := eq_true (of_decide_eq_true as_ : 0 ≤ (ji3))
     have c21b0 := eq_true (of_decide_eq_true as_ : (ji3) ≤ (s0_0.size : Int))
     simp only [Option.some.injEq, Prod.mk.injEq] at H
     obtain ⟨rfl, rfl, rfl⟩ := H
     obtain ⟨HGz22, hgz22⟩ := HI0.out
     have hcz22_0 := cellS223_0 HGz22
     have hcz22_1 := cellS223_1 HGz22
     have hfz22_0 := blk_frozen HGz22 0
     have hfz22_1 := blk_frozen HGz22 1
     clear HGz22 hgz22
     go_enter Tryz.func233, Tryz.ntmps233
     go_wp2
     go_ret
     exact ⟨by first | rfl | (simp [errW_none, errW_some] <;> rfl) | (simp only [← hji3]; first | rfl | (simp [errW_none, errW_some] <;> rfl)) | (simp [*, errW_none, errW_some] <;> rfl), by exact is_, by exact bl_, by exact kb_⟩
    ·rw [if_neg c19] at H
     exact absurd H (by simp)
   ·rw [if_neg c18] at H
    exact absurd H (by simp)
  ·rw [if_neg c17] at H
   have c17b0 : (s0_1 == 0) = false := beq_eq_false_iff_ne.mpr c17
   have c17b1 : (s0_1 != 0) = true := bne_iff_ne.mpr c17
   simp only [Option.some.injEq, Prod.mk.injEq] at H
   obtain ⟨rfl, rfl, rfl⟩ := H
   obtain ⟨HGz23, hgz23⟩ := HI0.out
   have hcz23_0 := cellS223_0 HGz23
   have hcz23_1 := cellS223_1 HGz23
   have hfz23_0 := blk_frozen HGz23 0
   have hfz23_1 := blk_frozen HGz23 1
   clear HGz23 hgz23
   go_enter Tryz.func233, Tryz.ntmps233
   go_wp2
   go_ret
   exact ⟨by first | rfl | (simp [errW_none, errW_some] <;> rfl) | (simp only [← hji3]; first | rfl | (simp [errW_none, errW_some] <;> rfl)) | (simp [*, errW_none, errW_some] <;> rfl), by exact is_, by exact bl_, by exact kb_⟩

/-! ### varint_In_Text: function 198 -/
def varint_In_Text.f (k : Nat) (s0_0 : ByteArray) (s0_1 : Int) (a1 : Int) : Option (ByteArray × ByteArray × Int) := (varint_In_Num.f k s0_0 s0_1 (IntKind.u64.wrap (mx a1 0))).bind fun bt128 => ((varint_In_Raw.f bt128.2.1 bt128.2.2 (wrap64 (bt128.1))).bind fun bt131 => (some (bt131.1, bt131.2.1, bt131.2.2)))
set_option maxHeartbeats 8000000 in
set_option maxRecDepth 100000 in
theorem varint_In_Text.calls (k : Nat) (g : Nat) (s0_0 : ByteArray) (s0_1 : Int) (a1 : Int) (r1 : ByteArray) (r2 : ByteArray) (r3 : Int) (w0 w : World) (hI : IsS223 w0 w g s0_0 s0_1) (hB : Below w0.heap.size w0 w) (h : varint_In_Text.f k s0_0 s0_1 a1 = some (r1, r2, r3)) :
  Calls Tryz.prog 198 #[.pointer (some ⟨g, 0, none⟩), .int .i64 a1] w fun e w' => e = .returned (.string r1) ∧ IsS223 w0 w' g r2 r3 ∧ Below w0.heap.size w0 w' ∧ KeepBut w w' g none := by
 have HI0 := am_ hI
 have HK := am_ (KeepBut.refl w g none)
 have HL := am_ hB.size
 clear hI
 have HW0 := am_ hB.size
 have HB := am_ hB
 clear hB
 have H : ((varint_In_Num.f k s0_0 s0_1 (IntKind.u64.wrap (mx a1 0))).bind fun bt128 => ((varint_In_Raw.f bt128.2.1 bt128.2.2 (wrap64 (bt128.1))).bind fun bt131 => (some (bt131.1, bt131.2.1, bt131.2.2)))) = some (r1, r2, r3) := h
 clear h
 obtain ⟨ji3, hji3⟩ : ∃ j_ : Int, (mx a1 0) = j_ := ⟨_, rfl⟩
 replace H : ((varint_In_Num.f k s0_0 s0_1 (IntKind.u64.wrap (ji3))).bind fun bt128 => ((varint_In_Raw.f bt128.2.1 bt128.2.2 (wrap64 (bt128.1))).bind fun bt131 => (some (bt131.1, bt131.2.1, bt131.2.2)))) = some (r1, r2, r3) := by first | (rw [hji3] at H; exact H) | (simp only [hji3] at H ⊢; exact H)
 (try (have hji3l : 0 ≤ ji3 := by (rw [← hji3]; unfold mx; (repeat' split) <;> omega)))
 (try (have hji3m : 0 ≤ ji3 := by omega))
 have hji3_ : (if a1 < 0 then 0 else a1) = ji3 := hji3
 obtain ⟨⟨t128, t129, t130⟩, A4, H⟩ := bi_ H
 try dsimp only at H
 obtain ⟨⟨t131, t132, t133⟩, A5, H⟩ := bi_ H
 try dsimp only at H
 simp only [Option.some.injEq, Prod.mk.injEq] at H
 obtain ⟨rfl, rfl, rfl⟩ := H
 go_enter Tryz.func198, Tryz.ntmps198
 go_wp2_with (first | ((with_reducible refine gate_callee (f := 121) rfl ?_); refine goesL_ (some 10) rfl rfl Tryz.func121 kr_ rfl #[.pointer (some ⟨g, 0, none⟩), .int .u64 (IntKind.u64.wrap (ji3))] rfl (by (try simp only [List.map_toArray, List.map_cons, List.map_nil]); first | done | (simp only [hji3]; rfl) | rfl | (simp only [List.length_drop, List.length_take]; rfl)) ?_; (with_reducible refine (varint_In_Num.calls k g s0_0 s0_1 (IntKind.u64.wrap (ji3)) t128 t129 t130 w0 _ ?side1 ?side2 A4.out).mono ?_); (case side1 => exact is_); (case side2 => exact bl_); rintro e w6 ⟨rfl, hi, hb, hk⟩; refine ⟨_, rfl, ?_⟩; replace HK := am_ (KeepBut.trans kb_ hk (.inl rfl)); replace HB := am_ (hb); replace HI0 := am_ (hi); (try clear hb); (try clear hb2); (try clear hk); (try clear hi)) | ((with_reducible refine gate_callee (f := 233) rfl ?_); refine goesL_ (some 14) rfl rfl Tryz.func233 kr_ rfl #[.pointer (some ⟨g, 0, none⟩), .int .i64 (wrap64 (t128))] rfl ar_ ?_; (with_reducible refine (varint_In_Raw.calls g t129 t130 (wrap64 (t128)) t131 t132 t133 w0 _ ?side1 ?side2 A5.out).mono ?_); (case side1 => exact is_); (case side2 => exact bl_); rintro e w7 ⟨rfl, hi, hb, hk⟩; refine ⟨_, rfl, ?_⟩; replace HK := am_ (KeepBut.trans kb_ hk (.inl rfl)); replace HB := am_ (hb); replace HI0 := am_ (hi); (try clear hb); (try clear hb2); (try clear hk); (try clear hi)))
 go_ret
 exact ⟨by first | rfl | (simp [errW_none, errW_some] <;> rfl) | (simp only [← hji3]; first | rfl | (simp [errW_none, errW_some] <;> rfl)) | (simp [*, errW_none, errW_some] <;> rfl), by exact is_, by exact bl_, by exact kb_⟩

end Go.Proofs.YtendgmblgdkiaaaGreat.PNd

namespace Go.Proofs.YtendgmblgdkiaaaGreat.PNd
open Go.RowKit Go.Proofs.YtendgmblgdkiaaaGreatW.PrintWords Go.Proofs.YtendgmblgdkiaaaGreatW.PrintLast Go.Proofs.YtendgmblgdkiaaaGreatW.PrintMore
attribute [local go_sem] max2_int min2_int max_two min_two
set_option linter.unusedVariables false
set_option linter.unusedSimpArgs false

/-! ### node_Parse: function 159 -/
mutual
def node_Parse.j0 : Nat → Int → ByteArray → Bool → Int → Option (Int × List ByteArray × List ByteArray × List Int × Int)
 | 0, _, _, _, _ => none
 | k + 1, x0, x1, x17, x136000 => if x17 = true then (some (0, ([] : List ByteArray), ([] : List ByteArray), ([] : List Int), 13)) else ((varint_Of.f x1).bind fun bt136 => ((varint_In_Num.f k bt136.1 bt136.2 18446744073709551615).bind fun bt139 => (node_Parse.l0 k x0 bt139.1 x136000 ([] : List ByteArray) ([] : List ByteArray) ([] : List Int) bt139.2.1 bt139.2.2)))
def node_Parse.l0 : Nat → Int → Int → Int → List ByteArray → List ByteArray → List Int → ByteArray → Int → Option (Int × List ByteArray × List ByteArray × List Int × Int)
 | 0, _, _, _, _, _, _, _, _ => none
 | k + 1, x0, x8, x136000, x136001, x136002, x136003, x139000, x139001 => if x8 > 0 then ((varint_In_Err.f x139000 x139001).bind fun bt142 => (node_Parse.j2 k x0 x8 (bt142.1 == 0) x136000 x136001 x136002 x136003 bt142.2.1 bt142.2.2)) else (node_Parse.j2 k x0 x8 false x136000 x136001 x136002 x136003 x139000 x139001)
def node_Parse.j2 : Nat → Int → Int → Bool → Int → List ByteArray → List ByteArray → List Int → ByteArray → Int → Option (Int × List ByteArray × List ByteArray × List Int × Int)
 | 0, _, _, _, _, _, _, _, _, _ => none
 | k + 1, x0, x8, x29, x136000, x136001, x136002, x136003, x139000, x139001 => if x29 = true then ((varint_In_Text.f k x139000 x139001 16).bind fun bt145 => (if x136001.length < 8796093022208 then ((some (x136001 ++ [bt145.1] : List ByteArray)).bind fun y148 => (if x0 = 1 then ((varint_In_Text.f k bt145.2.1 bt145.2.2 32).bind fun bt151 => (if x136002.length < 8796093022208 then (node_Parse.l0 k x0 (IntKind.u64.wrap (x8 - 1)) x136000 y148 (x136002 ++ [bt151.1]) x136003 bt151.2.1 bt151.2.2) else (none))) else ((varint_In_Num.f k bt145.2.1 bt145.2.2 2147483647).bind fun bt157 => (if x136003.length < 17592186044416 then (node_Parse.l0 k x0 (IntKind.u64.wrap (x8 - 1)) x136000 y148 x136002 (x136003 ++ [wrap64 (bt157.1)]) bt157.2.1 bt157.2.2) else (none))))) else (none))) else ((varint_In_End.f x139000 x139001).bind fun bt163 => (if bt163.1 = 0 then ((node_Node_Check.f x136000 x136001 x136002 x136003).bind fun t166 => (if t166 = 0 then (some (x136000, x136001, x136002, x136003, 0)) else (some (0, ([] : List ByteArray), ([] : List ByteArray), ([] : List Int), t166)))) else (some (0, ([] : List ByteArray), ([] : List ByteArray), ([] : List Int), bt163.1))))
end
def node_Parse.f (k : Nat) (a0 : Int) (a1 : ByteArray) : Option (Int × List ByteArray × List ByteArray × List Int × Int) := if a0 = 1 then (node_Parse.j0 k a0 a1 false a0) else (node_Parse.j0 k a0 a1 (a0 != 2) a0)
def node_Parse.T8 : Bool × List (List Nat × List Nat) := (true, [([], []), ([0], [0]), ([], []), ([2], [2]), ([3], [3]), ([1, 4, 3], [1, 4]), ([0, 1, 2, 3, 4, 5], []), ([6, 5, 5, 0, 1, 2, 3, 4, 5], [5, 6])])
def node_Parse.B8 : List Nat := [0, 1, 0, 4, 12, 31, 63, 127]
theorem node_Parse.tab8 : rtab .any (opsOf Tryz.f159 8) = node_Parse.T8 := by kernel_rfl
theorem node_Parse.bits8 : waitsOk node_Parse.T8.2 node_Parse.B8 = true := by kernel_rfl
def node_Parse.T10 : Bool × List (List Nat × List Nat) := (true, [([], []), ([0], [0]), ([], []), ([2], [2]), ([3], [3]), ([1, 4, 3], [1, 4]), ([0, 1, 2, 3, 4, 5], []), ([6, 5, 5, 0, 1, 2, 3, 4, 5], [5, 6])])
def node_Parse.B10 : List Nat := [0, 1, 0, 4, 12, 31, 63, 127]
theorem node_Parse.tab10 : rtab .any (opsOf Tryz.f159 10) = node_Parse.T10 := by kernel_rfl
theorem node_Parse.bits10 : waitsOk node_Parse.T10.2 node_Parse.B10 = true := by kernel_rfl
def node_Parse.T11 : Bool × List (List Nat × List Nat) := (true, [([], []), ([0], [0]), ([], []), ([2], [2]), ([3], [3]), ([4], [4]), ([1, 5, 3], [1, 5]), ([0, 1, 2, 3, 4, 5, 6], []), ([7, 6, 6, 0, 1, 2, 3, 4, 5, 6], [6, 7])])
def node_Parse.B11 : List Nat := [0, 1, 0, 4, 12, 28, 63, 127, 255]
theorem node_Parse.tab11 : rtab .any (opsOf Tryz.f159 11) = node_Parse.T11 := by kernel_rfl
theorem node_Parse.bits11 : waitsOk node_Parse.T11.2 node_Parse.B11 = true := by kernel_rfl
set_option maxHeartbeats 8000000 in
set_option maxRecDepth 100000 in
theorem node_Parse.calls (k : Nat) (a0 : Int) (a1 : ByteArray) (r1 : Int) (r2 : List ByteArray) (r3 : List ByteArray) (r4 : List Int) (r5 : Int) (w : World) (h : node_Parse.f k a0 a1 = some (r1, r2, r3, r4, r5)) :
  Calls Tryz.prog 159 #[.int .i64 a0, .string a1] w fun e w' => ∃ v1_ v2_ v3_ : Value, e = .returned (.tuple #[.agg #[.int .i64 r1, v1_, v2_, v3_], .int .i64 r5]) ∧ Kd.R Kd.string 9 w' w.heap.size (fun k_ => some k_ ≠ (v2_ : Value).ownBlock) v1_ r2 ∧ Kd.R Kd.string 9 w' w.heap.size (fun k_ => some k_ ≠ (v1_ : Value).ownBlock) v2_ r3 ∧ Kd.R (Kd.int .i64) 3 w' w.heap.size (fun _ => True) v3_ r4 ∧ Below w.heap.size w w' := by
 have hu149 := Tryz.underlying149
 have HB := am_ (Below.refl w.heap.size w)
 have H : (if a0 = 1 then (node_Parse.j0 k a0 a1 false a0) else (node_Parse.j0 k a0 a1 (a0 != 2) a0)) = some (r1, r2, r3, r4, r5) := h
 clear h
 have HC3 := am_ H
 clear H
 go_enter Tryz.func159, Tryz.ntmps159
 go_upto_region 2 with (first | ((with_reducible refine gate_dst (N := 4) rfl ?_); refine be_ (N := 4) (cs := #[.int .i64 0, .slice none 0 0, .slice none 0 0, .slice none 0 0]) (t := 149) ?_; intro gb134 hg w4 hbox hb; have BK134 := am_ (hbox); have GW134 := am_ ((sz_ hg : w.heap.size ≤ gb134)); have GE134 := am_ ((sz_ hg : w.heap.size ≤ gb134)); replace HB := am_ (below_step bl_ hb); clear hb hbox hg) | ((with_reducible refine gate_dst (N := 6) rfl ?_); refine be_ (N := 6) (cs := #[.int .i64 0, .slice none 0 0, .slice none 0 0, .slice none 0 0]) (t := 149) ?_; intro gb135 hg w5 hbox hb; have BK135 := am_ (hbox); have GW135 := am_ ((sz_ hg : w.heap.size ≤ gb135)); have GE135 := am_ ((sz_ hg : w.heap.size ≤ gb135)); have NB134_135 := am_ ((nl_ hg BK134 : gb134 ≠ gb135)); have NB135_134 := am_ ((ng_ hg BK134 : gb135 ≠ gb134)); replace BK134 := am_ (bw_ BK134 hb); replace HB := am_ (below_step bl_ hb); clear hb hbox hg; have hnb6 := NB135_134.out; have hnc6 := NB134_135.out; have hcz7_0 : w5.cell? ⟨gb135, 0, none⟩ = some (.int .i64 0) := bc_ BK135 0; have hcz7_1 : w5.cell? ⟨gb135, 1, none⟩ = some (.slice none 0 0) := bc_ BK135 1; have hcz7_2 : w5.cell? ⟨gb135, 2, none⟩ = some (.slice none 0 0) := bc_ BK135 2; have hcz7_3 : w5.cell? ⟨gb135, 3, none⟩ = some (.slice none 0 0) := bc_ BK135 3; have hfz7_0 := blk_frozen BK135.out 0; have hfz7_1 := blk_frozen BK135.out 1; have hfz7_2 := blk_frozen BK135.out 2; have hfz7_3 := blk_frozen BK135.out 3))
 (try simp only [Act.put, List.setIfInBounds_toArray, List.set_cons_zero, List.set_cons_succ])
 go_cut [17] (fun v17 wc => ∃ (kq : Nat) (x17_2 : Bool), v17 = .bool x17_2 ∧ Aside0 (node_Parse.j0 kq a0 a1 x17_2 a0 = some (r1, r2, r3, r4, r5)) ∧ Aside0 (kq ≤ k) ∧ Aside0 (wc.heap[gb134]? = some (.cells #[.int .i64 0, (.slice none 0 0), (.slice none 0 0), (.slice none 0 0)] 149 (0, 0))) ∧ Aside0 (wc.heap[gb135]? = some (.cells #[.int .i64 a0, (.slice none 0 0), (.slice none 0 0), (.slice none 0 0)] 149 (0, 0))) ∧ Aside0 (Below w.heap.size w wc))
 case first =>
  have H := HC3.out
  clear HC3
  by_cases c8 : a0 = 1
  ·rw [if_pos c8] at H
   have c8b0 : (a0 == 1) = true := beq_iff_eq.mpr c8
   have c8b1 : (a0 != 1) = false := bne_eq_false_iff_eq.mpr c8
   clear c8
   (first | rw [c8b0] | (simp only [i64_w, i32_w]; rw [c8b0]) | skip)
   have H' := am_ H
   clear H
   go_wp2
   go_meet
   case rel => exact ⟨_, (false), eq_, H', ⟨by first | omega | exact Nat.le_refl _⟩, ⟨bf_ NB134_135 BK134⟩, ⟨bp_ BK135⟩, ⟨by exact bl_⟩⟩
  ·rw [if_neg c8] at H
   have c8b0 : (a0 == 1) = false := beq_eq_false_iff_ne.mpr c8
   have c8b1 : (a0 != 1) = true := bne_iff_ne.mpr c8
   (first | rw [c8b0] | (simp only [i64_w, i32_w]; rw [c8b0]) | skip)
   have H' := am_ H
   clear H
   go_wp2
   go_meet
   case rel => exact ⟨_, ((a0 != 2)), eq_, H', ⟨by first | omega | exact Nat.le_refl _⟩, ⟨bf_ NB134_135 BK134⟩, ⟨bp_ BK135⟩, ⟨by exact bl_⟩⟩
 case rest =>
  clear HC3; try clear hcz7_0
  try clear hcz7_1; try clear hcz7_2; try clear hcz7_3; try clear hfz7_0; try clear hfz7_1; try clear hfz7_2; try clear hfz7_3
  obtain ⟨kq, x17_2, rfl, HA, HJ2, BK134, BK135, HB⟩ := hcut
  cases kq with
  | zero => exact absurd HA.out (by simp [node_Parse.j0])
  | succ kj2 =>
   have H := HA.out
   clear HA
   simp only [node_Parse.j0] at H
   by_cases c9 : x17_2 = true
   ·subst c9
    rw [if_pos rfl] at H
    simp only [Option.some.injEq, Prod.mk.injEq] at H
    obtain ⟨rfl, rfl, rfl, rfl, rfl⟩ := H
    have hnb10 := NB134_135.out
    have hnc10 := NB135_134.out
    have hcz11_0 : wc.cell? ⟨gb134, 0, none⟩ = some (.int .i64 0) := bc_ BK134 0
    have hcz11_1 : wc.cell? ⟨gb134, 1, none⟩ = some (.slice none 0 0) := bc_ BK134 1
    have hcz11_2 : wc.cell? ⟨gb134, 2, none⟩ = some (.slice none 0 0) := bc_ BK134 2
    have hcz11_3 : wc.cell? ⟨gb134, 3, none⟩ = some (.slice none 0 0) := bc_ BK134 3
    have hfz11_0 := blk_frozen BK134.out 0
    have hfz11_1 := blk_frozen BK134.out 1
    have hfz11_2 := blk_frozen BK134.out 2
    have hfz11_3 := blk_frozen BK134.out 3
    go_wp2
    refine bodyPost_ret (results_ct rfl _ _ gb134 149 #[.int .i64 0, .slice none 0 0, .slice none 0 0, .slice none 0 0] (0, 0) _ rfl (bp_ BK134) Tryz.underlying149 rfl kr_) rfl ?_
    exact ⟨_, _, _, er_, ni_, ni_, ni_, by exact bl_⟩
   ·replace c9 := Bool.eq_false_iff.mpr c9
    subst c9
    rw [if_neg (show ¬ (false = true) by decide)] at H
    obtain ⟨⟨t136, t137⟩, A12, H⟩ := bi_ H
    try dsimp only at H
    obtain ⟨⟨t139, t140, t141⟩, A13, H⟩ := bi_ H
    try dsimp only at H
    have H' := am_ H
    clear H
    go_wp2_with (first | ((with_reducible refine gate_callee (f := 120) rfl ?_); refine goesL_ (some 20) rfl rfl Tryz.func120 kr_ rfl #[.string a1] rfl ar_ ?_; (with_reducible refine (varint_Of.calls a1 t136 t137 w _ ?side1 A12.out).mono ?_); (case side1 => exact bl_); rintro e w14 ⟨g138, rfl, hi, hb, hb2⟩; refine ⟨_, rfl, ?_⟩; have HI138 := am_ (hi); have NB138_134 := am_ (IsS223.ne_blk hi (bw_ BK134 hb2) (by decide)); have NB134_138 := am_ (Ne.symm (IsS223.ne_blk hi (bw_ BK134 hb2) (by decide))); have NB138_135 := am_ (IsS223.ne_blk hi (bw_ BK135 hb2) (by decide)); have NB135_138 := am_ (Ne.symm (IsS223.ne_blk hi (bw_ BK135 hb2) (by decide))); replace BK134 := am_ (bw_ BK134 hb2); replace BK135 := am_ (bw_ BK135 hb2); replace HB := am_ (hb); (try clear hb); (try clear hb2); (try clear hk); (try clear hi)) | ((with_reducible refine gate_callee (f := 121) rfl ?_); refine goesL_ (some 22) rfl rfl Tryz.func121 kr_ rfl #[.pointer (some ⟨g138, 0, none⟩), .int .u64 18446744073709551615] rfl ar_ ?_; (with_reducible refine (varint_In_Num.calls kj2 g138 t136 t137 18446744073709551615 t139 t140 t141 w _ ?side1 ?side2 A13.out).mono ?_); (case side1 => exact is_); (case side2 => exact bl_); rintro e w15 ⟨rfl, hi, hb, hk⟩; refine ⟨_, rfl, ?_⟩; replace BK134 := am_ (KeepBut.blk hk (bx_ BK134) NB134_138.out (by simp)); replace BK135 := am_ (KeepBut.blk hk (bx_ BK135) NB135_138.out (by simp)); replace HB := am_ (hb); replace HI138 := am_ (hi); (try clear hb); (try clear hb2); (try clear hk); (try clear hi)))
    go_loopg [8] kj2 (fun kq v8 w' => ∃ (x8_2 : Int) (x136001_2 : List ByteArray) (x136002_2 : List ByteArray) (x136003_2 : List Int) (x139000_2 : ByteArray) (x139001_2 : Int) (u136001 : Value) (u136002 : Value) (u136003 : Value), v8 = .int .u64 x8_2 ∧ Aside0 (node_Parse.l0 kq a0 x8_2 a0 x136001_2 x136002_2 x136003_2 x139000_2 x139001_2 = some (r1, r2, r3, r4, r5)) ∧ Aside0 (kq ≤ kj2) ∧ Aside0 (Kd.R Kd.string 9 w' w.heap.size (fun k_ => some k_ ≠ (u136002 : Value).ownBlock) u136001 x136001_2) ∧ Aside0 (Kd.R Kd.string 9 w' w.heap.size (fun k_ => some k_ ≠ (u136001 : Value).ownBlock) u136002 x136002_2) ∧ Aside0 (Kd.R (Kd.int .i64) 3 w' w.heap.size (fun _ => True) u136003 x136003_2) ∧ Aside0 (w'.heap[gb134]? = some (.cells #[.int .i64 0, (.slice none 0 0), (.slice none 0 0), (.slice none 0 0)] 149 (0, 0))) ∧ Aside0 (w'.heap[gb135]? = some (.cells #[.int .i64 a0, u136001, u136002, u136003] 149 (0, 0))) ∧ Aside0 (IsS223 w w' g138 x139000_2 x139001_2) ∧ Aside0 (Below w.heap.size w w'))
    case atStart => exact ⟨(t139), (([] : List ByteArray)), (([] : List ByteArray)), (([] : List Int)), (t140), (t141), (.slice none 0 0), (.slice none 0 0), (.slice none 0 0), eq_, H', ⟨Nat.le_refl _⟩, ⟨ni_⟩, ⟨ni_⟩, ⟨ni_⟩, ⟨bx_ BK134⟩, ⟨bx_ BK135⟩, ⟨by exact is_⟩, ⟨by exact bl_⟩⟩
    case round =>
     clear H'; try clear c9
     try clear hcz7_0; try clear hcz7_1; try clear hcz7_2; try clear hcz7_3; try clear hfz7_0; try clear hfz7_1; try clear hfz7_2; try clear hfz7_3
     obtain ⟨x8_2, x136001_2, x136002_2, x136003_2, x139000_2, x139001_2, u136001, u136002, u136003, rfl, HA, HK2, HO_136001, HO_136002, HO_136003, BK134, BK135, HI138, HB⟩ := hrel
     cases gk with
     | zero => exact absurd HA.out (by simp [node_Parse.l0])
     | succ k2 =>
      have H := HA.out
      clear HA
      simp only [node_Parse.l0] at H
      have HC16 := am_ H
      clear H
      go_upto_region 6 with (fail)
      go_cut [29] (fun v29 wc => ∃ (kq : Nat) (x29_15 : Bool) (x139000_15 : ByteArray) (x139001_15 : Int), v29 = .bool x29_15 ∧ Aside0 (node_Parse.j2 kq a0 x8_2 x29_15 a0 x136001_2 x136002_2 x136003_2 x139000_15 x139001_15 = some (r1, r2, r3, r4, r5)) ∧ Aside0 (kq ≤ k2) ∧ Aside0 (Kd.R Kd.string 9 wc w.heap.size (fun k_ => some k_ ≠ (u136002 : Value).ownBlock) u136001 x136001_2) ∧ Aside0 (Kd.R Kd.string 9 wc w.heap.size (fun k_ => some k_ ≠ (u136001 : Value).ownBlock) u136002 x136002_2) ∧ Aside0 (Kd.R (Kd.int .i64) 3 wc w.heap.size (fun _ => True) u136003 x136003_2) ∧ Aside0 (wc.heap[gb134]? = some (.cells #[.int .i64 0, (.slice none 0 0), (.slice none 0 0), (.slice none 0 0)] 149 (0, 0))) ∧ Aside0 (wc.heap[gb135]? = some (.cells #[.int .i64 a0, u136001, u136002, u136003] 149 (0, 0))) ∧ Aside0 (IsS223 w wc g138 x139000_15 x139001_15) ∧ Aside0 (Below w.heap.size w wc))
      case first =>
       have H := HC16.out
       clear HC16
       by_cases c17 : x8_2 > 0
       ·rw [if_pos c17] at H
        have c17b0 : decide (0 < x8_2) = true := decide_eq_true c17
        clear c17
        (first | rw [c17b0] | (simp only [i64_w, i32_w]; rw [c17b0]) | skip)
        obtain ⟨⟨t142, t143, t144⟩, A18, H⟩ := bi_ H
        try dsimp only at H
        have H' := am_ H
        clear H
        go_wp2_with (first | (go_at_call 197; (with_reducible refine (varint_In_Err.calls g138 x139000_2 x139001_2 t142 t143 t144 w _ ?side1 ?side2 A18.out).mono ?_); (case side1 => exact is_); (case side2 => exact bl_); rintro e w19 ⟨rfl, hi, hb, hk⟩; replace HO_136001 := am_ (Kd.R_mono (Kd.R_keep (IsS223.apart (show IsS223 w _ g138 x139000_2 x139001_2 from by exact is_) (rx_ HO_136001) (by decide)) hk (fun _ h => h.2)) (fun _ h => h.1)); replace HO_136002 := am_ (Kd.R_mono (Kd.R_keep (IsS223.apart (show IsS223 w _ g138 x139000_2 x139001_2 from by exact is_) (rx_ HO_136002) (by decide)) hk (fun _ h => h.2)) (fun _ h => h.1)); replace HO_136003 := am_ (Kd.R_mono (Kd.R_keep (IsS223.apart (show IsS223 w _ g138 x139000_2 x139001_2 from by exact is_) (rx_ HO_136003) (by decide)) hk (fun _ h => h.2)) (fun _ h => h.1)); replace BK134 := am_ (KeepBut.blk hk (bx_ BK134) NB134_138.out (by simp)); replace BK135 := am_ (KeepBut.blk hk (bx_ BK135) NB135_138.out (by simp)); replace HB := am_ (hb); replace HI138 := am_ (hi); (try clear hb); (try clear hb2); (try clear hk); (try clear hi)))
        go_meet
        case rel => exact ⟨_, ((t142 == 0)), (t143), (t144), eq_, H', ⟨by have := HJ2.out; have := HK2.out; first | omega | exact Nat.le_refl _⟩, ⟨rx_ HO_136001⟩, ⟨rx_ HO_136002⟩, ⟨rx_ HO_136003⟩, ⟨bx_ BK134⟩, ⟨bx_ BK135⟩, ⟨by exact is_⟩, ⟨by exact bl_⟩⟩
       ·rw [if_neg c17] at H
        have c17b0 : decide (0 < x8_2) = false := decide_eq_false c17
        clear c17
        (first | rw [c17b0] | (simp only [i64_w, i32_w]; rw [c17b0]) | skip)
        have H' := am_ H
        clear H
        go_wp2
        go_meet
        case rel => exact ⟨_, (false), (x139000_2), (x139001_2), eq_, H', ⟨by have := HJ2.out; have := HK2.out; first | omega | exact Nat.le_refl _⟩, ⟨rx_ HO_136001⟩, ⟨rx_ HO_136002⟩, ⟨rx_ HO_136003⟩, ⟨bx_ BK134⟩, ⟨bx_ BK135⟩, ⟨by exact is_⟩, ⟨by exact bl_⟩⟩
      case rest =>
       clear HC16; try clear c9
       try clear hcz7_0; try clear hcz7_1; try clear hcz7_2; try clear hcz7_3; try clear hfz7_0; try clear hfz7_1; try clear hfz7_2; try clear hfz7_3
       obtain ⟨kq, x29_15, x139000_15, x139001_15, rfl, HA, HJ15, HO_136001, HO_136002, HO_136003, BK134, BK135, HI138, HB⟩ := hcut
       cases kq with
       | zero => exact absurd HA.out (by simp [node_Parse.j2])
       | succ kj15 =>
        have H := HA.out
        clear HA
        simp only [node_Parse.j2] at H
        by_cases c20 : x29_15 = true
        ·subst c20
         rw [if_pos rfl] at H
         obtain ⟨⟨t145, t146, t147⟩, A21, H⟩ := bi_ H
         try dsimp only at H
         by_cases c22 : x136001_2.length < 8796093022208
         ·rw [if_pos c22] at H
          have LMc22 := am_ c22
          clear c22
          obtain ⟨y148, hy148⟩ : ∃ y_ : List ByteArray, y_ = (x136001_2 ++ [t145]) := ⟨_, rfl⟩
          (first | rw [Option.bind_some, ← hy148] at H | rw [← hy148] at H | skip); try dsimp only at H
          have Ny148 := am_ hy148
          clear hy148
          by_cases c23 : a0 = 1
          ·rw [if_pos c23] at H
           have c23b0 : (a0 == 1) = true := beq_iff_eq.mpr c23
           have c23b1 : (a0 != 1) = false := bne_eq_false_iff_eq.mpr c23
           clear c23
           obtain ⟨⟨t151, t152, t153⟩, A24, H⟩ := bi_ H
           try dsimp only at H
           by_cases c25 : x136002_2.length < 8796093022208
           ·rw [if_pos c25] at H
            have LMc25 := am_ c25
            clear c25
            obtain ⟨y154, hy154⟩ : ∃ y_ : List ByteArray, y_ = (x136002_2 ++ [t151]) := ⟨_, rfl⟩
            (first | rw [Option.bind_some, ← hy154] at H | rw [← hy154] at H | skip); try dsimp only at H
            have Ny154 := am_ hy154
            clear hy154
            have H' := am_ H
            clear H
            try go_wp2
            replace HO_136001 := am_ (Kd.R_drew HO_136001.out)
            replace HO_136002 := am_ (Kd.R_drew HO_136002.out)
            replace HO_136003 := am_ (Kd.R_drew HO_136003.out)
            replace BK134 := am_ (blk_drew BK134.out)
            replace BK135 := am_ (blk_drew BK135.out)
            replace HI138 := am_ (IsS223.drew HI138.out)
            replace HB := am_ (below_drew1 HB.out)
            refine start_ (n := 8) (S := fun w' => w'.cell? ⟨gb135, 0, none⟩ = some (.int .i64 a0) ∧ w'.cell? ⟨gb135, 1, none⟩ = some (u136001) ∧ w'.cell? ⟨gb135, 2, none⟩ = some (u136002) ∧ w'.cell? ⟨gb135, 3, none⟩ = some (u136003)) (ds := [7]) (bz 8 0) kr_ rfl rfl ⟨bc_ BK135 0, bc_ BK135 1, bc_ BK135 2, bc_ BK135 3⟩ (fun hHeld => ?_); refine with_tabW node_Parse.tab8 node_Parse.bits8 (fun HT_ HW_ => ?_)
            generalize wc.drew = w26 at HO_136001 HO_136002 HO_136003 BK134 BK135 HI138 HB hHeld ⊢
            refine pu_ (fun x y z => pure_ (i := 0) (N := some 32) (bz 8 1) rfl rfl (any_of HT_.out kr_) (fun _ _ _ h => h) (Or.inl ⟨by rfl, x⟩) y z) ?_
            refine pu_ (fun x y z => pure_ (i := 2) (N := some 34) (bz 8 5) rfl rfl (any_of HT_.out kr_) (fun _ _ _ h => h) (Or.inl ⟨by rfl, x⟩) y z) ?_
            refine take_ (i := 1) (N := some 33) (v := ?_) (a' := ?_) (bz 8 7) rfl rfl (take_ofW HT_.out HW_.out kr_) (fun _ _ _ h => h) (Or.inl ⟨by rfl, ?_⟩) hHeld ?_ ?_
            rotate_left
            ·rintro w' ⟨s0, s1, s2, s3⟩
             go_simp
             with_reducible rfl
            rotate_left
            ·simp only [Act.put, List.setIfInBounds_toArray, List.set_cons_zero, List.set_cons_succ, i64_w, i32_w]
             rfl
            refine one_ (i := 3) (N := some 35) (bz 8 15) rfl rfl (one_of HT_.out kr_) (by decide) (fun K hK => ?_)
            refine goes_ Tryz.func198 kr_ rfl #[.pointer (some ⟨g138, 0, none⟩), .int .i64 16] (by rfl) rfl rfl ar_ ?_
            with_reducible refine (varint_In_Text.calls kj15 g138 x139000_15 x139001_15 16 t145 t146 t147 w _ ?side1 ?side2 A21.out).mono ?_
            (case side1 => exact is_)
            (case side2 => exact bl_)
            rintro e w27 ⟨rfl, hi, hb, hk⟩
            refine ⟨_, rfl, ?_⟩
            replace HO_136001 := am_ (Kd.R_mono (Kd.R_keep (IsS223.apart (show IsS223 w _ g138 x139000_15 x139001_15 from by exact is_) (rx_ HO_136001) (by decide)) hk (fun _ h => h.2)) (fun _ h => h.1))
            replace HO_136002 := am_ (Kd.R_mono (Kd.R_keep (IsS223.apart (show IsS223 w _ g138 x139000_15 x139001_15 from by exact is_) (rx_ HO_136002) (by decide)) hk (fun _ h => h.2)) (fun _ h => h.1))
            replace HO_136003 := am_ (Kd.R_mono (Kd.R_keep (IsS223.apart (show IsS223 w _ g138 x139000_15 x139001_15 from by exact is_) (rx_ HO_136003) (by decide)) hk (fun _ h => h.2)) (fun _ h => h.1))
            replace BK134 := am_ (KeepBut.blk hk (bx_ BK134) NB134_138.out (by simp))
            replace BK135 := am_ (KeepBut.blk hk (bx_ BK135) NB135_138.out (by simp))
            replace HB := am_ (hb)
            replace HI138 := am_ (hi)
            (try clear hb); (try clear hb2); (try clear hk); (try clear hi)
            refine hK.out _ _ ⟨bc_ BK135 0, bc_ BK135 1, bc_ BK135 2, bc_ BK135 3⟩ (fun hHeld => ?_)
            clear hK K
            refine no_ (some 35) ?_
            refine one_ (i := 4) (N := some 36) (bz 8 31) rfl rfl (one_of HT_.out kr_) (by decide) (fun K hK => ?_)
            refine value_ (w1 := ?_) (v := ?_) (by rfl) rfl ?_ ?_
            rotate_left 2
            ·go_simp
             constructor
             ·rfl
             ·rfl
            refine hK.out _ _ ⟨(blk_cell (blk_alloc BK135.out _) 0).trans rfl, (blk_cell (blk_alloc BK135.out _) 1).trans rfl, (blk_cell (blk_alloc BK135.out _) 2).trans rfl, (blk_cell (blk_alloc BK135.out _) 3).trans rfl⟩ (fun hHeld => ?_)
            clear hK K
            refine no_ (some 36) ?_
            refine one_ (i := 5) (N := some 37) (bz 8 63) rfl rfl (one_of HT_.out kr_) (by decide) (fun K hK => ?_)
            refine Kd.R_append_step Kd.string (w0 := w) w.heap.size (by rfl) (.tmp 33) (.tmp 36) 22 9 (.string ⟨#[]⟩) 16 rfl Tryz.underlying22 info9 rfl (by decide) om_ u136001 x136001_2 t145 [.string t145] (fun k_ => some k_ ≠ (u136002 : Value).ownBlock) (fun _ => False) rfl rfl ?aP (fun _ hk => hk.elim) ?aF ?aO ?aB ?aS ?aL ?_
            (case aP => exact rfl)
            (case aB => exact bl_)
            (case aF => exact (fun k_ hk => Kd.fresh' (Kd.R_lt (rx_ HO_136002)) k_ hk))
            (case aO => exact (rx_ HO_136001))
            (case aS => exact (below_size bl_))
            (case aL => have := LMc22.out; omega)
            intro v149 w28 ho hb hg hat
            rw [← Ny148.out] at ho
            have HO150 := am_ (ho)
            replace HO_136002 := am_ (Kd.R_after (ok := (fun _ => True)) (by (with_reducible repeat (first | apply Kd.R_alloc | apply Kd.R_drewN | apply Kd.R_drew)); exact Kd.R_mono HO_136002.out (fun _ hk => ⟨trivial, hk⟩)) hg hat)
            replace HO_136003 := am_ (Kd.R_over' (rx_ HO_136003) (Kd.R_typed (rx_ HO_136001)) (by decide) hg)
            replace BK134 := am_ (blk_grown (bx_ BK134) hg (Kd.R_ne HO_136001.out BK134.out (by decide)))
            replace BK135 := am_ (blk_grown (bx_ BK135) hg (Kd.R_ne HO_136001.out BK135.out (by decide)))
            replace HI138 := am_ (IsS223.grown is_ hg (IsS223.own_ne HI138.out HO_136001.out (by decide)))
            replace HB := am_ (hb)
            clear HO_136001 ho hb hg hat
            obtain ⟨Ao29, co29, eo29⟩ := Kd.R_slice HO150.out
            (first | subst eo29 | (injection eo29 with f1_ f2_ f3_; have f4_ := f1_.symm; have f5_ := f3_.symm; clear f1_ f2_ f3_; subst f4_; subst f5_))
            refine hK.out _ _ ⟨bc_ BK135 0, bc_ BK135 1, bc_ BK135 2, bc_ BK135 3⟩ (fun hHeld => ?_)
            clear hK K
            refine no_ (some 37) ?_
            refine pu_ (fun x y z => pure_ (i := 6) (N := some 38) (bz 8 127) rfl rfl (any_of HT_.out kr_) (fun _ _ _ h => h) (Or.inl ⟨by rfl, x⟩) y z) ?_
            refine last_ (i := 7) (N := none) (bz 8 255) rfl rfl (one_of HT_.out kr_) (by decide) (fun K hK => ?_)
            have hs30 : w28.cell? ⟨gb135, 1, none⟩ = some (u136001) := bc_ BK135 1
            have hfs30 := blk_frozen BK135.out 1
            have hns30_0 := NB134_135.out
            have hms30_0 := NB135_134.out
            refine skip_ (w1 := ?_) (by rfl) rfl ?_ ?_
            rotate_left
            ·go_simp
             rfl
            refine hK.out _ _ ?_
            clear hK K
            refine done_ (done_of HT_.out kr_) ?_
            try go_wp2
            replace HO_136002 : Aside0 (Kd.R Kd.string 9 (w28.setCell ⟨gb135, 1, none⟩ (.slice Ao29 y148.length co29)) w.heap.size (fun k_ => some k_ ≠ (.slice Ao29 y148.length co29 : Value).ownBlock) u136002 x136002_2) := ⟨by (with_reducible repeat (first | apply Kd.R_alloc | apply Kd.R_drewN | apply Kd.R_drew)); exact Kd.R_mono (Kd.R_far (p := ⟨gb135, 1, none⟩) (Kd.R_types HO_136002.out BK135.out (by decide)) (fun _ hk => hk.2) (.slice Ao29 y148.length co29)) (fun _ hk => hk.1.2)⟩
            replace HO_136003 : Aside0 (Kd.R (Kd.int .i64) 3 (w28.setCell ⟨gb135, 1, none⟩ (.slice Ao29 y148.length co29)) w.heap.size (fun _ => True) u136003 x136003_2) := ⟨by (with_reducible repeat (first | apply Kd.R_alloc | apply Kd.R_drewN | apply Kd.R_drew)); exact Kd.R_mono (Kd.R_far (p := ⟨gb135, 1, none⟩) (Kd.R_types HO_136003.out BK135.out (by decide)) (fun _ hk => hk.2) (.slice Ao29 y148.length co29)) (fun _ hk => trivial)⟩
            replace HO150 : Aside0 (Kd.R Kd.string 9 (w28.setCell ⟨gb135, 1, none⟩ (.slice Ao29 y148.length co29)) w.heap.size (fun k_ => some k_ ≠ (u136002 : Value).ownBlock) (.slice Ao29 y148.length co29) y148) := ⟨by (with_reducible repeat (first | apply Kd.R_alloc | apply Kd.R_drewN | apply Kd.R_drew)); exact Kd.R_mono (Kd.R_far (p := ⟨gb135, 1, none⟩) (Kd.R_types HO150.out BK135.out (by decide)) (fun _ hk => hk.2) (.slice Ao29 y148.length co29)) (fun _ hk => hk.1)⟩
            replace BK134 : Aside0 ((w28.setCell ⟨gb135, 1, none⟩ (.slice Ao29 y148.length co29)).heap[gb134]? = some (.cells #[.int .i64 0, .slice none 0 0, .slice none 0 0, .slice none 0 0] 149 (0, 0))) := ⟨bf_ NB134_135 BK134⟩
            replace BK135 : Aside0 ((w28.setCell ⟨gb135, 1, none⟩ (.slice Ao29 y148.length co29)).heap[gb135]? = some (.cells #[.int .i64 a0, .slice Ao29 y148.length co29, u136002, u136003] 149 (0, 0))) := ⟨bp_ BK135⟩
            replace HI138 : Aside0 (IsS223 w (w28.setCell ⟨gb135, 1, none⟩ (.slice Ao29 y148.length co29)) g138 t146 t147) := ⟨by exact is_⟩
            replace HB : Aside0 (Below w.heap.size w (w28.setCell ⟨gb135, 1, none⟩ (.slice Ao29 y148.length co29))) := ⟨by exact bl_⟩
            generalize (w28.setCell ⟨gb135, 1, none⟩ (.slice Ao29 y148.length co29)) = w31 at HO_136002 HO_136003 HO150 BK134 BK135 HI138 HB ⊢
            replace HO_136002 := am_ (Kd.R_drew HO_136002.out)
            replace HO_136003 := am_ (Kd.R_drew HO_136003.out)
            replace HO150 := am_ (Kd.R_drew HO150.out)
            replace BK134 := am_ (blk_drew BK134.out)
            replace BK135 := am_ (blk_drew BK135.out)
            replace HI138 := am_ (IsS223.drew HI138.out)
            replace HB := am_ (below_drew1 HB.out)
            refine start_ (n := 8) (S := fun w' => w'.cell? ⟨gb135, 0, none⟩ = some (.int .i64 a0) ∧ w'.cell? ⟨gb135, 1, none⟩ = some (.slice Ao29 y148.length co29) ∧ w'.cell? ⟨gb135, 2, none⟩ = some (u136002) ∧ w'.cell? ⟨gb135, 3, none⟩ = some (u136003)) (ds := [7]) (bz 8 0) kr_ rfl rfl ⟨bc_ BK135 0, bc_ BK135 1, bc_ BK135 2, bc_ BK135 3⟩ (fun hHeld => ?_); refine with_tabW node_Parse.tab10 node_Parse.bits10 (fun HT_ HW_ => ?_)
            generalize w31.drew = w32 at HO_136002 HO_136003 HO150 BK134 BK135 HI138 HB hHeld ⊢
            refine pu_ (fun x y z => pure_ (i := 0) (N := some 41) (bz 8 1) rfl rfl (any_of HT_.out kr_) (fun _ _ _ h => h) (Or.inl ⟨by rfl, x⟩) y z) ?_
            refine pu_ (fun x y z => pure_ (i := 2) (N := some 43) (bz 8 5) rfl rfl (any_of HT_.out kr_) (fun _ _ _ h => h) (Or.inl ⟨by rfl, x⟩) y z) ?_
            refine take_ (i := 1) (N := some 42) (v := ?_) (a' := ?_) (bz 8 7) rfl rfl (take_ofW HT_.out HW_.out kr_) (fun _ _ _ h => h) (Or.inl ⟨by rfl, ?_⟩) hHeld ?_ ?_
            rotate_left
            ·rintro w' ⟨s0, s1, s2, s3⟩
             go_simp
             with_reducible rfl
            rotate_left
            ·simp only [Act.put, List.setIfInBounds_toArray, List.set_cons_zero, List.set_cons_succ, i64_w, i32_w]
             rfl
            refine one_ (i := 3) (N := some 44) (bz 8 15) rfl rfl (one_of HT_.out kr_) (by decide) (fun K hK => ?_)
            refine goes_ Tryz.func198 kr_ rfl #[.pointer (some ⟨g138, 0, none⟩), .int .i64 32] (by rfl) rfl rfl ar_ ?_
            with_reducible refine (varint_In_Text.calls kj15 g138 t146 t147 32 t151 t152 t153 w _ ?side1 ?side2 A24.out).mono ?_
            (case side1 => exact is_)
            (case side2 => exact bl_)
            rintro e w33 ⟨rfl, hi, hb, hk⟩
            refine ⟨_, rfl, ?_⟩
            replace HO_136002 := am_ (Kd.R_mono (Kd.R_keep (IsS223.apart (show IsS223 w _ g138 t146 t147 from by exact is_) (rx_ HO_136002) (by decide)) hk (fun _ h => h.2)) (fun _ h => h.1))
            replace HO_136003 := am_ (Kd.R_mono (Kd.R_keep (IsS223.apart (show IsS223 w _ g138 t146 t147 from by exact is_) (rx_ HO_136003) (by decide)) hk (fun _ h => h.2)) (fun _ h => h.1))
            replace BK134 := am_ (KeepBut.blk hk (bx_ BK134) NB134_138.out (by simp))
            replace BK135 := am_ (KeepBut.blk hk (bx_ BK135) NB135_138.out (by simp))
            replace HO150 := am_ (Kd.R_mono (Kd.R_keep (IsS223.apart (show IsS223 w _ g138 t146 t147 from by exact is_) (rx_ HO150) (by decide)) hk (fun _ h => h.2)) (fun _ h => h.1))
            replace HB := am_ (hb)
            replace HI138 := am_ (hi)
            (try clear hb); (try clear hb2); (try clear hk); (try clear hi)
            refine hK.out _ _ ⟨bc_ BK135 0, bc_ BK135 1, bc_ BK135 2, bc_ BK135 3⟩ (fun hHeld => ?_)
            clear hK K
            refine no_ (some 44) ?_
            refine one_ (i := 4) (N := some 45) (bz 8 31) rfl rfl (one_of HT_.out kr_) (by decide) (fun K hK => ?_)
            refine value_ (w1 := ?_) (v := ?_) (by rfl) rfl ?_ ?_
            rotate_left 2
            ·go_simp
             constructor
             ·rfl
             ·rfl
            refine hK.out _ _ ⟨(blk_cell (blk_alloc BK135.out _) 0).trans rfl, (blk_cell (blk_alloc BK135.out _) 1).trans rfl, (blk_cell (blk_alloc BK135.out _) 2).trans rfl, (blk_cell (blk_alloc BK135.out _) 3).trans rfl⟩ (fun hHeld => ?_)
            clear hK K
            refine no_ (some 45) ?_
            refine one_ (i := 5) (N := some 46) (bz 8 63) rfl rfl (one_of HT_.out kr_) (by decide) (fun K hK => ?_)
            refine Kd.R_append_step Kd.string (w0 := w) w.heap.size (by rfl) (.tmp 42) (.tmp 45) 22 9 (.string ⟨#[]⟩) 16 rfl Tryz.underlying22 info9 rfl (by decide) om_ u136002 x136002_2 t151 [.string t151] (fun k_ => some k_ ≠ (.slice Ao29 y148.length co29 : Value).ownBlock) (fun _ => False) rfl rfl ?aP (fun _ hk => hk.elim) ?aF ?aO ?aB ?aS ?aL ?_
            (case aP => exact rfl)
            (case aB => exact bl_)
            (case aF => exact (fun k_ hk => Kd.fresh' (Kd.R_lt (rx_ HO150)) k_ hk))
            (case aO => exact (rx_ HO_136002))
            (case aS => exact (below_size bl_))
            (case aL => have := LMc25.out; omega)
            intro v155 w34 ho hb hg hat
            rw [← Ny154.out] at ho
            have HO156 := am_ (ho)
            replace HO_136003 := am_ (Kd.R_over' (rx_ HO_136003) (Kd.R_typed (rx_ HO_136002)) (by decide) hg)
            replace BK134 := am_ (blk_grown (bx_ BK134) hg (Kd.R_ne HO_136002.out BK134.out (by decide)))
            replace BK135 := am_ (blk_grown (bx_ BK135) hg (Kd.R_ne HO_136002.out BK135.out (by decide)))
            replace HI138 := am_ (IsS223.grown is_ hg (IsS223.own_ne HI138.out HO_136002.out (by decide)))
            replace HO150 := am_ (Kd.R_after (ok := (fun _ => True)) (by (with_reducible repeat (first | apply Kd.R_alloc | apply Kd.R_drewN | apply Kd.R_drew)); exact Kd.R_mono HO150.out (fun _ hk => ⟨trivial, hk⟩)) hg hat)
            replace HB := am_ (hb)
            clear HO_136002 ho hb hg hat
            obtain ⟨Ao35, co35, eo35⟩ := Kd.R_slice HO156.out
            (first | subst eo35 | (injection eo35 with f1_ f2_ f3_; have f4_ := f1_.symm; have f5_ := f3_.symm; clear f1_ f2_ f3_; subst f4_; subst f5_))
            refine hK.out _ _ ⟨bc_ BK135 0, bc_ BK135 1, bc_ BK135 2, bc_ BK135 3⟩ (fun hHeld => ?_)
            clear hK K
            refine no_ (some 46) ?_
            refine pu_ (fun x y z => pure_ (i := 6) (N := some 47) (bz 8 127) rfl rfl (any_of HT_.out kr_) (fun _ _ _ h => h) (Or.inl ⟨by rfl, x⟩) y z) ?_
            refine last_ (i := 7) (N := none) (bz 8 255) rfl rfl (one_of HT_.out kr_) (by decide) (fun K hK => ?_)
            have hs36 : w34.cell? ⟨gb135, 2, none⟩ = some (u136002) := bc_ BK135 2
            have hfs36 := blk_frozen BK135.out 2
            have hns36_0 := NB134_135.out
            have hms36_0 := NB135_134.out
            refine skip_ (w1 := ?_) (by rfl) rfl ?_ ?_
            rotate_left
            ·go_simp
             rfl
            refine hK.out _ _ ?_
            clear hK K
            refine done_ (done_of HT_.out kr_) ?_
            try go_wp2
            go_roundg kj15
            case measure => have := HJ2.out; have := HK2.out; have := HJ15.out; omega
            case rel => exact ⟨(IntKind.u64.wrap (x8_2 - 1)), (y148), (y154), (x136003_2), (t152), (t153), (.slice Ao29 y148.length co29), (.slice Ao35 y154.length co35), (u136003), eq_, H', ⟨by have := HJ2.out; have := HK2.out; have := HJ15.out; omega⟩, ⟨by (with_reducible repeat (first | apply Kd.R_alloc | apply Kd.R_drewN | apply Kd.R_drew)); exact Kd.R_mono (Kd.R_far (p := ⟨gb135, 2, none⟩) (Kd.R_types HO150.out BK135.out (by decide)) (fun _ hk => hk.2) (.slice Ao35 y154.length co35)) (fun _ hk => hk.1.2)⟩, ⟨by (with_reducible repeat (first | apply Kd.R_alloc | apply Kd.R_drewN | apply Kd.R_drew)); exact Kd.R_mono (Kd.R_far (p := ⟨gb135, 2, none⟩) (Kd.R_types HO156.out BK135.out (by decide)) (fun _ hk => hk.2) (.slice Ao35 y154.length co35)) (fun _ hk => hk.1)⟩, ⟨by (with_reducible repeat (first | apply Kd.R_alloc | apply Kd.R_drewN | apply Kd.R_drew)); exact Kd.R_mono (Kd.R_far (p := ⟨gb135, 2, none⟩) (Kd.R_types HO_136003.out BK135.out (by decide)) (fun _ hk => hk.2) (.slice Ao35 y154.length co35)) (fun _ hk => trivial)⟩, ⟨bf_ NB134_135 BK134⟩, ⟨bp_ BK135⟩, ⟨by exact is_⟩, ⟨by exact bl_⟩⟩
           ·rw [if_neg c25] at H
            exact absurd H (by simp)
          ·rw [if_neg c23] at H
           have c23b0 : (a0 == 1) = false := beq_eq_false_iff_ne.mpr c23
           have c23b1 : (a0 != 1) = true := bne_iff_ne.mpr c23
           obtain ⟨⟨t157, t158, t159⟩, A37, H⟩ := bi_ H
           try dsimp only at H
           by_cases c38 : x136003_2.length < 17592186044416
           ·rw [if_pos c38] at H
            have LMc38 := am_ c38
            clear c38
            obtain ⟨y160, hy160⟩ : ∃ y_ : List Int, y_ = (x136003_2 ++ [wrap64 (t157)]) := ⟨_, rfl⟩
            (first | rw [Option.bind_some, ← hy160] at H | rw [← hy160] at H | skip); try dsimp only at H
            have Ny160 := am_ hy160
            clear hy160
            have H' := am_ H
            clear H
            try go_wp2
            replace HO_136001 := am_ (Kd.R_drew HO_136001.out)
            replace HO_136002 := am_ (Kd.R_drew HO_136002.out)
            replace HO_136003 := am_ (Kd.R_drew HO_136003.out)
            replace BK134 := am_ (blk_drew BK134.out)
            replace BK135 := am_ (blk_drew BK135.out)
            replace HI138 := am_ (IsS223.drew HI138.out)
            replace HB := am_ (below_drew1 HB.out)
            refine start_ (n := 8) (S := fun w' => w'.cell? ⟨gb135, 0, none⟩ = some (.int .i64 a0) ∧ w'.cell? ⟨gb135, 1, none⟩ = some (u136001) ∧ w'.cell? ⟨gb135, 2, none⟩ = some (u136002) ∧ w'.cell? ⟨gb135, 3, none⟩ = some (u136003)) (ds := [7]) (bz 8 0) kr_ rfl rfl ⟨bc_ BK135 0, bc_ BK135 1, bc_ BK135 2, bc_ BK135 3⟩ (fun hHeld => ?_); refine with_tabW node_Parse.tab8 node_Parse.bits8 (fun HT_ HW_ => ?_)
            generalize wc.drew = w39 at HO_136001 HO_136002 HO_136003 BK134 BK135 HI138 HB hHeld ⊢
            refine pu_ (fun x y z => pure_ (i := 0) (N := some 32) (bz 8 1) rfl rfl (any_of HT_.out kr_) (fun _ _ _ h => h) (Or.inl ⟨by rfl, x⟩) y z) ?_
            refine pu_ (fun x y z => pure_ (i := 2) (N := some 34) (bz 8 5) rfl rfl (any_of HT_.out kr_) (fun _ _ _ h => h) (Or.inl ⟨by rfl, x⟩) y z) ?_
            refine take_ (i := 1) (N := some 33) (v := ?_) (a' := ?_) (bz 8 7) rfl rfl (take_ofW HT_.out HW_.out kr_) (fun _ _ _ h => h) (Or.inl ⟨by rfl, ?_⟩) hHeld ?_ ?_
            rotate_left
            ·rintro w' ⟨s0, s1, s2, s3⟩
             go_simp
             with_reducible rfl
            rotate_left
            ·simp only [Act.put, List.setIfInBounds_toArray, List.set_cons_zero, List.set_cons_succ, i64_w, i32_w]
             rfl
            refine one_ (i := 3) (N := some 35) (bz 8 15) rfl rfl (one_of HT_.out kr_) (by decide) (fun K hK => ?_)
            refine goes_ Tryz.func198 kr_ rfl #[.pointer (some ⟨g138, 0, none⟩), .int .i64 16] (by rfl) rfl rfl ar_ ?_
            with_reducible refine (varint_In_Text.calls kj15 g138 x139000_15 x139001_15 16 t145 t146 t147 w _ ?side1 ?side2 A21.out).mono ?_
            (case side1 => exact is_)
            (case side2 => exact bl_)
            rintro e w40 ⟨rfl, hi, hb, hk⟩
            refine ⟨_, rfl, ?_⟩
            replace HO_136001 := am_ (Kd.R_mono (Kd.R_keep (IsS223.apart (show IsS223 w _ g138 x139000_15 x139001_15 from by exact is_) (rx_ HO_136001) (by decide)) hk (fun _ h => h.2)) (fun _ h => h.1))
            replace HO_136002 := am_ (Kd.R_mono (Kd.R_keep (IsS223.apart (show IsS223 w _ g138 x139000_15 x139001_15 from by exact is_) (rx_ HO_136002) (by decide)) hk (fun _ h => h.2)) (fun _ h => h.1))
            replace HO_136003 := am_ (Kd.R_mono (Kd.R_keep (IsS223.apart (show IsS223 w _ g138 x139000_15 x139001_15 from by exact is_) (rx_ HO_136003) (by decide)) hk (fun _ h => h.2)) (fun _ h => h.1))
            replace BK134 := am_ (KeepBut.blk hk (bx_ BK134) NB134_138.out (by simp))
            replace BK135 := am_ (KeepBut.blk hk (bx_ BK135) NB135_138.out (by simp))
            replace HB := am_ (hb)
            replace HI138 := am_ (hi)
            (try clear hb); (try clear hb2); (try clear hk); (try clear hi)
            refine hK.out _ _ ⟨bc_ BK135 0, bc_ BK135 1, bc_ BK135 2, bc_ BK135 3⟩ (fun hHeld => ?_)
            clear hK K
            refine no_ (some 35) ?_
            refine one_ (i := 4) (N := some 36) (bz 8 31) rfl rfl (one_of HT_.out kr_) (by decide) (fun K hK => ?_)
            refine value_ (w1 := ?_) (v := ?_) (by rfl) rfl ?_ ?_
            rotate_left 2
            ·go_simp
             constructor
             ·rfl
             ·rfl
            refine hK.out _ _ ⟨(blk_cell (blk_alloc BK135.out _) 0).trans rfl, (blk_cell (blk_alloc BK135.out _) 1).trans rfl, (blk_cell (blk_alloc BK135.out _) 2).trans rfl, (blk_cell (blk_alloc BK135.out _) 3).trans rfl⟩ (fun hHeld => ?_)
            clear hK K
            refine no_ (some 36) ?_
            refine one_ (i := 5) (N := some 37) (bz 8 63) rfl rfl (one_of HT_.out kr_) (by decide) (fun K hK => ?_)
            refine Kd.R_append_step Kd.string (w0 := w) w.heap.size (by rfl) (.tmp 33) (.tmp 36) 22 9 (.string ⟨#[]⟩) 16 rfl Tryz.underlying22 info9 rfl (by decide) om_ u136001 x136001_2 t145 [.string t145] (fun k_ => some k_ ≠ (u136002 : Value).ownBlock) (fun _ => False) rfl rfl ?aP (fun _ hk => hk.elim) ?aF ?aO ?aB ?aS ?aL ?_
            (case aP => exact rfl)
            (case aB => exact bl_)
            (case aF => exact (fun k_ hk => Kd.fresh' (Kd.R_lt (rx_ HO_136002)) k_ hk))
            (case aO => exact (rx_ HO_136001))
            (case aS => exact (below_size bl_))
            (case aL => have := LMc22.out; omega)
            intro v149 w41 ho hb hg hat
            rw [← Ny148.out] at ho
            have HO150 := am_ (ho)
            replace HO_136002 := am_ (Kd.R_after (ok := (fun _ => True)) (by (with_reducible repeat (first | apply Kd.R_alloc | apply Kd.R_drewN | apply Kd.R_drew)); exact Kd.R_mono HO_136002.out (fun _ hk => ⟨trivial, hk⟩)) hg hat)
            replace HO_136003 := am_ (Kd.R_over' (rx_ HO_136003) (Kd.R_typed (rx_ HO_136001)) (by decide) hg)
            replace BK134 := am_ (blk_grown (bx_ BK134) hg (Kd.R_ne HO_136001.out BK134.out (by decide)))
            replace BK135 := am_ (blk_grown (bx_ BK135) hg (Kd.R_ne HO_136001.out BK135.out (by decide)))
            replace HI138 := am_ (IsS223.grown is_ hg (IsS223.own_ne HI138.out HO_136001.out (by decide)))
            replace HB := am_ (hb)
            clear HO_136001 ho hb hg hat
            obtain ⟨Ao42, co42, eo42⟩ := Kd.R_slice HO150.out
            (first | subst eo42 | (injection eo42 with f1_ f2_ f3_; have f4_ := f1_.symm; have f5_ := f3_.symm; clear f1_ f2_ f3_; subst f4_; subst f5_))
            refine hK.out _ _ ⟨bc_ BK135 0, bc_ BK135 1, bc_ BK135 2, bc_ BK135 3⟩ (fun hHeld => ?_)
            clear hK K
            refine no_ (some 37) ?_
            refine pu_ (fun x y z => pure_ (i := 6) (N := some 38) (bz 8 127) rfl rfl (any_of HT_.out kr_) (fun _ _ _ h => h) (Or.inl ⟨by rfl, x⟩) y z) ?_
            refine last_ (i := 7) (N := none) (bz 8 255) rfl rfl (one_of HT_.out kr_) (by decide) (fun K hK => ?_)
            have hs43 : w41.cell? ⟨gb135, 1, none⟩ = some (u136001) := bc_ BK135 1
            have hfs43 := blk_frozen BK135.out 1
            have hns43_0 := NB134_135.out
            have hms43_0 := NB135_134.out
            refine skip_ (w1 := ?_) (by rfl) rfl ?_ ?_
            rotate_left
            ·go_simp
             rfl
            refine hK.out _ _ ?_
            clear hK K
            refine done_ (done_of HT_.out kr_) ?_
            try go_wp2
            replace HO_136002 : Aside0 (Kd.R Kd.string 9 (w41.setCell ⟨gb135, 1, none⟩ (.slice Ao42 y148.length co42)) w.heap.size (fun k_ => some k_ ≠ (.slice Ao42 y148.length co42 : Value).ownBlock) u136002 x136002_2) := ⟨by (with_reducible repeat (first | apply Kd.R_alloc | apply Kd.R_drewN | apply Kd.R_drew)); exact Kd.R_mono (Kd.R_far (p := ⟨gb135, 1, none⟩) (Kd.R_types HO_136002.out BK135.out (by decide)) (fun _ hk => hk.2) (.slice Ao42 y148.length co42)) (fun _ hk => hk.1.2)⟩
            replace HO_136003 : Aside0 (Kd.R (Kd.int .i64) 3 (w41.setCell ⟨gb135, 1, none⟩ (.slice Ao42 y148.length co42)) w.heap.size (fun _ => True) u136003 x136003_2) := ⟨by (with_reducible repeat (first | apply Kd.R_alloc | apply Kd.R_drewN | apply Kd.R_drew)); exact Kd.R_mono (Kd.R_far (p := ⟨gb135, 1, none⟩) (Kd.R_types HO_136003.out BK135.out (by decide)) (fun _ hk => hk.2) (.slice Ao42 y148.length co42)) (fun _ hk => trivial)⟩
            replace HO150 : Aside0 (Kd.R Kd.string 9 (w41.setCell ⟨gb135, 1, none⟩ (.slice Ao42 y148.length co42)) w.heap.size (fun k_ => some k_ ≠ (u136002 : Value).ownBlock) (.slice Ao42 y148.length co42) y148) := ⟨by (with_reducible repeat (first | apply Kd.R_alloc | apply Kd.R_drewN | apply Kd.R_drew)); exact Kd.R_mono (Kd.R_far (p := ⟨gb135, 1, none⟩) (Kd.R_types HO150.out BK135.out (by decide)) (fun _ hk => hk.2) (.slice Ao42 y148.length co42)) (fun _ hk => hk.1)⟩
            replace BK134 : Aside0 ((w41.setCell ⟨gb135, 1, none⟩ (.slice Ao42 y148.length co42)).heap[gb134]? = some (.cells #[.int .i64 0, .slice none 0 0, .slice none 0 0, .slice none 0 0] 149 (0, 0))) := ⟨bf_ NB134_135 BK134⟩
            replace BK135 : Aside0 ((w41.setCell ⟨gb135, 1, none⟩ (.slice Ao42 y148.length co42)).heap[gb135]? = some (.cells #[.int .i64 a0, .slice Ao42 y148.length co42, u136002, u136003] 149 (0, 0))) := ⟨bp_ BK135⟩
            replace HI138 : Aside0 (IsS223 w (w41.setCell ⟨gb135, 1, none⟩ (.slice Ao42 y148.length co42)) g138 t146 t147) := ⟨by exact is_⟩
            replace HB : Aside0 (Below w.heap.size w (w41.setCell ⟨gb135, 1, none⟩ (.slice Ao42 y148.length co42))) := ⟨by exact bl_⟩
            generalize (w41.setCell ⟨gb135, 1, none⟩ (.slice Ao42 y148.length co42)) = w44 at HO_136002 HO_136003 HO150 BK134 BK135 HI138 HB ⊢
            replace HO_136002 := am_ (Kd.R_drew HO_136002.out)
            replace HO_136003 := am_ (Kd.R_drew HO_136003.out)
            replace HO150 := am_ (Kd.R_drew HO150.out)
            replace BK134 := am_ (blk_drew BK134.out)
            replace BK135 := am_ (blk_drew BK135.out)
            replace HI138 := am_ (IsS223.drew HI138.out)
            replace HB := am_ (below_drew1 HB.out)
            refine start_ (n := 9) (S := fun w' => w'.cell? ⟨gb135, 0, none⟩ = some (.int .i64 a0) ∧ w'.cell? ⟨gb135, 1, none⟩ = some (.slice Ao42 y148.length co42) ∧ w'.cell? ⟨gb135, 2, none⟩ = some (u136002) ∧ w'.cell? ⟨gb135, 3, none⟩ = some (u136003)) (ds := [8]) (bz 9 0) kr_ rfl rfl ⟨bc_ BK135 0, bc_ BK135 1, bc_ BK135 2, bc_ BK135 3⟩ (fun hHeld => ?_); refine with_tabW node_Parse.tab11 node_Parse.bits11 (fun HT_ HW_ => ?_)
            generalize w44.drew = w45 at HO_136002 HO_136003 HO150 BK134 BK135 HI138 HB hHeld ⊢
            refine pu_ (fun x y z => pure_ (i := 0) (N := some 48) (bz 9 1) rfl rfl (any_of HT_.out kr_) (fun _ _ _ h => h) (Or.inl ⟨by rfl, x⟩) y z) ?_
            refine pu_ (fun x y z => pure_ (i := 2) (N := some 50) (bz 9 5) rfl rfl (any_of HT_.out kr_) (fun _ _ _ h => h) (Or.inl ⟨by rfl, x⟩) y z) ?_
            refine take_ (i := 1) (N := some 49) (v := ?_) (a' := ?_) (bz 9 7) rfl rfl (take_ofW HT_.out HW_.out kr_) (fun _ _ _ h => h) (Or.inl ⟨by rfl, ?_⟩) hHeld ?_ ?_
            rotate_left
            ·rintro w' ⟨s0, s1, s2, s3⟩
             go_simp
             with_reducible rfl
            rotate_left
            ·simp only [Act.put, List.setIfInBounds_toArray, List.set_cons_zero, List.set_cons_succ, i64_w, i32_w]
             rfl
            refine one_ (i := 3) (N := some 51) (bz 9 15) rfl rfl (one_of HT_.out kr_) (by decide) (fun K hK => ?_)
            refine goes_ Tryz.func121 kr_ rfl #[.pointer (some ⟨g138, 0, none⟩), .int .u64 2147483647] (by rfl) rfl rfl ar_ ?_
            with_reducible refine (varint_In_Num.calls kj15 g138 t146 t147 2147483647 t157 t158 t159 w _ ?side1 ?side2 A37.out).mono ?_
            (case side1 => exact is_)
            (case side2 => exact bl_)
            rintro e w46 ⟨rfl, hi, hb, hk⟩
            refine ⟨_, rfl, ?_⟩
            replace HO_136002 := am_ (Kd.R_mono (Kd.R_keep (IsS223.apart (show IsS223 w _ g138 t146 t147 from by exact is_) (rx_ HO_136002) (by decide)) hk (fun _ h => h.2)) (fun _ h => h.1))
            replace HO_136003 := am_ (Kd.R_mono (Kd.R_keep (IsS223.apart (show IsS223 w _ g138 t146 t147 from by exact is_) (rx_ HO_136003) (by decide)) hk (fun _ h => h.2)) (fun _ h => h.1))
            replace BK134 := am_ (KeepBut.blk hk (bx_ BK134) NB134_138.out (by simp))
            replace BK135 := am_ (KeepBut.blk hk (bx_ BK135) NB135_138.out (by simp))
            replace HO150 := am_ (Kd.R_mono (Kd.R_keep (IsS223.apart (show IsS223 w _ g138 t146 t147 from by exact is_) (rx_ HO150) (by decide)) hk (fun _ h => h.2)) (fun _ h => h.1))
            replace HB := am_ (hb)
            replace HI138 := am_ (hi)
            (try clear hb); (try clear hb2); (try clear hk); (try clear hi)
            refine hK.out _ _ ⟨bc_ BK135 0, bc_ BK135 1, bc_ BK135 2, bc_ BK135 3⟩ (fun hHeld => ?_)
            clear hK K
            refine no_ (some 51) ?_
            refine pu_ (fun x y z => pure_ (i := 4) (N := some 52) (bz 9 31) rfl rfl (any_of HT_.out kr_) (fun _ _ _ h => h) (Or.inl ⟨by rfl, x⟩) y z) ?_
            refine one_ (i := 5) (N := some 53) (bz 9 63) rfl rfl (one_of HT_.out kr_) (by decide) (fun K hK => ?_)
            refine value_ (w1 := ?_) (v := ?_) (by rfl) rfl ?_ ?_
            rotate_left 2
            ·go_simp
             constructor
             ·rfl
             ·rfl
            refine hK.out _ _ ⟨(blk_cell (blk_alloc BK135.out _) 0).trans rfl, (blk_cell (blk_alloc BK135.out _) 1).trans rfl, (blk_cell (blk_alloc BK135.out _) 2).trans rfl, (blk_cell (blk_alloc BK135.out _) 3).trans rfl⟩ (fun hHeld => ?_)
            clear hK K
            refine no_ (some 53) ?_
            refine one_ (i := 6) (N := some 54) (bz 9 127) rfl rfl (one_of HT_.out kr_) (by decide) (fun K hK => ?_)
            refine Kd.R_append_step (Kd.int .i64) (w0 := w) w.heap.size (by rfl) (.tmp 49) (.tmp 53) 84 3 (.int .i64 0) 8 rfl Tryz.underlying84 info3 rfl (by decide) om_ u136003 x136003_2 (wrap64 (t157)) [.int .i64 (wrap64 (t157))] (fun _ => True) (fun _ => False) rfl rfl ?aP (fun _ hk => hk.elim) ?aF ?aO ?aB ?aS ?aL ?_
            (case aP => exact rfl)
            (case aB => exact bl_)
            (case aF => exact (fun _ _ => trivial))
            (case aO => exact (rx_ HO_136003))
            (case aS => exact (below_size bl_))
            (case aL => have := LMc38.out; omega)
            intro v161 w47 ho hb hg hat
            rw [← Ny160.out] at ho
            have HO162 := am_ (ho)
            replace HO_136002 := am_ (Kd.R_over' (rx_ HO_136002) (Kd.R_typed (rx_ HO_136003)) (by decide) hg)
            replace BK134 := am_ (blk_grown (bx_ BK134) hg (Kd.R_ne HO_136003.out BK134.out (by decide)))
            replace BK135 := am_ (blk_grown (bx_ BK135) hg (Kd.R_ne HO_136003.out BK135.out (by decide)))
            replace HI138 := am_ (IsS223.grown is_ hg (IsS223.own_ne HI138.out HO_136003.out (by decide)))
            replace HO150 := am_ (Kd.R_over' (rx_ HO150) (Kd.R_typed (rx_ HO_136003)) (by decide) hg)
            replace HB := am_ (hb)
            clear HO_136003 ho hb hg hat
            obtain ⟨Ao48, co48, eo48⟩ := Kd.R_slice HO162.out
            (first | subst eo48 | (injection eo48 with f1_ f2_ f3_; have f4_ := f1_.symm; have f5_ := f3_.symm; clear f1_ f2_ f3_; subst f4_; subst f5_))
            refine hK.out _ _ ⟨bc_ BK135 0, bc_ BK135 1, bc_ BK135 2, bc_ BK135 3⟩ (fun hHeld => ?_)
            clear hK K
            refine no_ (some 54) ?_
            refine pu_ (fun x y z => pure_ (i := 7) (N := some 55) (bz 9 255) rfl rfl (any_of HT_.out kr_) (fun _ _ _ h => h) (Or.inl ⟨by rfl, x⟩) y z) ?_
            refine last_ (i := 8) (N := none) (bz 9 511) rfl rfl (one_of HT_.out kr_) (by decide) (fun K hK => ?_)
            have hs49 : w47.cell? ⟨gb135, 3, none⟩ = some (u136003) := bc_ BK135 3
            have hfs49 := blk_frozen BK135.out 3
            have hns49_0 := NB134_135.out
            have hms49_0 := NB135_134.out
            refine skip_ (w1 := ?_) (by rfl) rfl ?_ ?_
            rotate_left
            ·go_simp
             rfl
            refine hK.out _ _ ?_
            clear hK K
            refine done_ (done_of HT_.out kr_) ?_
            try go_wp2
            go_roundg kj15
            case measure => have := HJ2.out; have := HK2.out; have := HJ15.out; omega
            case rel => exact ⟨(IntKind.u64.wrap (x8_2 - 1)), (y148), (x136002_2), (y160), (t158), (t159), (.slice Ao42 y148.length co42), (u136002), (.slice Ao48 y160.length co48), eq_, H', ⟨by have := HJ2.out; have := HK2.out; have := HJ15.out; omega⟩, ⟨by (with_reducible repeat (first | apply Kd.R_alloc | apply Kd.R_drewN | apply Kd.R_drew)); exact Kd.R_mono (Kd.R_far (p := ⟨gb135, 3, none⟩) (Kd.R_types HO150.out BK135.out (by decide)) (fun _ hk => hk.2) (.slice Ao48 y160.length co48)) (fun _ hk => hk.1)⟩, ⟨by (with_reducible repeat (first | apply Kd.R_alloc | apply Kd.R_drewN | apply Kd.R_drew)); exact Kd.R_mono (Kd.R_far (p := ⟨gb135, 3, none⟩) (Kd.R_types HO_136002.out BK135.out (by decide)) (fun _ hk => hk.2) (.slice Ao48 y160.length co48)) (fun _ hk => hk.1)⟩, ⟨by (with_reducible repeat (first | apply Kd.R_alloc | apply Kd.R_drewN | apply Kd.R_drew)); exact Kd.R_mono (Kd.R_far (p := ⟨gb135, 3, none⟩) (Kd.R_types HO162.out BK135.out (by decide)) (fun _ hk => hk.2) (.slice Ao48 y160.length co48)) (fun _ hk => trivial)⟩, ⟨bf_ NB134_135 BK134⟩, ⟨bp_ BK135⟩, ⟨by exact is_⟩, ⟨by exact bl_⟩⟩
           ·rw [if_neg c38] at H
            exact absurd H (by simp)
         ·rw [if_neg c22] at H
          exact absurd H (by simp)
        ·replace c20 := Bool.eq_false_iff.mpr c20
         subst c20
         rw [if_neg (show ¬ (false = true) by decide)] at H
         obtain ⟨⟨t163, t164, t165⟩, A50, H⟩ := bi_ H
         try dsimp only at H
         by_cases c51 : t163 = 0
         ·rw [if_pos c51] at H
          have c51b0 : (t163 == 0) = true := beq_iff_eq.mpr c51
          have c51b1 : (t163 != 0) = false := bne_eq_false_iff_eq.mpr c51
          clear c51
          obtain ⟨t166, A52, H⟩ := bi_ H
          try dsimp only at H
          by_cases c53 : t166 = 0
          ·rw [if_pos c53] at H
           have c53b0 : (t166 == 0) = true := beq_iff_eq.mpr c53
           have c53b1 : (t166 != 0) = false := bne_eq_false_iff_eq.mpr c53
           clear c53
           simp only [Option.some.injEq, Prod.mk.injEq] at H
           obtain ⟨rfl, rfl, rfl, rfl, rfl⟩ := H
           go_wp2_with (first | ((with_reducible refine gate_callee (f := 122) rfl ?_); refine goesL_ (some 57) rfl rfl Tryz.func122 kr_ rfl #[.pointer (some ⟨g138, 0, none⟩)] rfl ar_ ?_; (with_reducible refine (varint_In_End.calls g138 x139000_15 x139001_15 t163 t164 t165 w _ ?side1 ?side2 A50.out).mono ?_); (case side1 => exact is_); (case side2 => exact bl_); rintro e w54 ⟨rfl, hi, hb, hk⟩; refine ⟨_, rfl, ?_⟩; replace HO_136001 := am_ (Kd.R_mono (Kd.R_keep (IsS223.apart (show IsS223 w _ g138 x139000_15 x139001_15 from by exact is_) (rx_ HO_136001) (by decide)) hk (fun _ h => h.2)) (fun _ h => h.1)); replace HO_136002 := am_ (Kd.R_mono (Kd.R_keep (IsS223.apart (show IsS223 w _ g138 x139000_15 x139001_15 from by exact is_) (rx_ HO_136002) (by decide)) hk (fun _ h => h.2)) (fun _ h => h.1)); replace HO_136003 := am_ (Kd.R_mono (Kd.R_keep (IsS223.apart (show IsS223 w _ g138 x139000_15 x139001_15 from by exact is_) (rx_ HO_136003) (by decide)) hk (fun _ h => h.2)) (fun _ h => h.1)); replace BK134 := am_ (KeepBut.blk hk (bx_ BK134) NB134_138.out (by simp)); replace BK135 := am_ (KeepBut.blk hk (bx_ BK135) NB135_138.out (by simp)); replace HB := am_ (hb); replace HI138 := am_ (hi); (try clear hb); (try clear hb2); (try clear hk); (try clear hi); have hnb55 := NB135_134.out; have hnc55 := NB134_135.out; have hnb56 := NB135_138.out; have hnc56 := NB138_135.out; have hcz57_0 : w54.cell? ⟨gb135, 0, none⟩ = some (.int .i64 a0) := bc_ BK135 0; have hcz57_1 : w54.cell? ⟨gb135, 1, none⟩ = some (u136001) := bc_ BK135 1; have hcz57_2 : w54.cell? ⟨gb135, 2, none⟩ = some (u136002) := bc_ BK135 2; have hcz57_3 : w54.cell? ⟨gb135, 3, none⟩ = some (u136003) := bc_ BK135 3; have hfz57_0 := blk_frozen BK135.out 0; have hfz57_1 := blk_frozen BK135.out 1; have hfz57_2 := blk_frozen BK135.out 2; have hfz57_3 := blk_frozen BK135.out 3; obtain ⟨Ao58, co58, eo58⟩ := Kd.R_slice HO_136001.out; subst eo58; obtain ⟨Ao59, co59, eo59⟩ := Kd.R_slice HO_136002.out; subst eo59; obtain ⟨Ao60, co60, eo60⟩ := Kd.R_slice HO_136003.out; subst eo60) | ((with_reducible refine gate_callee (f := 98) rfl ?_); refine goesL_ (some 61) rfl rfl Tryz.func98 kr_ rfl #[.agg #[.int .i64 a0, .slice Ao58 x136001_2.length co58, .slice Ao59 x136002_2.length co59, .slice Ao60 x136003_2.length co60]] rfl ar_ ?_; (with_reducible refine (node_Node_Check.calls a0 _ _ x136001_2 _ _ x136002_2 _ _ x136003_2 t166 _ ?side1 ?side2 ?side3 ?side4 ?side5 ?side6 A52.out).mono ?_); (case side1 => repeat (first | exact (Kd.R_reads' HO_136001.out).2.2 | (with_reducible refine Kd.C_alloc ?_ _) | (with_reducible refine Kd.C_drewN ?_ _) | (with_reducible refine Kd.C_drew ?_))); (case side2 => exact (Kd.R_reads' HO_136001.out).2.1); (case side3 => repeat (first | exact (Kd.R_reads' HO_136002.out).2.2 | (with_reducible refine Kd.C_alloc ?_ _) | (with_reducible refine Kd.C_drewN ?_ _) | (with_reducible refine Kd.C_drew ?_))); (case side4 => exact (Kd.R_reads' HO_136002.out).2.1); (case side5 => repeat (first | exact (Kd.R_reads' HO_136003.out).2.2 | (with_reducible refine Kd.C_alloc ?_ _) | (with_reducible refine Kd.C_drewN ?_ _) | (with_reducible refine Kd.C_drew ?_))); (case side6 => exact (Kd.R_reads' HO_136003.out).2.1); rintro e w61 ⟨rfl, hb⟩; refine ⟨_, rfl, ?_⟩; replace HO_136001 := am_ (Kd.R_below (rx_ HO_136001) hb); replace HO_136002 := am_ (Kd.R_below (rx_ HO_136002) hb); replace HO_136003 := am_ (Kd.R_below (rx_ HO_136003) hb); replace BK134 := am_ (bw_ BK134 hb); replace BK135 := am_ (bw_ BK135 hb); replace HI138 := am_ (IsS223.below is_ hb); replace HB := am_ (below_step bl_ hb); (try clear hb); (try clear hb2); (try clear hk); (try clear hi); have hcz62_0 : w61.cell? ⟨gb135, 0, none⟩ = some (.int .i64 a0) := bc_ BK135 0; have hcz62_1 : w61.cell? ⟨gb135, 1, none⟩ = some (.slice Ao58 x136001_2.length co58) := bc_ BK135 1; have hcz62_2 : w61.cell? ⟨gb135, 2, none⟩ = some (.slice Ao59 x136002_2.length co59) := bc_ BK135 2; have hcz62_3 : w61.cell? ⟨gb135, 3, none⟩ = some (.slice Ao60 x136003_2.length co60) := bc_ BK135 3; have hfz62_0 := blk_frozen BK135.out 0; have hfz62_1 := blk_frozen BK135.out 1; have hfz62_2 := blk_frozen BK135.out 2; have hfz62_3 := blk_frozen BK135.out 3; have hnb63 := NB134_138.out; have hnc63 := NB138_134.out; have hcz64_0 : w61.cell? ⟨gb134, 0, none⟩ = some (.int .i64 0) := bc_ BK134 0; have hcz64_1 : w61.cell? ⟨gb134, 1, none⟩ = some (.slice none 0 0) := bc_ BK134 1; have hcz64_2 : w61.cell? ⟨gb134, 2, none⟩ = some (.slice none 0 0) := bc_ BK134 2; have hcz64_3 : w61.cell? ⟨gb134, 3, none⟩ = some (.slice none 0 0) := bc_ BK134 3; have hfz64_0 := blk_frozen BK134.out 0; have hfz64_1 := blk_frozen BK134.out 1; have hfz64_2 := blk_frozen BK134.out 2; have hfz64_3 := blk_frozen BK134.out 3))
           refine bodyPost_ret (results_ct rfl _ _ gb134 149 #[.int .i64 a0, .slice Ao58 x136001_2.length co58, .slice Ao59 x136002_2.length co59, .slice Ao60 x136003_2.length co60] (0, 0) _ rfl (bp_ BK134) Tryz.underlying149 rfl kr_) rfl ?_
           exact ⟨_, _, _, er_, by (with_reducible repeat (first | apply Kd.R_alloc | apply Kd.R_drewN | apply Kd.R_drew)); exact Kd.R_mono (Kd.R_far (p := ⟨gb134, 3, none⟩) (Kd.R_far (p := ⟨gb134, 2, none⟩) (Kd.R_far (p := ⟨gb134, 1, none⟩) (Kd.R_far (p := ⟨gb134, 0, none⟩) (Kd.R_types HO_136001.out BK134.out (by decide)) (fun _ hk => hk.2) (.int .i64 a0)) (fun _ hk => hk.2) (.slice Ao58 x136001_2.length co58)) (fun _ hk => hk.2) (.slice Ao59 x136002_2.length co59)) (fun _ hk => hk.2) (.slice Ao60 x136003_2.length co60)) (fun _ hk => hk.1), by (with_reducible repeat (first | apply Kd.R_alloc | apply Kd.R_drewN | apply Kd.R_drew)); exact Kd.R_mono (Kd.R_far (p := ⟨gb134, 3, none⟩) (Kd.R_far (p := ⟨gb134, 2, none⟩) (Kd.R_far (p := ⟨gb134, 1, none⟩) (Kd.R_far (p := ⟨gb134, 0, none⟩) (Kd.R_types HO_136002.out BK134.out (by decide)) (fun _ hk => hk.2) (.int .i64 a0)) (fun _ hk => hk.2) (.slice Ao58 x136001_2.length co58)) (fun _ hk => hk.2) (.slice Ao59 x136002_2.length co59)) (fun _ hk => hk.2) (.slice Ao60 x136003_2.length co60)) (fun _ hk => hk.1), by (with_reducible repeat (first | apply Kd.R_alloc | apply Kd.R_drewN | apply Kd.R_drew)); exact Kd.R_mono (Kd.R_far (p := ⟨gb134, 3, none⟩) (Kd.R_far (p := ⟨gb134, 2, none⟩) (Kd.R_far (p := ⟨gb134, 1, none⟩) (Kd.R_far (p := ⟨gb134, 0, none⟩) (Kd.R_types HO_136003.out BK134.out (by decide)) (fun _ hk => hk.2) (.int .i64 a0)) (fun _ hk => hk.2) (.slice Ao58 x136001_2.length co58)) (fun _ hk => hk.2) (.slice Ao59 x136002_2.length co59)) (fun _ hk => hk.2) (.slice Ao60 x136003_2.length co60)) (fun _ hk => trivial), by exact bl_⟩
          ·rw [if_neg c53] at H
           have c53b0 : (t166 == 0) = false := beq_eq_false_iff_ne.mpr c53
           have c53b1 : (t166 != 0) = true := bne_iff_ne.mpr c53
           simp only [Option.some.injEq, Prod.mk.injEq] at H
           obtain ⟨rfl, rfl, rfl, rfl, rfl⟩ := H
           go_wp2_with (first | ((with_reducible refine gate_callee (f := 122) rfl ?_); refine goesL_ (some 57) rfl rfl Tryz.func122 kr_ rfl #[.pointer (some ⟨g138, 0, none⟩)] rfl ar_ ?_; (with_reducible refine (varint_In_End.calls g138 x139000_15 x139001_15 t163 t164 t165 w _ ?side1 ?side2 A50.out).mono ?_); (case side1 => exact is_); (case side2 => exact bl_); rintro e w65 ⟨rfl, hi, hb, hk⟩; refine ⟨_, rfl, ?_⟩; replace HO_136001 := am_ (Kd.R_mono (Kd.R_keep (IsS223.apart (show IsS223 w _ g138 x139000_15 x139001_15 from by exact is_) (rx_ HO_136001) (by decide)) hk (fun _ h => h.2)) (fun _ h => h.1)); replace HO_136002 := am_ (Kd.R_mono (Kd.R_keep (IsS223.apart (show IsS223 w _ g138 x139000_15 x139001_15 from by exact is_) (rx_ HO_136002) (by decide)) hk (fun _ h => h.2)) (fun _ h => h.1)); replace HO_136003 := am_ (Kd.R_mono (Kd.R_keep (IsS223.apart (show IsS223 w _ g138 x139000_15 x139001_15 from by exact is_) (rx_ HO_136003) (by decide)) hk (fun _ h => h.2)) (fun _ h => h.1)); replace BK134 := am_ (KeepBut.blk hk (bx_ BK134) NB134_138.out (by simp)); replace BK135 := am_ (KeepBut.blk hk (bx_ BK135) NB135_138.out (by simp)); replace HB := am_ (hb); replace HI138 := am_ (hi); (try clear hb); (try clear hb2); (try clear hk); (try clear hi); have hnb66 := NB135_134.out; have hnc66 := NB134_135.out; have hnb67 := NB135_138.out; have hnc67 := NB138_135.out; have hcz68_0 : w65.cell? ⟨gb135, 0, none⟩ = some (.int .i64 a0) := bc_ BK135 0; have hcz68_1 : w65.cell? ⟨gb135, 1, none⟩ = some (u136001) := bc_ BK135 1; have hcz68_2 : w65.cell? ⟨gb135, 2, none⟩ = some (u136002) := bc_ BK135 2; have hcz68_3 : w65.cell? ⟨gb135, 3, none⟩ = some (u136003) := bc_ BK135 3; have hfz68_0 := blk_frozen BK135.out 0; have hfz68_1 := blk_frozen BK135.out 1; have hfz68_2 := blk_frozen BK135.out 2; have hfz68_3 := blk_frozen BK135.out 3; obtain ⟨Ao69, co69, eo69⟩ := Kd.R_slice HO_136001.out; subst eo69; obtain ⟨Ao70, co70, eo70⟩ := Kd.R_slice HO_136002.out; subst eo70; obtain ⟨Ao71, co71, eo71⟩ := Kd.R_slice HO_136003.out; subst eo71) | ((with_reducible refine gate_callee (f := 98) rfl ?_); refine goesL_ (some 61) rfl rfl Tryz.func98 kr_ rfl #[.agg #[.int .i64 a0, .slice Ao69 x136001_2.length co69, .slice Ao70 x136002_2.length co70, .slice Ao71 x136003_2.length co71]] rfl ar_ ?_; (with_reducible refine (node_Node_Check.calls a0 _ _ x136001_2 _ _ x136002_2 _ _ x136003_2 t166 _ ?side1 ?side2 ?side3 ?side4 ?side5 ?side6 A52.out).mono ?_); (case side1 => repeat (first | exact (Kd.R_reads' HO_136001.out).2.2 | (with_reducible refine Kd.C_alloc ?_ _) | (with_reducible refine Kd.C_drewN ?_ _) | (with_reducible refine Kd.C_drew ?_))); (case side2 => exact (Kd.R_reads' HO_136001.out).2.1); (case side3 => repeat (first | exact (Kd.R_reads' HO_136002.out).2.2 | (with_reducible refine Kd.C_alloc ?_ _) | (with_reducible refine Kd.C_drewN ?_ _) | (with_reducible refine Kd.C_drew ?_))); (case side4 => exact (Kd.R_reads' HO_136002.out).2.1); (case side5 => repeat (first | exact (Kd.R_reads' HO_136003.out).2.2 | (with_reducible refine Kd.C_alloc ?_ _) | (with_reducible refine Kd.C_drewN ?_ _) | (with_reducible refine Kd.C_drew ?_))); (case side6 => exact (Kd.R_reads' HO_136003.out).2.1); rintro e w72 ⟨rfl, hb⟩; refine ⟨_, rfl, ?_⟩; replace HO_136001 := am_ (Kd.R_below (rx_ HO_136001) hb); replace HO_136002 := am_ (Kd.R_below (rx_ HO_136002) hb); replace HO_136003 := am_ (Kd.R_below (rx_ HO_136003) hb); replace BK134 := am_ (bw_ BK134 hb); replace BK135 := am_ (bw_ BK135 hb); replace HI138 := am_ (IsS223.below is_ hb); replace HB := am_ (below_step bl_ hb); (try clear hb); (try clear hb2); (try clear hk); (try clear hi); have hnb73 := NB134_138.out; have hnc73 := NB138_134.out; have hcz74_0 : w72.cell? ⟨gb134, 0, none⟩ = some (.int .i64 0) := bc_ BK134 0; have hcz74_1 : w72.cell? ⟨gb134, 1, none⟩ = some (.slice none 0 0) := bc_ BK134 1; have hcz74_2 : w72.cell? ⟨gb134, 2, none⟩ = some (.slice none 0 0) := bc_ BK134 2; have hcz74_3 : w72.cell? ⟨gb134, 3, none⟩ = some (.slice none 0 0) := bc_ BK134 3; have hfz74_0 := blk_frozen BK134.out 0; have hfz74_1 := blk_frozen BK134.out 1; have hfz74_2 := blk_frozen BK134.out 2; have hfz74_3 := blk_frozen BK134.out 3))
           refine bodyPost_ret (results_ct rfl _ _ gb134 149 #[.int .i64 0, .slice none 0 0, .slice none 0 0, .slice none 0 0] (0, 0) _ rfl (bp_ BK134) Tryz.underlying149 rfl kr_) rfl ?_
           exact ⟨_, _, _, er_, ni_, ni_, ni_, by exact bl_⟩
         ·rw [if_neg c51] at H
          have c51b0 : (t163 == 0) = false := beq_eq_false_iff_ne.mpr c51
          have c51b1 : (t163 != 0) = true := bne_iff_ne.mpr c51
          simp only [Option.some.injEq, Prod.mk.injEq] at H
          obtain ⟨rfl, rfl, rfl, rfl, rfl⟩ := H
          go_wp2_with (first | ((with_reducible refine gate_callee (f := 122) rfl ?_); refine goesL_ (some 57) rfl rfl Tryz.func122 kr_ rfl #[.pointer (some ⟨g138, 0, none⟩)] rfl ar_ ?_; (with_reducible refine (varint_In_End.calls g138 x139000_15 x139001_15 t163 t164 t165 w _ ?side1 ?side2 A50.out).mono ?_); (case side1 => exact is_); (case side2 => exact bl_); rintro e w75 ⟨rfl, hi, hb, hk⟩; refine ⟨_, rfl, ?_⟩; replace HO_136001 := am_ (Kd.R_mono (Kd.R_keep (IsS223.apart (show IsS223 w _ g138 x139000_15 x139001_15 from by exact is_) (rx_ HO_136001) (by decide)) hk (fun _ h => h.2)) (fun _ h => h.1)); replace HO_136002 := am_ (Kd.R_mono (Kd.R_keep (IsS223.apart (show IsS223 w _ g138 x139000_15 x139001_15 from by exact is_) (rx_ HO_136002) (by decide)) hk (fun _ h => h.2)) (fun _ h => h.1)); replace HO_136003 := am_ (Kd.R_mono (Kd.R_keep (IsS223.apart (show IsS223 w _ g138 x139000_15 x139001_15 from by exact is_) (rx_ HO_136003) (by decide)) hk (fun _ h => h.2)) (fun _ h => h.1)); replace BK134 := am_ (KeepBut.blk hk (bx_ BK134) NB134_138.out (by simp)); replace BK135 := am_ (KeepBut.blk hk (bx_ BK135) NB135_138.out (by simp)); replace HB := am_ (hb); replace HI138 := am_ (hi); (try clear hb); (try clear hb2); (try clear hk); (try clear hi); have hnb76 := NB134_135.out; have hnc76 := NB135_134.out; have hnb77 := NB134_138.out; have hnc77 := NB138_134.out; have hcz78_0 : w75.cell? ⟨gb134, 0, none⟩ = some (.int .i64 0) := bc_ BK134 0; have hcz78_1 : w75.cell? ⟨gb134, 1, none⟩ = some (.slice none 0 0) := bc_ BK134 1; have hcz78_2 : w75.cell? ⟨gb134, 2, none⟩ = some (.slice none 0 0) := bc_ BK134 2; have hcz78_3 : w75.cell? ⟨gb134, 3, none⟩ = some (.slice none 0 0) := bc_ BK134 3; have hfz78_0 := blk_frozen BK134.out 0; have hfz78_1 := blk_frozen BK134.out 1; have hfz78_2 := blk_frozen BK134.out 2; have hfz78_3 := blk_frozen BK134.out 3))
          refine bodyPost_ret (results_ct rfl _ _ gb134 149 #[.int .i64 0, .slice none 0 0, .slice none 0 0, .slice none 0 0] (0, 0) _ rfl (bp_ BK134) Tryz.underlying149 rfl kr_) rfl ?_
          exact ⟨_, _, _, er_, ni_, ni_, ni_, by exact bl_⟩

end Go.Proofs.YtendgmblgdkiaaaGreat.PNd

namespace Go.Proofs.YtendgmblgdkiaaaGreat
open Go.RowKit
open Go.Proofs.YtendgmblgdkiaaaGreatW
open PrintWords (rd rdOf bt mx shl)
set_option linter.unusedVariables false
set_option linter.unusedSimpArgs false

theorem u64_or (a b : Nat) (ha : a < 18446744073709551616) (hb : b < 18446744073709551616) : Go.bits .or .u64 (a : Int) (b : Int) = ((a ||| b : Nat) : Int) := by
 have e : (BitVec.ofInt 64 (a : Int) ||| BitVec.ofInt 64 (b : Int)).toNat = a ||| b := by
  rw [BitVec.toNat_or, BitVec.ofInt_natCast, BitVec.ofInt_natCast, BitVec.toNat_ofNat, BitVec.toNat_ofNat, Nat.mod_eq_of_lt ha, Nat.mod_eq_of_lt hb]
 have hlt : a ||| b < 18446744073709551616 := Nat.or_lt_two_pow (n := 64) ha hb
 show IntKind.u64.wrap (((BitVec.ofInt 64 (a : Int) ||| BitVec.ofInt 64 (b : Int)).toNat : Nat) : Int) = _
 rw [e]
 show ((a ||| b : Nat) : Int) % 18446744073709551616 = _
 omega
theorem and127 : ∀ v : Fin 256, Go.bits .and .u8 ((v.val : Nat) : Int) 127 = ((v.val % 128 : Nat) : Int) := by decide +kernel
theorem pow7 (i : Nat) : 2 ^ (7 * i) = 128 ^ i := by rw [Nat.pow_mul]
theorem shl_nat (x i : Nat) (hx : x < 128) (hi : i ≤ 9) (h : x * 128 ^ i < 18446744073709551616) : shl .u64 (IntKind.u64.wrap (x : Int)) (wrap64 (7 * (i : Int))) = ((x * 128 ^ i : Nat) : Int) := by
 have e1 : IntKind.u64.wrap (x : Int) = (x : Int) := by show (x : Int) % 18446744073709551616 = _; omega
 have e2 : wrap64 (7 * (i : Int)) = ((7 * i : Nat) : Int) := by unfold wrap64; omega
 rw [e1, e2]
 unfold shl
 have e3 : min (((7 * i : Nat) : Int)).toNat IntKind.u64.bits = 7 * i := by
  show min (7 * i) 64 = _
  omega
 rw [e3]
 have e4 : (x : Int) * 2 ^ (7 * i) = ((x * 128 ^ i : Nat) : Int) := by rw [← pow7]; push_cast; rfl
 rw [e4]
 show ((x * 128 ^ i : Nat) : Int) % 18446744073709551616 = _
 omega
theorem or_add (a x i : Nat) (ha : a < 128 ^ i) (h : a + x * 128 ^ i < 18446744073709551616) : Go.bits .or .u64 (a : Int) ((x * 128 ^ i : Nat) : Int) = ((a + x * 128 ^ i : Nat) : Int) := by
 rw [u64_or _ _ (by omega) (by omega)]
 have := Nat.two_pow_add_eq_or_of_lt (i := 7 * i) (b := a) (by rw [pow7]; exact ha) x
 rw [pow7] at this
 rw [Nat.mul_comm x, Nat.or_comm, ← this, Nat.add_comm]
theorem bt_list (s : ByteArray) (i : Nat) (b : UInt8) (r : List UInt8) (h : s.data.toList.drop i = b :: r) : bt s (i : Int) = (b.toNat : Int) ∧ i < s.size := by
 have hlt : i < s.size := by
  rcases Nat.lt_or_ge i s.size with h1 | h1
  ·exact h1
  ·rw [List.drop_eq_nil_of_le (by exact h1)] at h
   cases h
 refine ⟨?_, hlt⟩
 have e : s.data.toList[i]'hlt = b := by
  rw [List.drop_eq_getElem_cons hlt] at h
  exact (List.cons.inj h).1
 unfold bt
 rw [dif_pos (by simpa using hlt)]
 have : s[(i : Int).toNat]'(by simpa using hlt) = s.data.toList[i]'hlt := by
  simp
  rfl
 rw [this, e]
theorem wrap7 (i : Nat) (h : i ≤ 9) : wrap64 (7 * (i : Int)) = 7 * (i : Int) := by unfold wrap64; omega
theorem wrap1 (i : Nat) (h : i ≤ 1000000000) : wrap64 ((i : Int) + 1) = ((i + 1 : Nat) : Int) := by unfold wrap64; omega
theorem small_i {x i a : Nat} (hx : 1 ≤ x) (h : a + x * 128 ^ i < 18446744073709551616) : i ≤ 9 := by
 rcases Nat.lt_or_ge 9 i with h9 | h9
 ·have h1 : 128 ^ 10 ≤ 128 ^ i := Nat.pow_le_pow_right om_ h9
  have h2 : 128 ^ i ≤ x * 128 ^ i := Nat.le_mul_of_pos_left _ hx
  have h3 : (128 : Nat) ^ 10 = 1180591620717411303424 := by decide
  omega
 ·exact h9
set_option maxHeartbeats 1000000 in
theorem scan_l (s : ByteArray) (rest : List UInt8) (hsz : s.size ≤ 1000000) : ∀ (k x i a : Nat), s.data.toList.drop i = vNumL x ++ rest → a < 128 ^ i → a + x * 128 ^ i < 18446744073709551616 → (0 < i → 0 < x) → i ≤ 9 → 3 * (vNumL x).length ≤ k →
  PNd.varint_scan.l0 k s (a : Int) (s.size : Int) (i : Int) = some (((a + x * 128 ^ i : Nat) : Int), ((i + (vNumL x).length : Nat) : Int), 0)
 | 0, x, _, _, _, _, _, _, _, hk => by
  have := vNumL_len 10 (x % 128) om_ om_
  by_cases h : x < 128
  ·rw [vNumL_small h] at hk; simp at hk
  ·rw [vNumL_big h] at hk; simp at hk
 | 1, x, _, _, _, _, _, _, _, hk => by
  by_cases h : x < 128
  ·rw [vNumL_small h] at hk; simp at hk
  ·rw [vNumL_big h] at hk; simp at hk; omega
 | 2, x, _, _, _, _, _, _, _, hk => by
  by_cases h : x < 128
  ·rw [vNumL_small h] at hk; simp at hk
  ·rw [vNumL_big h] at hk; simp at hk; omega
 | k + 3, x, i, a, hs, ha, ht, h0, h9, hk => by
  by_cases h : x < 128
  ·rw [vNumL_small h] at hs hk ⊢
   obtain ⟨hb, hlt⟩ := bt_list s i _ _ hs
   rw [UInt8.toNat_ofNat', Nat.mod_eq_of_lt (by omega)] at hb
   have e1 : ∀ g : Bool, g = false → PNd.varint_scan.j1 (k + 2) s (a : Int) (i : Int) (x : Int) (s.size : Int) (i : Int) g = some (((a + x * 128 ^ i : Nat) : Int), ((i + 1 : Nat) : Int), 0) := by
    rintro g rfl
    have e2 : ∀ g : Bool, g = false → PNd.varint_scan.j2 (k + 1) s (a : Int) (i : Int) (x : Int) (s.size : Int) (i : Int) g = some (((a + x * 128 ^ i : Nat) : Int), ((i + 1 : Nat) : Int), 0) := by
     rintro g rfl
     have ea := and127 ⟨x, by omega⟩
     simp only at ea
     rw [Nat.mod_eq_of_lt h] at ea
     unfold PNd.varint_scan.j2
     rw [if_neg (by simp), if_pos (by rw [wrap7 i h9]; omega), if_pos (by omega), ea, shl_nat x i h h9 (by omega), or_add a x i ha ht, wrap1 i (by omega)]
    unfold PNd.varint_scan.j1
    rw [if_neg (by simp)]
    by_cases hi : 0 < i
    ·rw [if_pos (by omega)]
     exact e2 _ (by have := h0 hi; rw [beq_eq_false_iff_ne]; omega)
    ·rw [if_neg (by omega)]
     exact e2 _ rfl
   unfold PNd.varint_scan.l0
   rw [if_pos (by omega), if_pos (by omega), if_pos (by omega), hb]
   by_cases hi : (i : Int) = 9
   ·rw [if_pos hi]
    refine e1 _ ?_
    rw [decide_eq_false_iff_not]
    have : i = 9 := by omega
    subst this
    have h3 : (128 : Nat) ^ 9 = 9223372036854775808 := by decide
    rw [h3] at ht
    omega
   ·rw [if_neg hi]
    exact e1 _ rfl
  ·rw [vNumL_big h] at hs hk ⊢
   obtain ⟨hb, hlt⟩ := bt_list s i _ _ hs
   rw [UInt8.toNat_ofNat', Nat.mod_eq_of_lt (by omega)] at hb
   have hs' : s.data.toList.drop (i + 1) = vNumL (x / 128) ++ rest := by
    rw [← List.drop_drop, hs]
    rfl
   have hpow : 128 ^ (i + 1) = 128 * 128 ^ i := by rw [Nat.pow_succ, Nat.mul_comm]
   have hsplit : x * 128 ^ i = x % 128 * 128 ^ i + x / 128 * 128 ^ (i + 1) := by
    rw [hpow, ← Nat.mul_assoc, ← Nat.add_mul]
    congr 1
    omega
   have hle : x % 128 * 128 ^ i ≤ 127 * 128 ^ i := Nat.mul_le_mul_right _ om_
   have h9' : i + 1 ≤ 9 := by
    have := small_i (x := x / 128) (i := i + 1) (a := a + x % 128 * 128 ^ i) om_ om_
    exact this
   have ih := scan_l s rest hsz k (x / 128) (i + 1) (a + x % 128 * 128 ^ i) hs' (by rw [hpow]; omega) om_ (fun _ => by omega) h9' (by simp at hk; omega)
   have hres : (some (((a + x % 128 * 128 ^ i + x / 128 * 128 ^ (i + 1) : Nat) : Int), ((i + 1 + (vNumL (x / 128)).length : Nat) : Int), (0 : Int))) = some (((a + x * 128 ^ i : Nat) : Int), ((i + (UInt8.ofNat (x % 128 + 128) :: vNumL (x / 128)).length : Nat) : Int), 0) := by
    rw [hsplit, List.length_cons, ← Nat.add_assoc, ← Nat.add_assoc, Nat.add_right_comm i 1]
   rw [hres] at ih
   have e1 : ∀ g : Bool, g = false → PNd.varint_scan.j1 (k + 2) s (a : Int) (i : Int) ((x % 128 + 128 : Nat) : Int) (s.size : Int) (i : Int) g = some (((a + x * 128 ^ i : Nat) : Int), ((i + (UInt8.ofNat (x % 128 + 128) :: vNumL (x / 128)).length : Nat) : Int), 0) := by
    rintro g rfl
    have e2 : ∀ g : Bool, g = false → PNd.varint_scan.j2 (k + 1) s (a : Int) (i : Int) ((x % 128 + 128 : Nat) : Int) (s.size : Int) (i : Int) g = some (((a + x * 128 ^ i : Nat) : Int), ((i + (UInt8.ofNat (x % 128 + 128) :: vNumL (x / 128)).length : Nat) : Int), 0) := by
     rintro g rfl
     have ea := and127 ⟨x % 128 + 128, by omega⟩
     simp only at ea
     rw [show (x % 128 + 128) % 128 = x % 128 by omega] at ea
     unfold PNd.varint_scan.j2
     rw [if_neg (by simp), if_pos (by rw [wrap7 i h9]; omega), if_neg (by omega), ea, shl_nat (x % 128) i (by omega) h9 (by omega), or_add a (x % 128) i ha (by omega), wrap1 i (by omega)]
     exact ih
    unfold PNd.varint_scan.j1
    rw [if_neg (by simp)]
    by_cases hi : 0 < i
    ·rw [if_pos (by omega)]
     exact e2 _ (by rw [beq_eq_false_iff_ne]; omega)
    ·rw [if_neg (by omega)]
     exact e2 _ rfl
   unfold PNd.varint_scan.l0
   rw [if_pos (by omega), if_pos (by omega), if_pos (by omega), hb]
   by_cases hi : (i : Int) = 9
   ·omega
   ·rw [if_neg hi]
    exact e1 _ rfl
end Go.Proofs.YtendgmblgdkiaaaGreat

namespace Go.Proofs.YtendgmblgdkiaaaGreat
open Go.RowKit
open Go.Proofs.YtendgmblgdkiaaaGreatW
open PrintWords (rd rdOf bt mx shl)
set_option linter.unusedVariables false
set_option linter.unusedSimpArgs false

theorem bytes_ext {a b : ByteArray} (h : a.data.toList = b.data.toList) : a = b := ByteArray.ext (Array.toList_inj.1 h)
theorem bytes_app (a b : ByteArray) : (a ++ b).data.toList = a.data.toList ++ b.data.toList := by rw [ByteArray.data_append, Array.toList_append]
theorem cut_app_r (a b : ByteArray) : (a ++ b).extract a.size (a ++ b).size = b := by
 apply bytes_ext
 rw [ByteArray.data_extract, Array.toList_extract, bytes_app, List.extract_eq_take_drop, ByteArray.size_append]
 have ha : a.data.toList.length = a.size := rfl
 have hb : b.data.toList.length = b.size := rfl
 rw [← ha, List.drop_left, ← hb, Nat.add_sub_cancel_left, List.take_length]
theorem cut_app_l (a b : ByteArray) : (a ++ b).extract 0 a.size = a := by
 apply bytes_ext
 rw [ByteArray.data_extract, Array.toList_extract, bytes_app, List.extract_eq_take_drop]
 have ha : a.data.toList.length = a.size := rfl
 rw [List.drop_zero, Nat.sub_zero, ← ha, List.take_left]
theorem vNum_list (x : Nat) : (vNum x).data.toList = vNumL x := by simp [vNum]

theorem scan_num (x : Nat) (r : ByteArray) (hx : x < 18446744073709551616) (hs : (vNum x ++ r).size ≤ 1000000) (k : Nat) (hk : 30 ≤ k) :
  PNd.varint_scan.f k (vNum x ++ r) = some ((x : Int), ((vNum x).size : Int), 0) := by
 have hl := vNumL_len 10 x om_ om_
 have := scan_l (vNum x ++ r) r.data.toList hs k x 0 0 (by rw [List.drop_zero, bytes_app, vNum_list]) (by simp) (by simpa using hx) om_ om_ om_
 unfold PNd.varint_scan.f
 rw [vNum_size]
 simpa using this
theorem in_num (x : Nat) (r : ByteArray) (most : Int) (hx : x < 18446744073709551616) (hm : (x : Int) ≤ most) (hs : (vNum x ++ r).size ≤ 1000000) (k : Nat) (hk : 30 ≤ k) :
  PNd.varint_In_Num.f k (vNum x ++ r) 0 most = some ((x : Int), r, 0) := by
 unfold PNd.varint_In_Num.f
 rw [if_pos rfl, scan_num x r hx hs k hk]
 simp only [Option.bind_some]
 rw [if_pos trivial, if_neg (by omega), if_pos (by omega), if_pos (by rw [ByteArray.size_append]; omega), Int.toNat_natCast, cut_app_r]
theorem mx_nat (n : Nat) : mx (n : Int) 0 = (n : Int) := by unfold mx; split <;> omega
theorem in_raw (t r : ByteArray) : PNd.varint_In_Raw.f (t ++ r) 0 (t.size : Int) = some (t, r, 0) := by
 unfold PNd.varint_In_Raw.f
 rw [mx_nat, if_neg (by rw [ByteArray.size_append]; omega), if_pos rfl, if_pos (by omega), if_pos (by rw [ByteArray.size_append]; omega), Int.toNat_natCast, cut_app_l, cut_app_r]
theorem wrap_size (n : Nat) (h : n ≤ 1000) : wrap64 (n : Int) = (n : Int) := by unfold wrap64; omega
theorem uwrap_size (n : Nat) (h : n ≤ 1000) : IntKind.u64.wrap (n : Int) = (n : Int) := by show (n : Int) % 18446744073709551616 = _; omega
theorem in_text_of (t r : ByteArray) (k : Nat) (n M : Int) (S : ByteArray) (h1 : PNd.varint_In_Num.f k S 0 M = some (n, t ++ r, 0)) (h2 : PNd.varint_In_Raw.f (t ++ r) 0 n = some (t, r, 0)) (h3 : wrap64 n = n) (h4 : IntKind.u64.wrap M = M) (h5 : mx M 0 = M) :
  PNd.varint_In_Text.f k S 0 M = some (t, r, 0) := by
 unfold PNd.varint_In_Text.f
 rw [h5, h4, h1]
 simp only [Option.bind_some]
 rw [h3, h2]
 simp only [Option.bind_some]
theorem in_text_at (t r : ByteArray) (most : Nat) (ht : t.size ≤ most) (hm : most ≤ 1000) (k : Nat) (hk : 30 ≤ k) (hs : (vNum t.size ++ (t ++ r)).size ≤ 1000000) :
  PNd.varint_In_Text.f k (vNum t.size ++ (t ++ r)) 0 (most : Int) = some (t, r, 0) :=
 in_text_of t r k _ _ _ (in_num t.size (t ++ r) (most : Int) om_ om_ hs k hk) (in_raw t r) (wrap_size t.size om_) (uwrap_size most hm) (mx_nat most)
theorem vText_app (t r : ByteArray) : vText t ++ r = vNum t.size ++ (t ++ r) := ByteArray.append_assoc
theorem in_text (t r : ByteArray) (most : Nat) (ht : t.size ≤ most) (hm : most ≤ 1000) (hs : (vText t ++ r).size ≤ 1000000) (k : Nat) (hk : 30 ≤ k) :
  PNd.varint_In_Text.f k (vText t ++ r) 0 (most : Int) = some (t, r, 0) :=
 (congrArg (fun s => PNd.varint_In_Text.f k s 0 (most : Int)) (vText_app t r)).trans (in_text_at t r most ht hm k hk (by rw [← vText_app]; exact hs))

/-- The last d entries' bytes. -/
def tailOf (kind : Int) (keys vals : List ByteArray) (kids : List Int) (n : Nat) : Nat → ByteArray
 | 0 => ByteArray.empty
 | d + 1 => entryOf kind (keys.getD (n - (d + 1)) ByteArray.empty) (vals.getD (n - (d + 1)) ByteArray.empty) (kids.getD (n - (d + 1)) 0) ++ tailOf kind keys vals kids n d
theorem entries_tail (kind : Int) (keys vals : List ByteArray) (kids : List Int) (n : Nat) : ∀ d, d ≤ n → entriesOf kind keys vals kids (n - d) ++ tailOf kind keys vals kids n d = entriesOf kind keys vals kids n
 | 0, _ => by simp [tailOf]
 | d + 1, h => by
  rw [← entries_tail kind keys vals kids n d (by omega), tailOf, ← ByteArray.append_assoc]
  congr 1
  rw [show n - d = n - (d + 1) + 1 by omega, entriesOf]
theorem tail_all (kind : Int) (keys vals : List ByteArray) (kids : List Int) (n : Nat) : tailOf kind keys vals kids n n = entriesOf kind keys vals kids n := by
 have := entries_tail kind keys vals kids n n (Nat.le_refl _)
 rw [Nat.sub_self, entriesOf] at this
 simpa using this
theorem tail_size (kind : Int) (keys vals : List ByteArray) (kids : List Int) (n : Nat) (d : Nat) (h : d ≤ n) : (tailOf kind keys vals kids n d).size ≤ (entriesOf kind keys vals kids n).size := by
 rw [← entries_tail kind keys vals kids n d h, ByteArray.size_append]
 omega

structure NodeOk (kind : Int) (keys vals : List ByteArray) (kids : List Int) : Prop where
 k : ∀ i, i < keys.length → 0 < (keys.getD i ByteArray.empty).size ∧ (keys.getD i ByteArray.empty).size ≤ 16
 r : rising keys = true
 two : kind = 1 ∨ kind = 2
 leaf : kind = 1 → vals.length = keys.length ∧ kids = [] ∧ ∀ i, i < keys.length → (vals.getD i ByteArray.empty).size ≤ 32
 branch : kind = 2 → kids.length = keys.length ∧ vals = [] ∧ 0 < keys.length ∧ ∀ i, i < keys.length → 0 ≤ kids.getD i 0 ∧ kids.getD i 0 ≤ 2147483647
theorem nodeOk_out {kind : Int} {keys vals : List ByteArray} {kids : List Int} (h : nodeOk kind keys vals kids = true) : NodeOk kind keys vals kids := by
 simp only [nodeOk, Bool.and_eq_true] at h
 obtain ⟨⟨⟨⟨h1, h2⟩, h3⟩, h4⟩, h5⟩ := h
 by_cases hk : kind = 1
 ·rw [if_pos hk] at h5
  simp only [decide_eq_true_eq] at h5
  exact ⟨fun i hi => by simpa [keyOk] using getD_all h1 hi, h4, .inl hk, fun _ => ⟨h5.1, List.length_eq_zero_iff.1 h5.2, fun i hi => by simpa [valOk] using getD_all h2 om_⟩, fun e => by omega⟩
 ·rw [if_neg hk] at h5
  by_cases hk2 : kind = 2
  ·rw [if_pos hk2] at h5
   simp only [decide_eq_true_eq] at h5
   exact ⟨fun i hi => by simpa [keyOk] using getD_all h1 hi, h4, .inr hk2, fun e => by omega, fun _ => ⟨h5.1, List.length_eq_zero_iff.1 h5.2.1, h5.2.2, fun i hi => by simpa [pageOk] using getD_allI h3 om_⟩⟩
  ·rw [if_neg hk2] at h5
   simp at h5
theorem take_snocD {α : Type} (l : List α) (i : Nat) (d : α) (h : i < l.length) : l.take i ++ [l.getD i d] = l.take (i + 1) := by
 rw [List.take_succ_eq_append_getElem h, List.getD_eq_getElem?_getD, List.getElem?_eq_getElem h]
 rfl

theorem parse_l (kind : Int) (keys vals : List ByteArray) (kids : List Int) (hO : nodeOk kind keys vals kids = true) (hn : keys.length ≤ 10000) (hs : (entriesOf kind keys vals kids keys.length).size ≤ 1000000) : ∀ (d k : Nat), d ≤ keys.length → 40 + 2 * d ≤ k →
  PNd.node_Parse.l0 k kind (d : Int) kind (keys.take (keys.length - d)) (vals.take (if kind = 1 then keys.length - d else 0)) (kids.take (if kind = 1 then 0 else keys.length - d)) (tailOf kind keys vals kids keys.length d) 0 = some (kind, keys, vals, kids, 0) := by
 have N := nodeOk_out hO
 intro d
 induction d with
 | zero =>
  intro k _ hk
  obtain ⟨k, rfl⟩ : ∃ m, k = m + 2 := ⟨k - 2, by omega⟩
  unfold PNd.node_Parse.l0
  rw [if_neg (by omega)]
  unfold PNd.node_Parse.j2
  rw [if_neg (by simp)]
  have hv : vals.take (if kind = 1 then keys.length - 0 else 0) = vals := by
   rcases N.two with h | h
   ·rw [if_pos h, Nat.sub_zero, ← (N.leaf h).1, List.take_length]
   ·rw [(N.branch h).2.1]; simp
  have hc : kids.take (if kind = 1 then 0 else keys.length - 0) = kids := by
   rcases N.two with h | h
   ·rw [(N.leaf h).2.1]; simp
   ·rw [if_neg (by omega), Nat.sub_zero, ← (N.branch h).1, List.take_length]
  rw [hv, hc, Nat.sub_zero, List.take_length]
  have he : PNd.varint_In_End.f (tailOf kind keys vals kids keys.length 0) 0 = some (0, ByteArray.empty, 0) := by
   unfold PNd.varint_In_End.f
   rw [if_pos (by rw [tailOf, ByteArray.toList_eq]; rfl)]
   rfl
  rw [he]
  simp only [Option.bind_some, if_true]
  unfold PNd.node_Node_Check.f
  rw [hO]
  simp
 | succ d ih =>
  intro k hd hk
  obtain ⟨k, rfl⟩ : ∃ m, k = m + 2 := ⟨k - 2, by omega⟩
  have ih := ih k om_ om_
  obtain ⟨i, hi⟩ : ∃ i, i = keys.length - (d + 1) := ⟨_, rfl⟩
  have hil : i < keys.length := by omega
  have hi1 : keys.length - d = i + 1 := by omega
  rw [hi1] at ih
  have hts := tail_size kind keys vals kids keys.length (d + 1) hd
  rw [← hi]
  have htl : tailOf kind keys vals kids keys.length (d + 1) = entryOf kind (keys.getD i ByteArray.empty) (vals.getD i ByteArray.empty) (kids.getD i 0) ++ tailOf kind keys vals kids keys.length d := by rw [tailOf, ← hi]
  rw [htl] at hts ⊢
  have hkk := N.k i hil
  have hw : IntKind.u64.wrap (((d + 1 : Nat) : Int) - 1) = (d : Int) := by show (((d + 1 : Nat) : Int) - 1) % 18446744073709551616 = _; omega
  unfold PNd.node_Parse.l0
  rw [if_pos (by omega)]
  unfold PNd.varint_In_Err.f
  simp only [Option.bind_some]
  unfold PNd.node_Parse.j2
  rw [if_pos (by simp)]
  rcases N.two with h | h
  ·obtain ⟨hvl, hkids, hvs⟩ := N.leaf h
   have hv := hvs i hil
   have he : entryOf kind (keys.getD i ByteArray.empty) (vals.getD i ByteArray.empty) (kids.getD i 0) = vText (keys.getD i ByteArray.empty) ++ vText (vals.getD i ByteArray.empty) := by unfold entryOf; rw [if_pos h]
   rw [he, ByteArray.append_assoc] at hts ⊢
   rw [if_pos h] at ih ⊢
   rw [if_pos h] at ih ⊢
   rw [show (16 : Int) = ((16 : Nat) : Int) from rfl, in_text _ _ 16 hkk.2 (by omega) (by omega) _ (by omega)]
   simp only [Option.bind_some]
   rw [if_pos (by rw [List.length_take]; omega), if_pos h]
   rw [ByteArray.size_append] at hts
   rw [show (32 : Int) = ((32 : Nat) : Int) from rfl, in_text _ _ 32 hv (by omega) (by omega) _ (by omega)]
   simp only [Option.bind_some]
   rw [if_pos (by rw [List.length_take]; omega), hw, take_snocD _ _ _ hil, take_snocD _ _ _ (by omega)]
   exact ih
  ·obtain ⟨hcl, hvals, h0, hcs⟩ := N.branch h
   have hc := hcs i hil
   have hne : kind ≠ 1 := by omega
   have he : entryOf kind (keys.getD i ByteArray.empty) (vals.getD i ByteArray.empty) (kids.getD i 0) = vText (keys.getD i ByteArray.empty) ++ vNum (kids.getD i 0).toNat := by unfold entryOf; rw [if_neg hne]
   rw [he, ByteArray.append_assoc] at hts ⊢
   rw [if_neg hne] at ih ⊢
   rw [if_neg hne] at ih ⊢
   rw [show (16 : Int) = ((16 : Nat) : Int) from rfl, in_text _ _ 16 hkk.2 (by omega) (by omega) _ (by omega)]
   simp only [Option.bind_some]
   rw [if_pos (by rw [List.length_take]; omega), if_neg hne]
   rw [ByteArray.size_append] at hts
   rw [in_num (kids.getD i 0).toNat _ 2147483647 (by omega) (by omega) (by omega) _ (by omega)]
   simp only [Option.bind_some]
   have e3 : wrap64 (((kids.getD i 0).toNat : Nat) : Int) = kids.getD i 0 := by unfold wrap64; omega
   rw [if_pos (by rw [List.length_take]; omega), hw, e3, take_snocD _ _ _ hil, take_snocD _ _ _ (by omega)]
   exact ih
theorem parse_pack (kind : Int) (keys vals : List ByteArray) (kids : List Int) (hO : nodeOk kind keys vals kids = true) (hs : (packOf kind keys vals kids).size ≤ 100000) (hn : keys.length ≤ 10000) (k : Nat) (hk : 50 + 2 * keys.length ≤ k) :
  PNd.node_Parse.f k kind (packOf kind keys vals kids) = some (kind, keys, vals, kids, 0) := by
 have N := nodeOk_out hO
 obtain ⟨k, rfl⟩ : ∃ m, k = m + 1 := ⟨k - 1, by omega⟩
 have hj : PNd.node_Parse.j0 (k + 1) kind (packOf kind keys vals kids) false kind = some (kind, keys, vals, kids, 0) := by
  have hl := parse_l kind keys vals kids hO hn (by rw [packOf, ByteArray.size_append] at hs; omega) keys.length k (Nat.le_refl _) om_
  rw [tail_all, Nat.sub_self] at hl
  simp only [ite_self, List.take_zero] at hl
  rw [PNd.node_Parse.j0, if_neg (by simp)]
  unfold PNd.varint_Of.f
  simp only [Option.bind_some]
  rw [packOf] at hs ⊢
  rw [in_num keys.length _ 18446744073709551615 (by omega) (by omega) (by omega) _ (by omega)]
  simp only [Option.bind_some]
  exact hl
 unfold PNd.node_Parse.f
 rcases N.two with h | h
 ·rw [if_pos h]; exact hj
 ·rw [if_neg (by omega)]
  have : (kind != 2) = false := by simp [h]
  rw [this]; exact hj
end Go.Proofs.YtendgmblgdkiaaaGreat

namespace Go.Proofs.YtendgmblgdkiaaaGreat
open Go.RowKit
open Go.Proofs.YtendgmblgdkiaaaGreatW
open PrintWords (rd rdOf bt mx shl)
set_option linter.unusedVariables false
set_option linter.unusedSimpArgs false

/-- The number at the head of bytes, from the i-th on: what it says (in units of that place), how many bytes. -/
def hd : Nat → List UInt8 → Option (Nat × Nat)
 | _, [] => none
 | i, c :: r => if (i = 9 ∧ 1 < c.toNat) ∨ (0 < i ∧ c.toNat = 0) then none else if c.toNat < 128 then some (c.toNat, 1) else (hd (i + 1) r).map fun p => (c.toNat % 128 + 128 * p.1, p.2 + 1)
theorem hd_lt : ∀ (l : List UInt8) (i x m : Nat), i ≤ 9 → hd i l = some (x, m) → x < 2 ^ (64 - 7 * i) ∧ 1 ≤ m ∧ i + m ≤ 10 ∧ m ≤ l.length
 | [], i, x, m, hi, h => by simp [hd] at h
 | c :: r, i, x, m, hi, h => by
  unfold hd at h
  by_cases hb : (i = 9 ∧ 1 < c.toNat) ∨ (0 < i ∧ c.toNat = 0)
  ·rw [if_pos hb] at h; cases h
  ·rw [if_neg hb] at h
   have hc := c.toNat_lt
   by_cases h1 : c.toNat < 128
   ·rw [if_pos h1] at h
    simp only [Option.some.injEq, Prod.mk.injEq] at h
    obtain ⟨rfl, rfl⟩ := h
    refine ⟨?_, by omega, by omega, by simp⟩
    by_cases h9 : i = 9
    ·subst h9
     have : ¬ 1 < c.toNat := fun h => hb (.inl ⟨rfl, h⟩)
     show c.toNat < 2 ^ 1
     omega
    ·exact Nat.lt_of_lt_of_le h1 (Nat.pow_le_pow_right (n := 2) (i := 7) om_ om_)
   ·rw [if_neg h1] at h
    have hi8 : i ≤ 8 := by
     rcases Nat.lt_or_ge i 9 with h | h
     ·omega
     ·exact absurd (Or.inl ⟨by omega, by omega⟩) hb
    cases hr : hd (i + 1) r with
    | none => rw [hr] at h; cases h
    | some p =>
     obtain ⟨x', m'⟩ := p
     rw [hr] at h
     simp only [Option.map_some, Option.some.injEq, Prod.mk.injEq] at h
     obtain ⟨rfl, rfl⟩ := h
     obtain ⟨g1, g2, g3, g4⟩ := hd_lt r (i + 1) x' m' om_ hr
     refine ⟨?_, by omega, by omega, by simp; omega⟩
     have e : 2 ^ (64 - 7 * i) = 128 * 2 ^ (64 - 7 * (i + 1)) := by
      rw [show 64 - 7 * i = 7 + (64 - 7 * (i + 1)) from by omega, Nat.pow_add]
     rw [e]
     omega
theorem hd_u64 {l : List UInt8} {i x m a : Nat} (hi : i ≤ 9) (h : hd i l = some (x, m)) (ha : a < 128 ^ i) : a + x * 128 ^ i < 18446744073709551616 := by
 have h1 := (hd_lt l i x m hi h).1
 have e : 2 ^ (64 - 7 * i) * 128 ^ i = 18446744073709551616 := by
  rw [← pow7, ← Nat.pow_add, show 64 - 7 * i + 7 * i = 64 from by omega]
 have h2 : (x + 1) * 128 ^ i ≤ 2 ^ (64 - 7 * i) * 128 ^ i := Nat.mul_le_mul_right _ h1
 rw [e, Nat.add_mul] at h2
 omega

theorem sc_l0 (k : Nat) (s : ByteArray) (a n i : Int) : PNd.varint_scan.l0 (k + 1) s a n i = if i < n then (if 0 ≤ i then (if i < (s.size : Int) then (if i = 9 then (PNd.varint_scan.j1 k s a i (bt s i) n i (decide ((bt s i) > 1))) else (PNd.varint_scan.j1 k s a i (bt s i) n i false)) else (none)) else (none)) else (some (0, 0, 2)) := by rw [PNd.varint_scan.l0]
theorem sc_j1 (k : Nat) (s : ByteArray) (a b c n i : Int) (g : Bool) : PNd.varint_scan.j1 (k + 1) s a b c n i g = if g = true then (PNd.varint_scan.j2 k s a b c n i g) else (if b > 0 then (PNd.varint_scan.j2 k s a b c n i (c == 0)) else (PNd.varint_scan.j2 k s a b c n i false)) := by rw [PNd.varint_scan.j1]
theorem sc_j2 (k : Nat) (s : ByteArray) (a b c n i : Int) (g : Bool) : PNd.varint_scan.j2 (k + 1) s a b c n i g = if g = true then (some (0, 0, 3)) else (if 0 ≤ (wrap64 (7 * b)) then (if c < 128 then (some (Go.bits .or .u64 a (shl .u64 (IntKind.u64.wrap (Go.bits .and .u8 c 127)) (wrap64 (7 * b))), wrap64 (b + 1), 0)) else (PNd.varint_scan.l0 k s (Go.bits .or .u64 a (shl .u64 (IntKind.u64.wrap (Go.bits .and .u8 c 127)) (wrap64 (7 * b)))) n (wrap64 (i + 1)))) else (none)) := by rw [PNd.varint_scan.j2]
/-- One byte of the scan. -/
theorem sc_step (k : Nat) (s : ByteArray) (a : Int) (i : Nat) (c : UInt8) (hc : bt s (i : Int) = (c.toNat : Int)) (hi : i ≤ 9) (hlt : i < s.size) :
  PNd.varint_scan.l0 (k + 3) s a (s.size : Int) (i : Int) = if (i = 9 ∧ 1 < c.toNat) ∨ (0 < i ∧ c.toNat = 0) then some (0, 0, 3) else
   if c.toNat < 128 then some (Go.bits .or .u64 a (shl .u64 (IntKind.u64.wrap ((c.toNat % 128 : Nat) : Int)) (wrap64 (7 * (i : Int)))), ((i + 1 : Nat) : Int), 0)
   else PNd.varint_scan.l0 k s (Go.bits .or .u64 a (shl .u64 (IntKind.u64.wrap ((c.toNat % 128 : Nat) : Int)) (wrap64 (7 * (i : Int))))) (s.size : Int) ((i + 1 : Nat) : Int) := by
 have hand : Go.bits .and .u8 (c.toNat : Int) 127 = ((c.toNat % 128 : Nat) : Int) := and127 ⟨c.toNat, c.toNat_lt⟩
 have hw7 : (0 : Int) ≤ wrap64 (7 * (i : Int)) := by rw [wrap7 i hi]; omega
 have j2 : ∀ g : Bool, PNd.varint_scan.j2 (k + 1) s a i (c.toNat : Int) (s.size : Int) i g = if g = true then some (0, 0, 3) else if c.toNat < 128 then some (Go.bits .or .u64 a (shl .u64 (IntKind.u64.wrap ((c.toNat % 128 : Nat) : Int)) (wrap64 (7 * (i : Int)))), ((i + 1 : Nat) : Int), 0)
   else PNd.varint_scan.l0 k s (Go.bits .or .u64 a (shl .u64 (IntKind.u64.wrap ((c.toNat % 128 : Nat) : Int)) (wrap64 (7 * (i : Int))))) (s.size : Int) ((i + 1 : Nat) : Int) := by
  intro g
  rw [sc_j2, if_pos hw7, hand, wrap1 i (by omega)]
  cases g with
  | true => rw [if_pos rfl, if_pos rfl]
  | false =>
   rw [if_neg (show ¬ (false = true) by simp), if_neg (show ¬ (false = true) by simp)]
   by_cases h : c.toNat < 128
   ·rw [if_pos h, if_pos (show (c.toNat : Int) < 128 by omega)]
   ·rw [if_neg h, if_neg (show ¬ (c.toNat : Int) < 128 by omega)]
 have j1 : ∀ g : Bool, PNd.varint_scan.j1 (k + 2) s a i (c.toNat : Int) (s.size : Int) i g = if g = true ∨ (0 < i ∧ c.toNat = 0) then some (0, 0, 3) else if c.toNat < 128 then some (Go.bits .or .u64 a (shl .u64 (IntKind.u64.wrap ((c.toNat % 128 : Nat) : Int)) (wrap64 (7 * (i : Int)))), ((i + 1 : Nat) : Int), 0)
   else PNd.varint_scan.l0 k s (Go.bits .or .u64 a (shl .u64 (IntKind.u64.wrap ((c.toNat % 128 : Nat) : Int)) (wrap64 (7 * (i : Int))))) (s.size : Int) ((i + 1 : Nat) : Int) := by
  intro g
  rw [sc_j1]
  cases g with
  | true => rw [if_pos rfl, j2, if_pos rfl, if_pos (.inl rfl)]
  | false =>
   rw [if_neg (by simp)]
   by_cases h0 : 0 < i
   ·rw [if_pos (by omega), j2]
    by_cases hz : c.toNat = 0
    ·rw [if_pos (by simp [hz]), if_pos (.inr ⟨h0, hz⟩)]
    ·rw [if_neg (show ¬ (((c.toNat : Int) == 0) = true) by simp; omega), if_neg (show ¬ (false = true ∨ (0 < i ∧ c.toNat = 0)) by simp [hz])]
   ·rw [if_neg (by omega), j2, if_neg (show ¬ (false = true) by simp), if_neg (show ¬ (false = true ∨ (0 < i ∧ c.toNat = 0)) by simp [h0])]
 rw [sc_l0, if_pos (by omega), if_pos (by omega), if_pos (by omega), hc]
 by_cases h9 : i = 9
 ·rw [if_pos (by omega), j1]
  congr 1
  simp only [decide_eq_true_eq, gt_iff_lt, eq_iff_iff]
  omega
 ·rw [if_neg (by omega), j1]
  congr 1
  simp only [eq_iff_iff]
  constructor
  ·rintro (h | h)
   ·cases h
   ·exact .inr h
  ·rintro (h | h)
   ·omega
   ·exact .inr h
theorem scan_hd (s : ByteArray) (hs : s.size ≤ 1000000) : ∀ (l : List UInt8) (k a i : Nat), s.data.toList.drop i = l → a < 128 ^ i → i ≤ 9 → 3 * l.length + 1 ≤ k →
  (∀ x m, hd i l = some (x, m) → PNd.varint_scan.l0 k s (a : Int) (s.size : Int) (i : Int) = some (((a + x * 128 ^ i : Nat) : Int), ((i + m : Nat) : Int), 0)) ∧
  (hd i l = none → ∃ e : Int, (e = 2 ∨ e = 3) ∧ PNd.varint_scan.l0 k s (a : Int) (s.size : Int) (i : Int) = some (0, 0, e))
 | [], k, a, i, hl, ha, hi, hk => by
  obtain ⟨k, rfl⟩ := Nat.exists_eq_add_of_le hk
  refine ⟨fun x m h => by simp [hd] at h, fun _ => ⟨2, .inl rfl, ?_⟩⟩
  have : s.size ≤ i := by
   have := congrArg List.length hl
   simp only [List.length_drop, List.length_nil] at this
   have e : s.data.toList.length = s.size := rfl
   omega
  rw [show 3 * ([] : List UInt8).length + 1 + k = k + 1 from by simp; omega, sc_l0, if_neg (by omega)]
 | c :: r, k, a, i, hl, ha, hi, hk => by
  obtain ⟨hc, hlt⟩ := bt_list s i c r hl
  simp only [List.length_cons] at hk
  obtain ⟨k, rfl⟩ := Nat.exists_eq_add_of_le (show 3 ≤ k by omega)
  rw [Nat.add_comm 3 k, sc_step k s a i c hc hi hlt]
  unfold hd
  by_cases hb : (i = 9 ∧ 1 < c.toNat) ∨ (0 < i ∧ c.toNat = 0)
  ·rw [if_pos hb, if_pos hb]
   exact ⟨fun x m h => (by cases h), fun _ => ⟨3, .inr rfl, rfl⟩⟩
  ·rw [if_neg hb, if_neg hb]
   have hcl := c.toNat_lt
   have hlow : c.toNat % 128 < 128 := Nat.mod_lt _ om_
   have hfit : a + (c.toNat % 128) * 128 ^ i < 18446744073709551616 := by
    by_cases h9 : i = 9
    ·subst h9
     have : ¬ 1 < c.toNat := fun h => hb (.inl ⟨rfl, h⟩)
     have e9 : (128 : Nat) ^ 9 = 9223372036854775808 := by decide
     rw [e9] at ha ⊢
     have : c.toNat % 128 ≤ 1 := by omega
     have := Nat.mul_le_mul_right 9223372036854775808 this
     omega
    ·have h1 : 128 ^ i ≤ 128 ^ 8 := Nat.pow_le_pow_right om_ om_
     have h2 : (c.toNat % 128) * 128 ^ i ≤ 127 * 128 ^ 8 := Nat.mul_le_mul om_ h1
     have e8 : (128 : Nat) ^ 8 = 72057594037927936 := by decide
     omega
   have hsh := shl_nat (c.toNat % 128) i hlow hi om_
   rw [hsh, or_add a _ i ha hfit]
   by_cases h1 : c.toNat < 128
   ·rw [if_pos h1, if_pos h1]
    refine ⟨fun x m h => ?_, fun h => by cases h⟩
    simp only [Option.some.injEq, Prod.mk.injEq] at h
    obtain ⟨rfl, rfl⟩ := h
    rw [Nat.mod_eq_of_lt h1]
   ·rw [if_neg h1, if_neg h1]
    have hi8 : i + 1 ≤ 9 := by
     rcases Nat.lt_or_ge i 9 with h | h
     ·omega
     ·exact absurd (Or.inl ⟨by omega, by omega⟩) hb
    have ha' : a + (c.toNat % 128) * 128 ^ i < 128 ^ (i + 1) := by
     have : (c.toNat % 128 + 1) * 128 ^ i ≤ 128 * 128 ^ i := Nat.mul_le_mul_right _ om_
     rw [Nat.add_mul] at this
     rw [Nat.pow_succ]
     omega
    obtain ⟨g1, g2⟩ := scan_hd s hs r k (a + (c.toNat % 128) * 128 ^ i) (i + 1) (by rw [← List.tail_drop, hl]; rfl) ha' hi8 om_
    cases hr : hd (i + 1) r with
    | none =>
     refine ⟨fun x m h => (by cases h), fun _ => ?_⟩
     exact g2 hr
    | some p =>
     obtain ⟨x', m'⟩ := p
     refine ⟨fun x m h => ?_, fun h => by cases h⟩
     simp only [Option.map_some, Option.some.injEq, Prod.mk.injEq] at h
     obtain ⟨rfl, rfl⟩ := h
     rw [g1 x' m' hr]
     have e : a + c.toNat % 128 * 128 ^ i + x' * 128 ^ (i + 1) = a + (c.toNat % 128 + 128 * x') * 128 ^ i := by
      rw [Nat.pow_succ, Nat.add_mul, Nat.mul_comm (128 ^ i) 128, ← Nat.mul_assoc, Nat.mul_comm x' 128]; omega
     rw [e, show i + 1 + m' = i + (m' + 1) from by omega]
end Go.Proofs.YtendgmblgdkiaaaGreat

namespace Go.Proofs.YtendgmblgdkiaaaGreat
open Go.RowKit
open Go.Proofs.YtendgmblgdkiaaaGreatW
open PrintWords (rd rdOf bt mx shl bt_range)
set_option linter.unusedVariables false
set_option linter.unusedSimpArgs false

/-- The low seven bits of the first n bytes, as one number. -/
def vl (s : ByteArray) : Nat → Nat
 | 0 => 0
 | n + 1 => vl s n + ((bt s (n : Int)).toNat % 128) * 128 ^ n
theorem vl_lt (s : ByteArray) : ∀ n, vl s n < 128 ^ n
 | 0 => by simp [vl]
 | n + 1 => by
  have h := vl_lt s n
  have : ((bt s (n : Int)).toNat % 128 + 1) * 128 ^ n ≤ 128 * 128 ^ n := Nat.mul_le_mul_right _ om_
  rw [Nat.add_mul] at this
  unfold vl
  rw [Nat.pow_succ]
  omega
theorem hd_l0 (k : Nat) (s : ByteArray) (i : Int) : PIt.dowserref01_Head.l0 (k + 1) s i = if i < (s.size : Int) then (if i = 9 then (if 0 ≤ i then (PIt.dowserref01_Head.j1 k s i (decide ((bt s i) > 1))) else (none)) else (PIt.dowserref01_Head.j1 k s i false)) else (some (0, 0, 2)) := by rw [PIt.dowserref01_Head.l0]
theorem hd_j1 (k : Nat) (s : ByteArray) (i : Int) (g : Bool) : PIt.dowserref01_Head.j1 (k + 1) s i g = if g = true then (some (0, 0, 3)) else (if 0 ≤ i then (if i < (s.size : Int) then (if (bt s i) ≥ 128 then (PIt.dowserref01_Head.l0 k s (wrap64 (i + 1))) else (if i > 0 then (PIt.dowserref01_Head.j2 k s i ((bt s i) == 0)) else (PIt.dowserref01_Head.j2 k s i false))) else (none)) else (none)) := by rw [PIt.dowserref01_Head.j1]
theorem hd_j2 (k : Nat) (s : ByteArray) (i : Int) (g : Bool) : PIt.dowserref01_Head.j2 (k + 1) s i g = if g = true then (some (0, 0, 3)) else (PIt.dowserref01_Head.l1 k s i 0 i) := by rw [PIt.dowserref01_Head.j2]
theorem hd_l1 (k : Nat) (s : ByteArray) (i x j : Int) : PIt.dowserref01_Head.l1 (k + 1) s i x j = if j ≥ 0 then (if 0 ≤ j then (if j < (s.size : Int) then (PIt.dowserref01_Head.l1 k s i (IntKind.u64.wrap ((IntKind.u64.wrap (x * 128)) + (IntKind.u64.wrap (Int.tmod (bt s j) 128)))) (wrap64 (j - 1))) else (none)) else (none)) else (some (x, wrap64 (i + 1), 0)) := by rw [PIt.dowserref01_Head.l1]
theorem horner (s : ByteArray) (i : Int) : ∀ (n acc k : Nat), n ≤ s.size → n ≤ 10 → acc * 128 ^ n + vl s n < 18446744073709551616 → n + 1 ≤ k →
  PIt.dowserref01_Head.l1 k s i (acc : Int) ((n : Int) - 1) = some (((acc * 128 ^ n + vl s n : Nat) : Int), wrap64 (i + 1), 0)
 | 0, acc, k, _, _, _, hk => by
  obtain ⟨k, rfl⟩ := Nat.exists_eq_add_of_le hk
  rw [show 0 + 1 + k = k + 1 from by omega, hd_l1, if_neg (by omega)]
  simp [vl]
 | n + 1, acc, k, hn, h10, hb, hk => by
  obtain ⟨k, rfl⟩ := Nat.exists_eq_add_of_le (show 1 ≤ k by omega)
  rw [Nat.add_comm 1 k, hd_l1, if_pos (by omega), if_pos (by omega), if_pos (by omega)]
  have e1 : (((n + 1 : Nat) : Int) - 1) = (n : Int) := by omega
  have hr := bt_range s (n : Int)
  have e2 : Int.tmod (bt s (n : Int)) 128 = (((bt s (n : Int)).toNat % 128 : Nat) : Int) := by
   rw [Int.tmod_eq_emod_of_nonneg hr.1]
   omega
  have hp : 1 ≤ 128 ^ n := Nat.one_le_pow _ _ om_
  have hb2 : acc * 128 ^ (n + 1) + ((bt s (n : Int)).toNat % 128) * 128 ^ n + vl s n < 18446744073709551616 := by
   unfold vl at hb
   omega
  have h1 : acc * 128 ≤ acc * 128 ^ (n + 1) := by
   rw [Nat.pow_succ, Nat.mul_comm (128 ^ n) 128, ← Nat.mul_assoc]
   exact Nat.le_mul_of_pos_right _ hp
  have h2 : (bt s (n : Int)).toNat % 128 ≤ ((bt s (n : Int)).toNat % 128) * 128 ^ n := Nat.le_mul_of_pos_right _ hp
  have e3 : IntKind.u64.wrap ((IntKind.u64.wrap ((acc : Int) * 128)) + (IntKind.u64.wrap (((bt s (n : Int)).toNat % 128 : Nat) : Int))) = ((acc * 128 + (bt s (n : Int)).toNat % 128 : Nat) : Int) := by
   rw [IntKind.wrap_u64, IntKind.wrap_u64, IntKind.wrap_u64]
   omega
  have e4 : wrap64 ((n : Int) - 1) = (n : Int) - 1 := by unfold wrap64; omega
  have e5 : (acc * 128 + (bt s (n : Int)).toNat % 128) * 128 ^ n + vl s n = acc * 128 ^ (n + 1) + vl s (n + 1) := by
   show _ = _ + (vl s n + _)
   rw [Nat.add_mul, Nat.pow_succ, Nat.mul_comm (128 ^ n) 128, Nat.mul_assoc]
   omega
  rw [e1, e2, e3, e4, horner s i n _ k (by omega) (by omega) (by rw [e5]; exact hb) (by omega), e5]
set_option maxHeartbeats 1000000 in
theorem head_hd (s : ByteArray) (hs : s.size ≤ 1000000) : ∀ (l : List UInt8) (k i : Nat), s.data.toList.drop i = l → i ≤ 9 → 2 * l.length + 20 ≤ k →
  (∀ x m, hd i l = some (x, m) → PIt.dowserref01_Head.l0 k s (i : Int) = some (((vl s i + x * 128 ^ i : Nat) : Int), ((i + m : Nat) : Int), 0)) ∧
  (hd i l = none → ∃ e : Int, (e = 2 ∨ e = 3) ∧ PIt.dowserref01_Head.l0 k s (i : Int) = some (0, 0, e))
 | [], k, i, hl, hi, hk => by
  obtain ⟨k, rfl⟩ := Nat.exists_eq_add_of_le (show 1 ≤ k by omega)
  refine ⟨fun x m h => by simp [hd] at h, fun _ => ⟨2, .inl rfl, ?_⟩⟩
  have : s.size ≤ i := by
   have := congrArg List.length hl
   simp only [List.length_drop, List.length_nil] at this
   have e : s.data.toList.length = s.size := rfl
   omega
  rw [Nat.add_comm 1 k, hd_l0, if_neg (by omega)]
 | c :: r, k, i, hl, hi, hk => by
  obtain ⟨hc, hlt⟩ := bt_list s i c r hl
  simp only [List.length_cons] at hk
  obtain ⟨k, rfl⟩ := Nat.exists_eq_add_of_le (show 2 ≤ k by omega)
  have hcl := c.toNat_lt
  have hvi : vl s (i + 1) = vl s i + (c.toNat % 128) * 128 ^ i := by
   show vl s i + _ = _
   rw [hc, Int.toNat_natCast]
  have HVI := hi_ hvi
  clear hvi
  have hw := wrap1 i om_
  -- from the byte on, once it is not too much for the last place
  have go : ¬ (i = 9 ∧ 1 < c.toNat) → (∀ x m, hd i (c :: r) = some (x, m) → PIt.dowserref01_Head.j1 (k + 1) s (i : Int) false = some (((vl s i + x * 128 ^ i : Nat) : Int), ((i + m : Nat) : Int), 0)) ∧
    (hd i (c :: r) = none → ∃ e : Int, (e = 2 ∨ e = 3) ∧ PIt.dowserref01_Head.j1 (k + 1) s (i : Int) false = some (0, 0, e)) := by
   intro h9
   have h0i : (0 : Int) ≤ (i : Int) := Int.natCast_nonneg i
   have hii : (i : Int) < (s.size : Int) := Int.ofNat_lt.2 hlt
   rw [hd_j1, if_neg (show ¬ (false = true) by simp), if_pos h0i, if_pos hii, hc]
   by_cases h1 : c.toNat < 128
   ·rw [if_neg (show ¬ (c.toNat : Int) ≥ 128 by omega)]
    by_cases hz : 0 < i ∧ c.toNat = 0
    ·have e : hd i (c :: r) = none := by
      have hb : (i = 9 ∧ 1 < c.toNat) ∨ (0 < i ∧ c.toNat = 0) := .inr hz
      unfold hd
      rw [if_pos hb]
     rw [e, if_pos (show (i : Int) > 0 by omega)]
     obtain ⟨k, rfl⟩ := Nat.exists_eq_add_of_le (show 1 ≤ k by omega)
     rw [Nat.add_comm 1 k, hd_j2, if_pos (by simp [hz.2])]
     exact ⟨fun x m h => (by cases h), fun _ => ⟨3, .inr rfl, rfl⟩⟩
    ·have e : hd i (c :: r) = some (c.toNat, 1) := by
      unfold hd
      rw [if_neg (show ¬ ((i = 9 ∧ 1 < c.toNat) ∨ (0 < i ∧ c.toNat = 0)) from fun h => h.elim h9 hz), if_pos h1]
     have hu := hi_ (hd_u64 hi e (vl_lt s i))
     obtain ⟨k, rfl⟩ := Nat.exists_eq_add_of_le (show 1 ≤ k by omega)
     have hj : PIt.dowserref01_Head.j2 (k + 1) s (i : Int) false = some (((vl s i + c.toNat * 128 ^ i : Nat) : Int), ((i + 1 : Nat) : Int), 0) := by
      rw [hd_j2, if_neg (show ¬ (false = true) by simp)]
      have := horner s (i : Int) (i + 1) 0 k om_ om_ (by rw [HVI.out, Nat.mod_eq_of_lt h1, Nat.zero_mul, Nat.zero_add]; exact hu.out) om_
      rw [show (((i + 1 : Nat) : Int) - 1) = (i : Int) from by omega] at this
      rw [show (0 : Int) = ((0 : Nat) : Int) from rfl, this, HVI.out, Nat.mod_eq_of_lt h1, hw]
      simp
     rw [e, Nat.add_comm 1 k]
     refine ⟨fun x m h => ?_, fun h => by cases h⟩
     simp only [Option.some.injEq, Prod.mk.injEq] at h
     obtain ⟨rfl, rfl⟩ := h
     by_cases h0 : 0 < i
     ·have hne : ((c.toNat : Int) == 0) = false := by
       rw [beq_eq_false_iff_ne]
       intro h
       exact hz ⟨h0, by omega⟩
      rw [if_pos (show (i : Int) > 0 by omega), hne, hj]
     ·rw [if_neg (show ¬ (i : Int) > 0 by omega), hj]
   ·rw [if_pos (show (c.toNat : Int) ≥ 128 by omega), hw]
    have hi8 : i + 1 ≤ 9 := by
     rcases Nat.lt_or_ge i 9 with h | h
     ·omega
     ·exact absurd ⟨by omega, by omega⟩ h9
    have hbad : ¬ ((i = 9 ∧ 1 < c.toNat) ∨ (0 < i ∧ c.toNat = 0)) := by omega
    obtain ⟨g1, g2⟩ := head_hd s hs r k (i + 1) (by rw [← List.tail_drop, hl]; rfl) hi8 om_
    unfold hd
    rw [if_neg hbad, if_neg h1]
    cases hr : hd (i + 1) r with
    | none => exact ⟨fun x m h => (by cases h), fun _ => g2 hr⟩
    | some p =>
     obtain ⟨x', m'⟩ := p
     refine ⟨fun x m h => ?_, fun h => by cases h⟩
     simp only [Option.map_some, Option.some.injEq, Prod.mk.injEq] at h
     obtain ⟨rfl, rfl⟩ := h
     rw [g1 x' m' hr, HVI.out]
     have e : vl s i + c.toNat % 128 * 128 ^ i + x' * 128 ^ (i + 1) = vl s i + (c.toNat % 128 + 128 * x') * 128 ^ i := by
      rw [Nat.pow_succ, Nat.add_mul, Nat.mul_comm (128 ^ i) 128, ← Nat.mul_assoc, Nat.mul_comm x' 128]; omega
     rw [e, show i + 1 + m' = i + (m' + 1) from by omega]
  rw [show 2 + k = k + 1 + 1 from by omega, hd_l0, if_pos (Int.ofNat_lt.2 hlt)]
  by_cases h9 : i = 9
  ·rw [if_pos (show (i : Int) = 9 by omega), if_pos (Int.natCast_nonneg i), hc]
   by_cases h1 : 1 < c.toNat
   ·have e : hd i (c :: r) = none := by
     have hb : (i = 9 ∧ 1 < c.toNat) ∨ (0 < i ∧ c.toNat = 0) := .inl ⟨h9, h1⟩
     unfold hd
     rw [if_pos hb]
    rw [e, decide_eq_true (show (c.toNat : Int) > 1 by omega), hd_j1, if_pos rfl]
    exact ⟨fun x m h => (by cases h), fun _ => ⟨3, .inr rfl, rfl⟩⟩
   ·rw [decide_eq_false (show ¬ (c.toNat : Int) > 1 by omega)]
    exact go (fun h => h1 h.2)
  ·rw [if_neg (show ¬ (i : Int) = 9 by omega)]
   exact go (fun h => h9 h.1)
end Go.Proofs.YtendgmblgdkiaaaGreat

namespace Go.Proofs.YtendgmblgdkiaaaGreat.PNd
open Go.RowKit Go.Proofs.YtendgmblgdkiaaaGreatW.PrintWords Go.Proofs.YtendgmblgdkiaaaGreatW.PrintLast Go.Proofs.YtendgmblgdkiaaaGreatW.PrintMore
attribute [local go_sem] max2_int min2_int max_two min_two
set_option linter.unusedVariables false
set_option linter.unusedSimpArgs false

-- NOT PRINTED: function 196 (slices_rotateLeft_string)

-- NOT PRINTED: function 156 (slices_rotateRight_string)

-- NOT PRINTED: function 154 (slices_Insert_string_string)

-- NOT PRINTED: function 157 (slices_startIdx_string)

/-! ### slices_Replace_string_string: function 102 -/
def slices_Replace_string_string.f (l0 : List ByteArray) (a1 : Int) (a2 : Int) (l3 : List ByteArray) : Option (List ByteArray) := replF l0 a1 a2 l3
set_option maxHeartbeats 8000000 in
set_option maxRecDepth 100000 in
theorem slices_Replace_string_string.calls (P0_ : Nat → Prop) (u9000_ : Value) (l0 : List ByteArray) (a1 : Int) (a2 : Int) (A3 : Option Addr) (c3 : Nat) (l3 : List ByteArray) (r : List ByteArray) (w0 w : World) (hB : Below w0.heap.size w0 w) (ho0 : Kd.R Kd.string 9 w w0.heap.size P0_ u9000_ l0) (hr3 : ∀ W_, Kept w W_ (fun k_ => P0_ k_) → Kd.C Kd.string W_ A3 l3.length l3) (hc3 : l3.length ≤ c3) (h : slices_Replace_string_string.f l0 a1 a2 l3 = some r) :
  Calls Tryz.prog 102 #[u9000_, .int .i64 a1, .int .i64 a2, .slice A3 l3.length c3] w fun e w' => ∃ v0_ : Value, e = .returned (v0_) ∧ Kd.R Kd.string 9 w' w0.heap.size (fun k_ => (P0_ k_ ∨ w.heap.size ≤ k_)) v0_ r ∧ Below w0.heap.size w0 w' ∧ Kept w w' (fun k_ => P0_ k_) := replace_own_s P0_ u9000_ l0 a1 a2 A3 c3 l3 r w0 w hB ho0 hr3 hc3 h

-- NOT PRINTED: function 249 (slices_overlaps_int)

-- NOT PRINTED: function 253 (slices_rotateLeft_int)

-- NOT PRINTED: function 250 (slices_rotateRight_int)

-- NOT PRINTED: function 248 (slices_Insert_int_int)

-- NOT PRINTED: function 251 (slices_startIdx_int)

/-! ### slices_Replace_int_int: function 229 -/
def slices_Replace_int_int.f (l0 : List Int) (a1 : Int) (a2 : Int) (l3 : List Int) : Option (List Int) := replF l0 a1 a2 l3
set_option maxHeartbeats 8000000 in
set_option maxRecDepth 100000 in
theorem slices_Replace_int_int.calls (P0_ : Nat → Prop) (u9000_ : Value) (l0 : List Int) (a1 : Int) (a2 : Int) (A3 : Option Addr) (c3 : Nat) (l3 : List Int) (r : List Int) (w0 w : World) (hB : Below w0.heap.size w0 w) (ho0 : Kd.R (Kd.int .i64) 3 w w0.heap.size P0_ u9000_ l0) (hr3 : ∀ W_, Kept w W_ (fun k_ => P0_ k_) → Kd.C (Kd.int .i64) W_ A3 l3.length l3) (hc3 : l3.length ≤ c3) (h : slices_Replace_int_int.f l0 a1 a2 l3 = some r) :
  Calls Tryz.prog 229 #[u9000_, .int .i64 a1, .int .i64 a2, .slice A3 l3.length c3] w fun e w' => ∃ v0_ : Value, e = .returned (v0_) ∧ Kd.R (Kd.int .i64) 3 w' w0.heap.size (fun k_ => (P0_ k_ ∨ w.heap.size ≤ k_)) v0_ r ∧ Below w0.heap.size w0 w' ∧ Kept w w' (fun k_ => P0_ k_) := replace_own_i P0_ u9000_ l0 a1 a2 A3 c3 l3 r w0 w hB ho0 hr3 hc3 h

end Go.Proofs.YtendgmblgdkiaaaGreat.PNd

namespace Go.Proofs.YtendgmblgdkiaaaGreat.PNd
open Go.RowKit Go.Proofs.YtendgmblgdkiaaaGreatW.PrintWords Go.Proofs.YtendgmblgdkiaaaGreatW.PrintLast Go.Proofs.YtendgmblgdkiaaaGreatW.PrintMore
attribute [local go_sem] max2_int min2_int max_two min_two
set_option linter.unusedVariables false
set_option linter.unusedSimpArgs false

/-! ### dowserlaw01_Cut: function 25 -/
/-! ### dowserlaw10_Act_Text: function 31 -/
end Go.Proofs.YtendgmblgdkiaaaGreat.PNd
