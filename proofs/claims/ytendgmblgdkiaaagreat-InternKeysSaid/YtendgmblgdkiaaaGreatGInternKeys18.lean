/- written for this seat by its own program (doctor.sh) with the kit's printer -/
import Derived.Test.YtendgmblgdkiaaaGreatGInternKeys0
import Derived.Test.YtendgmblgdkiaaaGreatProg
import Derived.Below
import Derived.Deep.Draws
import Derived.Deep.AppendLies
import Derived.Maps.AppendAt
import Derived.OwnWalk
import Derived.Laws.BytesArg
import Derived.Laws.MakeOwn
import Derived.Laws.OwnMore
import Derived.Deep.OwnRows
import Derived.Tactics
import Derived.Lib.ConvBytes
import Derived.Laws.Slices
import Derived.WalkKit
import Derived.KernelRfl
import Derived.RowKit3
import Derived.Deep.LoopGhost
import Derived.Deep.QuietTactic
import Derived.BigQuiet
import Derived.WideLaws
import Derived.Deep.DeepCutAuto
import Derived.Deep.CutBlock
import Derived.Deep.RegionHeld3
import Derived.Laws.Rows
import Derived.Lib.AppendStr
import Derived.ArgAppend
import Derived.Laws.IdiomCopy
import Derived.OrdersHeld
import Derived.Laws.BitsLemmas
import Derived.RowKit
import Derived.Test.YtendgmblgdkiaaaGreatGInternKeys13
import Derived.Test.YtendgmblgdkiaaaGreatGInternKeys4
import Derived.Test.YtendgmblgdkiaaaGreatGInternKeys16
import Derived.Test.YtendgmblgdkiaaaGreatGInternKeys14
import Derived.Test.YtendgmblgdkiaaaGreatGInternKeys17
namespace Go.Proofs.YtendgmblgdkiaaaGreat.PIt
open Go.RowKit Go.Proofs.YtendgmblgdkiaaaGreatW.PrintWords Go.Proofs.YtendgmblgdkiaaaGreatW.PrintLast Go.Proofs.YtendgmblgdkiaaaGreatW.PrintMore
attribute [local go_sem] max2_int max_two
set_option linter.unusedVariables false
set_option linter.unusedSimpArgs false



def errW : Option Int → Value
 | none => .nilIface
 | some c => .iface 0 (.int .i64 c)
theorem errW_none : errW none = .nilIface := rfl
theorem errW_some (c : Int) : errW (some c) = .iface 0 (.int .i64 c) := rfl

theorem info5 : (Tryz.prog.info? 5).map (fun i => (i.zero, i.size, i.bytes)) = some (some (.int .u8 0), 1, 1) := by kernel_rfl
-- the values' own types

end Go.Proofs.YtendgmblgdkiaaaGreat.PIt

namespace Go.Proofs.YtendgmblgdkiaaaGreat.PIt
open Go.RowKit Go.Proofs.YtendgmblgdkiaaaGreatW.PrintWords Go.Proofs.YtendgmblgdkiaaaGreatW.PrintLast Go.Proofs.YtendgmblgdkiaaaGreatW.PrintMore
attribute [local go_sem] max2_int max_two
set_option linter.unusedVariables false
set_option linter.unusedSimpArgs false

/-! ### crc_Four: function 117 -/
def crc_Four.f (a0 : Int) : Option (ByteArray) := some (strOfNums (([(a0 / 16777216) % 256, (a0 / 65536) % 256, (a0 / 256) % 256, (a0) % 256] : List Int)))
set_option maxHeartbeats 8000000 in
set_option maxRecDepth 100000 in
theorem crc_Four.calls (a0 : Int) (r : ByteArray) (w : World) (h : crc_Four.f a0 = some r) :
  Calls Tryz.prog 117 #[.int .u32 a0] w fun e w' => e = .returned (.string r) ∧ Below w.heap.size w w' := by
 have HB := am_ (Below.refl w.heap.size w)
 have H : (some (strOfNums (([(a0 / 16777216) % 256, (a0 / 65536) % 256, (a0 / 256) % 256, (a0) % 256] : List Int)))) = some r := h
 clear h
 obtain ⟨y101, hy101⟩ : ∃ y_ : List Int, y_ = (([(a0 / 16777216) % 256, (a0 / 65536) % 256, (a0 / 256) % 256, (a0) % 256] : List Int)) := ⟨_, rfl⟩
 (first | rw [Option.bind_some, ← hy101] at H | rw [← hy101] at H | skip); try dsimp only at H
 have Ny101 := am_ hy101
 clear hy101
 obtain rfl := Option.some.inj H
 go_enter Tryz.func117, Tryz.ntmps117
 go_wp2_with (first | ((with_reducible refine gate_dst (N := 14) rfl ?_); refine Kd.R_lit (Kd.int .u8) _ 5 ?hg (N := 14) ?hd (xs := ([(a0 / 16777216) % 256, (a0 / 65536) % 256, (a0 / 256) % 256, (a0) % 256] : List Int)) (inner := [.int .u8 ((a0 / 16777216) % 256), .int .u8 ((a0 / 65536) % 256), .int .u8 ((a0 / 256) % 256), .int .u8 ((a0) % 256)]) (ok := fun _ => True) (okp := fun _ => True) ?hr ?hp (fun _ hk => hk) trivial (Below.refl _ _) (Nat.le_refl _) (by simp) ?_; (case hd => rfl); (case hg => rfl); (case hr => first | (go_simp; done) | (go_simp; rfl)); (case hp => exact (Reps.one (show Kd.M (Kd.int .u8) _ _ _ ((a0 / 16777216) % 256) [.int .u8 ((a0 / 16777216) % 256)] from rfl) (Reps.one (show Kd.M (Kd.int .u8) _ _ _ ((a0 / 65536) % 256) [.int .u8 ((a0 / 65536) % 256)] from rfl) (Reps.one (show Kd.M (Kd.int .u8) _ _ _ ((a0 / 256) % 256) [.int .u8 ((a0 / 256) % 256)] from rfl) (Reps.one (show Kd.M (Kd.int .u8) _ _ _ ((a0) % 256) [.int .u8 ((a0) % 256)] from rfl) (Reps.none _ _)))))); intro v102 w2 ho3 hb hg_ hnew_; clear hg_ hnew_; (first | rw [← Ny101.out] at ho3 | (simp only [Int.reduceToNat] at ho3; rw [← Ny101.out] at ho3)); have HO103 := am_ (Kd.R_lower ho3 (below_size bl_)); replace HB := am_ (below_step bl_ hb); clear hb ho3; have hcv4 := own_string (P := Tryz.prog) Tryz.underlying55 Tryz.underlying5 Tryz.underlying9 (Kd.own_of_R HO103.out)))
 go_ret
 exact ⟨er_, by exact bl_⟩

/-! ### intern_Ref_Key: function 56 -/
def intern_Ref_Key.f (a0_0 : Int) (a0_1 : Int) : Option (ByteArray) := (crc_Four.f a0_0).bind fun t105 => (if 1 + t105.size ≤ 9223372036854775807 then ((some (([(a0_1) % 256] : List Int) : List Int)).bind fun y106 => (if ((⟨#[115]⟩ : ByteArray) ++ t105).size + (strOfNums y106).size ≤ 9223372036854775807 then (some (((⟨#[115]⟩ : ByteArray) ++ t105) ++ (strOfNums y106))) else (none))) else (none))
def intern_Ref_Key.T1 : Bool × List (List Nat × List Nat) := (true, [([], []), ([0], [0]), ([1], [1]), ([2], [2]), ([], []), ([4], [4]), ([5], [5]), ([6], [6]), ([7], [7]), ([3, 8], [3, 8]), ([9, 2, 0, 1, 2, 3, 4, 5, 6, 7, 8, 9], [9])])
def intern_Ref_Key.B1 : List Nat := [0, 1, 3, 7, 0, 16, 48, 112, 240, 511, 1023]
theorem intern_Ref_Key.tab1 : rtab .any (opsOf Tryz.f56 1) = intern_Ref_Key.T1 := by kernel_rfl
theorem intern_Ref_Key.bits1 : waitsOk intern_Ref_Key.T1.2 intern_Ref_Key.B1 = true := by kernel_rfl
set_option maxHeartbeats 8000000 in
set_option maxRecDepth 100000 in
theorem intern_Ref_Key.calls (a0_0 : Int) (a0_1 : Int) (r : ByteArray) (w : World) (h : intern_Ref_Key.f a0_0 a0_1 = some r) :
  Calls Tryz.prog 56 #[.agg #[.int .u32 a0_0, .int .i64 a0_1]] w fun e w' => e = .returned (.string r) ∧ Below w.heap.size w w' := by
 have hu77 := Tryz.underlying77
 have HB := am_ (Below.refl w.heap.size w)
 have H : ((crc_Four.f a0_0).bind fun t105 => (if 1 + t105.size ≤ 9223372036854775807 then ((some (([(a0_1) % 256] : List Int) : List Int)).bind fun y106 => (if ((⟨#[115]⟩ : ByteArray) ++ t105).size + (strOfNums y106).size ≤ 9223372036854775807 then (some (((⟨#[115]⟩ : ByteArray) ++ t105) ++ (strOfNums y106))) else (none))) else (none))) = some r := h
 clear h
 obtain ⟨t105, A2, H⟩ := bi_ H
 try dsimp only at H
 by_cases c3 : 1 + t105.size ≤ 9223372036854775807
 ·rw [if_pos c3] at H
  have c3b0 := eq_true c3
  have c3b1 : decide (1 + t105.size ≤ 9223372036854775807) = true := decide_eq_true c3
  try have c3b2 : (9223372036854775807 < 1 + t105.size) = False := eq_false (Nat.not_lt.2 c3)
  obtain ⟨y106, hy106⟩ : ∃ y_ : List Int, y_ = (([(a0_1) % 256] : List Int)) := ⟨_, rfl⟩
  (first | rw [Option.bind_some, ← hy106] at H | rw [← hy106] at H | skip); try dsimp only at H
  have Ny106 := am_ hy106
  clear hy106
  by_cases c4 : ((⟨#[115]⟩ : ByteArray) ++ t105).size + (strOfNums y106).size ≤ 9223372036854775807
  ·rw [if_pos c4] at H
   have c4b0 := eq_true c4
   have c4b1 : decide (((⟨#[115]⟩ : ByteArray) ++ t105).size + (strOfNums y106).size ≤ 9223372036854775807) = true := decide_eq_true c4
   try have c4b2 : (9223372036854775807 < ((⟨#[115]⟩ : ByteArray) ++ t105).size + (strOfNums y106).size) = False := eq_false (Nat.not_lt.2 c4)
   have c4n_ : (9223372036854775807 < 1 + t105.size + (strOfNums y106).size) = False := by have hz_ : ((⟨#[115]⟩ : ByteArray) ++ t105).size = 1 + t105.size := ByteArray.size_append; rw [hz_] at c4; exact eq_false (Nat.not_lt.2 c4)
   obtain rfl := Option.some.inj H
   go_enter Tryz.func56, Tryz.ntmps56
   try go_wp2_with (first | ((with_reducible refine gate_dst (N := 1) rfl ?_); refine be_ (N := 1) (cs := #[.int .u32 a0_0, .int .i64 a0_1]) (t := 77) ?_; intro gb104 hg w5 hbox hb; have BK104 := am_ (hbox); have GW104 := am_ ((sz_ hg : w.heap.size ≤ gb104)); have GE104 := am_ ((sz_ hg : w.heap.size ≤ gb104)); replace HB := am_ (below_step bl_ hb); clear hb hbox hg))
   replace BK104 := am_ (blk_drew BK104.out)
   replace HB := am_ (below_drew1 HB.out)
   refine start_ (n := 11) (S := fun w' => w'.cell? ⟨gb104, 0, none⟩ = some (.int .u32 a0_0) ∧ w'.cell? ⟨gb104, 1, none⟩ = some (.int .i64 a0_1)) (ds := []) (bz 11 0) kr_ rfl rfl ⟨bc_ BK104 0, bc_ BK104 1⟩ (fun hHeld => ?_); refine with_tabW intern_Ref_Key.tab1 intern_Ref_Key.bits1 (fun HT_ HW_ => ?_)
   generalize w5.drew = w6 at BK104 HB hHeld ⊢
   refine pu_ (fun x y z => pure_ (i := 0) (N := some 3) (bz 11 1) rfl rfl (any_of HT_.out kr_) (fun _ _ _ h => h) (Or.inl ⟨by rfl, x⟩) y z) ?_
   refine pu_ (fun x y z => pure_ (i := 4) (N := some 7) (bz 11 17) rfl rfl (any_of HT_.out kr_) (fun _ _ _ h => h) (Or.inl ⟨by rfl, x⟩) y z) ?_
   refine take_ (i := 1) (N := some 4) (v := ?_) (a' := ?_) (bz 11 19) rfl rfl (take_ofW HT_.out HW_.out kr_) (fun _ _ _ h => h) (Or.inl ⟨by rfl, ?_⟩) hHeld ?_ ?_
   rotate_left
   ·rintro w' ⟨s0, s1⟩
    go_simp
    with_reducible rfl
   rotate_left
   ·simp only [Act.put, List.setIfInBounds_toArray, List.set_cons_zero, List.set_cons_succ, i64_w, i32_w]
    rfl
   refine take_ (i := 5) (N := some 8) (v := ?_) (a' := ?_) (bz 11 51) rfl rfl (take_ofW HT_.out HW_.out kr_) (fun _ _ _ h => h) (Or.inl ⟨by rfl, ?_⟩) hHeld ?_ ?_
   rotate_left
   ·rintro w' ⟨s0, s1⟩
    go_simp
    with_reducible rfl
   rotate_left
   ·simp only [Act.put, List.setIfInBounds_toArray, List.set_cons_zero, List.set_cons_succ, i64_w, i32_w]
    rfl
   refine pu_ (fun x y z => pure_ (i := 6) (N := some 9) (bz 11 115) rfl rfl (any_of HT_.out kr_) (fun _ _ _ h => h) (Or.inl ⟨by rfl, x⟩) y z) ?_
   refine join_ (σ := Value) 2 (bz 11 511) (fun s_ => [(5, .string t105), (10, s_), (11, .string (strOfNums y106)), (6, .string ((⟨#[115]⟩ : ByteArray) ++ t105))]) (fun s_ w' => (w'.cell? ⟨gb104, 0, none⟩ = some (.int .u32 a0_0) ∧ w'.cell? ⟨gb104, 1, none⟩ = some (.int .i64 a0_1)) ∧ (Kd.R (Kd.int .u8) 5 w' w.heap.size (fun _ => True) s_ y106) ∧ (w'.heap[gb104]? = some (.cells #[.int .u32 a0_0, .int .i64 a0_1] 77 (0, 0))) ∧ (Below w.heap.size w w')) ?_ ?_
   rotate_left
   ·intro hCont
    refine two_ (i := 2) (j := 7) (Ni := some 5) (Nj := some 10) (bz 11 119) (bz 11 243) rfl rfl rfl rfl (two_of HT_.out kr_) (by decide) (by decide) (fun K hK => ?_) (fun K hK => ?_)
    ·skip
     refine goes_ Tryz.func117 kr_ rfl #[.int .u32 a0_0] (by rfl) rfl rfl ar_ ?_
     with_reducible refine (crc_Four.calls a0_0 t105 _ A2.out).mono ?_
     rintro e w7 ⟨rfl, hb⟩
     refine ⟨_, rfl, ?_⟩
     replace BK104 := am_ (bw_ BK104 hb)
     replace HB := am_ (below_step bl_ hb)
     (try clear hb)
     refine hK.out _ _ ⟨bc_ BK104 0, bc_ BK104 1⟩ (fun hHeld => ?_)
     clear hK K
     refine no_ (some 5) ?_
     refine pu_ (fun x y z => pure_ (i := 3) (N := some 6) (bz 11 127) rfl rfl (any_of HT_.out kr_) (fun _ _ _ h => h) (Or.inl ⟨by rfl, x⟩) y z) ?_
     refine one_ (i := 7) (N := some 10) (bz 11 255) rfl rfl (one_of HT_.out kr_) (by decide) (fun K hK => ?_)
     refine Kd.R_lit_step (Kd.int .u8) _ 5 ?hg (N := 10) ?hd (xs := ([(a0_1) % 256] : List Int)) (inner := [.int .u8 ((a0_1) % 256)]) (ok := fun _ => True) (okp := fun _ => True) ?hr ?hp (fun _ hk => hk) trivial (Below.refl _ _) (Nat.le_refl _) (by simp) ?_; (case hd => rfl); (case hg => rfl); (case hr => first | (go_simp; done) | (go_simp; rfl)); (case hp => exact (Reps.one (show Kd.M (Kd.int .u8) _ _ _ ((a0_1) % 256) [.int .u8 ((a0_1) % 256)] from rfl) (Reps.none _ _)))
     intro v107 w8 ho9 hb hg_ hnew_
     clear hg_ hnew_
     (first | rw [← Ny106.out] at ho9 | (simp only [Int.reduceToNat] at ho9; rw [← Ny106.out] at ho9))
     have HO108 := am_ (Kd.R_lower ho9 (below_size bl_))
     replace BK104 := am_ (bw_ BK104 hb)
     replace HB := am_ (below_step bl_ hb)
     clear hb ho9
     refine hK.out _ _ ⟨bc_ BK104 0, bc_ BK104 1⟩ (fun hHeld => ?_)
     clear hK K
     refine no_ (some 10) ?_
     refine one_ (i := 8) (N := some 11) (bz 11 511) rfl rfl (one_of HT_.out kr_) (by decide) (fun K hK => ?_)
     have hcv10 := own_string (P := Tryz.prog) Tryz.underlying55 Tryz.underlying5 Tryz.underlying9 (Kd.own_of_R HO108.out)
     refine value_ (w1 := ?_) (v := ?_) (by rfl) rfl ?_ ?_
     rotate_left 2
     ·go_simp
      constructor
      ·rfl
      ·rfl
     clear hcv10
     refine hK.out _ _ ⟨bc_ BK104 0, bc_ BK104 1⟩ (fun hHeld => ?_)
     clear hK K
     refine no_ (some 11) ?_
     exact norm_ (by simp only [putAll, Act.put, List.setIfInBounds_toArray, List.set_cons_zero, List.set_cons_succ]) (hCont (v107) _ ⟨hHeld, (rx_ HO108), (bx_ BK104), bl_⟩)
    ·skip
     refine Kd.R_lit_step (Kd.int .u8) _ 5 ?hg (N := 10) ?hd (xs := ([(a0_1) % 256] : List Int)) (inner := [.int .u8 ((a0_1) % 256)]) (ok := fun _ => True) (okp := fun _ => True) ?hr ?hp (fun _ hk => hk) trivial (Below.refl _ _) (Nat.le_refl _) (by simp) ?_; (case hd => rfl); (case hg => rfl); (case hr => first | (go_simp; done) | (go_simp; rfl)); (case hp => exact (Reps.one (show Kd.M (Kd.int .u8) _ _ _ ((a0_1) % 256) [.int .u8 ((a0_1) % 256)] from rfl) (Reps.none _ _)))
     intro v107 w7 ho8 hb hg_ hnew_
     clear hg_ hnew_
     (first | rw [← Ny106.out] at ho8 | (simp only [Int.reduceToNat] at ho8; rw [← Ny106.out] at ho8))
     have HO108 := am_ (Kd.R_lower ho8 (below_size bl_))
     replace BK104 := am_ (bw_ BK104 hb)
     replace HB := am_ (below_step bl_ hb)
     clear hb ho8
     refine hK.out _ _ ⟨bc_ BK104 0, bc_ BK104 1⟩ (fun hHeld => ?_)
     clear hK K
     refine no_ (some 10) ?_
     refine two_ (i := 2) (j := 8) (Ni := some 5) (Nj := some 11) (bz 11 247) (bz 11 499) rfl rfl rfl rfl (two_of HT_.out kr_) (by decide) (by decide) (fun K hK => ?_) (fun K hK => ?_)
     ·skip
      refine goes_ Tryz.func117 kr_ rfl #[.int .u32 a0_0] (by rfl) rfl rfl ar_ ?_
      with_reducible refine (crc_Four.calls a0_0 t105 _ A2.out).mono ?_
      rintro e w9 ⟨rfl, hb⟩
      refine ⟨_, rfl, ?_⟩
      replace HO108 := am_ (Kd.R_below (rx_ HO108) hb)
      replace BK104 := am_ (bw_ BK104 hb)
      replace HB := am_ (below_step bl_ hb)
      (try clear hb); (try clear hk)
      refine hK.out _ _ ⟨bc_ BK104 0, bc_ BK104 1⟩ (fun hHeld => ?_)
      clear hK K
      refine no_ (some 5) ?_
      refine pu_ (fun x y z => pure_ (i := 3) (N := some 6) (bz 11 255) rfl rfl (any_of HT_.out kr_) (fun _ _ _ h => h) (Or.inl ⟨by rfl, x⟩) y z) ?_
      refine one_ (i := 8) (N := some 11) (bz 11 511) rfl rfl (one_of HT_.out kr_) (by decide) (fun K hK => ?_)
      have hcv10 := own_string (P := Tryz.prog) Tryz.underlying55 Tryz.underlying5 Tryz.underlying9 (Kd.own_of_R HO108.out)
      refine value_ (w1 := ?_) (v := ?_) (by rfl) rfl ?_ ?_
      rotate_left 2
      ·go_simp
       constructor
       ·rfl
       ·rfl
      clear hcv10
      refine hK.out _ _ ⟨bc_ BK104 0, bc_ BK104 1⟩ (fun hHeld => ?_)
      clear hK K
      refine no_ (some 11) ?_
      exact norm_ (by simp only [putAll, Act.put, List.setIfInBounds_toArray, List.set_cons_zero, List.set_cons_succ]) (hCont (v107) _ ⟨hHeld, (rx_ HO108), (bx_ BK104), bl_⟩)
     ·skip
      have hcv9 := own_string (P := Tryz.prog) Tryz.underlying55 Tryz.underlying5 Tryz.underlying9 (Kd.own_of_R HO108.out)
      refine value_ (w1 := ?_) (v := ?_) (by rfl) rfl ?_ ?_
      rotate_left 2
      ·go_simp
       constructor
       ·rfl
       ·rfl
      clear hcv9
      refine hK.out _ _ ⟨bc_ BK104 0, bc_ BK104 1⟩ (fun hHeld => ?_)
      clear hK K
      refine no_ (some 11) ?_
      refine one_ (i := 2) (N := some 5) (bz 11 503) rfl rfl (one_of HT_.out kr_) (by decide) (fun K hK => ?_)
      refine goes_ Tryz.func117 kr_ rfl #[.int .u32 a0_0] (by rfl) rfl rfl ar_ ?_
      with_reducible refine (crc_Four.calls a0_0 t105 _ A2.out).mono ?_
      rintro e w10 ⟨rfl, hb⟩
      refine ⟨_, rfl, ?_⟩
      replace HO108 := am_ (Kd.R_below (rx_ HO108) hb)
      replace BK104 := am_ (bw_ BK104 hb)
      replace HB := am_ (below_step bl_ hb)
      (try clear hb); (try clear hk)
      refine hK.out _ _ ⟨bc_ BK104 0, bc_ BK104 1⟩ (fun hHeld => ?_)
      clear hK K
      refine no_ (some 5) ?_
      refine pu_ (fun x y z => pure_ (i := 3) (N := some 6) (bz 11 511) rfl rfl (any_of HT_.out kr_) (fun _ _ _ h => h) (Or.inl ⟨by rfl, x⟩) y z) ?_
      exact norm_ (by simp only [putAll, Act.put, List.setIfInBounds_toArray, List.set_cons_zero, List.set_cons_succ]) (hCont (v107) _ ⟨hHeld, (rx_ HO108), (bx_ BK104), bl_⟩)
   rintro v107 w11 ⟨hS_, h0_, h1_, h2_⟩
   have n0_ : Aside0 (Kd.R (Kd.int .u8) 5 w11 w.heap.size (fun _ => True) v107 y106) := ⟨h0_⟩
   have n1_ : Aside0 (w11.heap[gb104]? = some (.cells #[.int .u32 a0_0, .int .i64 a0_1] 77 (0, 0))) := ⟨h1_⟩
   have n2_ : Aside0 (Below w.heap.size w w11) := ⟨h2_⟩
   clear BK104 HB h0_ h1_ h2_
   have HO108 := n0_
   have BK104 := n1_
   have HB := n2_
   clear n0_ n1_ n2_
   have hHeld : w11.cell? ⟨gb104, 0, none⟩ = some (.int .u32 a0_0) ∧ w11.cell? ⟨gb104, 1, none⟩ = some (.int .i64 a0_1) := hS_
   refine norm_ (a' := ?_) ?_ ?_
   rotate_left
   ·simp only [putAll, Act.put, List.setIfInBounds_toArray, List.set_cons_zero, List.set_cons_succ]
    rfl
   refine pu_ (fun x y z => pure_ (i := 9) (N := some 12) (bz 11 1023) rfl rfl (any_of HT_.out kr_) (fun _ _ _ h => h) (Or.inl ⟨by rfl, x⟩) y z) ?_
   refine pu_ (fun x y z => pure_ (i := 10) (N := some 2) (bz 11 2047) rfl rfl (any_of HT_.out kr_) (fun _ _ _ h => h) (Or.inl ⟨by rfl, x⟩) y z) ?_
   refine done_ (done_of HT_.out kr_) ?_
   try go_wp2
   go_ret
   exact ⟨er_, by exact bl_⟩
  ·rw [if_neg c4] at H
   exact absurd H (by simp)
 ·rw [if_neg c3] at H
  exact absurd H (by simp)

/-! ### intern_Of: function 55 -/
mutual
def intern_Of.j0 : Nat → ByteArray → Bool → Option (Int × Int × Bool)
 | 0, _, _ => none
 | k + 1, x0, x13 => if x13 = true then (some (0, 0, false)) else (intern_Of.l0 k x0 0 1)
def intern_Of.l0 : Nat → ByteArray → Int → Int → Option (Int × Int × Bool)
 | 0, _, _, _ => none
 | k + 1, x0, x4, x5 => if x5 < 5 then (if 0 ≤ x5 then (if x5 < (x0.size : Int) then (intern_Of.l0 k x0 (Go.bits .or .u32 ((x4 * 256) % 4294967296) ((bt x0 x5) % 4294967296)) (wrap64 (x5 + 1))) else (none)) else (none)) else (if 5 < (x0.size : Int) then (some (x4, wrap64 (bt x0 5), true)) else (none))
end
def intern_Of.f (k : Nat) (a0 : ByteArray) : Option (Int × Int × Bool) := if (a0.size : Int) = 6 then (if 0 ≤ 1 then (if 1 ≤ (a0.size : Int) then (intern_Of.j0 k a0 ((a0.extract 0 1).toList != ([115] : List UInt8))) else (none)) else (none)) else (intern_Of.j0 k a0 true)
set_option maxHeartbeats 8000000 in
set_option maxRecDepth 100000 in
theorem intern_Of.calls (k : Nat) (a0 : ByteArray) (r1 : Int) (r2 : Int) (r3 : Bool) (w : World) (h : intern_Of.f k a0 = some (r1, r2, r3)) :
  Calls Tryz.prog 55 #[.string a0] w fun e w' => e = .returned (.tuple #[.agg #[.int .u32 r1, .int .i64 r2], .bool r3]) ∧ Below w.heap.size w w' := by
 have hu77 := Tryz.underlying77
 have HB := am_ (Below.refl w.heap.size w)
 have H : (if (a0.size : Int) = 6 then (if 0 ≤ 1 then (if 1 ≤ (a0.size : Int) then (intern_Of.j0 k a0 ((a0.extract 0 1).toList != ([115] : List UInt8))) else (none)) else (none)) else (intern_Of.j0 k a0 true)) = some (r1, r2, r3) := h
 clear h
 have HC2 := am_ H
 clear H
 go_enter Tryz.func55, Tryz.ntmps55
 go_upto_region 1 with (first | ((with_reducible refine gate_dst (N := 2) rfl ?_); refine be_ (N := 2) (cs := #[.int .u32 0, .int .i64 0]) (t := 77) ?_; intro gb109 hg w3 hbox hb; have BK109 := am_ (hbox); have GW109 := am_ ((sz_ hg : w.heap.size ≤ gb109)); have GE109 := am_ ((sz_ hg : w.heap.size ≤ gb109)); replace HB := am_ (below_step bl_ hb); clear hb hbox hg))
 (try simp only [Act.put, List.setIfInBounds_toArray, List.set_cons_zero, List.set_cons_succ])
 go_cut [13] (fun v13 wc => ∃ (kq : Nat) (x13_1 : Bool), v13 = .bool x13_1 ∧ Aside0 (intern_Of.j0 kq a0 x13_1 = some (r1, r2, r3)) ∧ Aside0 (kq ≤ k) ∧ Aside0 (wc.heap[gb109]? = some (.cells #[.int .u32 0, .int .i64 0] 77 (0, 0))) ∧ Aside0 (Below w.heap.size w wc))
 case first =>
  have H := HC2.out
  clear HC2
  by_cases c4 : (a0.size : Int) = 6
  ·rw [if_pos c4] at H
   have c4b0 : ((a0.size : Int) == 6) = true := beq_iff_eq.mpr c4
   have c4b1 : ((a0.size : Int) != 6) = false := bne_eq_false_iff_eq.mpr c4
   clear c4
   (first | rw [c4b0] | (simp only [i64_w, i32_w]; rw [c4b0]) | skip)
   by_cases c5 : 0 ≤ 1
   ·rw [if_pos c5] at H
    have c5b0 := eq_true c5
    have c5b1 : decide (0 ≤ 1) = true := decide_eq_true c5
    clear c5
    by_cases c6 : 1 ≤ (a0.size : Int)
    ·rw [if_pos c6] at H
     have c6b0 := eq_true c6
     have c6b1 : decide (1 ≤ (a0.size : Int)) = true := decide_eq_true c6
     clear c6
     have H' := am_ H
     clear H
     go_wp2
     go_meet
     case rel => exact ⟨_, (((a0.extract 0 1).toList != ([115] : List UInt8))), (by first | rfl | (simp; done) | (simp [*]; done)), H', ⟨by first | omega | exact Nat.le_refl _⟩, ⟨bx_ BK109⟩, ⟨by exact bl_⟩⟩
    ·rw [if_neg c6] at H
     exact absurd H (by simp)
   ·rw [if_neg c5] at H
    exact absurd H (by simp)
  ·rw [if_neg c4] at H
   have c4b0 : ((a0.size : Int) == 6) = false := beq_eq_false_iff_ne.mpr c4
   have c4b1 : ((a0.size : Int) != 6) = true := bne_iff_ne.mpr c4
   (first | rw [c4b0] | (simp only [i64_w, i32_w]; rw [c4b0]) | skip)
   have H' := am_ H
   clear H
   go_wp2
   go_meet
   case rel => exact ⟨_, (true), (by first | rfl | (simp; done) | (simp [*]; done)), H', ⟨by first | omega | exact Nat.le_refl _⟩, ⟨bx_ BK109⟩, ⟨by exact bl_⟩⟩
 case rest =>
  clear HC2
  obtain ⟨kq, x13_1, rfl, HA, HJ1, BK109, HB⟩ := hcut
  cases kq with
  | zero => exact absurd HA.out (by simp [intern_Of.j0])
  | succ kj1 =>
   have H := HA.out
   clear HA
   simp only [intern_Of.j0] at H
   by_cases c7 : x13_1 = true
   ·subst c7
    rw [if_pos rfl] at H
    simp only [Option.some.injEq, Prod.mk.injEq] at H
    obtain ⟨rfl, rfl, rfl⟩ := H
    have hcz8_0 : wc.cell? ⟨gb109, 0, none⟩ = some (.int .u32 0) := bc_ BK109 0
    have hcz8_1 : wc.cell? ⟨gb109, 1, none⟩ = some (.int .i64 0) := bc_ BK109 1
    have hfz8_0 := blk_frozen BK109.out 0
    have hfz8_1 := blk_frozen BK109.out 1
    go_wp2
    refine bodyPost_ret (results_ct rfl _ _ gb109 77 #[.int .u32 0, .int .i64 0] (0, 0) _ rfl (bp_ BK109) Tryz.underlying77 rfl kr_) rfl ?_
    exact ⟨er_, by exact bl_⟩
   ·replace c7 := Bool.eq_false_iff.mpr c7
    subst c7
    rw [if_neg (show ¬ (false = true) by decide)] at H
    have H' := am_ H
    clear H
    go_wp2
    go_loopg [4, 5] kj1 (fun kq v4 v5 w' => ∃ (x4_2 : Int) (x5_2 : Int), v4 = .int .u32 x4_2 ∧ v5 = .int .i64 x5_2 ∧ Aside0 (intern_Of.l0 kq a0 x4_2 x5_2 = some (r1, r2, r3)) ∧ Aside0 (kq ≤ kj1) ∧ Aside0 (w'.heap[gb109]? = some (.cells #[.int .u32 0, .int .i64 0] 77 (0, 0))) ∧ Aside0 (Below w.heap.size w w'))
    case atStart => exact ⟨(0), (1), (by first | rfl | (simp; done) | (simp [*]; done)), (by first | rfl | (simp; done) | (simp [*]; done)), H', ⟨Nat.le_refl _⟩, ⟨bx_ BK109⟩, ⟨by exact bl_⟩⟩
    case round =>
     clear H'; try clear c7
     obtain ⟨x4_2, x5_2, rfl, rfl, HA, HK2, BK109, HB⟩ := hrel
     cases gk with
     | zero => exact absurd HA.out (by simp [intern_Of.l0])
     | succ k2 =>
      have H := HA.out
      clear HA
      simp only [intern_Of.l0] at H
      by_cases c9 : x5_2 < 5
      ·rw [if_pos c9] at H
       have c9b0 : decide (x5_2 < 5) = true := decide_eq_true c9
       clear c9
       by_cases c10 : 0 ≤ x5_2
       ·rw [if_pos c10] at H
        have c10b0 : decide (0 ≤ x5_2) = true := decide_eq_true c10
        clear c10
        by_cases c11 : x5_2 < (a0.size : Int)
        ·rw [if_pos c11] at H
         have c11b0 : decide (x5_2 < (a0.size : Int)) = true := decide_eq_true c11
         clear c11
         have H' := am_ H
         clear H
         have p12 : 0 ≤ (x5_2 : Int) := of_decide_eq_true as_
         have q12 : x5_2 < (a0.size : Int) := of_decide_eq_true as_
         have hx12 := bt_at a0 x5_2
         replace p12 := eq_true p12
         replace q12 := eq_true q12
         go_wp2
         go_roundg k2
         case measure => have := HJ1.out; have := HK2.out; omega
         case rel => exact ⟨(Go.bits .or .u32 ((x4_2 * 256) % 4294967296) ((bt a0 x5_2) % 4294967296)), (wrap64 (x5_2 + 1)), (by first | rfl | (simp; done) | (simp [*]; done)), (by first | rfl | (simp; done) | (simp [*]; done)), H', ⟨by have := HJ1.out; have := HK2.out; omega⟩, ⟨bx_ BK109⟩, ⟨by exact bl_⟩⟩
        ·rw [if_neg c11] at H
         exact absurd H (by simp)
       ·rw [if_neg c10] at H
        exact absurd H (by simp)
      ·rw [if_neg c9] at H
       have c9b0 : decide (x5_2 < 5) = false := decide_eq_false c9
       clear c9
       by_cases c13 : 5 < (a0.size : Int)
       ·rw [if_pos c13] at H
        have c13b0 : decide (5 < (a0.size : Int)) = true := decide_eq_true c13
        have c13b1 : decide (5 < a0.size) = true := decide_eq_true om_
        clear c13
        simp only [Option.some.injEq, Prod.mk.injEq] at H
        obtain ⟨rfl, rfl, rfl⟩ := H
        have p14 : 0 ≤ (5 : Int) := om_
        have q14 : 5 < a0.size := (by have : (5 : Int) < (a0.size : Int) := of_decide_eq_true as_; omega)
        have hx14 : ∀ h : 5 < a0.size, ((a0[5]'h).toNat : Int) = bt a0 5 := bt_at a0 5
        clear p14
        have qi14 : (5 < (a0.size : Int)) = True := eq_true (of_decide_eq_true as_)
        replace q14 := eq_true q14
        have hcz15_0 : wr.cell? ⟨gb109, 0, none⟩ = some (.int .u32 0) := bc_ BK109 0
        have hcz15_1 : wr.cell? ⟨gb109, 1, none⟩ = some (.int .i64 0) := bc_ BK109 1
        have hfz15_0 := blk_frozen BK109.out 0
        have hfz15_1 := blk_frozen BK109.out 1
        go_wp2
        refine bodyPost_ret (results_ct rfl _ _ gb109 77 #[.int .u32 x4_2, .int .i64 (wrap64 (bt a0 5))] (0, 0) _ rfl (bp_ BK109) Tryz.underlying77 rfl kr_) rfl ?_
        exact ⟨er_, by exact bl_⟩
       ·rw [if_neg c13] at H
        exact absurd H (by simp)

/-! ### dowserref01_Num: function 60 -/
end Go.Proofs.YtendgmblgdkiaaaGreat.PIt

namespace Go.Proofs.YtendgmblgdkiaaaGreat.PKy
open Go.RowKit Go.Proofs.YtendgmblgdkiaaaGreatW.PrintWords Go.Proofs.YtendgmblgdkiaaaGreatW.PrintLast Go.Proofs.YtendgmblgdkiaaaGreatW.PrintMore
attribute [local go_sem] max2_int max_two
set_option linter.unusedVariables false
set_option linter.unusedSimpArgs false



def errW : Option Int → Value
 | none => .nilIface
 | some c => .iface 0 (.int .i64 c)
theorem errW_none : errW none = .nilIface := rfl
theorem errW_some (c : Int) : errW (some c) = .iface 0 (.int .i64 c) := rfl

-- the values' own types

end Go.Proofs.YtendgmblgdkiaaaGreat.PKy

namespace Go.Proofs.YtendgmblgdkiaaaGreat.PKy
open Go.RowKit Go.Proofs.YtendgmblgdkiaaaGreatW.PrintWords Go.Proofs.YtendgmblgdkiaaaGreatW.PrintLast Go.Proofs.YtendgmblgdkiaaaGreatW.PrintMore
attribute [local go_sem] max2_int max_two
set_option linter.unusedVariables false
set_option linter.unusedSimpArgs false

/-! ### node_key: function 147 -/
def node_key.f (a0 : ByteArray) : Option (Bool) := if a0.toList = ([] : List UInt8) then (some false) else (some (decide ((a0.size : Int) ≤ 16)))
set_option maxHeartbeats 8000000 in
set_option maxRecDepth 100000 in
theorem node_key.calls (a0 : ByteArray) (r : Bool) (w : World) (h : node_key.f a0 = some r) :
  Calls Tryz.prog 147 #[.string a0] w fun e w' => e = .returned (.bool r) ∧ Drawn0 w w' := by
 have H : (if a0.toList = ([] : List UInt8) then (some false) else (some (decide ((a0.size : Int) ≤ 16)))) = some r := h
 clear h
 by_cases c2 : a0.toList = ([] : List UInt8)
 ·rw [if_pos c2] at H
  have c2b0 : (a0.toList == ([] : List UInt8)) = true := beq_iff_eq.mpr c2
  have c2b1 : (a0.toList != ([] : List UInt8)) = false := bne_eq_false_iff_eq.mpr c2
  clear c2
  obtain rfl := Option.some.inj H
  go_enter Tryz.func147, Tryz.ntmps147
  go_wp2
  go_ret
  exact ⟨e1_, dr_⟩
 ·rw [if_neg c2] at H
  have c2b0 : (a0.toList == ([] : List UInt8)) = false := beq_eq_false_iff_ne.mpr c2
  have c2b1 : (a0.toList != ([] : List UInt8)) = true := bne_iff_ne.mpr c2
  obtain rfl := Option.some.inj H
  go_enter Tryz.func147, Tryz.ntmps147
  go_wp2
  go_ret
  exact ⟨e1_, dr_⟩

/-! ### node_value: function 148 -/
def node_value.f (a0 : ByteArray) : Option (Bool) := some (decide ((a0.size : Int) ≤ 32))
set_option maxHeartbeats 8000000 in
set_option maxRecDepth 100000 in
theorem node_value.calls (a0 : ByteArray) (r : Bool) (w : World) (h : node_value.f a0 = some r) :
  Calls Tryz.prog 148 #[.string a0] w fun e w' => e = .returned (.bool r) ∧ Drawn0 w w' := by
 have H : (some (decide ((a0.size : Int) ≤ 32))) = some r := h
 clear h
 obtain rfl := Option.some.inj H
 go_enter Tryz.func148, Tryz.ntmps148
 go_wp2
 go_ret
 exact ⟨e1_, dr_⟩

/-! ### node_page: function 150 -/
def node_page.f (a0 : Int) : Option (Bool) := if a0 ≥ 0 then (some (decide (a0 ≤ 2147483647))) else (some false)
set_option maxHeartbeats 8000000 in
set_option maxRecDepth 100000 in
theorem node_page.calls (a0 : Int) (r : Bool) (w : World) (h : node_page.f a0 = some r) :
  Calls Tryz.prog 150 #[.int .i64 a0] w fun e w' => e = .returned (.bool r) ∧ Drawn0 w w' := by
 have H : (if a0 ≥ 0 then (some (decide (a0 ≤ 2147483647))) else (some false)) = some r := h
 clear h
 by_cases c2 : a0 ≥ 0
 ·rw [if_pos c2] at H
  have c2b0 : decide (0 ≤ a0) = true := decide_eq_true c2
  clear c2
  obtain rfl := Option.some.inj H
  go_enter Tryz.func150, Tryz.ntmps150
  go_wp2
  go_ret
  exact ⟨e1_, dr_⟩
 ·rw [if_neg c2] at H
  have c2b0 : decide (0 ≤ a0) = false := decide_eq_false c2
  clear c2
  obtain rfl := Option.some.inj H
  go_enter Tryz.func150, Tryz.ntmps150
  go_wp2
  go_ret
  exact ⟨e1_, dr_⟩

end Go.Proofs.YtendgmblgdkiaaaGreat.PKy

namespace Go.Proofs.YtendgmblgdkiaaaGreat.PIf
open Go.RowKit Go.Proofs.YtendgmblgdkiaaaGreatW.PrintWords Go.Proofs.YtendgmblgdkiaaaGreatW.PrintLast Go.Proofs.YtendgmblgdkiaaaGreatW.PrintMore
attribute [local go_sem] max2_int max_two
set_option linter.unusedVariables false
set_option linter.unusedSimpArgs false



def errW : Option Int → Value
 | none => .nilIface
 | some c => .iface 0 (.int .i64 c)
theorem errW_none : errW none = .nilIface := rfl
theorem errW_some (c : Int) : errW (some c) = .iface 0 (.int .i64 c) := rfl

theorem info5 : (Tryz.prog.info? 5).map (fun i => (i.zero, i.size, i.bytes)) = some (some (.int .u8 0), 1, 1) := by kernel_rfl
-- the values' own types

end Go.Proofs.YtendgmblgdkiaaaGreat.PIf

namespace Go.Proofs.YtendgmblgdkiaaaGreat.PIf
open Go.RowKit Go.Proofs.YtendgmblgdkiaaaGreatW.PrintWords Go.Proofs.YtendgmblgdkiaaaGreatW.PrintLast Go.Proofs.YtendgmblgdkiaaaGreatW.PrintMore
attribute [local go_sem] max2_int max_two
set_option linter.unusedVariables false
set_option linter.unusedSimpArgs false

/-! ### dowserref02_Four: function 57 -/
def dowserref02_Four.f (a0 : Int) : Option (ByteArray) := some (strOfNums (([((Int.tdiv a0 16777216) % 4294967296) % 256, ((Int.tdiv a0 65536) % 4294967296) % 256, ((Int.tdiv a0 256) % 4294967296) % 256, (Int.tmod a0 256) % 256] : List Int)))
set_option maxHeartbeats 8000000 in
set_option maxRecDepth 100000 in
theorem dowserref02_Four.calls (a0 : Int) (r : ByteArray) (w : World) (h : dowserref02_Four.f a0 = some r) :
  Calls Tryz.prog 57 #[.int .u32 a0] w fun e w' => e = .returned (.string r) ∧ Below w.heap.size w w' := by
 have HB := am_ (Below.refl w.heap.size w)
 have H : (some (strOfNums (([((Int.tdiv a0 16777216) % 4294967296) % 256, ((Int.tdiv a0 65536) % 4294967296) % 256, ((Int.tdiv a0 256) % 4294967296) % 256, (Int.tmod a0 256) % 256] : List Int)))) = some r := h
 clear h
 obtain ⟨y101, hy101⟩ : ∃ y_ : List Int, y_ = (([((Int.tdiv a0 16777216) % 4294967296) % 256, ((Int.tdiv a0 65536) % 4294967296) % 256, ((Int.tdiv a0 256) % 4294967296) % 256, (Int.tmod a0 256) % 256] : List Int)) := ⟨_, rfl⟩
 (first | rw [Option.bind_some, ← hy101] at H | rw [← hy101] at H | skip); try dsimp only at H
 have Ny101 := am_ hy101
 clear hy101
 obtain rfl := Option.some.inj H
 go_enter Tryz.func57, Tryz.ntmps57
 go_wp2_with (first | ((with_reducible refine gate_dst (N := 17) rfl ?_); refine Kd.R_lit (Kd.int .u8) _ 5 ?hg (N := 17) ?hd (xs := ([((Int.tdiv a0 16777216) % 4294967296) % 256, ((Int.tdiv a0 65536) % 4294967296) % 256, ((Int.tdiv a0 256) % 4294967296) % 256, (Int.tmod a0 256) % 256] : List Int)) (inner := [.int .u8 (((Int.tdiv a0 16777216) % 4294967296) % 256), .int .u8 (((Int.tdiv a0 65536) % 4294967296) % 256), .int .u8 (((Int.tdiv a0 256) % 4294967296) % 256), .int .u8 ((Int.tmod a0 256) % 256)]) (ok := fun _ => True) (okp := fun _ => True) ?hr ?hp (fun _ hk => hk) trivial (Below.refl _ _) (Nat.le_refl _) (by simp) ?_; (case hd => rfl); (case hg => rfl); (case hr => first | (go_simp; done) | (go_simp; rfl)); (case hp => exact (Reps.one (show Kd.M (Kd.int .u8) _ _ _ (((Int.tdiv a0 16777216) % 4294967296) % 256) [.int .u8 (((Int.tdiv a0 16777216) % 4294967296) % 256)] from rfl) (Reps.one (show Kd.M (Kd.int .u8) _ _ _ (((Int.tdiv a0 65536) % 4294967296) % 256) [.int .u8 (((Int.tdiv a0 65536) % 4294967296) % 256)] from rfl) (Reps.one (show Kd.M (Kd.int .u8) _ _ _ (((Int.tdiv a0 256) % 4294967296) % 256) [.int .u8 (((Int.tdiv a0 256) % 4294967296) % 256)] from rfl) (Reps.one (show Kd.M (Kd.int .u8) _ _ _ ((Int.tmod a0 256) % 256) [.int .u8 ((Int.tmod a0 256) % 256)] from rfl) (Reps.none _ _)))))); intro v102 w2 ho3 hb hg_ hnew_; clear hg_ hnew_; (first | rw [← Ny101.out] at ho3 | (simp only [Int.reduceToNat] at ho3; rw [← Ny101.out] at ho3)); have HO103 := am_ (Kd.R_lower ho3 (below_size bl_)); replace HB := am_ (below_step bl_ hb); clear hb ho3; have hcv4 := own_string (P := Tryz.prog) Tryz.underlying55 Tryz.underlying5 Tryz.underlying9 (Kd.own_of_R HO103.out)))
 go_ret
 exact ⟨er_, by exact bl_⟩

end Go.Proofs.YtendgmblgdkiaaaGreat.PIf
