/- What (node.Node).Check asks of each key, value, page: node.all, walked. -/
import Derived.Test.YtendgmblgdkiaaaGreatGInternFull0
import Derived.Test.YtendgmblgdkiaaaGreatGInternFull3
import Derived.Test.YtendgmblgdkiaaaGreatGInternFull11
import Derived.Test.YtendgmblgdkiaaaGreatGInternFull13
import Derived.Test.YtendgmblgdkiaaaGreatGInternFull19
import Derived.Lib.Hide
import Derived.Outline
import Derived.WalkLawsBesides
import Derived.Deep.QuietTactic
import Derived.BigQuiet
namespace Go.Proofs.YtendgmblgdkiaaaGreat
open Go.RowKit
open Go.Proofs.YtendgmblgdkiaaaGreatW
open PrintWords (Kd)
set_option linter.unusedVariables false
set_option linter.unusedSimpArgs false

theorem key_gives (s : ByteArray) (w : World) : Calls Tryz.prog 147 #[.string s] w fun e w' => e = .returned (.bool (keyOk s)) ∧ ∃ q, w' = w.drewN q := by
 have h : PKy.node_key.f s = some (keyOk s) := by
  unfold PKy.node_key.f keyOk
  have e : s.toList.length = s.size := by rw [ByteArray.toList_eq]; rfl
  by_cases h : s.toList = []
  ·have : s.size = 0 := by rw [← e, h]; rfl
   rw [if_pos h]
   simp [this]
  ·have : s.size ≠ 0 := by
    intro h0
    exact h (List.length_eq_zero_iff.1 om_)
   rw [if_neg h]
   congr 1
   rw [decide_eq_decide]
   omega
 exact (PKy.node_key.calls s _ w h).mono fun _ _ ⟨he, hd⟩ => ⟨he, hd.out⟩
theorem value_gives (s : ByteArray) (w : World) : Calls Tryz.prog 148 #[.string s] w fun e w' => e = .returned (.bool (valOk s)) ∧ ∃ q, w' = w.drewN q := by
 have h : PKy.node_value.f s = some (valOk s) := by
  unfold PKy.node_value.f valOk
  congr 1
  rw [decide_eq_decide]
  omega
 exact (PKy.node_value.calls s _ w h).mono fun _ _ ⟨he, hd⟩ => ⟨he, hd.out⟩
theorem page_gives (x : Int) (w : World) : Calls Tryz.prog 150 #[.int .i64 x] w fun e w' => e = .returned (.bool (pageOk x)) ∧ ∃ q, w' = w.drewN q := by
 have h : PKy.node_page.f x = some (pageOk x) := by
  unfold PKy.node_page.f pageOk
  by_cases h : x ≥ 0
  ·rw [if_pos h]
   congr 1
   rw [decide_eq_decide]
   omega
  ·rw [if_neg h]
   congr 1
   symm
   rw [decide_eq_false_iff_not]
   omega
 exact (PKy.node_page.calls x _ w h).mono fun _ _ ⟨he, hd⟩ => ⟨he, hd.out⟩

theorem any_not {α : Type} (p : α → Bool) : ∀ l : List α, l.any (fun s => !p s) = !l.all p
 | [] => rfl
 | a :: r => by simp [any_not p r]
/-- What 'all' asks of each: not what the test says. -/
theorem allS_closure (f : Nat) (p : ByteArray → Bool) (hp : ∀ s w, Calls Tryz.prog f #[Value.string s] w fun e w' => e = .returned (.bool (p s)) ∧ ∃ q, w' = w.drewN q)
  (en : ∀ args w, (callFunc f args).run Tryz.prog w = .ok (.enter f args) w) (b : Nat) (s : ByteArray) (w : World) (hb : w.cell? ⟨b, 0, none⟩ = some (.func (.func f) #[] #[])) :
  Calls Tryz.prog 187 #[Value.string s, .pointer (some ⟨b, 0, none⟩)] w fun e w' => e = .returned (.bool (!p s)) ∧ ∃ q, w' = w.drewN q := by
 have HP := hi_ hp
 clear hp
 go_enter Tryz.func187, Tryz.ntmps187
 go_wp2_with fail
 refine (HP.out s w).mono ?_
 rintro e w' ⟨rfl, q, rfl⟩
 go_wp2
 go_ret
 exact ⟨rfl, q, rfl⟩

set_option maxRecDepth 100000 in
theorem allS_walk (f : Nat) (p : ByteArray → Bool) (hp : ∀ s w, Calls Tryz.prog f #[Value.string s] w fun e w' => e = .returned (.bool (p s)) ∧ ∃ q, w' = w.drewN q)
  (en : ∀ args w, (callFunc f args).run Tryz.prog w = .ok (.enter f args) w) (A : Option Addr) (c : Nat) (l : List ByteArray) (w : World) (hC : Kd.C Kd.string w A l.length l) :
  Calls Tryz.prog 146 #[.slice A l.length c, .func (.func f) #[] #[]] w fun e w' => e = .returned (.bool (l.all p)) ∧ Below w.heap.size w w' := by
 have HE : Hid (∀ W, Below w.heap.size w W → W.cell? ⟨w.heap.size, 0, none⟩ = some (.func (.func f) #[] #[]) → Calls Tryz.prog 186 #[.slice A l.length c, .func (.func 187) #[] #[.pointer (some ⟨w.heap.size, 0, none⟩)]] W fun e w' => e = .returned (.bool (!l.all p)) ∧ ∃ q, w' = W.drewN q) := by
  refine hi_ fun W hb hc => ?_
  have ecl : ∀ args w, (callFunc 187 args).run Tryz.prog w = .ok (.enter 187 args) w := enters_of Tryz.func187 kr_ rfl
  rcases Nat.eq_zero_or_pos l.length with h0 | h0
  ·have : l = [] := List.length_eq_zero_iff.1 h0
   subst this
   exact (Tryz.slices_ContainsFunc_empty_f186 (α := ByteArray) A c _ W).mono fun _ _ ⟨he, hw⟩ => ⟨by rw [he]; rfl, 0, hw⟩
  ·have hcells := (Kd.reads_of_C (d := ByteArray.empty) (Kd.C_below hC hb)).2.2 h0
   obtain ⟨ad, rfl, hcell⟩ := hcells
   have hsp : ad = ⟨ad.block, ad.off, none⟩ := by
    have := hcell 0 h0
    have e0 : ad.add 0 = ad := rfl
    rw [e0] at this
    unfold World.cell? at this
    split at this
    ·split at this
     ·simp at this
     ·rename_i hs
      cases ad with | mk bl of sp => cases sp <;> simp_all
    ·simp at this
   have hcell' : ∀ j, j < l.length → W.cell? ⟨ad.block, ad.off + j, none⟩ = some (Value.string (l.getD j ByteArray.empty)) := fun j hj => by
    have := hcell j hj
    rw [hsp, Addr.add_lit] at this
    exact this
   rw [hsp]
   letI : Inhabited ByteArray := ⟨ByteArray.empty⟩
   refine (Tryz.slices_ContainsFunc_f186 Value.string (fun s => !p s) 187 #[.pointer (some ⟨w.heap.size, 0, none⟩)] ecl ad.block ad.off l.length c l W (fun W2 x hb2 => ?_) (Nat.le_refl _) hC.2.1 (fun j hj => ?_)).mono ?_
   ·exact allS_closure f p hp en _ x W2 ((hb2.cell (p := ⟨w.heap.size, 0, none⟩) (World.block_lt_of_cell? W _ hc)).trans hc)
   ·rw [hcell' j hj]
    congr 2
    rw [List.getD_eq_getElem?_getD, List.getElem?_eq_getElem hj, getElem!_pos l j hj]
    rfl
   ·rintro e w' ⟨rfl, q, rfl⟩
    refine ⟨?_, q, rfl⟩
    rw [List.take_length]
    rw [any_not]
 have H0 := hi_ hC.2.1
 clear hC hp
 go_enter Tryz.func146, Tryz.ntmps146
 go_wp2_with fail
 refine (HE.out _ (Below.alloc (Below.refl _ _) (Nat.le_refl _) _) (cell_new1 w _ _ _ _ rfl)).mono ?_
 rintro e w' ⟨rfl, q, rfl⟩
 have HB : Hid (Below w.heap.size w ((w.alloc (.cells #[.func (.func f) #[] #[]] 206 (0, 0))).drewN q)) := hi_ (PrintWords.pw_below_drewN (Below.alloc (Below.refl _ _) (Nat.le_refl _) _) q)
 go_wp2
 go_ret
 exact ⟨by simp, HB.out⟩

/-- What 'all' asks of each: not what the test says. -/
theorem allI_closure (f : Nat) (p : Int → Bool) (hp : ∀ s w, Calls Tryz.prog f #[(Value.int .i64) s] w fun e w' => e = .returned (.bool (p s)) ∧ ∃ q, w' = w.drewN q)
  (en : ∀ args w, (callFunc f args).run Tryz.prog w = .ok (.enter f args) w) (b : Nat) (s : Int) (w : World) (hb : w.cell? ⟨b, 0, none⟩ = some (.func (.func f) #[] #[])) :
  Calls Tryz.prog 189 #[(Value.int .i64) s, .pointer (some ⟨b, 0, none⟩)] w fun e w' => e = .returned (.bool (!p s)) ∧ ∃ q, w' = w.drewN q := by
 have HP := hi_ hp
 clear hp
 go_enter Tryz.func189, Tryz.ntmps189
 go_wp2_with fail
 refine (HP.out s w).mono ?_
 rintro e w' ⟨rfl, q, rfl⟩
 go_wp2
 go_ret
 exact ⟨rfl, q, rfl⟩

set_option maxRecDepth 100000 in
theorem allI_walk (f : Nat) (p : Int → Bool) (hp : ∀ s w, Calls Tryz.prog f #[(Value.int .i64) s] w fun e w' => e = .returned (.bool (p s)) ∧ ∃ q, w' = w.drewN q)
  (en : ∀ args w, (callFunc f args).run Tryz.prog w = .ok (.enter f args) w) (A : Option Addr) (c : Nat) (l : List Int) (w : World) (hC : Kd.C (Kd.int .i64) w A l.length l) :
  Calls Tryz.prog 149 #[.slice A l.length c, .func (.func f) #[] #[]] w fun e w' => e = .returned (.bool (l.all p)) ∧ Below w.heap.size w w' := by
 have HE : Hid (∀ W, Below w.heap.size w W → W.cell? ⟨w.heap.size, 0, none⟩ = some (.func (.func f) #[] #[]) → Calls Tryz.prog 188 #[.slice A l.length c, .func (.func 189) #[] #[.pointer (some ⟨w.heap.size, 0, none⟩)]] W fun e w' => e = .returned (.bool (!l.all p)) ∧ ∃ q, w' = W.drewN q) := by
  refine hi_ fun W hb hc => ?_
  have ecl : ∀ args w, (callFunc 189 args).run Tryz.prog w = .ok (.enter 189 args) w := enters_of Tryz.func189 kr_ rfl
  rcases Nat.eq_zero_or_pos l.length with h0 | h0
  ·have : l = [] := List.length_eq_zero_iff.1 h0
   subst this
   exact (Tryz.slices_ContainsFunc_empty_f188 (α := Int) A c _ W).mono fun _ _ ⟨he, hw⟩ => ⟨by rw [he]; rfl, 0, hw⟩
  ·have hcells := (Kd.reads_of_C (d := (0 : Int)) (Kd.C_below hC hb)).2.2 h0
   obtain ⟨ad, rfl, hcell⟩ := hcells
   have hsp : ad = ⟨ad.block, ad.off, none⟩ := by
    have := hcell 0 h0
    have e0 : ad.add 0 = ad := rfl
    rw [e0] at this
    unfold World.cell? at this
    split at this
    ·split at this
     ·simp at this
     ·rename_i hs
      cases ad with | mk bl of sp => cases sp <;> simp_all
    ·simp at this
   have hcell' : ∀ j, j < l.length → W.cell? ⟨ad.block, ad.off + j, none⟩ = some ((Value.int .i64) (l.getD j (0 : Int))) := fun j hj => by
    have := hcell j hj
    rw [hsp, Addr.add_lit] at this
    exact this
   rw [hsp]
   letI : Inhabited Int := ⟨(0 : Int)⟩
   refine (Tryz.slices_ContainsFunc_f188 (Value.int .i64) (fun s => !p s) 189 #[.pointer (some ⟨w.heap.size, 0, none⟩)] ecl ad.block ad.off l.length c l W (fun W2 x hb2 => ?_) (Nat.le_refl _) hC.2.1 (fun j hj => ?_)).mono ?_
   ·exact allI_closure f p hp en _ x W2 ((hb2.cell (p := ⟨w.heap.size, 0, none⟩) (World.block_lt_of_cell? W _ hc)).trans hc)
   ·rw [hcell' j hj]
    congr 2
    rw [List.getD_eq_getElem?_getD, List.getElem?_eq_getElem hj, getElem!_pos l j hj]
    rfl
   ·rintro e w' ⟨rfl, q, rfl⟩
    refine ⟨?_, q, rfl⟩
    rw [List.take_length]
    rw [any_not]
 have H0 := hi_ hC.2.1
 clear hC hp
 go_enter Tryz.func149, Tryz.ntmps149
 go_wp2_with fail
 refine (HE.out _ (Below.alloc (Below.refl _ _) (Nat.le_refl _) _) (cell_new1 w _ _ _ _ rfl)).mono ?_
 rintro e w' ⟨rfl, q, rfl⟩
 have HB : Hid (Below w.heap.size w ((w.alloc (.cells #[.func (.func f) #[] #[]] 186 (0, 0))).drewN q)) := hi_ (PrintWords.pw_below_drewN (Below.alloc (Below.refl _ _) (Nat.le_refl _) _) q)
 go_wp2
 go_ret
 exact ⟨by simp, HB.out⟩


theorem allKey (A : Option Addr) (c : Nat) (l : List ByteArray) (w : World) (hC : Kd.C Kd.string w A l.length l) :
  Calls Tryz.prog 146 #[.slice A l.length c, .func (.func 147) #[] #[]] w fun e w' => e = .returned (.bool (l.all keyOk)) ∧ Below w.heap.size w w' :=
 allS_walk _ keyOk key_gives (enters_of Tryz.func147 kr_ rfl) A c l w hC
theorem allVal (A : Option Addr) (c : Nat) (l : List ByteArray) (w : World) (hC : Kd.C Kd.string w A l.length l) :
  Calls Tryz.prog 146 #[.slice A l.length c, .func (.func 148) #[] #[]] w fun e w' => e = .returned (.bool (l.all valOk)) ∧ Below w.heap.size w w' :=
 allS_walk _ valOk value_gives (enters_of Tryz.func148 kr_ rfl) A c l w hC
theorem allPage (A : Option Addr) (c : Nat) (l : List Int) (w : World) (hC : Kd.C (Kd.int .i64) w A l.length l) :
  Calls Tryz.prog 149 #[.slice A l.length c, .func (.func 150) #[] #[]] w fun e w' => e = .returned (.bool (l.all pageOk)) ∧ Below w.heap.size w w' :=
 allI_walk _ pageOk page_gives (enters_of Tryz.func150 kr_ rfl) A c l w hC

end Go.Proofs.YtendgmblgdkiaaaGreat
