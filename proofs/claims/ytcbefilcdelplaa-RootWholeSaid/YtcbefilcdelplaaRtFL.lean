/- dowserlaw06.few, walked. Roots in slots, whole or torn: plain laws. What Open finds behind a Publish that ended, or was broken off: plain laws. A Publish, a crash behind it, and what is found: plain laws on disks. Rows of roots, tries among the arguments: where they lie. A row of tries among the arguments, opened. -/
import Derived.Test.YtcbefilcdelplaaRtSA
import Derived.Deep.QuietTactic
import Derived.BigQuiet
import Derived.StillTailTactics
import Derived.Lib.Hide
import Derived.Test.YtcbefilcdelplaaLaw5K
import Derived.Test.YtcbefilcdelplaaActs
import Derived.ChangeSlices
import Derived.SliceStrings
import Derived.Deep.Grids
import Derived.Lib.SmallJoins
import Derived.Deep.Strs
namespace Go.Proofs.Ytcbefilcdelplaa
open Go.RowKit
open Proot (Rt)
open Go.Proofs.YtcbefilcdelplaaW
set_option linter.unusedVariables false
set_option linter.unusedSimpArgs false
attribute [local go_sem ↓] max_mx min_mn

theorem heap_alloc_2 (w : World) (o o' : Obj) : ((w.alloc o).alloc o').heap[w.heap.size + 1]? = some o' := by
  have h := heap_alloc_self (w.alloc o) o'
  rw [World.size_alloc] at h
  exact h

def few1 (x : Int) : Int := mx 0 (mn x 2147483647)
theorem few1_range (x : Int) : 0 ≤ few1 x ∧ few1 x ≤ 2147483647 := by unfold few1; rw [mx_eq, mn_eq]; omega
theorem law6_few1 (x : Int) (w : World) : Calls Try.prog 70 #[.int .i64 x] w fun e w' => e = .returned (.int .i64 (few1 x)) ∧ w' = w := by
  go_enter Try.func70, Try.ntmps70
  go_wp2
  go_ret
  exact ⟨rfl, rfl⟩

theorem RootIn.drewN {w : World} {b : Nat} {r : Rt} (h : RootIn w b r) (n : Nat) : RootIn (w.drewN n) b r := h
theorem RootIn.drew {w : World} {b : Nat} {r : Rt} (h : RootIn w b r) : RootIn w.drew b r := h
/-- A root that may be. -/
def fewR (r : Rt) : Rt := ⟨r.epoch, bits .and .i64 r.half 1, few1 r.page - 1, few1 r.next, few1 r.count, few1 r.height⟩

set_option maxHeartbeats 2000000 in
set_option maxRecDepth 100000 in
theorem law6_few (r : Rt) (w : World) :
    Calls Try.prog 49 #[.agg #[.int .u64 r.epoch, .int .i64 r.half, .int .i64 r.page, .int .i64 r.next, .int .i64 r.count, .int .i64 r.height]] w fun e w' =>
      e = .returned (.agg #[.int .u64 (fewR r).epoch, .int .i64 (fewR r).half, .int .i64 (fewR r).page, .int .i64 (fewR r).next, .int .i64 (fewR r).count, .int .i64 (fewR r).height]) ∧ Below w.heap.size w w' := by
  have C1 := Lib.hid law6_few1
  have hr := (few1_range r.page)
  have hw : IntKind.i64.wrap (few1 r.page - 1) = few1 r.page - 1 := IntWalk.i64_in _ (by omega)
  go_enter Try.func49, Try.ntmps49
  go_wp2_with fail
  have c0 := (heap_alloc_self w (.cells #[.int .u64 r.epoch, .int .i64 r.half, .int .i64 r.page, .int .i64 r.next, .int .i64 r.count, .int .i64 r.height] 50 (0, 0)))
  have HI : Hid (RootIn _ w.heap.size r) := Lib.hid (show RootIn ((w.alloc (.cells #[.int .u64 r.epoch, .int .i64 r.half, .int .i64 r.page, .int .i64 r.next, .int .i64 r.count, .int .i64 r.height] 50 (0, 0))).alloc (.cells #[.int .u64 0, .int .i64 0, .int .i64 0, .int .i64 0, .int .i64 0, .int .i64 0] 50 (0, 0))) w.heap.size r from heap_alloc_old c0 _)
  have HJ : Hid (RootIn _ (w.heap.size + 1) Rt.zero) := Lib.hid (show RootIn ((w.alloc (.cells #[.int .u64 r.epoch, .int .i64 r.half, .int .i64 r.page, .int .i64 r.next, .int .i64 r.count, .int .i64 r.height] 50 (0, 0))).alloc (.cells #[.int .u64 0, .int .i64 0, .int .i64 0, .int .i64 0, .int .i64 0, .int .i64 0] 50 (0, 0))) (w.heap.size + 1) Rt.zero from heap_alloc_2 w _ _)
  have HB := Lib.hid (bel_alloc (bel_alloc (Below.refl w.heap.size w) (.cells #[.int .u64 r.epoch, .int .i64 r.half, .int .i64 r.page, .int .i64 r.next, .int .i64 r.count, .int .i64 r.height] 50 (0, 0))) (.cells #[.int .u64 0, .int .i64 0, .int .i64 0, .int .i64 0, .int .i64 0, .int .i64 0] 50 (0, 0)))
  generalize (w.alloc (.cells #[.int .u64 r.epoch, .int .i64 r.half, .int .i64 r.page, .int .i64 r.next, .int .i64 r.count, .int .i64 r.height] 50 (0, 0))).alloc (.cells #[.int .u64 0, .int .i64 0, .int .i64 0, .int .i64 0, .int .i64 0, .int .i64 0] 50 (0, 0)) = w1 at *
  have xf := HJ.out.frz
  obtain ⟨y0, y1, y2, y3, y4, y5⟩ := HJ.out.cells
  clear c0
  obtain ⟨x0, x1, x2, x3, x4, x5⟩ := HI.out.cells
  go_still_tail 23, (by kernel_rfl)
  repeat (first | still_step | still_call (C1.out _ _))
  refine wpStill_nil ?_
  change wpList _ _ _ _ _ w1.drew
  have HJ2 := Lib.hid (RootIn.drew HJ.out)
  have HB2 := Lib.hid (bel_drew HB.out)
  clear y0 y1 y2 y3 y4 y5 x0 x1 x2 x3 x4 x5 xf HI HJ HB
  generalize w1.drew = w2 at *
  obtain ⟨y0, y1, y2, y3, y4, y5⟩ := HJ2.out.cells
  have xf := HJ2.out.frz
  go_wp2
  have hy := setRoot_in HJ2.out (fewR r)
  have hb := bel_keep HB2.out (setRoot_keep w2 (w.heap.size + 1) (fewR r)) (fun i hi => by omega)
  unfold RootIn at hy
  unfold setRoot fewR at hy hb
  exact bodyPost_ret (PrintWords.results_single (r := .cell 2 50) (v := .agg (rcells (fewR r))) rfl (.cell (w.heap.size + 1) 50 (rcells (fewR r)) (0, 0) _ rfl hy Try.underlying50 rfl (by kernel_rfl) .nil)) rfl ⟨rfl, hb⟩
end Go.Proofs.Ytcbefilcdelplaa

namespace Go.Proofs.Ytcbefilcdelplaa
open Go.RowKit
open Proot (Rt numOf numOf_snoc u8 four eight pad zer parse first again raw)
open Go.Proofs.YtcbefilcdelplaaW.PrintWords (bt)
set_option linter.unusedVariables false
set_option linter.unusedSimpArgs false

/-- A sector's byte. -/
def bAt (s : ByteArray) (i : Nat) : UInt8 := s.data.toList.getD i 0

theorem numOf_last : ∀ (n : Nat) (l : List UInt8), l.length = n + 1 → (∀ i, i < n → l.getD i 0 = 0) → numOf l = (l.getD n 0).toNat
  | 0, [b], _, _ => by simp [numOf]
  | n + 1, b :: l, h, hz => by
    have hb : b = 0 := by simpa using hz 0 (by omega)
    subst hb
    have h1 := numOf_last n l (by simpa using h) (fun i hi => by simpa using hz (i + 1) (by omega))
    have h2 : numOf ((0 : UInt8) :: l) = numOf l := by simp [numOf]
    rw [h2, h1]
    simp

theorem ext_getD (s : ByteArray) (a j i : Nat) (h : a + i < j) : (s.extract a j).data.toList.getD i 0 = bAt s (a + i) := by
  rw [extract_list, bAt, List.getD_eq_getElem?_getD, List.getD_eq_getElem?_getD, List.getElem?_drop, List.getElem?_take, if_pos h]

/-- What a slot's sector is like: small numbers alone stand for epochs. -/
structure Slot (s : ByteArray) (E : Nat) : Prop where
  size : s.size = 256
  head : ∀ i, i < 7 → bAt s i = 0
  mid : ∀ i, 29 ≤ i → i < 36 → bAt s i = 0
  tail : ∀ i, 37 ≤ i → bAt s i = 0
  f : (bAt s 7).toNat ≤ E
  a : (bAt s 36).toNat ≤ E

theorem Slot.mono {s : ByteArray} {E E' : Nat} (h : Slot s E) (hE : E ≤ E') : Slot s E' := ⟨h.size, h.head, h.mid, h.tail, Nat.le_trans h.f hE, Nat.le_trans h.a hE⟩
theorem Slot.first {s : ByteArray} {E : Nat} (h : Slot s E) : Proot.first s = ((bAt s 7).toNat : Int) := by
  have hl : (s.extract 0 8).data.toList.length = 8 := by show (s.extract 0 8).size = 8; rw [ByteArray.size_extract, h.size]; rfl
  have := numOf_last 7 _ hl (fun i hi => by rw [ext_getD s 0 8 i (by omega), Nat.zero_add]; exact h.head i hi)
  rw [Proot.first, this, ext_getD s 0 8 7 (by omega)]
theorem Slot.again {s : ByteArray} {E : Nat} (h : Slot s E) : Proot.again s = ((bAt s 36).toNat : Int) := by
  have hl : (s.extract 29 37).data.toList.length = 8 := by show (s.extract 29 37).size = 8; rw [ByteArray.size_extract, h.size]; rfl
  have := numOf_last 7 _ hl (fun i hi => by rw [ext_getD s 29 37 i (by omega)]; exact h.mid (29 + i) (by omega) (by omega))
  rw [Proot.again, this, ext_getD s 29 37 7 (by omega)]

theorem zeros_slot : Slot (zeros 256) 0 := by
  have hz : ∀ i, bAt (zeros 256) i = 0 := fun i => by
    rw [bAt, zeros_list, List.getD_eq_getElem?_getD, List.getElem?_replicate]
    split <;> rfl
  refine ⟨zeros_size 256, fun i _ => hz i, fun i _ _ => hz i, fun i _ => hz i, ?_, ?_⟩
  · rw [hz]; decide
  · rw [hz]; decide

theorem u8_nat {x : Int} (h0 : 0 ≤ x) (h1 : x < 256) : ((u8 x).toNat : Int) = x := by
  unfold u8
  rw [ofNat_toNat_u8 _ (by omega)]
  omega
theorem numOf_four {n : Int} (h0 : 0 ≤ n) (h1 : n < 4294967296) : (numOf (four n).data.toList : Int) = n := by
  have e : (four n).data.toList = [u8 ((n / 16777216) % 256), u8 ((n / 65536) % 256), u8 ((n / 256) % 256), u8 (n % 256)] := rfl
  rw [e]
  have a := u8_nat (x := (n / 16777216) % 256) (by omega) (by omega)
  have b := u8_nat (x := (n / 65536) % 256) (by omega) (by omega)
  have c := u8_nat (x := (n / 256) % 256) (by omega) (by omega)
  have d := u8_nat (x := n % 256) (by omega) (by omega)
  simp only [numOf, List.foldl_cons, List.foldl_nil]
  omega

theorem pad_list (t : ByteArray) : (pad t).data.toList = t.data.toList ++ List.replicate (256 - t.size) 0 := by
  rw [pad, app_data]
  congr 1
theorem pad_text_size (r : Rt) : (pad r.text).size = 256 := by
  have h : (pad r.text).data.toList.length = 256 := by
    rw [pad_list, List.length_append, List.length_replicate]
    have h1 : r.text.data.toList.length = 37 := Proot.text_size r
    have h2 : r.text.size = 37 := Proot.text_size r
    omega
  exact h
theorem pad_extract (r : Rt) (a j : Nat) (hj : j ≤ 37) : ((pad r.text).extract a j).data.toList = (r.text.data.toList.take j).drop a := by
  rw [extract_list, pad_list, List.take_append_of_le_length (by show j ≤ r.text.size; rw [Proot.text_size]; exact hj)]
theorem pad_tail (r : Rt) (i : Nat) (h : 37 ≤ i) : bAt (pad r.text) i = 0 := by
  have hl : r.text.data.toList.length = 37 := Proot.text_size r
  rw [bAt, pad_list, getD_app_r _ _ _ _ (by omega), List.getD_eq_getElem?_getD, List.getElem?_replicate]
  split <;> rfl
theorem pad_7 (r : Rt) : bAt (pad r.text) 7 = u8 (r.epoch % 256) := rfl
theorem pad_36 (r : Rt) : bAt (pad r.text) 36 = u8 (r.epoch % 256) := rfl

theorem u8_zero {x : Int} (h : x = 0) : u8 x = 0 := by subst h; rfl
theorem pad_head (r : Rt) (h0 : 0 ≤ r.epoch) (h1 : r.epoch < 256) (i : Nat) (hi : i < 7) : bAt (pad r.text) i = 0 ∧ bAt (pad r.text) (29 + i) = 0 := by
  have e : r.epoch / 4294967296 = 0 := by omega
  match i, hi with
  | 0, _ => exact ⟨(show bAt (pad r.text) 0 = u8 (r.epoch / 4294967296 / 16777216 % 256) from rfl).trans (u8_zero (by omega)), (show bAt (pad r.text) 29 = u8 (r.epoch / 4294967296 / 16777216 % 256) from rfl).trans (u8_zero (by omega))⟩
  | 1, _ => exact ⟨(show bAt (pad r.text) 1 = u8 (r.epoch / 4294967296 / 65536 % 256) from rfl).trans (u8_zero (by omega)), (show bAt (pad r.text) 30 = u8 (r.epoch / 4294967296 / 65536 % 256) from rfl).trans (u8_zero (by omega))⟩
  | 2, _ => exact ⟨(show bAt (pad r.text) 2 = u8 (r.epoch / 4294967296 / 256 % 256) from rfl).trans (u8_zero (by omega)), (show bAt (pad r.text) 31 = u8 (r.epoch / 4294967296 / 256 % 256) from rfl).trans (u8_zero (by omega))⟩
  | 3, _ => exact ⟨(show bAt (pad r.text) 3 = u8 (r.epoch / 4294967296 % 256) from rfl).trans (u8_zero (by omega)), (show bAt (pad r.text) 32 = u8 (r.epoch / 4294967296 % 256) from rfl).trans (u8_zero (by omega))⟩
  | 4, _ => exact ⟨(show bAt (pad r.text) 4 = u8 (r.epoch / 16777216 % 256) from rfl).trans (u8_zero (by omega)), (show bAt (pad r.text) 33 = u8 (r.epoch / 16777216 % 256) from rfl).trans (u8_zero (by omega))⟩
  | 5, _ => exact ⟨(show bAt (pad r.text) 5 = u8 (r.epoch / 65536 % 256) from rfl).trans (u8_zero (by omega)), (show bAt (pad r.text) 34 = u8 (r.epoch / 65536 % 256) from rfl).trans (u8_zero (by omega))⟩
  | 6, _ => exact ⟨(show bAt (pad r.text) 6 = u8 (r.epoch / 256 % 256) from rfl).trans (u8_zero (by omega)), (show bAt (pad r.text) 35 = u8 (r.epoch / 256 % 256) from rfl).trans (u8_zero (by omega))⟩

theorem pad_slot (r : Rt) (h0 : 0 ≤ r.epoch) (h1 : r.epoch < 256) : Slot (pad r.text) r.epoch.toNat := by
  have hu := u8_nat (x := r.epoch % 256) (by omega) (by omega)
  refine ⟨pad_text_size r, fun i hi => (pad_head r h0 h1 i hi).1, fun i h29 h36 => ?_, fun i hi => pad_tail r i hi, ?_, ?_⟩
  · have := (pad_head r h0 h1 (i - 29) (by omega)).2
    rwa [show 29 + (i - 29) = i from by omega] at this
  · rw [pad_7]; omega
  · rw [pad_36]; omega

theorem parse_pad (r : Rt) (hv : r.validB = true) (h0 : 0 < r.epoch) (h1 : r.epoch < 256) : parse (pad r.text) = (r, true) := by
  have hs := pad_slot r (by omega) h1
  have hu := u8_nat (x := r.epoch % 256) (by omega) (by omega)
  have ef : first (pad r.text) = r.epoch := by rw [hs.first, pad_7, hu]; omega
  have ea : again (pad r.text) = r.epoch := by rw [hs.again, pad_36, hu]; omega
  have hvv := hv
  simp only [Rt.validB, Proot.cntB, Bool.and_eq_true, Bool.or_eq_true, decide_eq_true_eq] at hvv
  obtain ⟨⟨⟨⟨hh, hp⟩, hn⟩, hc⟩, hg⟩ := hvv
  have er : raw (pad r.text) = r := by
    have e8 : bt (pad r.text) 8 = r.half := by
      have h8 : 8 < (pad r.text).size := by rw [pad_text_size]; decide
      have h8' : 8 < (pad r.text).data.toList.length := h8
      have e0 : (pad r.text).data.toList[8] = u8 (r.half % 256) := by
        have : bAt (pad r.text) 8 = u8 (r.half % 256) := rfl
        rwa [bAt, List.getD_eq_getElem?_getD, List.getElem?_eq_getElem h8', Option.getD_some] at this
      have e1 : bt (pad r.text) 8 = ((u8 (r.half % 256)).toNat : Int) := by
        rw [← e0]
        exact Proot.bt_nat (pad r.text) 8 h8
      rw [e1, u8_nat (by omega) (by omega)]
      omega
    have e9 : (numOf ((pad r.text).extract 9 13).data.toList : Int) = r.page + 1 := by
      have e1 : ((pad r.text).extract 9 13).data.toList = (four (r.page + 1)).data.toList := (pad_extract r 9 13 (by decide)).trans rfl
      rw [e1, numOf_four (by omega) (by omega)]
    have e13 : (numOf ((pad r.text).extract 13 17).data.toList : Int) = r.next := by
      have e1 : ((pad r.text).extract 13 17).data.toList = (four r.next).data.toList := (pad_extract r 13 17 (by decide)).trans rfl
      rw [e1, numOf_four (by omega) (by omega)]
    have e17 : (numOf ((pad r.text).extract 17 21).data.toList : Int) = r.count := by
      have e1 : ((pad r.text).extract 17 21).data.toList = (four r.count).data.toList := (pad_extract r 17 21 (by decide)).trans rfl
      rw [e1, numOf_four (by omega) (by omega)]
    have e21 : (numOf ((pad r.text).extract 21 25).data.toList : Int) = r.height := by
      have e1 : ((pad r.text).extract 21 25).data.toList = (four r.height).data.toList := (pad_extract r 21 25 (by decide)).trans rfl
      rw [e1, numOf_four (by omega) (by omega)]
    unfold raw
    rw [ef, e8, e9, e13, e17, e21]
    simp
  unfold parse
  rw [ef, ea, er, if_neg (by rw [hv]; simp; omega)]
  simp

/-- Of two sectors: what is torn. -/
theorem joinAt_b (s t : ByteArray) (n i : Nat) (hs : s.size = 256) (ht : t.size = 256) (hn : n ≤ 256) : bAt (joinAt s t n) i = if i < n then bAt s i else bAt t i := by
  have hl : (s.extract 0 n).data.toList.length = n := by show (s.extract 0 n).size = n; rw [ByteArray.size_extract, hs]; omega
  unfold joinAt
  rw [bAt, app_data]
  by_cases h : i < n
  · rw [if_pos h, getD_app_l _ _ _ _ (by omega), ext_getD s 0 n i (by omega), Nat.zero_add]
  · rw [if_neg h, getD_app_r _ _ _ _ (by omega), hl]
    by_cases h2 : i < 256
    · rw [ht, ext_getD t n 256 (i - n) (by omega), show n + (i - n) = i from by omega]
    · have hl2 : (t.extract n t.size).data.toList.length = 256 - n := by show (t.extract n t.size).size = _; rw [ByteArray.size_extract, ht]; omega
      have hl3 : t.data.toList.length = 256 := ht
      rw [List.getD_eq_getElem?_getD, List.getElem?_eq_none (by omega), bAt, List.getD_eq_getElem?_getD, List.getElem?_eq_none (by omega)]

theorem same_bytes {s t : ByteArray} (hs : s.size = 256) (ht : t.size = 256) (h : ∀ i, i < 256 → bAt s i = bAt t i) : s = t := by
  apply ba_ext
  have h1 : s.data.toList.length = 256 := hs
  have h2 : t.data.toList.length = 256 := ht
  refine List.ext_getElem (by omega) (fun i hi hj => ?_)
  have := h i (by omega)
  unfold bAt at this
  simpa [List.getD_eq_getElem?_getD, List.getElem?_eq_getElem hi, List.getElem?_eq_getElem hj] using this

theorem torn {t o : ByteArray} {E E' : Nat} (ht : Slot t E) (ho : Slot o E') (hE : E' < (bAt t 7).toNat) (n : Nat) (hn : n ≤ 256) :
    joinAt t o n = t ∨ joinAt t o n = o ∨ (parse (joinAt t o n) = (Rt.zero, false) ∧ Slot (joinAt t o n) E) := by
  have hb := fun i => joinAt_b t o n i ht.size ho.size hn
  have hz : (joinAt t o n).size = 256 := joinAt_size ht.size ho.size hn
  by_cases h37 : 37 ≤ n
  · left
    refine same_bytes hz ht.size (fun i hi => ?_)
    rw [hb]
    split
    · rfl
    · rw [ho.tail i (by omega), ht.tail i (by omega)]
  · right
    by_cases h8 : n ≤ 7
    · left
      refine same_bytes hz ho.size (fun i hi => ?_)
      rw [hb]
      split
      · rw [ht.head i (by omega), ho.head i (by omega)]
      · rfl
    · right
      have hf := ht.f
      have hs : Slot (joinAt t o n) E := by
        refine ⟨hz, fun i hi => ?_, fun i h1 h2 => ?_, fun i hi => ?_, ?_, ?_⟩
        · rw [hb]; split; exact ht.head i hi; exact ho.head i hi
        · rw [hb]; split; exact ht.mid i h1 h2; exact ho.mid i h1 h2
        · rw [hb]; split; exact ht.tail i hi; exact ho.tail i hi
        · rw [hb, if_pos (by omega)]; exact ht.f
        · rw [hb, if_neg (by omega)]; have := ho.a; omega
      refine ⟨?_, hs⟩
      unfold parse
      rw [if_pos]
      right
      left
      rw [hs.first, hs.again, hb, hb, if_pos (by omega), if_neg (by omega)]
      have := ho.a
      omega
end Go.Proofs.Ytcbefilcdelplaa

namespace Go.Proofs.Ytcbefilcdelplaa
open Go.RowKit
open Proot (Rt pad parse first again raw)
set_option linter.unusedVariables false
set_option linter.unusedSimpArgs false

/-- What is found of two slots. -/
def foundOf (s0 s1 : ByteArray) : Found := (Found.start.one 0 s0).one 1 s1
theorem found2 (D : Dk) : D.found 2 = foundOf (D.sec 0) (D.sec 1) := rfl

theorem parse_true {s : ByteArray} (h : (parse s).2 = true) : (parse s).1.epoch = first s ∧ 0 < (parse s).1.epoch := by
  unfold parse at h ⊢
  split
  · rename_i hc; rw [if_pos hc] at h; simp at h
  · rename_i hc
    have h0 : first s ≠ 0 := fun e => hc (.inl e)
    refine ⟨rfl, ?_⟩
    show 0 < first s
    have : 0 ≤ first s := Int.natCast_nonneg _
    omega

theorem one_no {f : Found} {i : Int} {s : ByteArray} (h : (parse s).2 = false ∨ (parse s).1.epoch ≤ f.out.epoch) : (f.one i s).out = f.out ∧ (f.one i s).now = f.now := by
  have hw : f.wins s = false := by
    unfold Found.wins
    rcases h with h | h
    · rw [h]; rfl
    · have : decide (f.out.epoch < (parse s).1.epoch) = false := by simp; omega
      rw [this, Bool.and_false]
  unfold Found.one
  rw [hw]
  exact ⟨rfl, rfl⟩
theorem one_yes {f : Found} {i : Int} {s : ByteArray} (h : (parse s).2 = true) (h2 : f.out.epoch < (parse s).1.epoch) : (f.one i s).out = (parse s).1 ∧ (f.one i s).now = i := by
  have hw : f.wins s = true := by
    unfold Found.wins
    rw [h, decide_eq_true h2]
    rfl
  unfold Found.one
  rw [hw]
  exact ⟨rfl, rfl⟩

theorem found_n {s0 s1 : ByteArray} (h0 : (parse s0).2 = false) (h1 : (parse s1).2 = false) : (foundOf s0 s1).out = Rt.zero ∧ (foundOf s0 s1).now = -1 := by
  obtain ⟨a, b⟩ := one_no (f := Found.start) (i := 0) (s := s0) (.inl h0)
  obtain ⟨c, d⟩ := one_no (f := Found.start.one 0 s0) (i := 1) (s := s1) (.inl h1)
  exact ⟨c.trans a, d.trans b⟩
theorem found_0 {s0 s1 : ByteArray} (h0 : (parse s0).2 = true) (h1 : (parse s1).2 = false ∨ (parse s1).1.epoch ≤ (parse s0).1.epoch) : (foundOf s0 s1).out = (parse s0).1 ∧ (foundOf s0 s1).now = 0 := by
  obtain ⟨a, b⟩ := one_yes (f := Found.start) (i := 0) (s := s0) h0 (parse_true h0).2
  obtain ⟨c, d⟩ := one_no (f := Found.start.one 0 s0) (i := 1) (s := s1) (by rw [a]; exact h1)
  exact ⟨c.trans a, d.trans b⟩
theorem found_1 {s0 s1 : ByteArray} (h1 : (parse s1).2 = true) (h0 : (parse s0).2 = false ∨ (parse s0).1.epoch < (parse s1).1.epoch) : (foundOf s0 s1).out = (parse s1).1 ∧ (foundOf s0 s1).now = 1 := by
  by_cases hp : (parse s0).2 = true
  · obtain ⟨a, b⟩ := one_yes (f := Found.start) (i := 0) (s := s0) hp (parse_true hp).2
    refine one_yes (f := Found.start.one 0 s0) (i := 1) (s := s1) h1 ?_
    rw [a]
    rcases h0 with h0 | h0
    · rw [hp] at h0; cases h0
    · exact h0
  · simp only [Bool.not_eq_true] at hp
    obtain ⟨a, b⟩ := one_no (f := Found.start) (i := 0) (s := s0) (.inl hp)
    refine one_yes (f := Found.start.one 0 s0) (i := 1) (s := s1) h1 ?_
    rw [a]
    exact (parse_true h1).2

theorem found_cases (s0 s1 : ByteArray) :
    ((foundOf s0 s1).now = -1 ∧ (foundOf s0 s1).out = Rt.zero ∧ (parse s0).2 = false ∧ (parse s1).2 = false) ∨
    ((foundOf s0 s1).now = 0 ∧ (foundOf s0 s1).out = (parse s0).1 ∧ (parse s0).2 = true) ∨
    ((foundOf s0 s1).now = 1 ∧ (foundOf s0 s1).out = (parse s1).1 ∧ (parse s1).2 = true) := by
  cases h0 : (parse s0).2 with
  | false =>
    cases h1 : (parse s1).2 with
    | false => have := found_n h0 h1; exact .inl ⟨this.2, this.1, rfl, rfl⟩
    | true => have := found_1 h1 (.inl h0); exact .inr (.inr ⟨this.2, this.1, rfl⟩)
  | true =>
    cases h1 : (parse s1).2 with
    | false => have := found_0 h0 (.inl h1); exact .inr (.inl ⟨this.2, this.1, rfl⟩)
    | true =>
      by_cases hlt : (parse s0).1.epoch < (parse s1).1.epoch
      · have := found_1 h1 (.inr hlt); exact .inr (.inr ⟨this.2, this.1, rfl⟩)
      · have := found_0 (s0 := s0) (s1 := s1) h0 (.inr (by omega)); exact .inr (.inl ⟨this.2, this.1, rfl⟩)

theorem one_most (f : Found) (i : Int) (s : ByteArray) : (f.one i s).most = mx3 f.most (first s) (again s) := by rw [Found.one]
theorem found_most (s0 s1 : ByteArray) : (foundOf s0 s1).most = mx3 (mx3 0 (first s0) (again s0)) (first s1) (again s1) := by
  rw [foundOf, one_most, one_most, Found.start]
theorem most_bounds {s0 s1 : ByteArray} {E : Nat} (h0 : Slot s0 E) (h1 : Slot s1 E) :
    0 ≤ (foundOf s0 s1).most ∧ (foundOf s0 s1).most ≤ E ∧ first s0 ≤ (foundOf s0 s1).most ∧ again s0 ≤ (foundOf s0 s1).most ∧ first s1 ≤ (foundOf s0 s1).most ∧ again s1 ≤ (foundOf s0 s1).most := by
  rw [found_most]
  unfold mx3
  simp only [mx_eq]
  have a := h0.f
  have b := h0.a
  have c := h1.f
  have d := h1.a
  rw [h0.first, h0.again, h1.first, h1.again]
  omega

/-- A slot where the numbers are at most those. -/
theorem Slot.at {s : ByteArray} {E : Nat} (h : Slot s E) {m : Int} (hm : Proot.first s ≤ m) (hm2 : Proot.again s ≤ m) : Slot s m.toNat := by
  rw [h.first] at hm
  rw [h.again] at hm2
  exact ⟨h.size, h.head, h.mid, h.tail, by omega, by omega⟩

/-- The slot that comes next. -/
def nxOf (f : Found) : Nat := ((f.now + 1) % 2).toNat

/-- Behind a Publish: the next slot has the new root, or what was there, or nothing; the other one is as it was. -/
theorem publish_found {s0 s1 : ByteArray} {E : Nat} (h0 : Slot s0 E) (h1 : Slot s1 E) (hE : E < 200) (x : Rt) (hv : x.validB = true) (he : x.epoch = (foundOf s0 s1).most + 1) (n : Nat) (hn : n ≤ 256) (t0 t1 : ByteArray)
    (hnx : (nxOf (foundOf s0 s1) = 0 ∧ t1 = s1 ∧ t0 = joinAt (pad x.text) s0 n) ∨ (nxOf (foundOf s0 s1) = 1 ∧ t0 = s0 ∧ t1 = joinAt (pad x.text) s1 n)) :
    Slot t0 (E + 1) ∧ Slot t1 (E + 1) ∧ (((foundOf t0 t1).out = x ∧ 0 ≤ (foundOf t0 t1).now) ∨ (n < 256 ∧ (foundOf t0 t1).out = (foundOf s0 s1).out ∧ (foundOf t0 t1).now = (foundOf s0 s1).now)) ∧ (n = 256 → (foundOf t0 t1).out = x ∧ 0 ≤ (foundOf t0 t1).now) := by
  obtain ⟨m0, mE, f0, a0, f1, a1⟩ := most_bounds h0 h1
  have hx0 : 0 < x.epoch := by omega
  have hx1 : x.epoch < 256 := by omega
  have hp := parse_pad x hv hx0 hx1
  have hT := pad_slot x (by omega) hx1
  have hTE : Slot (pad x.text) (E + 1) := hT.mono (by omega)
  have h7 : ((bAt (pad x.text) 7).toNat : Int) = x.epoch := by rw [pad_7, u8_nat (by omega) (by omega)]; omega
  have q0 : (parse s0).2 = false ∨ (parse s0).1.epoch < x.epoch := by
    cases h : (parse s0).2 with
    | false => exact .inl rfl
    | true => right; rw [(parse_true h).1]; omega
  have q1 : (parse s1).2 = false ∨ (parse s1).1.epoch < x.epoch := by
    cases h : (parse s1).2 with
    | false => exact .inl rfl
    | true => right; rw [(parse_true h).1]; omega
  have full : ∀ o : ByteArray, o.size = 256 → joinAt (pad x.text) o 256 = pad x.text := fun o ho => by
    refine same_bytes (joinAt_size hT.size ho (by omega)) hT.size (fun i hi => ?_)
    rw [joinAt_b _ _ _ _ hT.size ho (by omega), if_pos hi]
  have c := found_cases s0 s1
  rcases hnx with ⟨hx, rfl, rfl⟩ | ⟨hx, rfl, rfl⟩
  · -- slot 0 is next
    have hnow : (foundOf s0 t1).now = -1 ∨ (foundOf s0 t1).now = 1 := by
      rcases c with ⟨c, _⟩ | ⟨c, _⟩ | ⟨c, _⟩
      · exact .inl c
      · unfold nxOf at hx; rw [c] at hx; simp at hx
      · exact .inr c
    have new : ∀ t, t = pad x.text → (foundOf t t1).out = x ∧ 0 ≤ (foundOf t t1).now := by
      rintro t rfl
      have := found_0 (s0 := pad x.text) (s1 := t1) (by rw [hp]) (by rw [hp]; rcases q1 with q | q; exact .inl q; exact .inr (by show _ ≤ x.epoch; omega))
      rw [hp] at this
      exact ⟨this.1, by rw [this.2]; decide⟩
    have hs0 := h0.at f0 a0
    have dead : ∀ t, (parse t).2 = false → (foundOf t t1).out = (foundOf s0 t1).out ∧ (foundOf t t1).now = (foundOf s0 t1).now := by
      intro t ht
      rcases c with ⟨c1, c2, c3, c4⟩ | ⟨c1, c2, c3⟩ | ⟨c1, c2, c3⟩
      · rw [c1, c2]; exact found_n ht c4
      · rcases hnow with h | h <;> rw [c1] at h <;> cases h
      · rw [c1, c2]; exact found_1 c3 (.inl ht)
    rcases torn hTE hs0 (by omega) n hn with e | e | ⟨e1, e2⟩
    · rw [e]
      exact ⟨hTE, h1.mono (by omega), .inl (new _ rfl), fun _ => new _ rfl⟩
    · have hn256 : n ≠ 256 := by
        rintro rfl
        rw [full _ h0.size] at e
        have := hs0.f
        have e7 : bAt (pad x.text) 7 = bAt s0 7 := congrArg (fun s => bAt s 7) e
        rw [← e7] at this
        omega
      rw [e]
      exact ⟨h0.mono (by omega), h1.mono (by omega), .inr ⟨by omega, rfl, rfl⟩, fun h => absurd h hn256⟩
    · have hn256 : n ≠ 256 := by
        rintro rfl
        rw [full _ h0.size, hp] at e1
        simp at e1
      refine ⟨e2, h1.mono (by omega), .inr ⟨by omega, ?_⟩, fun h => absurd h hn256⟩
      exact dead _ (by rw [e1])
  · -- slot 1 is next
    have hnow : (foundOf t0 s1).now = 0 := by
      rcases c with ⟨c, _⟩ | ⟨c, _⟩ | ⟨c, _⟩
      · unfold nxOf at hx; rw [c] at hx; simp at hx
      · exact c
      · unfold nxOf at hx; rw [c] at hx; simp at hx
    have new : ∀ t, t = pad x.text → (foundOf t0 t).out = x ∧ 0 ≤ (foundOf t0 t).now := by
      rintro t rfl
      have := found_1 (s0 := t0) (s1 := pad x.text) (by rw [hp]) (by rw [hp]; exact q0)
      rw [hp] at this
      exact ⟨this.1, by rw [this.2]; decide⟩
    have hs1 := h1.at f1 a1
    have dead : ∀ t, (parse t).2 = false → (foundOf t0 t).out = (foundOf t0 s1).out ∧ (foundOf t0 t).now = (foundOf t0 s1).now := by
      intro t ht
      rcases c with ⟨c1, c2, c3, c4⟩ | ⟨c1, c2, c3⟩ | ⟨c1, c2, c3⟩
      · rw [c1] at hnow; cases hnow
      · rw [c1, c2]; exact found_0 c3 (.inl ht)
      · rw [c1] at hnow; cases hnow
    rcases torn hTE hs1 (by omega) n hn with e | e | ⟨e1, e2⟩
    · rw [e]
      exact ⟨h0.mono (by omega), hTE, .inl (new _ rfl), fun _ => new _ rfl⟩
    · have hn256 : n ≠ 256 := by
        rintro rfl
        rw [full _ h1.size] at e
        have := hs1.f
        have e7 : bAt (pad x.text) 7 = bAt s1 7 := congrArg (fun s => bAt s 7) e
        rw [← e7] at this
        omega
      rw [e]
      exact ⟨h0.mono (by omega), h1.mono (by omega), .inr ⟨by omega, rfl, rfl⟩, fun h => absurd h hn256⟩
    · have hn256 : n ≠ 256 := by
        rintro rfl
        rw [full _ h1.size, hp] at e1
        simp at e1
      refine ⟨h0.mono (by omega), e2, .inr ⟨by omega, ?_⟩, fun h => absurd h hn256⟩
      exact dead _ (by rw [e1])
end Go.Proofs.Ytcbefilcdelplaa

namespace Go.Proofs.Ytcbefilcdelplaa
open Go.RowKit
open Proot (Rt pad parse)
set_option linter.unusedVariables false
set_option linter.unusedSimpArgs false

theorem crash_sec {D : Dk} (hD : D.Ok) (ch : List Int) (i : Nat) : (i ∈ D.looseL → ∃ n, n ≤ 256 ∧ (D.crash ch).sec i = joinAt (D.sec i) (D.old i) n) ∧ (i ∉ D.looseL → (D.crash ch).sec i = D.sec i) := by
  have h := crashTo_sec hD ch D.looseL.length (Nat.le_refl _) i
  rw [List.take_length] at h
  exact h

theorem joinAt_zero {t o : ByteArray} (ht : t.size = 256) (ho : o.size = 256) : joinAt t o 0 = o := by
  refine same_bytes (joinAt_size ht ho (by omega)) ho (fun i hi => ?_)
  rw [joinAt_b _ _ _ _ ht ho (by omega), if_neg (by omega)]
theorem joinAt_full {t o : ByteArray} (ht : t.size = 256) (ho : o.size = 256) : joinAt t o 256 = t := by
  refine same_bytes (joinAt_size ht ho (by omega)) ht (fun i hi => ?_)
  rw [joinAt_b _ _ _ _ ht ho (by omega), if_pos hi]

theorem turn_or (D : Dk) : (D.turn = ({ D with down := true }, false)) ∨ ∃ wr hl, D.turn = ({ D with writes := wr, halt := hl }, true) := by
  by_cases h : D.halt = 0
  · exact .inl (by simp [Dk.turn, h])
  · exact .inr ⟨wrap64 (D.writes + 1), if D.halt < 0 then -1 else D.halt - 1, by simp only [Dk.turn, if_neg h]⟩
theorem flush_or {D : Dk} (hd : D.down = false) : (D.flush = ({ D with down := true }, 6)) ∨ ∃ wr hl, D.flush = ({ D with writes := wr, halt := hl, was := [] }, 0) := by
  rcases turn_or D with h | ⟨wr, hl, h⟩
  · exact .inl (by simp [Dk.flush, hd, h])
  · exact .inr ⟨wr, hl, by simp [Dk.flush, hd, h]⟩
theorem write_or {D : Dk} (hd : D.down = false) (i : Nat) (hi : i < D.now.length) (s : ByteArray) (hs : s.size ≤ 256) :
    (D.write (i : Int) s = ({ D with down := true }, 6)) ∨ ∃ wr hl, D.write (i : Int) s = (Dk.put { D with writes := wr, halt := hl } i s, 0) := by
  have hI : D.is (i : Int) = true := by simp [Dk.is, hi]
  have hs' : ¬ 256 < s.size := by omega
  rcases turn_or D with h | ⟨wr, hl, h⟩
  · exact .inl (by simp [Dk.write, hd, hI, hs', h])
  · exact .inr ⟨wr, hl, by simp [Dk.write, hd, hI, hs', h]⟩

theorem looseL_nil {D : Dk} (h : D.was = []) : D.looseL = [] := by simp [Dk.looseL, h]

/-- What a Publish and a crash behind it leave of the three sectors. -/
theorem pub_crash {D : Dk} (hd : D.down = false) (hl : D.now.length = 3) (hw : ∀ p ∈ D.was, p.1 = 2) (nx : Nat) (hn : nx < 2) (t : ByteArray) (ht : t.size ≤ 256) (hz : (D.sec nx).size = 256) (hok : (D.pub (nx : Int) t).1.Ok) (ch : List Int) :
    ((D.pub (nx : Int) t).1.crash ch).now.length = 3 ∧
    (((D.pub (nx : Int) t).2 = 0 ∧ ((D.pub (nx : Int) t).1.crash ch).sec nx = Dk.fill t ∧ ∀ i, i < 3 → i ≠ nx → ((D.pub (nx : Int) t).1.crash ch).sec i = D.sec i) ∨
     ((D.pub (nx : Int) t).2 ≠ 0 ∧ (∃ n, n ≤ 256 ∧ ((D.pub (nx : Int) t).1.crash ch).sec nx = joinAt (Dk.fill t) (D.sec nx) n) ∧ ∀ i, i < 2 → i ≠ nx → ((D.pub (nx : Int) t).1.crash ch).sec i = D.sec i)) := by
  have hft : (Dk.fill t).size = 256 := fill_size ht
  rcases flush_or hd with e | ⟨wr, hl1, e⟩
  · -- it is down at the first flush
    have ep : D.pub (nx : Int) t = ({ D with down := true }, 6) := by unfold Dk.pub; rw [e, if_pos (show (6 : Int) ≠ 0 by decide)]
    rw [ep] at hok ⊢
    have hi : ∀ i, i < 2 → (({ D with down := true } : Dk).crash ch).sec i = D.sec i := fun i hi => by
      refine (crash_sec hok ch i).2 (fun hm => ?_)
      obtain ⟨p, hp, he⟩ := List.mem_map.1 ((looseL_mem _ _).1 hm)
      have := hw p hp
      omega
    refine ⟨(crashTo_len _ _ _).trans hl, .inr ⟨(show (6 : Int) ≠ 0 by decide), ⟨0, by omega, ?_⟩, fun i h _ => hi i h⟩⟩
    rw [joinAt_zero hft hz]
    exact hi nx hn
  · obtain ⟨D1, hD1⟩ : ∃ D1 : Dk, D1 = { D with writes := wr, halt := hl1, was := [] } := ⟨_, rfl⟩
    rw [← hD1] at e
    have d1 : D1.down = false := by rw [hD1]; exact hd
    have n1 : D1.now = D.now := by rw [hD1]
    have w1 : D1.was = [] := by rw [hD1]
    have s1 : ∀ i, D1.sec i = D.sec i := fun i => by unfold Dk.sec; rw [n1]
    rcases write_or d1 nx (by rw [n1]; omega) t ht with e2 | ⟨wr2, hl2, e2⟩
    · have ep : D.pub (nx : Int) t = ({ D1 with down := true }, 6) := by unfold Dk.pub; rw [e, if_neg (by simp), e2, if_pos (show (6 : Int) ≠ 0 by decide)]
      rw [ep] at hok ⊢
      have hi : ∀ i, (({ D1 with down := true } : Dk).crash ch).sec i = D.sec i := fun i => by
        rw [(crash_sec hok ch i).2 (by rw [looseL_nil (D := ({ D1 with down := true } : Dk)) w1]; simp)]
        exact s1 i
      refine ⟨(crashTo_len _ _ _).trans (by show D1.now.length = 3; rw [n1]; exact hl), .inr ⟨(show (6 : Int) ≠ 0 by decide), ⟨0, by omega, ?_⟩, fun i h _ => hi i⟩⟩
      rw [joinAt_zero hft hz]
      exact hi nx
    · obtain ⟨D2, hD2⟩ : ∃ D2 : Dk, D2 = Dk.put { D1 with writes := wr2, halt := hl2 } nx t := ⟨_, rfl⟩
      rw [← hD2] at e2
      have n2 : D2.now = D.now.set nx (Dk.fill t) := by
        rw [hD2]
        show (Dk.loosen { D1 with writes := wr2, halt := hl2 } nx).now.set nx _ = _
        rw [loosen_now]
        show D1.now.set nx _ = _
        rw [n1]
      have d2 : D2.down = false := by
        rw [hD2]
        show (Dk.loosen { D1 with writes := wr2, halt := hl2 } nx).down = false
        rw [loosen_down]
        exact d1
      have w2 : D2.was = [(nx, D.sec nx)] := by
        rw [hD2]
        show (Dk.loosen { D1 with writes := wr2, halt := hl2 } nx).was = _
        unfold Dk.loosen
        rw [if_neg (by show nx ∉ D1.was.map (·.1); rw [w1]; simp)]
        show D1.was ++ [(nx, D1.sec nx)] = _
        rw [w1, s1]; rfl
      have l2 : D2.now.length = 3 := by rw [n2, List.length_set]; exact hl
      have sn : D2.sec nx = Dk.fill t := by
        unfold Dk.sec
        rw [n2, getD_set _ _ _ _ _ (by omega), if_pos rfl]
      have so : ∀ i, i < 3 → i ≠ nx → D2.sec i = D.sec i := fun i hi hne => by
        unfold Dk.sec
        rw [n2, getD_set _ _ _ _ _ (by omega), if_neg (Ne.symm hne)]
      rcases flush_or d2 with e3 | ⟨wr3, hl3, e3⟩
      · have ep : D.pub (nx : Int) t = ({ D2 with down := true }, 6) := by unfold Dk.pub; rw [e, if_neg (by simp), e2, if_neg (by simp), e3]
        rw [ep] at hok ⊢
        have hm : ∀ i, i ∈ ({ D2 with down := true } : Dk).looseL ↔ i = nx := fun i => by
          rw [looseL_mem]
          show i ∈ D2.was.map (·.1) ↔ _
          rw [w2]
          simp
        obtain ⟨n, hn256, he⟩ := (crash_sec hok ch nx).1 ((hm nx).2 rfl)
        have ho : ({ D2 with down := true } : Dk).old nx = D.sec nx := by
          unfold Dk.old
          show (D2.was.lookup nx).getD _ = _
          rw [w2]
          simp
        refine ⟨(crashTo_len _ _ _).trans l2, .inr ⟨(show (6 : Int) ≠ 0 by decide), ⟨n, hn256, ?_⟩, fun i hi hne => ?_⟩⟩
        · rw [he, ho]
          show joinAt (D2.sec nx) _ n = _
          rw [sn]
        · rw [(crash_sec hok ch i).2 (fun h => hne ((hm i).1 h))]
          exact so i (by omega) hne
      · have ep : D.pub (nx : Int) t = ({ D2 with writes := wr3, halt := hl3, was := [] }, 0) := by unfold Dk.pub; rw [e, if_neg (by simp), e2, if_neg (by simp), e3]
        rw [ep] at hok ⊢
        have hi : ∀ i, (({ D2 with writes := wr3, halt := hl3, was := [] } : Dk).crash ch).sec i = D2.sec i := fun i =>
          (crash_sec hok ch i).2 (by rw [looseL_nil (D := ({ D2 with writes := wr3, halt := hl3, was := [] } : Dk)) rfl]; simp)
        exact ⟨(crashTo_len _ _ _).trans l2, .inl ⟨rfl, (hi nx).trans sn, fun i h hne => (hi i).trans (so i h hne)⟩⟩

/-- At a round's head. -/
structure RW (D : Dk) (none : Bool) (may : List Rt) (E : Nat) : Prop where
  live : D.Live
  was : D.was = []
  len : D.now.length = 3
  s0 : Slot (D.sec 0) E
  s1 : Slot (D.sec 1) E
  ok : ((D.found 2).now = -1 ∧ (D.found 2).out = Rt.zero ∧ none = true) ∨ (0 ≤ (D.found 2).now ∧ ∃ x ∈ may, ({ x with epoch := (D.found 2).out.epoch } : Rt) = (D.found 2).out)

theorem rw_start : RW (Dk.make 3) true [] 0 := by
  have h0 : (Dk.make 3).sec 0 = zeros 256 := rfl
  have h1 : (Dk.make 3).sec 1 = zeros 256 := rfl
  have hp : (parse (zeros 256)).2 = false := by
    have h7 : bAt (zeros 256) 7 = 0 := by
      rw [bAt, zeros_list, List.getD_eq_getElem?_getD, List.getElem?_replicate]; rfl
    have hf : Proot.first (zeros 256) = 0 := by rw [zeros_slot.first, h7]; rfl
    unfold parse
    rw [if_pos (.inl hf)]
  have hf := found_n (s0 := zeros 256) (s1 := zeros 256) hp hp
  refine ⟨make_live 3, rfl, rfl, by rw [h0]; exact zeros_slot, by rw [h1]; exact zeros_slot, .inl ?_⟩
  rw [found2, h0, h1]
  exact ⟨hf.2, hf.1, rfl⟩

/-- One round: what is written ahead, a halt, a Publish, a crash. -/
theorem rw_round {D : Dk} {none : Bool} {may : List Rt} {E : Nat} (h : RW D none may E) (hE : E < 200) (mark : ByteArray) (hm : mark.size = 256) (hlt : Int) (x : Rt) (hv : x.validB = true) (ch : List Int) (nx : Nat) (hnx : ((D.found 2).now + 1) % 2 = (nx : Int)) (x' : Rt) (hx' : x' = { x with epoch := (D.found 2).most + 1 }) (D1 : Dk) (hD1 : D1 = (D.write 2 mark).1.doHalt hlt)
    (hok : (D1.pub (nx : Int) x'.text).1.Ok) :
    ((D1.pub (nx : Int) x'.text).2 = 0 ∧ RW ((D1.pub (nx : Int) x'.text).1.crash ch) false [x'] (E + 1) ∧ ((D1.pub (nx : Int) x'.text).1.crash ch).read 2 = (mark, 0)) ∨
    ((D1.pub (nx : Int) x'.text).2 ≠ 0 ∧ RW ((D1.pub (nx : Int) x'.text).1.crash ch) none (may ++ [x]) (E + 1)) := by
  have w := write_live h.live 2 (by rw [h.len]; omega) mark (by omega)
  obtain ⟨e1, _, e3, _⟩ := w
  have d1 : D1.down = false := by
    rw [hD1]
    show (D.write 2 mark).1.down = false
    have := e1
    rw [show ((2 : Nat) : Int) = 2 from rfl] at this
    rw [this]
    exact (write_live h.live 2 (by rw [h.len]; omega) mark (by omega)).2.1.1
  have n1 : D1.now = D.now.set 2 mark := by
    rw [hD1]
    show (D.write 2 mark).1.now = _
    have := e1
    rw [show ((2 : Nat) : Int) = 2 from rfl] at this
    rw [this, e3, fill_full hm]
  have w1 : ∀ p ∈ D1.was, p.1 = 2 := by
    have hw : D1.was = (D.turn.1.put 2 mark).was := by
      rw [hD1]
      show (D.write 2 mark).1.was = _
      have := e1
      rw [show ((2 : Nat) : Int) = 2 from rfl] at this
      rw [this]
    intro p hp
    rw [hw] at hp
    change p ∈ (D.turn.1.loosen 2).was at hp
    rw [turn_live h.live] at hp
    unfold Dk.loosen at hp
    rw [if_neg (by show 2 ∉ D.was.map (·.1); rw [h.was]; simp)] at hp
    change p ∈ D.was ++ [(2, _)] at hp
    rw [h.was] at hp
    simp at hp
    rw [hp]
  have l1 : D1.now.length = 3 := by rw [n1, List.length_set]; exact h.len
  have s1 : ∀ i, i < 2 → D1.sec i = D.sec i := fun i hi => by
    unfold Dk.sec
    rw [n1, getD_set _ _ _ _ _ (by rw [h.len]; omega), if_neg (by omega)]
  have s2 : D1.sec 2 = mark := by
    unfold Dk.sec
    rw [n1, getD_set _ _ _ _ _ (by rw [h.len]; omega), if_pos rfl]
  have hn2 : nx < 2 := by omega
  have hxv : x'.validB = true := by rw [hx']; exact hv
  have hsz : ∀ i, i < 2 → (D1.sec i).size = 256 := fun i hi => by
    rw [s1 i hi]
    match i, hi with
    | 0, _ => exact h.s0.size
    | 1, _ => exact h.s1.size
  have htx : x'.text.size ≤ 256 := by rw [Proot.text_size]; decide
  have hfp : Dk.fill x'.text = pad x'.text := rfl
  obtain ⟨lc, hc⟩ := pub_crash d1 l1 w1 nx hn2 x'.text htx (hsz nx hn2) hok ch
  have cl := crash_live (D1.pub (nx : Int) x'.text).1 ch
  have cw : ((D1.pub (nx : Int) x'.text).1.crash ch).was = [] := rfl
  generalize (D1.pub (nx : Int) x'.text).1.crash ch = C at *
  have he : x'.epoch = (foundOf (D.sec 0) (D.sec 1)).most + 1 := by rw [hx', ← found2]
  have hnxe : nxOf (foundOf (D.sec 0) (D.sec 1)) = nx := by
    unfold nxOf
    rw [← found2]
    omega
  have pt : (pad x'.text).size = 256 := pad_text_size x'
  have key : ∀ n, n ≤ 256 → C.sec nx = joinAt (pad x'.text) (D1.sec nx) n → (∀ i, i < 2 → i ≠ nx → C.sec i = D1.sec i) →
      Slot (C.sec 0) (E + 1) ∧ Slot (C.sec 1) (E + 1) ∧ (((C.found 2).out = x' ∧ 0 ≤ (C.found 2).now) ∨ (n < 256 ∧ (C.found 2).out = (D.found 2).out ∧ (C.found 2).now = (D.found 2).now)) ∧ (n = 256 → (C.found 2).out = x' ∧ 0 ≤ (C.found 2).now) := by
    intro n hn hj ho
    rw [found2, found2]
    refine publish_found h.s0 h.s1 hE x' hxv he n hn _ _ ?_
    rw [hnxe]
    obtain rfl | rfl : nx = 0 ∨ nx = 1 := by omega
    · exact .inl ⟨rfl, (ho 1 (by omega) (by omega)).trans (s1 1 (by omega)), by rw [hj, s1 0 (by omega)]⟩
    · exact .inr ⟨rfl, (ho 0 (by omega) (by omega)).trans (s1 0 (by omega)), by rw [hj, s1 1 (by omega)]⟩
  rcases hc with ⟨h1, h2, h3⟩ | ⟨h1, ⟨n, hn, h2⟩, h3⟩
  · left
    obtain ⟨k0, k1, _, k3⟩ := key 256 (by omega) (by rw [h2, hfp, joinAt_full pt (hsz nx hn2)]) (fun i hi hne => h3 i (by omega) hne)
    obtain ⟨k4, k5⟩ := k3 rfl
    refine ⟨h1, ⟨cl, cw, lc, k0, k1, .inr ⟨k5, x', by simp, by rw [k4]⟩⟩, ?_⟩
    have := read_live cl 2 (by rw [lc]; omega)
    rw [show ((2 : Nat) : Int) = 2 from rfl] at this
    rw [this, h3 2 (by omega) (by omega), s2]
  · right
    obtain ⟨k0, k1, k2, _⟩ := key n hn (by rw [h2, hfp]) h3
    refine ⟨h1, cl, cw, lc, k0, k1, ?_⟩
    rcases k2 with ⟨k4, k5⟩ | ⟨_, k4, k5⟩
    · exact .inr ⟨k5, x, by simp, by rw [k4, hx']⟩
    · rw [k4, k5]
      rcases h.ok with h | ⟨h4, y, hy, h5⟩
      · exact .inl h
      · exact .inr ⟨h4, y, List.mem_append_left _ hy, h5⟩
end Go.Proofs.Ytcbefilcdelplaa

namespace Go.Proofs.Ytcbefilcdelplaa
open Go.RowKit
open Proot (Rt)
open Go.Proofs.YtcbefilcdelplaaW
open Go.Proofs.YtcbefilcdelplaaW.PrintWords (Kd Reps add_field)
set_option linter.unusedVariables false
set_option linter.unusedSimpArgs false

theorem info50 : (Try.prog.info? 50).map (fun i => (i.zero, i.size, i.bytes)) = some (some (.agg #[.int .u64 0, .int .i64 0, .int .i64 0, .int .i64 0, .int .i64 0, .int .i64 0]), 6, 48) := by kernel_rfl
def k50 : Kd Rt := Kd.iso (Kd.pair (Kd.int .u64) (Kd.pair (Kd.int .i64) (Kd.pair (Kd.int .i64) (Kd.pair (Kd.int .i64) (Kd.pair (Kd.int .i64) (Kd.int .i64)))))) (fun x : Rt => (x.epoch, x.half, x.page, x.next, x.count, x.height))
theorem k50_open {w : World} {x : Rt} {cs : List Value} (h : k50.K w x cs) : cs = (rcells x).toList := by
  obtain ⟨_, _, rfl, rfl, h⟩ := h
  obtain ⟨_, _, rfl, rfl, h⟩ := h
  obtain ⟨_, _, rfl, rfl, h⟩ := h
  obtain ⟨_, _, rfl, rfl, h⟩ := h
  obtain ⟨_, _, rfl, rfl, rfl⟩ := h
  rfl
theorem k50_mkM (w : World) (base : Nat) (ok : Nat → Prop) (x : Rt) : k50.M w base ok x (rcells x).toList :=
  ⟨[_], _, rfl, rfl, [_], _, rfl, rfl, [_], _, rfl, rfl, [_], _, rfl, rfl, [_], [_], rfl, rfl, rfl⟩

theorem addN (b off n : Nat) : (⟨b, off, none⟩ : Addr).add n = ⟨b, off + n, none⟩ := by
  unfold Addr.add
  split
  · rename_i h; simp [h]
  · rfl

theorem at_k50 {w : World} {A : Option Addr} {n : Nat} {xs : List Rt} (h : Kd.C k50 w A n xs) (i : Nat) (hi : i < n) :
    ∃ b off, A = some ⟨b, off, none⟩ ∧ w.cell? ⟨b, off + i * 6, none⟩ = some (.int .u64 (xs.getD i Rt.zero).epoch) ∧ w.cell? ⟨b, off + i * 6 + 1, none⟩ = some (.int .i64 (xs.getD i Rt.zero).half) ∧ w.cell? ⟨b, off + i * 6 + 2, none⟩ = some (.int .i64 (xs.getD i Rt.zero).page) ∧
      w.cell? ⟨b, off + i * 6 + 3, none⟩ = some (.int .i64 (xs.getD i Rt.zero).next) ∧ w.cell? ⟨b, off + i * 6 + 4, none⟩ = some (.int .i64 (xs.getD i Rt.zero).count) ∧ w.cell? ⟨b, off + i * 6 + 5, none⟩ = some (.int .i64 (xs.getD i Rt.zero).height) := by
  obtain ⟨ad, c, e, _, hK, hc0⟩ := Kd.C_get h Rt.zero (i : Int) (by omega) (by omega)
  have hc : ∀ j u, c[j]? = some u → w.cell? (ad.add (i * 6 + j)) = some u := hc0
  obtain rfl := k50_open hK
  obtain ⟨b, off, spot⟩ := ad
  have hs : spot = none := by
    obtain ⟨ad', c', e', _, hK', hc0'⟩ := Kd.C_get h Rt.zero 0 (by omega) (by omega)
    obtain rfl := k50_open hK'
    have h0 := hc0' 0 _ rfl
    have he : ad' = ⟨b, off, spot⟩ := by rw [e] at e'; simpa using e'.symm
    subst he
    have := World.cell?_spot h0
    simpa [Addr.add] using this
  subst hs
  have ha : ∀ j, (⟨b, off, none⟩ : Addr).add (i * 6 + j) = ⟨b, off + i * 6 + j, none⟩ := fun j => by rw [addN, Nat.add_assoc]
  refine ⟨b, off, e, ?_, ?_, ?_, ?_, ?_, ?_⟩
  · have := hc 0 _ rfl; rw [ha] at this; exact this
  · have := hc 1 _ rfl; rw [ha] at this; exact this
  · have := hc 2 _ rfl; rw [ha] at this; exact this
  · have := hc 3 _ rfl; rw [ha] at this; exact this
  · have := hc 4 _ rfl; rw [ha] at this; exact this
  · have := hc 5 _ rfl; rw [ha] at this; exact this

/-- A try. -/
structure TryA where
  r : Rt
  after : Int
  cv : Value
  ch : List Int
structure TryCells (w : World) (b off : Nat) (A : TryA) : Prop where
  c0 : w.cell? ⟨b, off, none⟩ = some (.int .u64 A.r.epoch)
  c1 : w.cell? ⟨b, off + 1, none⟩ = some (.int .i64 A.r.half)
  c2 : w.cell? ⟨b, off + 2, none⟩ = some (.int .i64 A.r.page)
  c3 : w.cell? ⟨b, off + 3, none⟩ = some (.int .i64 A.r.next)
  c4 : w.cell? ⟨b, off + 4, none⟩ = some (.int .i64 A.r.count)
  c5 : w.cell? ⟨b, off + 5, none⟩ = some (.int .i64 A.r.height)
  c6 : w.cell? ⟨b, off + 6, none⟩ = some (.int .i64 A.after)
  c7 : w.cell? ⟨b, off + 7, none⟩ = some A.cv
  ints : IntsAt w A.cv A.ch
  cap : sliceOk A.cv
theorem TryCells.at {w w' : World} {b off : Nat} {A : TryA} (h : TryCells w b off A) (hb : ∀ p x, w.cell? p = some x → w'.cell? p = some x) : TryCells w' b off A :=
  ⟨hb _ _ h.c0, hb _ _ h.c1, hb _ _ h.c2, hb _ _ h.c3, hb _ _ h.c4, hb _ _ h.c5, hb _ _ h.c6, hb _ _ h.c7, h.ints.at hb, h.cap⟩
def TrysAt (w : World) (v : Value) (l : List TryA) : Prop :=
  ∃ a c, v = .slice a l.length c ∧ l.length ≤ 9223372036854775807 ∧ ∀ i (hi : i < l.length), ∃ b off, a = some ⟨b, off, none⟩ ∧ TryCells w b (off + i * 8) l[i]

/-- A slice's three numbers. -/
structure Sy where
  a : Option Addr
  n : Nat
  c : Nat
def Sy.v (s : Sy) : Value := .slice s.a s.n s.c
theorem Sy.ofR {α : Type} {d : Kd α} {e : Nat} {w : World} {b : Nat} {ok : Nat → Prop} {s : Sy} {l : List α} (h : d.R e w b ok s.v l) : s.n = l.length ∧ s.n ≤ s.c ∧ d.C w s.a s.n l := by
  obtain ⟨A, c, hv, hc, hC⟩ := Kd.R_reads h
  simp only [Sy.v, Value.slice.injEq] at hv
  obtain ⟨h1, h2, h3⟩ := hv
  rw [h1, h2, h3]
  exact ⟨rfl, hc, hC⟩

/-- No block of these is of cells of roots. -/
def NoRoots (w : World) (F : Nat → Prop) : Prop := ∀ i, F i → ∀ cs, w.heap[i]? ≠ some (.cells cs 50 (0, 0))
theorem DiskAt.noRoots {w : World} {L : Loc} {D : Dk} (h : DiskAt w L D) : NoRoots w L.foot := by
  rintro i (rfl | rfl | rfl) cs hx
  · rw [h.head] at hx
    simp only [Option.some.injEq, Obj.cells.injEq] at hx
    exact absurd hx.2.1 (by decide)
  · obtain ⟨r, hr⟩ := h.rows
    rw [hr] at hx
    simp only [Option.some.injEq, Obj.cells.injEq] at hx
    exact absurd hx.2.1 (by decide)
  · obtain ⟨e, c, hm, _⟩ := h.map
    rw [hm] at hx
    simp at hx
theorem rows50 {w w' : World} {F : Nat → Prop} {B : Nat} {v : Value} {l : List Rt} (h : Kd.R k50 50 w B (fun _ => True) v l) (k : Keep F w w') (hF : NoRoots w F) : Kd.R k50 50 w' B (fun _ => True) v l :=
  Kd.R_mono (Kd.R_step (Kd.R_bound h) (fun i hi hlt => k.block i hlt (fun hf => by
    obtain ⟨_, _, _, q, hq, cs, hc⟩ := hi
    have : q = 50 := by
      have hE : k50.E = [] := rfl
      rw [hE] at hq
      simpa using hq
    subst this
    exact hF i hf cs hc))) (fun _ _ => trivial)

/-- At a round's head. -/
structure WAt (w : World) (L : Loc) (D : Dk) (none : Bool) (may : List Rt) (s : Sy) (k : Nat) (wr : World) : Prop where
  d : DiskAt wr L D
  r : Kd.R k50 50 wr w.heap.size (fun _ => True) s.v may
  b : Below w.heap.size w wr
  rw : RW D none may k
  f : ∀ i, L.foot i → w.heap.size ≤ i
end Go.Proofs.Ytcbefilcdelplaa

namespace Go.Proofs.Ytcbefilcdelplaa
open Go.RowKit Go.ChangeShapes Go.WideShapes Go.Joins
open Proot (Rt)
set_option linter.unusedVariables false
set_option linter.unusedSimpArgs false

instance : Inhabited TryA := ⟨⟨Rt.zero, 0, .bool false, []⟩⟩

variable {H : Type} {enc : TypeId × Value → H} {w : World}

theorem list8 {α : Type} {l : List α} (h : l.length = 8) : ∃ a b c d e f g i, l = [a, b, c, d, e, f, g, i] := by
  match l, h with
  | [a, b, c, d, e, f, g, i], _ => exact ⟨a, b, c, d, e, f, g, i, rfl⟩

theorem trod_struct6 {t : TypeId} {f0 f1 f2 f3 f4 f5 : Field} {fuel base : Nat} {spare : Nat → Bool} {held : Bool} {cs : List Value} {x : DataW H × List MemPlace} (ht : Try.prog.underlying t = some (.struct #[f0, f1, f2, f3, f4, f5])) (h : DataW.trod enc Try.prog w base spare held fuel t cs = some x) :
    ∃ y0 y1 y2 y3 y4 y5 n, cs.length = Try.prog.cellsOf t ∧ DataW.trod enc Try.prog w base spare held n f0.type ((cs.drop f0.offset).take (Try.prog.cellsOf f0.type)) = some y0 ∧
      DataW.trod enc Try.prog w base spare held n f1.type ((cs.drop f1.offset).take (Try.prog.cellsOf f1.type)) = some y1 ∧ DataW.trod enc Try.prog w base spare held n f2.type ((cs.drop f2.offset).take (Try.prog.cellsOf f2.type)) = some y2 ∧
      DataW.trod enc Try.prog w base spare held n f3.type ((cs.drop f3.offset).take (Try.prog.cellsOf f3.type)) = some y3 ∧ DataW.trod enc Try.prog w base spare held n f4.type ((cs.drop f4.offset).take (Try.prog.cellsOf f4.type)) = some y4 ∧
      DataW.trod enc Try.prog w base spare held n f5.type ((cs.drop f5.offset).take (Try.prog.cellsOf f5.type)) = some y5 := by
  obtain ⟨xs, n, _, rfl, hl, hlen, hf⟩ := DataW.trod_struct ht h
  match xs, hlen with
  | [y0, y1, y2, y3, y4, y5], _ => exact ⟨y0, y1, y2, y3, y4, y5, n, hl, by simpa using hf 0 f0 rfl, by simpa using hf 1 f1 rfl, by simpa using hf 2 f2 rfl, by simpa using hf 3 f3 rfl, by simpa using hf 4 f4 rfl, by simpa using hf 5 f5 rfl⟩

theorem open_try {fuel b off : Nat} {cs : List Value} {x : DataW H × List MemPlace} (hc : w.cells? 0 ⟨b, off, none⟩ 8 = some cs) (h : DataW.trod enc Try.prog w 0 (fun _ => true) true fuel 97 cs = some x) :
    ∃ A, TryCells w b off A := by
  obtain ⟨y0, y1, y2, n, _, hl0, h0, h1, h2⟩ := Go.Deep.trod_struct3 Try.underlying97 h
  have hl : cs.length = 8 := hl0.trans (by kernel_rfl)
  obtain ⟨v0, v1, v2, v3, v4, v5, v6, v7, rfl⟩ := list8 hl
  have k1 : Try.prog.cellsOf 3 = 1 := by kernel_rfl
  have k4 : Try.prog.cellsOf 48 = 1 := by kernel_rfl
  have k3 : Try.prog.cellsOf 59 = 1 := by kernel_rfl
  have k5 : Try.prog.cellsOf 50 = 6 := by kernel_rfl
  simp only [k1, k3, k5, List.drop, List.take] at h0 h1 h2
  obtain ⟨z0, z1, z2, z3, z4, z5, m, _, g0, g1, g2, g3, g4, g5⟩ := trod_struct6 Try.underlying50 h0
  simp only [k1, k4, List.drop, List.take] at g0 g1 g2 g3 g4 g5
  obtain ⟨m0, e0, _, _⟩ := DataW.trod_int Try.underlying48 g0
  obtain ⟨m1, e1, _, _⟩ := DataW.trod_int Try.underlying3 g1
  obtain ⟨m2, e2, _, _⟩ := DataW.trod_int Try.underlying3 g2
  obtain ⟨m3, e3, _, _⟩ := DataW.trod_int Try.underlying3 g3
  obtain ⟨m4, e4, _, _⟩ := DataW.trod_int Try.underlying3 g4
  obtain ⟨m5, e5, _, _⟩ := DataW.trod_int Try.underlying3 g5
  obtain ⟨m6, e6, _, _⟩ := DataW.trod_int Try.underlying3 h1
  obtain ⟨l, hl1, hl2⟩ := open_choice h2
  obtain ⟨_, _, hcell⟩ := World.cells?_some hc
  have e0' : v0 = .int .u64 m0 := by simpa using e0
  have e1' : v1 = .int .i64 m1 := by simpa using e1
  have e2' : v2 = .int .i64 m2 := by simpa using e2
  have e3' : v3 = .int .i64 m3 := by simpa using e3
  have e4' : v4 = .int .i64 m4 := by simpa using e4
  have e5' : v5 = .int .i64 m5 := by simpa using e5
  have e6' : v6 = .int .i64 m6 := by simpa using e6
  subst e0' e1' e2' e3' e4' e5' e6'
  have q0 := hcell 0 (by omega)
  have q1 := hcell 1 (by omega)
  have q2 := hcell 2 (by omega)
  have q3 := hcell 3 (by omega)
  have q4 := hcell 4 (by omega)
  have q5 := hcell 5 (by omega)
  have q6 := hcell 6 (by omega)
  have q7 := hcell 7 (by omega)
  rw [add_plain] at q0 q1 q2 q3 q4 q5 q6 q7
  exact ⟨⟨⟨m0, m1, m2, m3, m4, m5⟩, m6, v7, l⟩, q0, q1, q2, q3, q4, q5, q6, q7, hl1, hl2⟩

theorem open_trys {fuel : Nat} {v : Value} {x : DataW H × List MemPlace} (h : DataW.trod enc Try.prog w 0 (fun _ => true) true fuel 93 [v] = some x) : ∃ l, TrysAt w v l := by
  rcases DataW.trod_slice Try.underlying93 h with ⟨hcs, hx⟩ | ⟨a, len, cap, elems, rest, n, _, hcs, hx, hb, hl, hm, hlen, hel, hsp, hns⟩
  · obtain rfl : v = .slice none 0 0 := by simpa using hcs
    exact ⟨[], none, 0, rfl, by simp, fun i hi => by simp at hi⟩
  · obtain rfl : v = .slice (some a) len cap := by simpa using hcs
    have hm' : cap ≤ 9223372036854775807 := by have : maxLen = 9223372036854775807 := by rfl
                                               omega
    have kc : Try.prog.cellsOf 97 = 8 := by kernel_rfl
    have hel' : ∀ i, i < len → ∃ cs y, w.cells? 0 (a.add (i * 8)) 8 = some cs ∧ DataW.trod enc Try.prog w 0 (fun _ => true) true n 97 cs = some y := by
      intro i hi
      have h1 := hel i hi
      rw [kc, List.getElem?_eq_getElem (by omega), Option.bind_eq_some_iff] at h1
      obtain ⟨cs', hcs', hy⟩ := h1
      exact ⟨cs', _, hcs', hy⟩
    have each : ∀ i, i < len → ∃ A : TryA, ∃ b off, a = ⟨b, off, none⟩ ∧ TryCells w b (off + i * 8) A := by
      intro i hi
      obtain ⟨cs', y, hcs', hy⟩ := hel' i hi
      obtain ⟨b, off, spot⟩ := a
      have hs : spot = none := by
        obtain ⟨cs0, _, hcs0, _⟩ := hel' 0 (by omega)
        obtain ⟨_, hl', hc⟩ := World.cells?_some hcs0
        have h0 := hc 0 (by omega)
        rw [List.getElem?_eq_getElem (by omega)] at h0
        simpa [Addr.add] using World.cell?_spot h0
      subst hs
      rw [add_plain] at hcs'
      obtain ⟨A, hA⟩ := open_try hcs' hy
      exact ⟨A, b, off, rfl, hA⟩
    obtain ⟨f, hf⟩ := Deep.choose_lt (p := fun i (A : TryA) => ∃ b off, a = ⟨b, off, none⟩ ∧ TryCells w b (off + i * 8) A) each
    refine ⟨(List.range len).map f, some a, cap, by simp, by simp; omega, fun i hi => ?_⟩
    have hi' : i < len := by simpa using hi
    obtain ⟨b, off, ha, hA⟩ := hf i hi'
    exact ⟨b, off, by rw [ha], by simpa using hA⟩
end Go.Proofs.Ytcbefilcdelplaa
