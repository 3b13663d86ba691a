/- Pages over a disk: where they lie in memory, what the calls answer. What pages answer, as plain laws: a page that was appended is read back; a sector with another byte is none. No walks. Pages' small functions, walked. Pages' text, Append, Read, walked. -/
import Derived.Test.YtendgmblgdkiaaaGreatGInternFull0
import Derived.Test.YtendgmblgdkiaaaGreatGInternFull22
import Derived.Test.YtendgmblgdkiaaaGreatGInternFull15
import Derived.Deep.QuietTactic
import Derived.BigQuiet
import Derived.Deep.RegionHeld3
namespace Go.Proofs.YtendgmblgdkiaaaGreat
open Go.RowKit
set_option linter.unusedVariables false
set_option linter.unusedSimpArgs false

/-- Pages: which half, how many are in use; over the disk at L. -/
def PagesAt (w : World) (b : Nat) (L : Loc) (h n : Nat) : Prop :=
 w.heap[b]? = some (.cells #[.pointer (some ⟨L.a, 0, none⟩), .int .i64 (h : Int), .int .i64 (n : Int)] 172 (0, 0))

namespace PagesAt
variable {w w' : World} {b : Nat} {L : Loc} {h n : Nat}
theorem lt (p : PagesAt w b L h n) : b < w.heap.size := lt_of_heap p
theorem c0 (p : PagesAt w b L h n) : w.cell? ⟨b, 0, none⟩ = some (.pointer (some ⟨L.a, 0, none⟩)) := (cell_of_heap p 0).trans rfl
theorem c1 (p : PagesAt w b L h n) : w.cell? ⟨b, 1, none⟩ = some (.int .i64 (h : Int)) := (cell_of_heap p 1).trans rfl
theorem c2 (p : PagesAt w b L h n) : w.cell? ⟨b, 2, none⟩ = some (.int .i64 (n : Int)) := (cell_of_heap p 2).trans rfl
theorem frz (p : PagesAt w b L h n) (i : Nat) : w.frozen? ⟨b, i, none⟩ = false := frozen_of_heap p i
theorem foot (p : PagesAt w b L h n) {D : Dk} (d : DiskAt w L D) : ¬ L.foot b := by
 rintro (rfl | rfl | rfl)
 ·have := d.head; rw [p] at this; simp [Dk.head] at this
 ·obtain ⟨r, hr⟩ := d.rows; rw [p] at hr; simp at hr
 ·obtain ⟨e, c, hm, _⟩ := d.map; rw [p] at hm; simp at hm
theorem keep {F : Nat → Prop} (p : PagesAt w b L h n) (k : Keep F w w') (hf : ¬ F b) : PagesAt w' b L h n := k.heap p hf
theorem below (p : PagesAt w b L h n) (k : Below w.heap.size w w') : PagesAt w' b L h n := (k.block b p.lt).trans p
theorem alloc (p : PagesAt w b L h n) (o : Obj) : PagesAt (w.alloc o) b L h n := heap_alloc_old p o
theorem drew (p : PagesAt w b L h n) : PagesAt w.drew b L h n := p
theorem drewN (p : PagesAt w b L h n) (m : Nat) : PagesAt (w.drewN m) b L h n := p
theorem two (p : PagesAt w b L h n) : w.cell? ⟨b, 0, none⟩ = some (.pointer (some ⟨L.a, 0, none⟩)) ∧ w.cell? ⟨b, 2, none⟩ = some (.int .i64 (n : Int)) := ⟨p.c0, p.c2⟩
theorem setNext (p : PagesAt w b L h n) (m : Nat) : PagesAt (w.setCell ⟨b, 2, none⟩ (.int .i64 (m : Int))) b L h m := (heap_setCell_same p 2 _).trans rfl
end PagesAt

namespace Dk
def room (D : Dk) : Nat := (D.now.length - 2) / 2
def sector (D : Dk) (h n : Nat) : Nat := 2 + h * D.room + n
end Dk

/-- A page's kind and payload out of a sector; the error. -/
def pgParse (s : ByteArray) : Int × ByteArray × Int :=
 let size := (s.get! 5).toNat
 if 240 < size then (0, ByteArray.empty, 8)
 else if s = sectorOf (s.get! 4).toNat (s.extract 6 (6 + size)) then ((s.get! 4).toNat, s.extract 6 (6 + size), 0) else (0, ByteArray.empty, 8)

def Dk.pgRead (D : Dk) (h next : Nat) (n : Int) : Int × ByteArray × Int :=
 if n < 0 ∨ (next : Int) ≤ n then (0, ByteArray.empty, 1)
 else
  let r := D.read (D.sector h n.toNat)
  if r.2 ≠ 0 then (0, ByteArray.empty, r.2) else pgParse r.1

/-- The disk, how many pages, the number, the error. -/
def Dk.pgAppend (D : Dk) (h next : Nat) (kind : Int) (s : ByteArray) : Dk × Nat × Int × Int :=
 if kind < 0 ∨ 255 < kind ∨ 240 < s.size then (D, next, -1, 1)
 else if D.room = next then (D, next, -1, 5)
 else
  let r := D.write (D.sector h next) (sectorOf kind s)
  if r.2 ≠ 0 then (r.1, next, -1, r.2) else (r.1, next + 1, next, 0)

theorem quietS {P : Program} {f : FuncId} {args : Array Value} {w : World} {n : Nat} {v : Value}
  (h : Calls P f args (w.drewN n) fun e w' => e = .returned v ∧ w.drewN n = w') : Calls P f args (w.drewN n) fun e w'' => e = .returned v ∧ ∃ m, w'' = w.drewN m :=
 h.mono fun _ _ ⟨he, hm⟩ => ⟨he, n, hm.symm⟩

end Go.Proofs.YtendgmblgdkiaaaGreat

namespace Go.Proofs.YtendgmblgdkiaaaGreat
open Go.RowKit
set_option linter.unusedVariables false
set_option linter.unusedSimpArgs false

/-! ### The sum tells two texts apart that differ in one byte -/
theorem ofNat_toNat_u8 (n : Nat) (h : n < 256) : (UInt8.ofNat n).toNat = n := by simp [UInt8.toNat_ofNat', Nat.mod_eq_of_lt h]
/-! ### Bytes by their places -/
theorem getD_app_r {α : Type} (l r : List α) (i : Nat) (d : α) (h : l.length ≤ i) : (l ++ r).getD i d = r.getD (i - l.length) d := by
 rw [List.getD_eq_getElem?_getD, List.getD_eq_getElem?_getD, List.getElem?_append_right h]
theorem getB (s : ByteArray) (i : Nat) : s.get! i = s.data.toList.getD i 0 := by
 show s.data[i]! = _
 rw [List.getD_eq_getElem?_getD, Array.getElem!_eq_getD, Array.getD_eq_getD_getElem?]
 simp
 rfl
theorem app_data (a b : ByteArray) : (a ++ b).data.toList = a.data.toList ++ b.data.toList := by rw [ByteArray.data_append, Array.toList_append]
theorem size_len (s : ByteArray) : s.data.toList.length = s.size := rfl
theorem ba_ext {a b : ByteArray} (h : a.data.toList = b.data.toList) : a = b := ByteArray.ext (Array.toList_inj.1 h)
theorem extract_list (s : ByteArray) (i j : Nat) : (s.extract i j).data.toList = (s.data.toList.take j).drop i := by
 rw [ByteArray.data_extract, Array.toList_extract, List.extract_eq_take_drop, List.drop_take]

theorem zeros_list (n : Nat) : (zeros n).data.toList = List.replicate n 0 := by simp [zeros]
theorem sector_list (kind : Int) (s : ByteArray) : (sectorOf kind s).data.toList =
  (four ((crcOf (pageText kind s).data.toList).toNat : Int)).data.toList ++ ((pageHead kind s.size).data.toList ++ (s.data.toList ++ List.replicate (252 - (2 + s.size)) 0)) := by
 rw [sectorOf, app_data]
 congr 1
 rw [pageText, fillTo, app_data, app_data, zeros_list, ByteArray.size_append, pageHead_size, List.append_assoc]

theorem four_len (x : Int) : (four x).data.toList.length = 4 := four_size x
theorem pageHead_list (kind : Int) (n : Nat) : (pageHead kind n).data.toList = [UInt8.ofNat (kind % 256).toNat, UInt8.ofNat ((n : Int) % 256).toNat] := rfl

/-- What was made a sector is parsed as it was. -/
theorem parse_sector (kind : Int) (s : ByteArray) (h0 : 0 ≤ kind) (h1 : kind ≤ 255) (hs : s.size ≤ 240) : pgParse (sectorOf kind s) = (kind, s, 0) := by
 have hl := sector_list kind s
 have h4 := four_len ((crcOf (pageText kind s).data.toList).toNat : Int)
 have g4 : (sectorOf kind s).get! 4 = UInt8.ofNat (kind % 256).toNat := by
  rw [getB, hl, getD_app_r _ _ _ _ (by omega), h4, pageHead_list]; rfl
 have g5 : (sectorOf kind s).get! 5 = UInt8.ofNat ((s.size : Int) % 256).toNat := by
  rw [getB, hl, getD_app_r _ _ _ _ (by omega), h4, pageHead_list]; rfl
 have n4 : (((sectorOf kind s).get! 4).toNat : Int) = kind := by rw [g4, ofNat_toNat_u8 _ (by omega)]; omega
 have n5 : ((sectorOf kind s).get! 5).toNat = s.size := by rw [g5, ofNat_toNat_u8 _ (by omega)]; omega
 have hx : (sectorOf kind s).extract 6 (6 + s.size) = s := by
  apply ba_ext
  rw [extract_list, hl, List.drop_take]
  rw [← List.append_assoc, List.drop_append_of_le_length (by simp [h4, pageHead_list])]
  have : ((four ((crcOf (pageText kind s).data.toList).toNat : Int)).data.toList ++ (pageHead kind s.size).data.toList).drop 6 = [] := List.drop_eq_nil_of_le (by simp [h4, pageHead_list])
  rw [this, List.nil_append, List.take_append_of_le_length (by rw [size_len]; omega), List.take_of_length_le (by rw [size_len]; omega)]
 unfold pgParse
 simp only [n5, n4, hx]
 rw [if_neg (by omega)]
 simp

end Go.Proofs.YtendgmblgdkiaaaGreat

namespace Go.Proofs.YtendgmblgdkiaaaGreat
open Go.RowKit
set_option linter.unusedVariables false
set_option linter.unusedSimpArgs false

theorem pages_Room (w : World) (L : Loc) (D : Dk) (h : DiskAt w L D) :
  Calls Tryz.prog 145 #[.pointer (some ⟨L.a, 0, none⟩)] w fun e w' => e = .returned (.int .i64 D.room) ∧ w = w' := by
 have C := hi_ (disk_Size w L D h)
 have h2 := h.ok.least
 have h3 := h.ok.most
 have hr : D.room = (D.now.length - 2) / 2 := rfl
 have HR := hi_ hr
 obtain ⟨m, hm⟩ : ∃ m, m = D.now.length := ⟨_, rfl⟩
 rw [← hm] at C h2 h3 HR
 clear hm hr h
 go_enter Tryz.func145, Tryz.ntmps145
 go_wp2_with fail
 refine C.out.mono ?_
 rintro e w' ⟨rfl, rfl⟩
 go_wp2
 go_ret
 exact ⟨ret_int (by rw [HR.out]; omega), rfl⟩

theorem pages_Next (w : World) (b : Nat) (L : Loc) (h n : Nat) (p : PagesAt w b L h n) :
  Calls Tryz.prog 54 #[.pointer (some ⟨b, 0, none⟩)] w fun e w' => e = .returned (.int .i64 n) ∧ w = w' := by
 have c := p.c2
 go_enter Tryz.func54, Tryz.ntmps54
 go_wp2
 go_ret
 exact ⟨rfl, rfl⟩

theorem room_le {D : Dk} (h : D.Ok) : D.room ≤ 32767 := by have := h.most; unfold Dk.room; omega

theorem pages_Free (w : World) (b : Nat) (L : Loc) (D : Dk) (h n : Nat) (p : PagesAt w b L h n) (d : DiskAt w L D) (hn : n ≤ D.room) :
  Calls Tryz.prog 126 #[.pointer (some ⟨b, 0, none⟩)] w fun e w' => e = .returned (.int .i64 ((D.room - n : Nat) : Int)) ∧ ∃ m, w' = w.drewN m := by
 have c0 := p.c0
 have c2 := p.c2
 have HD := hi_ d
 have hr := room_le d.ok
 obtain ⟨r, hr'⟩ : ∃ r, r = D.room := ⟨_, rfl⟩
 have C := hi_ (fun W (h : DiskAt W L D) => pages_Room W L D h)
 rw [← hr'] at hn hr C ⊢
 have e : ((r - n : Nat) : Int) = (r : Int) - (n : Int) := by omega
 rw [e]
 have hw : IntKind.i64.wrap ((r : Int) - (n : Int)) = (r : Int) - (n : Int) := IntWalk.i64_in _ om_
 clear hr' e d
 go_enter Tryz.func126, Tryz.ntmps126
 go_wp2
 go_quiet ((go_at_call 145; exact quietS (C.out _ (HD.out.drewN _))))
 go_wp2
 go_ret
 exact ⟨rfl, _, rfl⟩

theorem pages_sector (w : World) (b : Nat) (L : Loc) (D : Dk) (h n m : Nat) (p : PagesAt w b L h n) (d : DiskAt w L D) (hh : h ≤ 1) (hm : m ≤ 32767) :
  Calls Tryz.prog 129 #[.pointer (some ⟨b, 0, none⟩), .int .i64 (m : Int)] w fun e w' => e = .returned (.int .i64 (D.sector h m : Int)) ∧ ∃ k, w' = w.drewN k := by
 have c0 := p.c0
 have c1 := p.c1
 have HD := hi_ d
 have hr := room_le d.ok
 have hs : D.sector h m = 2 + h * D.room + m := rfl
 obtain ⟨r, hr'⟩ : ∃ r, r = D.room := ⟨_, rfl⟩
 have C := hi_ (fun W (h : DiskAt W L D) => pages_Room W L D h)
 rw [← hr'] at hr C hs
 have e : ((2 + h * r + m : Nat) : Int) = 2 + (h : Int) * (r : Int) + (m : Int) := by simp
 rw [hs, e]
 have hb : (0 : Int) ≤ (h : Int) * (r : Int) ∧ (h : Int) * (r : Int) ≤ 32767 := by
  match h, hh with
  | 0, _ => simp
  | 1, _ => simp; omega
 have hw0 : IntKind.i64.wrap ((h : Int) * (r : Int)) = (h : Int) * (r : Int) := IntWalk.i64_in _ om_
 have hw1 : IntKind.i64.wrap (2 + (h : Int) * (r : Int)) = 2 + (h : Int) * (r : Int) := IntWalk.i64_in _ om_
 have hw2 : IntKind.i64.wrap (2 + (h : Int) * (r : Int) + (m : Int)) = 2 + (h : Int) * (r : Int) + (m : Int) := IntWalk.i64_in _ om_
 clear hr' e d hs hb
 go_enter Tryz.func129, Tryz.ntmps129
 go_wp2
 go_quiet ((go_at_call 145; exact quietS (C.out _ (HD.out.drewN _))))
 go_wp2
 go_ret
 exact ⟨rfl, _, rfl⟩

theorem pages_Cut (w : World) (b : Nat) (L : Loc) (h n : Nat) (m : Int) (p : PagesAt w b L h n) :
  Calls Tryz.prog 133 #[.pointer (some ⟨b, 0, none⟩), .int .i64 m] w fun e w' =>
   e = .returned (.bool (decide (0 ≤ m ∧ m ≤ n))) ∧ PagesAt w' b L h (if 0 ≤ m ∧ m ≤ n then m.toNat else n) ∧ Keep (fun k => k = b) w w' := by
 have c2 := p.c2
 have f2 := p.frz 2
 have hk := fun v => (Keep.refl (fun k => k = b) w).setCell (p := ⟨b, 2, none⟩) (.inl rfl) v
 have hk0 := Keep.refl (fun k => k = b) w
 by_cases h0 : m < 0
 ·have e : ¬ (0 ≤ m ∧ m ≤ n) := by omega
  rw [if_neg e, decide_eq_false e]
  clear e
  have HP := hi_ p
  go_enter Tryz.func133, Tryz.ntmps133
  go_wp2
  go_ret
  exact ⟨rfl, HP.out, hk0⟩
 ·by_cases h1 : (n : Int) < m
  ·have e : ¬ (0 ≤ m ∧ m ≤ n) := by omega
   rw [if_neg e, decide_eq_false e]
   clear e
   have HP := hi_ p
   go_enter Tryz.func133, Tryz.ntmps133
   go_wp2
   go_ret
   exact ⟨rfl, HP.out, hk0⟩
  ·have e : 0 ≤ m ∧ m ≤ n := by omega
   rw [if_pos e, decide_eq_true e]
   obtain ⟨j, rfl⟩ := Int.eq_ofNat_of_zero_le e.1
   rw [Int.toNat_natCast]
   clear e
   have HP := hi_ (p.setNext j)
   go_enter Tryz.func133, Tryz.ntmps133
   go_wp2
   go_ret
   exact ⟨rfl, HP.out, hk _⟩

theorem pages_Open (w : World) (L : Loc) (D : Dk) (h n : Nat) (d : DiskAt w L D) (hh : h ≤ 1) (hn : n ≤ D.room) :
  Calls Tryz.prog 97 #[.pointer (some ⟨L.a, 0, none⟩), .int .i64 (h : Int), .int .i64 (n : Int)] w fun e w' =>
   e = .returned (.tuple #[.pointer (some ⟨w.heap.size, 0, none⟩), .int .i64 0]) ∧ PagesAt w' w.heap.size L h n ∧ Below w.heap.size w w' := by
 have C := hi_ (pages_Room w L D d)
 have hr := room_le d.ok
 obtain ⟨r, hr'⟩ : ∃ r, r = D.room := ⟨_, rfl⟩
 rw [← hr'] at hr C hn
 clear hr' d
 go_enter Tryz.func97, Tryz.ntmps97
 go_wp2_with fail
 refine C.out.mono ?_
 rintro e w' ⟨rfl, rfl⟩
 go_wp2
 go_ret2
 exact ⟨rfl, heap_alloc_self _ _, (Below.refl _ _).alloc (Nat.le_refl _) _⟩

end Go.Proofs.YtendgmblgdkiaaaGreat

namespace Go.Proofs.YtendgmblgdkiaaaGreat
open Go.RowKit
set_option linter.unusedVariables false
set_option linter.unusedSimpArgs false

set_option maxHeartbeats 1000000 in
set_option maxRecDepth 20000 in
theorem pages_text (kind : Int) (s : ByteArray) (w : World) (hs : s.size ≤ 240) :
  Calls Tryz.prog 127 #[.int .i64 kind, .string s] w fun e w' => e = .returned (.string (pageText kind s)) ∧ Below w.heap.size w w' := by
 obtain ⟨hd, hhd⟩ : ∃ hd, pageHead kind s.size = hd := ⟨_, rfl⟩
 have hhs : hd.size = 2 := by rw [← hhd, pageHead_size]
 obtain ⟨x, hx⟩ : ∃ x, hd ++ s = x := ⟨_, rfl⟩
 have hxs : x.size = 2 + s.size := by rw [← hx, ByteArray.size_append]; omega
 have hxl : (x.size : Int) ≤ 242 := by omega
 have hadd : ¬ (9223372036854775807 < hd.size + s.size) := by omega
 obtain ⟨z, hz⟩ : ∃ z, zeros (252 - (x.size : Int)).toNat = z := ⟨_, rfl⟩
 have C1 := fun W => rep_zero (252 - (x.size : Int)) W om_ om_
 rw [hz] at C1
 have hzs : z.size ≤ 252 := by rw [← hz, zeros_size]; omega
 have hadd2 : ¬ (9223372036854775807 < x.size + z.size) := by omega
 have hfin : pageText kind s = x ++ z := by
  rw [pageText, hhd, hx, fillTo, ← hz]; congr 2; omega
 have hsn : strOfNums [kind % 256, (s.size : Int)] = hd := by rw [← hhd, pageHead]; congr 3; omega
 have C1' := hi_ C1
 have HFIN := hi_ hfin
 have hcv := lit2
 clear hz hfin hhd hhs hzs C1 hxs
 go_enter Tryz.func127, Tryz.ntmps127
 go_wp2_with fail
 refine (C1'.out _).mono ?_
 rintro e w1 ⟨rfl, hb1⟩
 clear hcv
 go_wp2
 go_ret
 exact ⟨ret_str (by rw [HFIN.out]), ((Below.refl _ _).alloc (Nat.le_refl _) _).trans (hb1.mono (by simp <;> omega))⟩

set_option maxHeartbeats 2000000 in
set_option maxRecDepth 100000 in
theorem pages_Append_ok (w : World) (b : Nat) (L : Loc) (D : Dk) (h n : Nat) (kind : Int) (s : ByteArray) (p : PagesAt w b L h n) (d : DiskAt w L D) (hh : h ≤ 1) (hn : n < D.room)
  (hk0 : 0 ≤ kind) (hk1 : kind ≤ 255) (hs : s.size ≤ 240) (D' : Dk) (he : D.write (D.sector h n) (sectorOf kind s) = (D', 0)) :
  Calls Tryz.prog 65 #[.pointer (some ⟨b, 0, none⟩), .int .i64 kind, .string s] w fun e w' =>
   e = .returned (.tuple #[.int .i64 (n : Int), .int .i64 0]) ∧ DiskAt w' L D' ∧ PagesAt w' b L h (n + 1) ∧ Keep (fun k => L.foot k ∨ k = b) w w' := by
 have hr := room_le d.ok
 have CF := pages_Free w b L D h n p d om_
 have CT := fun W => pages_text kind s W hs
 have CS := fun W (p : PagesAt W b L h n) (d : DiskAt W L D) => pages_sector W b L D h n n p d hh om_
 have CW := fun W (d : DiskAt W L D) => disk_Write W L D (D.sector h n) (sectorOf kind s) d
 rw [he] at CW
 obtain ⟨x, hx⟩ : ∃ x, pageText kind s = x := ⟨_, rfl⟩
 have hxs : x.size = 252 := by rw [← hx, pageText_size _ _ (by omega)]
 have CO := fun b0 W hc => crc_Of b0 x W (by unfold maxLen; omega) hc
 obtain ⟨y, hy⟩ : ∃ y, four ((crcOf x.data.toList).toNat : Int) = y := ⟨_, rfl⟩
 have CR := fun W => crc_Four ((crcOf x.data.toList).toNat : Int) W
 have hys : y.size = 4 := by rw [← hy, four_size]
 have hadd : ¬ (9223372036854775807 < y.size + x.size) := by omega
 have hsec : sectorOf kind s = y ++ x := by rw [sectorOf, hx, hy]
 rw [hsec] at CW
 rw [hx] at CT
 rw [hy] at CR
 obtain ⟨f, hf⟩ : ∃ f, f = D.room - n := ⟨_, rfl⟩
 rw [← hf] at CF
 have hfp : (0 : Int) < (f : Int) := by omega
 obtain ⟨q, hq⟩ : ∃ q, q = D.sector h n := ⟨_, rfl⟩
 rw [← hq] at CS CW
 have hks : ¬ (240 : Int) < (s.size : Int) := by omega
 have CF' := hi_ CF
 have CT' := hi_ CT
 have CS' := hi_ CS
 have CO' := hi_ CO
 have CR' := hi_ CR
 have CW' := hi_ CW
 have HP := hi_ p
 have HD := hi_ d
 have hbf := hi_ (p.foot d)
 have hnb : (n : Int) ≤ 32767 := by omega
 clear CF CT CS CO CR CW p d he hx hy hsec hf hq hxs hys hn hr
 go_enter Tryz.func65, Tryz.ntmps65
 go_wp2_with fail
 refine CF'.out.mono ?_
 rintro e w0 ⟨rfl, m0, rfl⟩
 go_wp2_with fail
 refine (CT'.out _).mono ?_
 rintro e w1 ⟨rfl, hb1⟩
 have p1 := (HP.out.drewN m0).below hb1
 have d1 := (HD.out.drewN m0).below hb1
 have c0 := p1.c0
 have c2 := p1.c2
 have HP1 := hi_ p1
 have HD1 := hi_ d1
 have HK1 := hi_ (((Keep.refl (fun k => L.foot k ∨ k = b) w).drewN m0).andThen (Keep.below (F := fun k => L.foot k ∨ k = b) hb1) (fun _ _ h => h))
 clear p1 d1 hb1 CF' CT'
 go_wp2_with fail
 go_region_held3 (fun w' => w'.cell? ⟨b, 0, none⟩ = some (.pointer (some ⟨L.a, 0, none⟩)) ∧ w'.cell? ⟨b, 2, none⟩ = some (.int .i64 (n : Int)))
  ((refine PagesAt.two (h := h) ?_; (repeat (first | (with_reducible assumption) | exact HP1.out | refine PagesAt.alloc ?_ _ | refine PagesAt.drewN ?_ _ | refine PagesAt.drew ?_)))) (first
   | (go_at_call 129; (with_reducible refine (CS'.out _ ?_ ?_).mono ?_); (repeat (first | (with_reducible assumption) | exact HP1.out | refine PagesAt.alloc ?_ _ | refine PagesAt.drewN ?_ _ | refine PagesAt.drew ?_)); (repeat (first | (with_reducible assumption) | exact HD1.out | refine DiskAt.alloc ?_ _ | refine DiskAt.drewN ?_ _ | refine DiskAt.drew ?_)); rintro e w2 ⟨rfl, k2, rfl⟩)
   | (go_at_call 115; (with_reducible refine (CO'.out _ _ ?_).mono ?_); (first | exact cell_new1 _ _ _ _ _ rfl | exact cell_new1 w1 _ _ _ _ rfl | exact cell_new1 w1.drew _ _ _ _ rfl); rintro e w' ⟨rfl, rfl⟩)
   | (go_at_call 117; (with_reducible refine (CR'.out _).mono ?_); rintro e w3 ⟨rfl, hb3⟩; have p3 : PagesAt w3 b L h n := (by (refine PagesAt.below ?_ hb3; (repeat (first | (with_reducible assumption) | exact HP1.out | refine PagesAt.alloc ?_ _ | refine PagesAt.drewN ?_ _ | refine PagesAt.drew ?_)))); have d3 : DiskAt w3 L D := (by (refine DiskAt.below ?_ hb3; (repeat (first | (with_reducible assumption) | exact HD1.out | refine DiskAt.alloc ?_ _ | refine DiskAt.drewN ?_ _ | refine DiskAt.drew ?_)))); have k3 : Keep (fun k => L.foot k ∨ k = b) w w3 := (by (refine Keep.andThen ?_ (Keep.below hb3) (fun _ _ h => h); (repeat (first | (with_reducible assumption) | exact HK1.out | refine Keep.alloc ?_ _ | refine Keep.drewN ?_ _ | refine Keep.drew ?_)))); clear hb3)
   | (go_at_call 128; (with_reducible refine (CW'.out _ ?_).mono ?_); (repeat (first | (with_reducible assumption) | exact HD1.out | refine DiskAt.alloc ?_ _ | refine DiskAt.drewN ?_ _ | refine DiskAt.drew ?_)); rintro e w4 ⟨rfl, d4, kk4⟩; have p4 : PagesAt w4 b L h n := (by (refine PagesAt.keep ?_ kk4 hbf.out; (repeat (first | (with_reducible assumption) | exact HP1.out | refine PagesAt.alloc ?_ _ | refine PagesAt.drewN ?_ _ | refine PagesAt.drew ?_)))); have k4 : Keep (fun k => L.foot k ∨ k = b) w w4 := (by (refine Keep.andThen ?_ kk4 (fun _ _ h => .inl h); (repeat (first | (with_reducible assumption) | exact HK1.out | refine Keep.alloc ?_ _ | refine Keep.drewN ?_ _ | refine Keep.drew ?_)))); have c24 := p4.c2; have f24 := p4.frz 2; clear kk4))
 all_goals
  have P5 := p4.setNext (n + 1)
  have D5 := d4.setCell (a := ⟨b, 2, none⟩) hbf.out (.int .i64 ((n + 1 : Nat) : Int))
  have K5 := k4.setCell (p := ⟨b, 2, none⟩) (.inl (.inr rfl)) (.int .i64 ((n + 1 : Nat) : Int))
  have e5 : ((n + 1 : Nat) : Int) = (n : Int) + 1 := by omega
  rw [e5] at P5 D5 K5
  have P6 := hi_ P5
  have D6 := hi_ D5
  have K6 := hi_ K5
  clear p4 d4 k4 P5 D5 K5 e5
  go_wp2
  go_ret2
  exact ⟨rfl, D6.out, P6.out, K6.out⟩

set_option maxHeartbeats 2000000 in
set_option maxRecDepth 100000 in
theorem pages_Append_er (w : World) (b : Nat) (L : Loc) (D : Dk) (h n : Nat) (kind : Int) (s : ByteArray) (p : PagesAt w b L h n) (d : DiskAt w L D) (hh : h ≤ 1) (hn : n < D.room)
  (hk0 : 0 ≤ kind) (hk1 : kind ≤ 255) (hs : s.size ≤ 240) (D' : Dk) (er : Int) (her : er ≠ 0) (he : D.write (D.sector h n) (sectorOf kind s) = (D', er)) :
  Calls Tryz.prog 65 #[.pointer (some ⟨b, 0, none⟩), .int .i64 kind, .string s] w fun e w' =>
   e = .returned (.tuple #[.int .i64 (-1), .int .i64 er]) ∧ DiskAt w' L D' ∧ PagesAt w' b L h n ∧ Keep (fun k => L.foot k ∨ k = b) w w' := by
 have hr := room_le d.ok
 have CF := pages_Free w b L D h n p d om_
 have CT := fun W => pages_text kind s W hs
 have CS := fun W (p : PagesAt W b L h n) (d : DiskAt W L D) => pages_sector W b L D h n n p d hh om_
 have CW := fun W (d : DiskAt W L D) => disk_Write W L D (D.sector h n) (sectorOf kind s) d
 rw [he] at CW
 obtain ⟨x, hx⟩ : ∃ x, pageText kind s = x := ⟨_, rfl⟩
 have hxs : x.size = 252 := by rw [← hx, pageText_size _ _ (by omega)]
 have CO := fun b0 W hc => crc_Of b0 x W (by unfold maxLen; omega) hc
 obtain ⟨y, hy⟩ : ∃ y, four ((crcOf x.data.toList).toNat : Int) = y := ⟨_, rfl⟩
 have CR := fun W => crc_Four ((crcOf x.data.toList).toNat : Int) W
 have hys : y.size = 4 := by rw [← hy, four_size]
 have hadd : ¬ (9223372036854775807 < y.size + x.size) := by omega
 have hsec : sectorOf kind s = y ++ x := by rw [sectorOf, hx, hy]
 rw [hsec] at CW
 rw [hx] at CT
 rw [hy] at CR
 obtain ⟨f, hf⟩ : ∃ f, f = D.room - n := ⟨_, rfl⟩
 rw [← hf] at CF
 have hfp : (0 : Int) < (f : Int) := by omega
 obtain ⟨q, hq⟩ : ∃ q, q = D.sector h n := ⟨_, rfl⟩
 rw [← hq] at CS CW
 have hks : ¬ (240 : Int) < (s.size : Int) := by omega
 have CF' := hi_ CF
 have CT' := hi_ CT
 have CS' := hi_ CS
 have CO' := hi_ CO
 have CR' := hi_ CR
 have CW' := hi_ CW
 have HP := hi_ p
 have HD := hi_ d
 have hbf := hi_ (p.foot d)
 have hnb : (n : Int) ≤ 32767 := by omega
 have herb : (er != 0) = true := by simpa using her
 have herb2 : (er == 0) = false := by simpa using her
 clear her CF CT CS CO CR CW p d he hx hy hsec hf hq hxs hys hn hr
 go_enter Tryz.func65, Tryz.ntmps65
 go_wp2_with fail
 refine CF'.out.mono ?_
 rintro e w0 ⟨rfl, m0, rfl⟩
 go_wp2_with fail
 refine (CT'.out _).mono ?_
 rintro e w1 ⟨rfl, hb1⟩
 have p1 := (HP.out.drewN m0).below hb1
 have d1 := (HD.out.drewN m0).below hb1
 have c0 := p1.c0
 have c2 := p1.c2
 have HP1 := hi_ p1
 have HD1 := hi_ d1
 have HK1 := hi_ (((Keep.refl (fun k => L.foot k ∨ k = b) w).drewN m0).andThen (Keep.below (F := fun k => L.foot k ∨ k = b) hb1) (fun _ _ h => h))
 clear p1 d1 hb1 CF' CT'
 go_wp2_with fail
 go_region_held3 (fun w' => w'.cell? ⟨b, 0, none⟩ = some (.pointer (some ⟨L.a, 0, none⟩)) ∧ w'.cell? ⟨b, 2, none⟩ = some (.int .i64 (n : Int)))
  ((refine PagesAt.two (h := h) ?_; (repeat (first | (with_reducible assumption) | exact HP1.out | refine PagesAt.alloc ?_ _ | refine PagesAt.drewN ?_ _ | refine PagesAt.drew ?_)))) (first
   | (go_at_call 129; (with_reducible refine (CS'.out _ ?_ ?_).mono ?_); (repeat (first | (with_reducible assumption) | exact HP1.out | refine PagesAt.alloc ?_ _ | refine PagesAt.drewN ?_ _ | refine PagesAt.drew ?_)); (repeat (first | (with_reducible assumption) | exact HD1.out | refine DiskAt.alloc ?_ _ | refine DiskAt.drewN ?_ _ | refine DiskAt.drew ?_)); rintro e w2 ⟨rfl, k2, rfl⟩)
   | (go_at_call 115; (with_reducible refine (CO'.out _ _ ?_).mono ?_); (first | exact cell_new1 _ _ _ _ _ rfl | exact cell_new1 w1 _ _ _ _ rfl | exact cell_new1 w1.drew _ _ _ _ rfl); rintro e w' ⟨rfl, rfl⟩)
   | (go_at_call 117; (with_reducible refine (CR'.out _).mono ?_); rintro e w3 ⟨rfl, hb3⟩; have p3 : PagesAt w3 b L h n := (by (refine PagesAt.below ?_ hb3; (repeat (first | (with_reducible assumption) | exact HP1.out | refine PagesAt.alloc ?_ _ | refine PagesAt.drewN ?_ _ | refine PagesAt.drew ?_)))); have d3 : DiskAt w3 L D := (by (refine DiskAt.below ?_ hb3; (repeat (first | (with_reducible assumption) | exact HD1.out | refine DiskAt.alloc ?_ _ | refine DiskAt.drewN ?_ _ | refine DiskAt.drew ?_)))); have k3 : Keep (fun k => L.foot k ∨ k = b) w w3 := (by (refine Keep.andThen ?_ (Keep.below hb3) (fun _ _ h => h); (repeat (first | (with_reducible assumption) | exact HK1.out | refine Keep.alloc ?_ _ | refine Keep.drewN ?_ _ | refine Keep.drew ?_)))); clear hb3)
   | (go_at_call 128; (with_reducible refine (CW'.out _ ?_).mono ?_); (repeat (first | (with_reducible assumption) | exact HD1.out | refine DiskAt.alloc ?_ _ | refine DiskAt.drewN ?_ _ | refine DiskAt.drew ?_)); rintro e w4 ⟨rfl, d4, kk4⟩; have p4 : PagesAt w4 b L h n := (by (refine PagesAt.keep ?_ kk4 hbf.out; (repeat (first | (with_reducible assumption) | exact HP1.out | refine PagesAt.alloc ?_ _ | refine PagesAt.drewN ?_ _ | refine PagesAt.drew ?_)))); have k4 : Keep (fun k => L.foot k ∨ k = b) w w4 := (by (refine Keep.andThen ?_ kk4 (fun _ _ h => .inl h); (repeat (first | (with_reducible assumption) | exact HK1.out | refine Keep.alloc ?_ _ | refine Keep.drewN ?_ _ | refine Keep.drew ?_)))); have c24 := p4.c2; have f24 := p4.frz 2; clear kk4))
 all_goals
  have P6 := hi_ p4
  have D6 := hi_ d4
  have K6 := hi_ k4
  clear p4 d4 k4
  go_wp2
  go_ret2
  exact ⟨rfl, D6.out, P6.out, K6.out⟩

theorem pages_Append (w : World) (b : Nat) (L : Loc) (D : Dk) (h n : Nat) (kind : Int) (s : ByteArray) (p : PagesAt w b L h n) (d : DiskAt w L D) (hh : h ≤ 1) (hn : n ≤ D.room) :
  Calls Tryz.prog 65 #[.pointer (some ⟨b, 0, none⟩), .int .i64 kind, .string s] w fun e w' =>
   e = .returned (.tuple #[.int .i64 (D.pgAppend h n kind s).2.2.1, .int .i64 (D.pgAppend h n kind s).2.2.2]) ∧ DiskAt w' L (D.pgAppend h n kind s).1 ∧ PagesAt w' b L h (D.pgAppend h n kind s).2.1 ∧ Keep (fun k => L.foot k ∨ k = b) w w' := by
 have hr := room_le d.ok
 by_cases hbad : kind < 0 ∨ 255 < kind ∨ 240 < s.size
 ·have e : D.pgAppend h n kind s = (D, n, -1, 1) := by simp only [Dk.pgAppend, if_pos hbad]
  rw [e]
  have HP := hi_ p
  have HD := hi_ d
  have HK := hi_ (Keep.refl (fun k => L.foot k ∨ k = b) w)
  clear p d e hn hr
  by_cases h1 : kind < 0
  ·clear hbad
   go_enter Tryz.func65, Tryz.ntmps65
   go_wp2
   go_ret2
   exact ⟨rfl, HD.out, HP.out, HK.out⟩
  ·by_cases h2 : 255 < kind
   ·clear hbad
    go_enter Tryz.func65, Tryz.ntmps65
    go_wp2
    go_ret2
    exact ⟨rfl, HD.out, HP.out, HK.out⟩
   ·have h3 : (240 : Int) < (s.size : Int) := by omega
    clear hbad
    go_enter Tryz.func65, Tryz.ntmps65
    go_wp2
    go_ret2
    exact ⟨rfl, HD.out, HP.out, HK.out⟩
 ·by_cases hfull : D.room = n
  ·have e : D.pgAppend h n kind s = (D, n, -1, 5) := by simp only [Dk.pgAppend, if_neg hbad, if_pos hfull]
   rw [e]
   have CF := pages_Free w b L D h n p d hn
   have e0 : ((D.room - n : Nat) : Int) = 0 := by omega
   rw [e0] at CF
   have CF' := hi_ CF
   have HP := hi_ p
   have HD := hi_ d
   have HK := hi_ (Keep.refl (fun k => L.foot k ∨ k = b) w)
   have h1 : ¬ kind < 0 := by omega
   have h2 : ¬ 255 < kind := by omega
   have h3 : ¬ (240 : Int) < (s.size : Int) := by omega
   clear hbad p d e hn hr hfull CF e0
   go_enter Tryz.func65, Tryz.ntmps65
   go_wp2_with fail
   refine CF'.out.mono ?_
   rintro e w0 ⟨rfl, m0, rfl⟩
   go_wp2
   go_ret2
   exact ⟨rfl, HD.out.drewN m0, HP.out.drewN m0, HK.out.drewN m0⟩
  ·obtain ⟨D', er, he⟩ : ∃ D' er, D.write (D.sector h n) (sectorOf kind s) = (D', er) := ⟨_, _, rfl⟩
   by_cases hz : er = 0
   ·subst hz
    have e : D.pgAppend h n kind s = (D', n + 1, (n : Int), 0) := by simp only [Dk.pgAppend, if_neg hbad, if_neg hfull, he]; rfl
    rw [e]
    exact pages_Append_ok w b L D h n kind s p d hh om_ om_ om_ om_ D' he
   ·have e : D.pgAppend h n kind s = (D', n, -1, er) := by simp only [Dk.pgAppend, if_neg hbad, if_neg hfull, he, if_pos hz]
    rw [e]
    exact pages_Append_er w b L D h n kind s p d hh om_ om_ om_ om_ D' er hz he

end Go.Proofs.YtendgmblgdkiaaaGreat
