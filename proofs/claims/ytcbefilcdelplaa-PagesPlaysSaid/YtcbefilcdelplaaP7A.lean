/- dowserref07.Append and dowserlaw07.reads, walked. -/
import Derived.Test.YtcbefilcdelplaaPref7x1
import Derived.Test.YtcbefilcdelplaaPagesR
import Derived.Lib.Hide
namespace Go.Proofs.Ytcbefilcdelplaa
open Go.RowKit
open Go.Proofs.YtcbefilcdelplaaW
open PrintWords (Kd Reps rd rdOf)
open Pref7 (S23 k23 at_T23 rd_T23 z23)
set_option linter.unusedVariables false
set_option linter.unusedSimpArgs false

theorem ref7_Append_bad (A : Option Addr) (n c : Nat) (room kind : Int) (s : ByteArray) (w : World) (h : kind < 0 ∨ 255 < kind ∨ 240 < s.size) :
    Calls Try.prog 46 #[.slice A n c, .int .i64 room, .agg #[.int .i64 kind, .string s]] w fun e w' => e = .returned (.tuple #[.slice A n c, .int .i64 (-1), .int .i64 1]) ∧ Below w.heap.size w w' := by
  by_cases h0 : kind < 0
  · clear h
    go_enter Try.func46, Try.ntmps46
    go_wp2
    go_ret3
    exact ⟨rfl, bel_alloc (Below.refl _ _) _⟩
  · by_cases h1 : 255 < kind
    · clear h
      go_enter Try.func46, Try.ntmps46
      go_wp2
      go_ret3
      exact ⟨rfl, bel_alloc (Below.refl _ _) _⟩
    · have h2 : (240 : Int) < (s.size : Int) := by omega
      clear h
      go_enter Try.func46, Try.ntmps46
      go_wp2
      go_ret3
      exact ⟨rfl, bel_alloc (Below.refl _ _) _⟩

theorem ref7_Append_full (A : Option Addr) (n c : Nat) (room : Int) (kind : Int) (s : ByteArray) (w : World) (h0 : 0 ≤ kind) (h1 : kind ≤ 255) (h2 : s.size ≤ 240) (hf : room ≤ (n : Int)) :
    Calls Try.prog 46 #[.slice A n c, .int .i64 room, .agg #[.int .i64 kind, .string s]] w fun e w' => e = .returned (.tuple #[.slice A n c, .int .i64 (-1), .int .i64 5]) ∧ Below w.heap.size w w' := by
  have h2' : ¬ (240 : Int) < (s.size : Int) := by omega
  go_enter Try.func46, Try.ntmps46
  go_wp2
  go_ret3
  exact ⟨rfl, bel_alloc (Below.refl _ _) _⟩

theorem ref7_Append_ok (A : Option Addr) (c : Nat) (l : List S23) (room : Int) (kind : Int) (s : ByteArray) (w : World) (h0 : 0 ≤ kind) (h1 : kind ≤ 255) (h2 : s.size ≤ 240) (hf : (l.length : Int) < room) (hr : room ≤ 100000) (hC : Kd.C k23 w A l.length l) (hc : l.length ≤ c) :
    Calls Try.prog 46 #[.slice A l.length c, .int .i64 room, .agg #[.int .i64 kind, .string s]] w fun e w' => ∃ v : Value, e = .returned (.tuple #[v, .int .i64 (l.length : Int), .int .i64 0]) ∧ Kd.R k23 23 w' w.heap.size (fun _ => True) v (l ++ [⟨kind, s⟩]) ∧ Below w.heap.size w w' := by
  have hf' : Pref7.dowserref07_Append.f 1 l room kind s = some (l ++ [⟨kind, s⟩], (l.length : Int), 0) := by
    have e1 : decide ((s.size : Int) > 240) = false := by simp; omega
    unfold Pref7.dowserref07_Append.f
    rw [if_neg (by omega), if_neg (by omega), e1]
    rw [Pref7.dowserref07_Append.j0, if_neg (by decide), if_neg (by omega)]
    simp only [Option.bind_some, List.nil_append, List.length_nil, Nat.zero_add, List.length_cons]
    rw [if_pos (by omega), if_pos (by omega)]
  exact Pref7.dowserref07_Append.calls 1 A c l room kind s _ _ _ w hC hc ⟨rfl⟩ hf'

/-- Pages that read as these. -/
def Holds (D : Dk) (h : Nat) (l : List S23) : Prop := ∀ i (hi : i < l.length), 0 ≤ l[i].f0 ∧ l[i].f0 ≤ 255 ∧ l[i].f1.size ≤ 240 ∧ D.sec (D.sector h i) = sectorOf l[i].f0 l[i].f1

theorem Holds.read {D : Dk} {h : Nat} {l : List S23} (H : Holds D h l) (hL : D.Live) (h2 : 2 ≤ D.now.length) (hh : h ≤ 1) (hn : l.length ≤ D.room) (i : Nat) (hi : i < l.length) :
    D.pgRead h l.length (i : Int) = ((rd_T23 l (i : Int)).f0, (rd_T23 l (i : Int)).f1, 0) := by
  obtain ⟨k0, k1, hs, he⟩ := H i hi
  rw [pgRead_live hL h2 h l.length hh hn i hi, he, parse_sector _ _ k0 k1 hs]
  have : rd_T23 l (i : Int) = l[i] := by simp [rd_T23, List.getD_eq_getElem?_getD, List.getElem?_eq_getElem hi]
  rw [this]

set_option maxHeartbeats 2000000 in
set_option maxRecDepth 100000 in
theorem law7_reads (w : World) (b : Nat) (L : Loc) (D : Dk) (h : Nat) (l : List S23) (A : Option Addr) (c : Nat) (p : PagesAt w b L h l.length) (d : DiskAt w L D) (hh : h ≤ 1) (hn : l.length ≤ D.room) (H : Holds D h l) (hL : D.Live) (hC : Kd.C k23 w A l.length l) :
    Calls Try.prog 48 #[.pointer (some ⟨b, 0, none⟩), .slice A l.length c] w fun e w' => e = .returned (.bool true) ∧ Below w.heap.size w w' := by
  have HP := Lib.hid p
  have HD := Lib.hid d
  have HN := Lib.hid hn
  have HC := Lib.hid hC
  have HR := Lib.hid (H.read hL d.ok.least hh hn)
  have HB : Hid (Below w.heap.size w w) := Lib.hid (Below.refl _ _)
  have hl : (l.length : Int) ≤ 40000 := by have := room_le d.ok; omega
  clear p d hn hC H hL
  go_enter Try.func48, Try.ntmps48
  go_wp2_with fail
  go_loopw [12] (fun x wr => ∃ k : Nat, x = .int .i64 k ∧ k ≤ l.length ∧ Hid (Below w.heap.size w wr)) (fun x _ => l.length - (intOf x).toNat)
  case atStart => exact ⟨0, rfl, by omega, HB⟩
  case round =>
    obtain ⟨k, rfl, hk, HK⟩ := hrel
    clear HB
    by_cases hlt : k < l.length
    · obtain ⟨ad, hA, ha0, ha1⟩ := at_T23 (Kd.C_below HC.out HK.out) (k : Int) (by omega) (by omega)
      have hA0 := hA
      subst hA0
      obtain ⟨k0, s0, hks⟩ : ∃ k0 s0, rd_T23 l (k : Int) = ⟨k0, s0⟩ := ⟨_, _, rfl⟩
      have hrd := HR.out k hlt
      rw [hks] at ha0 ha1 hrd
      simp only [Int.toNat_natCast] at ha0 ha1
      have CR := fun W (hb : Below w.heap.size w W) => pages_Read W b L D h l.length (k : Int) (HP.out.below hb) (HD.out.below hb) hh HN.out
      rw [hrd] at CR
      have CR' := Lib.hid CR
      have hkI : (k : Int) < (l.length : Int) := by omega
      clear hrd CR hks hA
      have HK0 := Lib.hid hlt
      clear hlt hk
      go_wp2_with fail
      have HBa := Lib.hid (bel_alloc HK.out (.cells #[.int .i64 k0, .string s0] 23 (0, 0)))
      have HX := Lib.hid (heap_alloc_self wr (.cells #[.int .i64 k0, .string s0] 23 (0, 0)))
      generalize wr.heap.size = g at *
      refine (CR'.out _ HBa.out).mono ?_
      rintro e w2 ⟨rfl, hb2⟩
      have HX2 := Lib.hid ((hb2.block _ (lt_of_heap HX.out)).trans HX.out)
      have HB2 := Lib.hid (bel_then HBa.out hb2)
      have x0 : w2.cell? ⟨g, 0, none⟩ = some (.int .i64 k0) := (cell_of_heap HX2.out 0).trans rfl
      have x1 : w2.cell? ⟨g, 1, none⟩ = some (.string s0) := (cell_of_heap HX2.out 1).trans rfl
      clear hb2 HX HX2 HBa CR'
      go_wp2
      go_roundw
      case rel => exact ⟨k + 1, by go_num, by have := HK0.out; omega, HB2⟩
      case measure => have := HK0.out; simp [intOf]; omega
    · have hkI : ¬ (k : Int) < (l.length : Int) := by omega
      go_wp2
      go_ret
      exact ⟨rfl, HK.out⟩
end Go.Proofs.Ytcbefilcdelplaa
