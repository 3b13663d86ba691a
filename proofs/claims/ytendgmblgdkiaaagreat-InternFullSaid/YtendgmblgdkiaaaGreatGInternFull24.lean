/- Pages' Read, walked. A disk that runs freely: what writes and pages do there. Plain laws. Pages as a list of kinds and payloads, on a disk that may go down: what appending does. Plain. -/
import Derived.Test.YtendgmblgdkiaaaGreatGInternFull0
import Derived.Test.YtendgmblgdkiaaaGreatGInternFull23
import Derived.Laws.DeepStrings4
import Derived.Test.YtendgmblgdkiaaaGreatGInternFull3
namespace Go.Proofs.YtendgmblgdkiaaaGreat
open Go.RowKit
set_option linter.unusedVariables false
set_option linter.unusedSimpArgs false

theorem run_cut (s : ByteArray) (i j : Int) (h0 : 0 ≤ i) (h1 : i ≤ j) (h2 : j ≤ (s.size : Int)) (W : World) : (Instr.slice 9 (.string s) (some (.int .i64 i)) (some (.int .i64 j)) none).run Tryz.prog W = .ok (.string (s.extract i.toNat j.toNat)) W := by
 rw [run_slice_string_if (h := Tryz.underlying9), if_pos ⟨by omega, h2⟩, if_pos ⟨h0, h1⟩]

theorem toList_inj {a b : ByteArray} (h : a.toList = b.toList) : a = b := by
 rw [ByteArray.toList_eq, ByteArray.toList_eq] at h
 exact ByteArray.ext (Array.toList_inj.1 h)

theorem get_byte (s : ByteArray) (i : Nat) (h : i < s.size) : s.get! i = s[i] := by
 show s.data[i]! = s.data[i]
 have h' : i < s.data.size := h
 exact getElem!_pos s.data i h'

theorem bel_then {w w1 w2 : World} (h : Below w.heap.size w w1) (k : Below w1.heap.size w1 w2) : Below w.heap.size w w2 := h.trans (k.mono h.size)
theorem bel_alloc {w w1 : World} (h : Below w.heap.size w w1) (o : Obj) : Below w.heap.size w (w1.alloc o) := h.alloc h.size o
theorem bel_drewN {w w1 : World} (h : Below w.heap.size w w1) (n : Nat) : Below w.heap.size w (w1.drewN n) := ⟨h.os, h.tape, h.output, h.size, h.block⟩
theorem bel_drew {w w1 : World} (h : Below w.heap.size w w1) : Below w.heap.size w w1.drew := ⟨h.os, h.tape, h.output, h.size, h.block⟩
theorem pw_below_drewN_ {B : Nat} {w W : World} (h : Below B w W) (n : Nat) : Below B w (W.drewN n) := ⟨h.os, h.tape, h.output, h.size, h.block⟩

set_option maxHeartbeats 2000000 in
set_option maxRecDepth 100000 in
theorem pages_Read_ok (w : World) (b : Nat) (L : Loc) (D : Dk) (h n : Nat) (i : Nat) (p : PagesAt w b L h n) (d : DiskAt w L D) (hh : h ≤ 1) (hn : n ≤ D.room) (hi : i < n)
  (s : ByteArray) (he : D.read (D.sector h i) = (s, 0)) (hs : s.size = 256) :
  Calls Tryz.prog 158 #[.pointer (some ⟨b, 0, none⟩), .int .i64 (i : Int)] w fun e w' =>
   e = .returned (.tuple #[.int .i64 (pgParse s).1, .string (pgParse s).2.1, .int .i64 (pgParse s).2.2]) ∧ Below w.heap.size w w' := by
 have hr := room_le d.ok
 have c0 := p.c0
 have c2 := p.c2
 have CS := fun W (p : PagesAt W b L h n) (d : DiskAt W L D) => pages_sector W b L D h n i p d hh om_
 have CD := fun W (d : DiskAt W L D) => disk_Read W L D (D.sector h i) d
 rw [he] at CD
 obtain ⟨q, hq⟩ : ∃ q, q = D.sector h i := ⟨_, rfl⟩
 rw [← hq] at CS CD
 have hii : (i : Int) < (n : Int) := by omega
 have h4 : 4 < s.size := by omega
 have h5 : 5 < s.size := by omega
 have g4 := get_byte s 4 h4
 have g5 := get_byte s 5 h5
 have b4 : (s[4].toNat : Int) < 256 := by have := s[4].toNat_lt; omega
 have b5 : (s[5].toNat : Int) < 256 := by have := s[5].toNat_lt; omega
 obtain ⟨K, hK⟩ : ∃ K, K = s[5].toNat := ⟨_, rfl⟩
 obtain ⟨T, hT⟩ : ∃ T, T = s[4].toNat := ⟨_, rfl⟩
 have hpg : pgParse s = if 240 < K then (0, ByteArray.empty, 8) else if s = sectorOf (T : Int) (s.extract 6 (6 + K)) then ((T : Int), s.extract 6 (6 + K), 0) else (0, ByteArray.empty, 8) := by
  rw [pgParse, g4, g5, ← hK, ← hT]
 rw [hpg]
 have CS' := hi_ CS
 have CD' := hi_ CD
 have HP := hi_ p
 have HD := hi_ d
 have HK := hi_ hK
 have HT := hi_ hT
 have hB0 := hi_ (Below.refl w.heap.size w)
 by_cases hk : 240 < K
 ·rw [if_pos hk]
  have hk2 : (240 : Int) < (s[5].toNat : Int) := by omega
  clear CS CD p d he hq hn hr g4 g5 hpg hK hT hk
  go_enter Tryz.func158, Tryz.ntmps158
  go_wp2_with fail
  go_quiet (first | ((go_at_call 129; exact Calls.quiet_of (CS'.out _ (HP.out.drewN _) (HD.out.drewN _)))) | ((go_at_call 179; exact quietS (CD'.out _ (HD.out.drewN _)))))
  go_wp2_with fail
  go_quiet (fail)
  go_wp2
  go_ret3
  exact ⟨rfl, pw_below_drewN_ hB0.out _⟩
 ·rw [if_neg hk]
  obtain ⟨pl, hpl⟩ : ∃ pl, s.extract 6 (6 + K) = pl := ⟨_, rfl⟩
  have hps : pl.size = K := by rw [← hpl, ByteArray.size_extract]; omega
  rw [hpl]
  have CT := fun W => pages_text (T : Int) pl W om_
  obtain ⟨x, hx⟩ : ∃ x, pageText (T : Int) pl = x := ⟨_, rfl⟩
  have hxs : x.size = 252 := by rw [← hx, pageText_size _ _ (by omega)]
  have CO := fun b0 W hc => crc_Of b0 x W (by unfold maxLen; omega) hc
  obtain ⟨y, hy⟩ : ∃ y, four ((crcOf x.data.toList).toNat : Int) = y := ⟨_, rfl⟩
  have CR := fun W => crc_Four ((crcOf x.data.toList).toNat : Int) W
  have hys : y.size = 4 := by rw [← hy, four_size]
  have hadd : ¬ (9223372036854775807 < y.size + x.size) := by omega
  have hsec : sectorOf (T : Int) pl = y ++ x := by rw [sectorOf, hx, hy]
  rw [hsec]
  rw [hx] at CT
  rw [hy] at CR
  have hk2 : ¬ (240 : Int) < (K : Int) := by omega
  have hcut := run_cut s 6 (6 + (K : Int)) om_ om_ om_
  rw [show ((6 : Int) + (K : Int)).toNat = 6 + K from by omega, show (6 : Int).toNat = 6 from rfl, hpl] at hcut
  have hK5 : (s[5].toNat : Int) = (K : Int) := by rw [hK]
  have hT2 : (s[4].toNat : Int) = (T : Int) := by rw [hT]
  have hk3 : 6 + K ≤ s.size := by omega
  have hk4 : (6 : Int) + (K : Int) ≤ (s.size : Int) := by omega
  have CT' := hi_ CT
  have CO' := hi_ CO
  have CR' := hi_ CR
  clear CS CD CT CO CR p d he hq hn hr g4 g5 hpg hK hT hk hpl hx hy hsec hps hxs hys
  by_cases hne : s = y ++ x
  ·rw [if_pos hne]
   have hb2 : (s.toList == (y ++ x).toList) = true := by rw [hne]; simp
   clear hne
   go_enter Tryz.func158, Tryz.ntmps158
   go_wp2_with fail
   go_quiet (first | ((go_at_call 129; exact Calls.quiet_of (CS'.out _ (HP.out.drewN _) (HD.out.drewN _)))) | ((go_at_call 179; exact quietS (CD'.out _ (HD.out.drewN _)))))
   go_wp2_with fail
   go_quiet (fail)
   go_wp2_with fail
   refine (CT'.out _).mono ?_
   rintro e w1 ⟨rfl, hb1⟩
   go_wp2_with fail
   refine (CO'.out _ _ (cell_new1 _ _ _ _ _ rfl)).mono ?_
   rintro e w' ⟨rfl, rfl⟩
   go_wp2_with fail
   refine (CR'.out _).mono ?_
   rintro e w3 ⟨rfl, hb3⟩
   have hB := hi_ (bel_then (bel_alloc (bel_then (bel_drewN hB0.out _) hb1) _) hb3)
   clear hb1 hb3
   go_wp2
   go_ret3
   exact ⟨rfl, hB.out⟩
  ·rw [if_neg hne]
   have hb2 : (s.toList == (y ++ x).toList) = false := by
    rw [beq_eq_false_iff_ne]
    intro hx
    exact hne (toList_inj hx)
   clear hne
   go_enter Tryz.func158, Tryz.ntmps158
   go_wp2_with fail
   go_quiet (first | ((go_at_call 129; exact Calls.quiet_of (CS'.out _ (HP.out.drewN _) (HD.out.drewN _)))) | ((go_at_call 179; exact quietS (CD'.out _ (HD.out.drewN _)))))
   go_wp2_with fail
   go_quiet (fail)
   go_wp2_with fail
   refine (CT'.out _).mono ?_
   rintro e w1 ⟨rfl, hb1⟩
   go_wp2_with fail
   refine (CO'.out _ _ (cell_new1 _ _ _ _ _ rfl)).mono ?_
   rintro e w' ⟨rfl, rfl⟩
   go_wp2_with fail
   refine (CR'.out _).mono ?_
   rintro e w3 ⟨rfl, hb3⟩
   have hB := hi_ (bel_then (bel_alloc (bel_then (bel_drewN hB0.out _) hb1) _) hb3)
   clear hb1 hb3
   go_wp2
   go_ret3
   exact ⟨rfl, hB.out⟩

theorem read_ok_size {D : Dk} (hD : D.Ok) {i : Int} {s : ByteArray} (h : D.read i = (s, 0)) : s.size = 256 := by
 unfold Dk.read at h
 split at h
 ·simp at h
 ·split at h
  ·rename_i h1
   simp [Dk.is] at h1
   have : s = D.sec i.toNat := by simp at h; exact h.symm
   rw [this]
   exact sec_size hD om_
  ·simp at h

set_option maxHeartbeats 1000000 in
set_option maxRecDepth 100000 in
theorem pages_Read_er (w : World) (b : Nat) (L : Loc) (D : Dk) (h n : Nat) (i : Nat) (p : PagesAt w b L h n) (d : DiskAt w L D) (hh : h ≤ 1) (hn : n ≤ D.room) (hi : i < n)
  (s : ByteArray) (er : Int) (her : er ≠ 0) (he : D.read (D.sector h i) = (s, er)) :
  Calls Tryz.prog 158 #[.pointer (some ⟨b, 0, none⟩), .int .i64 (i : Int)] w fun e w' =>
   e = .returned (.tuple #[.int .i64 0, .string ByteArray.empty, .int .i64 er]) ∧ Below w.heap.size w w' := by
 have hr := room_le d.ok
 have c0 := p.c0
 have c2 := p.c2
 have CS := fun W (p : PagesAt W b L h n) (d : DiskAt W L D) => pages_sector W b L D h n i p d hh om_
 have CD := fun W (d : DiskAt W L D) => disk_Read W L D (D.sector h i) d
 rw [he] at CD
 obtain ⟨q, hq⟩ : ∃ q, q = D.sector h i := ⟨_, rfl⟩
 rw [← hq] at CS CD
 have hii : (i : Int) < (n : Int) := by omega
 have hb1 : (er != 0) = true := by simpa using her
 have hb2 : (er == 0) = false := by simpa using her
 have CS' := hi_ CS
 have CD' := hi_ CD
 have HP := hi_ p
 have HD := hi_ d
 have hB0 := hi_ (Below.refl w.heap.size w)
 clear CS CD p d he hq hn hr her
 go_enter Tryz.func158, Tryz.ntmps158
 go_wp2_with fail
 go_quiet (first | ((go_at_call 129; exact Calls.quiet_of (CS'.out _ (HP.out.drewN _) (HD.out.drewN _)))) | ((go_at_call 179; exact quietS (CD'.out _ (HD.out.drewN _)))))
 go_wp2
 go_ret3
 exact ⟨rfl, bel_drewN hB0.out _⟩

theorem pages_Read (w : World) (b : Nat) (L : Loc) (D : Dk) (h n : Nat) (i : Int) (p : PagesAt w b L h n) (d : DiskAt w L D) (hh : h ≤ 1) (hn : n ≤ D.room) :
  Calls Tryz.prog 158 #[.pointer (some ⟨b, 0, none⟩), .int .i64 i] w fun e w' =>
   e = .returned (.tuple #[.int .i64 (D.pgRead h n i).1, .string (D.pgRead h n i).2.1, .int .i64 (D.pgRead h n i).2.2]) ∧ Below w.heap.size w w' := by
 by_cases hbad : i < 0 ∨ (n : Int) ≤ i
 ·have e : D.pgRead h n i = (0, ByteArray.empty, 1) := by simp only [Dk.pgRead, if_pos hbad]
  rw [e]
  have c2 := p.c2
  have hB0 := hi_ (Below.refl w.heap.size w)
  clear p d e
  by_cases h1 : i < 0
  ·clear hbad
   go_enter Tryz.func158, Tryz.ntmps158
   go_wp2
   go_ret3
   exact ⟨rfl, hB0.out⟩
  ·have h2 : (n : Int) ≤ i := by omega
   clear hbad
   go_enter Tryz.func158, Tryz.ntmps158
   go_wp2
   go_ret3
   exact ⟨rfl, hB0.out⟩
 ·obtain ⟨j, rfl⟩ := Int.eq_ofNat_of_zero_le (show 0 ≤ i by omega)
  obtain ⟨s, er, he⟩ : ∃ s er, D.read (D.sector h j) = (s, er) := ⟨_, _, rfl⟩
  by_cases hz : er = 0
  ·subst hz
   have e : D.pgRead h n j = pgParse s := by simp only [Dk.pgRead, if_neg hbad, Int.toNat_natCast, he]; rfl
   rw [e]
   exact pages_Read_ok w b L D h n j p d hh hn om_ s he (read_ok_size d.ok he)
  ·have e : D.pgRead h n j = (0, ByteArray.empty, er) := by simp only [Dk.pgRead, if_neg hbad, Int.toNat_natCast, he, if_pos hz]
   rw [e]
   exact pages_Read_er w b L D h n j p d hh hn om_ s er hz he

end Go.Proofs.YtendgmblgdkiaaaGreat

namespace Go.Proofs.YtendgmblgdkiaaaGreat
open Go.RowKit
set_option linter.unusedVariables false
set_option linter.unusedSimpArgs false

def Dk.Live (D : Dk) : Prop := D.down = false ∧ D.halt = -1

theorem make_live (n : Int) : (Dk.make n).Live := ⟨rfl, rfl⟩
theorem make_now (n : Int) : (Dk.make n).now.length = (min (max n 2) 65536).toNat := by simp [Dk.make]
theorem loosen_now (D : Dk) (i : Nat) : (D.loosen i).now = D.now := by unfold Dk.loosen; split <;> rfl
theorem fill_full {s : ByteArray} (h : s.size = 256) : Dk.fill s = s := by
 rw [Dk.fill, h, Nat.sub_self, zeros_nil]

theorem room_of {D E : Dk} (h : E.now.length = D.now.length) : E.room = D.room := by unfold Dk.room; rw [h]
theorem sector_of {D E : Dk} (h : E.now.length = D.now.length) (i n : Nat) : E.sector i n = D.sector i n := by unfold Dk.sector; rw [room_of h]
theorem sector_lt {D : Dk} {h n : Nat} (h2 : 2 ≤ D.now.length) (hh : h ≤ 1) (hn : n < D.room) : D.sector h n < D.now.length := by
 unfold Dk.sector
 have hr : 2 * D.room ≤ D.now.length - 2 := by unfold Dk.room; omega
 match h, hh with
 | 0, _ => simp; omega
 | 1, _ => simp; omega

theorem sec_set {D E : Dk} {i : Nat} {s : ByteArray} (h : E.now = D.now.set i s) (hi : i < D.now.length) : E.sec i = s := by
 simp [Dk.sec, h, hi]
theorem sec_set_ne {D E : Dk} {i j : Nat} {s : ByteArray} (h : E.now = D.now.set i s) (hne : j ≠ i) : E.sec j = D.sec j := by
 simp [Dk.sec, h, List.getElem?_set_ne (Ne.symm hne)]

end Go.Proofs.YtendgmblgdkiaaaGreat

namespace Go.Proofs.YtendgmblgdkiaaaGreat
open Go.RowKit
set_option linter.unusedVariables false
set_option linter.unusedSimpArgs false

abbrev Pg := Int × ByteArray
/-- Pages that read as these. -/
def PHolds (D : Dk) (h : Nat) (P : List Pg) : Prop := ∀ (i : Nat) (k : Int) (s : ByteArray), P[i]? = some (k, s) → 0 ≤ k ∧ k ≤ 255 ∧ s.size ≤ 240 ∧ D.sec (D.sector h i) = sectorOf k s
/-- What writing to some sectors alone leaves of a disk. -/
structure Wr (S : Nat → Prop) (D D' : Dk) : Prop where
 len : D'.now.length = D.now.length
 now : ∀ i, ¬ S i → D'.sec i = D.sec i
 was : ∀ i, ¬ S i → D'.was.lookup i = D.was.lookup i
 live : D.Live → D'.Live
theorem Wr.refl (S : Nat → Prop) (D : Dk) : Wr S D D := ⟨rfl, fun _ _ => rfl, fun _ _ => rfl, id⟩
theorem Wr.trans {S : Nat → Prop} {D D' D'' : Dk} (h : Wr S D D') (k : Wr S D' D'') : Wr S D D'' :=
 ⟨k.len.trans h.len, fun i hi => (k.now i hi).trans (h.now i hi), fun i hi => (k.was i hi).trans (h.was i hi), fun l => k.live (h.live l)⟩
theorem Wr.mono {S T : Nat → Prop} {D D' : Dk} (h : Wr S D D') (hs : ∀ i, S i → T i) : Wr T D D' :=
 ⟨h.len, fun i hi => h.now i (fun x => hi (hs i x)), fun i hi => h.was i (fun x => hi (hs i x)), h.live⟩
theorem Wr.room {S : Nat → Prop} {D D' : Dk} (h : Wr S D D') : D'.room = D.room := room_of h.len
theorem Wr.sector {S : Nat → Prop} {D D' : Dk} (h : Wr S D D') (a b : Nat) : D'.sector a b = D.sector a b := sector_of h.len a b

theorem sec_inj {D : Dk} {h n n' : Nat} (e : D.sector h n = D.sector h n') : n = n' := by unfold Dk.sector at e; omega

theorem read_up {D : Dk} (h : D.down = false) (i : Nat) (hi : i < D.now.length) : D.read i = (D.sec i, 0) := by
 have hI : D.is (i : Int) = true := by simp [Dk.is, hi]
 simp [Dk.read, h, hI]
theorem pgRead_up {D : Dk} (h : D.down = false) (h2 : 2 ≤ D.now.length) {half : Nat} {P : List Pg} (hh : half ≤ 1) (hn : P.length ≤ D.room) (H : PHolds D half P) {i : Nat} {k : Int} {s : ByteArray} (hi : P[i]? = some (k, s)) :
  D.pgRead half P.length i = (k, s, 0) := by
 have hlt := (List.getElem?_eq_some_iff.1 hi).1
 have hl := sector_lt h2 hh (show i < D.room by omega)
 obtain ⟨h0, h1, hs, he⟩ := H i k s hi
 unfold Dk.pgRead
 rw [if_neg (by omega), Int.toNat_natCast, read_up h _ hl]
 simp only [ne_eq, not_true_eq_false, if_false]
 rw [he, parse_sector k s h0 h1 hs]
/-- The ways in which appending ends: done; no room; down. -/
structure AppOk (h : Nat) (D : Dk) (P : List Pg) (D' : Dk) (P' : List Pg) : Prop where
 wr : Wr (fun s => ∃ j, P.length ≤ j ∧ s = D.sector h j) D D'
 pre : ∃ X, P' = P ++ X
 room : P'.length ≤ D'.room
 holds : PHolds D' h P'
theorem AppOk.refl {h : Nat} {D : Dk} {P : List Pg} (hr : P.length ≤ D.room) (H : PHolds D h P) : AppOk h D P D P := ⟨Wr.refl _ _, ⟨[], by simp⟩, hr, H⟩
theorem AppOk.trans {h : Nat} {D D' D'' : Dk} {P P' P'' : List Pg} (a : AppOk h D P D' P') (b : AppOk h D' P' D'' P'') : AppOk h D P D'' P'' := by
 obtain ⟨X, rfl⟩ := a.pre
 obtain ⟨Y, rfl⟩ := b.pre
 refine ⟨a.wr.trans (b.wr.mono fun s ⟨j, hj, hs⟩ => ⟨j, by simp at hj; omega, by rw [hs, a.wr.sector]⟩), ⟨X ++ Y, by simp⟩, b.room, b.holds⟩
/-- What was there stays there. -/
theorem PHolds.wr {h : Nat} {D D' : Dk} {P : List Pg} (H : PHolds D h P) (w : Wr (fun s => ∃ j, P.length ≤ j ∧ s = D.sector h j) D D') : PHolds D' h P := by
 intro i k s hi
 obtain ⟨h0, h1, hs, he⟩ := H i k s hi
 have hlt := (List.getElem?_eq_some_iff.1 hi).1
 refine ⟨h0, h1, hs, ?_⟩
 rw [w.sector, w.now _ (by
  rintro ⟨j, hj, e⟩
  have := sec_inj e
  omega)]
 exact he
theorem PHolds.pre {h : Nat} {D : Dk} {P X : List Pg} (H : PHolds D h (P ++ X)) : PHolds D h P := fun i k s hi => H i k s (by rw [List.getElem?_append_left (List.getElem?_eq_some_iff.1 hi).1]; exact hi)

theorem lookup_put (D : Dk) (i : Nat) (s : ByteArray) (j : Nat) (hj : j ≠ i) : (D.put i s).was.lookup j = D.was.lookup j := by
 unfold Dk.put Dk.loosen
 split
 ·rfl
 ·show (D.was ++ [(i, D.sec i)]).lookup j = _
  rw [List.lookup_append]
  have : List.lookup j [(i, D.sec i)] = none := by
   have : (j == i) = false := by simpa using hj
   simp [List.lookup, this]
  rw [this]
  simp
theorem append_step {D : Dk} (hO : D.Ok) (hd : D.down = false) {h : Nat} {P : List Pg} (hh : h ≤ 1) (hn : P.length ≤ D.room) (H : PHolds D h P) (k : Int) (s : ByteArray) (h0 : 0 ≤ k) (h1 : k ≤ 255) (hs : s.size ≤ 240) :
  (P.length < D.room ∧ ∃ D', D.pgAppend h P.length k s = (D', P.length + 1, (P.length : Int), 0) ∧ D'.down = false ∧ AppOk h D P D' (P ++ [(k, s)])) ∨
  (P.length = D.room ∧ D.pgAppend h P.length k s = (D, P.length, -1, 5)) ∨
  (∃ D', D.pgAppend h P.length k s = (D', P.length, -1, 6) ∧ D'.down = true ∧ ¬ D.Live ∧ AppOk h D P D' P) := by
 by_cases hr : D.room = P.length
 ·refine .inr (.inl ⟨hr.symm, ?_⟩)
  unfold Dk.pgAppend
  rw [if_neg (by omega), if_pos hr]
 ·have hlt : P.length < D.room := by omega
  have hl := sector_lt hO.least hh hlt
  have hI : D.is (D.sector h P.length : Int) = true := by simp [Dk.is, hl]
  have hz := sectorOf_size k s om_
  by_cases ht : D.halt = 0
  ·refine .inr (.inr ⟨{ D with down := true }, ?_, rfl, fun l => by have := l.2; omega, ?_⟩)
   ·unfold Dk.pgAppend
    rw [if_neg (by omega), if_neg hr]
    have : D.write (D.sector h P.length : Int) (sectorOf k s) = ({ D with down := true }, 6) := by
     simp only [Dk.write, hd, hI, Dk.turn, ht]
     rw [if_neg (by simp), if_neg (by simp), if_neg (by omega), if_pos (by simp)]
     rfl
    rw [this]
    rfl
   ·refine ⟨⟨rfl, fun _ _ => rfl, fun _ _ => rfl, fun l => absurd l.2 om_⟩, ⟨[], by simp⟩, hn, H⟩
  ·obtain ⟨D1, hD1⟩ : ∃ D1, D1 = D.turn.1 := ⟨_, rfl⟩
   have ht2 : D.turn = ({ D with halt := if D.halt < 0 then -1 else D.halt - 1, writes := wrap64 (D.writes + 1) }, true) := by unfold Dk.turn; rw [if_neg ht]
   have hw : D.write (D.sector h P.length : Int) (sectorOf k s) = (D.turn.1.put (D.sector h P.length) (sectorOf k s), 0) := by
    simp only [Dk.write, hd, hI, ht2]
    rw [if_neg (by simp), if_neg (by simp), if_neg (by omega), if_neg (by simp)]
    rfl
   have hnow : (D.turn.1.put (D.sector h P.length) (sectorOf k s)).now = D.now.set (D.sector h P.length) (sectorOf k s) := by
    simp only [Dk.put, loosen_now, ht2]
    rw [fill_full hz]
   have hsec : ∀ i, i ≠ D.sector h P.length → (D.turn.1.put (D.sector h P.length) (sectorOf k s)).sec i = D.sec i := fun i hi => sec_set_ne hnow hi
   have hwas : ∀ i, i ≠ D.sector h P.length → (D.turn.1.put (D.sector h P.length) (sectorOf k s)).was.lookup i = D.was.lookup i := fun i hi => by
    rw [lookup_put _ _ _ _ hi, ht2]
   have hdown : (D.turn.1.put (D.sector h P.length) (sectorOf k s)).down = false := by
    simp only [Dk.put, Dk.loosen, ht2]
    split <;> exact hd
   have hhalt : D.Live → (D.turn.1.put (D.sector h P.length) (sectorOf k s)).Live := by
    intro l
    refine ⟨hdown, ?_⟩
    have e : (D.turn.1.put (D.sector h P.length) (sectorOf k s)).halt = D.turn.1.halt := by
     simp only [Dk.put, Dk.loosen]
     split <;> rfl
    rw [e, ht2]
    simp [l.2]
   have hlen : (D.turn.1.put (D.sector h P.length) (sectorOf k s)).now.length = D.now.length := by rw [hnow, List.length_set]
   have hWr : Wr (fun s => ∃ j, P.length ≤ j ∧ s = D.sector h j) D (D.turn.1.put (D.sector h P.length) (sectorOf k s)) :=
    ⟨hlen, fun i hi => hsec i (fun e => hi ⟨P.length, Nat.le_refl _, e⟩), fun i hi => hwas i (fun e => hi ⟨P.length, Nat.le_refl _, e⟩), hhalt⟩
   refine .inl ⟨hlt, _, ?_, hdown, hWr, ⟨[(k, s)], rfl⟩, ?_, ?_⟩
   ·unfold Dk.pgAppend
    rw [if_neg (by omega), if_neg hr, hw]
    rfl
   ·rw [hWr.room, List.length_append, List.length_singleton]; omega
   ·intro i k' s' hi
    by_cases hi' : i < P.length
    ·rw [List.getElem?_append_left hi'] at hi
     exact (H.wr hWr) i k' s' hi
    ·rw [List.getElem?_append_right (by omega)] at hi
     have : i - P.length = 0 := by
      rcases Nat.eq_zero_or_pos (i - P.length) with h | h
      ·exact h
      ·rw [List.getElem?_eq_none (by simp; omega)] at hi; cases hi
     have hie : i = P.length := by omega
     rw [this] at hi
     simp only [List.getElem?_cons_zero, Option.some.injEq, Prod.mk.injEq] at hi
     obtain ⟨rfl, rfl⟩ := hi
     subst hie
     refine ⟨h0, h1, hs, ?_⟩
     rw [hWr.sector]
     exact sec_set hnow hl
end Go.Proofs.YtendgmblgdkiaaaGreat
