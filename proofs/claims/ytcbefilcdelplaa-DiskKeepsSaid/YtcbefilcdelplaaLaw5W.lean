/- DiskKeeps, walked. -/
import Derived.Test.YtcbefilcdelplaaLaw5K
namespace Go.Proofs.Ytcbefilcdelplaa
open Go.RowKit
set_option linter.unusedVariables false
set_option linter.unusedSimpArgs false
attribute [local go_sem ↓] max_mx min_mn

structure RowsAt (w : World) (L : Loc) (p q : Nat) (D : Dk) (sure last : List ByteArray) (wr : World) : Prop where
  d : DiskAt wr L D
  s : RowAt wr p sure
  l : RowAt wr q last
  b : Below w.heap.size w wr

theorem list5 {α : Type} {l : List α} (h : l.length = 5) : ∃ a b c d e, l = [a, b, c, d, e] := by
  match l, h with
  | [a, b, c, d, e], _ => exact ⟨a, b, c, d, e, rfl⟩
theorem crash_loose (D : Dk) (ch : List Int) : (D.crash ch).looseL = [] := by
  rw [Dk.looseL]
  show (([] : List Nat)).mergeSort _ = []
  simp
theorem heap_alloc_next (w : World) (o o' : Obj) : ((w.alloc o).alloc o').heap[w.heap.size + 1]? = some o' := by
  have h := heap_alloc_self (w.alloc o) o'
  have e : (w.alloc o).heap.size = w.heap.size + 1 := by show (w.heap.push o).size = _; simp
  rwa [e] at h
theorem RowsAt.setBoth {w wr w' : World} {L : Loc} {p q : Nat} {D : Dk} {sure last : List ByteArray} (h : RowsAt w L p q D sure last wr) (k : Below wr.heap.size wr w') : RowsAt w L p q D sure last w' :=
  ⟨h.d.below k, h.s.below k, h.l.below k, bel_then h.b k⟩
theorem bel_setCell {w wr : World} {p i : Nat} (h : Below w.heap.size w wr) (hp : w.heap.size ≤ p) (v : Value) : Below w.heap.size w (wr.setCell ⟨p, i, none⟩ v) :=
  bel_keep h ((Keep.refl (fun k => k = p) wr).setCell (p := ⟨p, i, none⟩) (.inl rfl) v) (fun i hi => by subst hi; exact hp)
theorem RowsAt.setS {w wr : World} {L : Loc} {p q : Nat} {D : Dk} {sure last : List ByteArray} (h : RowsAt w L p q D sure last wr) (hp : w.heap.size ≤ p) (hl : ¬ L.foot p) (hpq : q ≠ p) (i : Nat) (s : ByteArray) :
    RowsAt w L p q D (sure.set i s) last (wr.setCell ⟨p, i, none⟩ (.string s)) :=
  ⟨h.d.setCell hl _, h.s.set i s, h.l.other hpq _, bel_setCell h.b hp _⟩
theorem RowsAt.setL {w wr : World} {L : Loc} {p q : Nat} {D : Dk} {sure last : List ByteArray} (h : RowsAt w L p q D sure last wr) (hq : w.heap.size ≤ q) (hl : ¬ L.foot q) (hpq : p ≠ q) (i : Nat) (s : ByteArray) :
    RowsAt w L p q D sure (last.set i s) (wr.setCell ⟨q, i, none⟩ (.string s)) :=
  ⟨h.d.setCell hl _, h.s.other hpq _, h.l.set i s, bel_setCell h.b hq _⟩
theorem RowsAt.drew {w wr : World} {L : Loc} {p q : Nat} {D : Dk} {sure last : List ByteArray} (h : RowsAt w L p q D sure last wr) : RowsAt w L p q D sure last wr.drew := ⟨h.d.drew, h.s.drew, h.l.drew, bel_drew h.b⟩
theorem RowsAt.drewN {w wr : World} {L : Loc} {p q : Nat} {D : Dk} {sure last : List ByteArray} (h : RowsAt w L p q D sure last wr) (m : Nat) : RowsAt w L p q D sure last (wr.drewN m) := ⟨h.d.drewN m, h.s.drewN m, h.l.drewN m, bel_drewN h.b m⟩
theorem RowsAt.frz {w wr : World} {L : Loc} {p q : Nat} {D : Dk} {sure last : List ByteArray} (h : RowsAt w L p q D sure last wr) (i : Nat) : wr.frozen? ⟨p, i, none⟩ = false ∧ wr.frozen? ⟨q, i, none⟩ = false := ⟨h.s.frz i, h.l.frz i⟩

def KeepsAt (w : World) (L : Loc) (p q : Nat) (wr : World) : Prop := ∃ D sure last, RowsAt w L p q D sure last wr ∧ KeepsInv D sure last

set_option maxHeartbeats 8000000 in
set_option maxRecDepth 100000 in
theorem keeps_walk (va vb vc : Value) (n n' : Nat) (f : Nat → ByteArray) (g : Nat → Bool) (choice : List Int) (w : World) (htexts : RowIs w va n (fun i => .string (f i))) (hflags : RowIs w vb n' (fun i => .bool (g i)))
    (hch : IntsAt w vc choice) (hcap : sliceOk vc) :
    Calls Try.prog 7 #[va, vb, vc] w fun e w' => e = .returned (.bool true) ∧ Below w.heap.size w w' := by
  have CN := Lib.hid (fun W => disk_New 5 W)
  obtain ⟨D0, hD0⟩ : ∃ D0, Dk.make 5 = D0 := ⟨_, rfl⟩
  rw [hD0] at CN
  obtain ⟨a, c, rfl, hal, hac⟩ := htexts
  obtain ⟨a', c', rfl, hal', hac'⟩ := hflags
  have HA := Lib.hid hac
  have HA' := Lib.hid hac'
  have HCH := Lib.hid hch
  have HCap := Lib.hid hcap
  have HD0 := Lib.hid hD0
  have HB0 := Lib.hid (Below.refl w.heap.size w)
  obtain ⟨Z, hZ⟩ : ∃ Z, fillTo ByteArray.empty 256 = Z := ⟨_, rfl⟩
  have CF : ∀ W, Calls Try.prog 34 #[.string ⟨#[]⟩] W fun e w' => e = .returned (.string Z) ∧ Below W.heap.size W w' := by
    intro W
    rw [← hZ]
    exact ref05_Fill ByteArray.empty W (by decide)
  have CF' := Lib.hid CF
  have HZ := Lib.hid hZ
  clear hac hac' hch hcap hal hal' hD0 CF hZ
  go_enter Try.func7, Try.ntmps7
  go_wp2_with (first
    | (go_at_call 33; refine (law5_awake _).mono ?_; rintro e w1 ⟨rfl, hb1⟩; have HB1 := Lib.hid (bel_then HB0.out hb1); clear hb1)
    | (go_at_call 14; refine (CN.out _).mono ?_; rintro e w2 ⟨L, rfl, d2, hf2, hb2⟩; have HF := Lib.hid (fun i (h : L.foot i) => Nat.le_trans HB1.out.size (hf2 i h)); have HD2 := Lib.hid d2; have HB2 := Lib.hid (bel_then HB1.out hb2); clear d2 hf2 hb2))
  have hP : Hid (¬ L.foot w2.heap.size ∧ ¬ L.foot (w2.heap.size + 1)) := Lib.hid ⟨fun h => absurd (HD2.out.foot_lt h) (Nat.lt_irrefl _), fun h => absurd (HD2.out.foot_lt h) (by omega)⟩
  have hW : Hid (w.heap.size ≤ w2.heap.size) := HB2.out.size
  have HR0 : Hid (RowsAt w L w2.heap.size (w2.heap.size + 1) D0 (List.replicate 0 Z ++ List.replicate (5 - 0) ByteArray.empty) (List.replicate 0 Z ++ List.replicate (5 - 0) ByteArray.empty) ((w2.alloc (.cells #[.string ⟨#[]⟩, .string ⟨#[]⟩, .string ⟨#[]⟩, .string ⟨#[]⟩, .string ⟨#[]⟩] 60 (0, 0))).alloc (.cells #[.string ⟨#[]⟩, .string ⟨#[]⟩, .string ⟨#[]⟩, .string ⟨#[]⟩, .string ⟨#[]⟩] 60 (0, 0)))) :=
    ⟨(HD2.out.alloc _).alloc _, ⟨rfl, 60, heap_alloc_old (heap_alloc_self w2 _) _⟩, ⟨rfl, 60, heap_alloc_next w2 _ _⟩, bel_alloc (bel_alloc HB2.out _) _⟩
  generalize w2.heap.size = p at *
  clear HD2 HB2 HB1 HB0 CN
  go_loopw [23] (fun x wr => ∃ k : Nat, x = .int .i64 k ∧ k ≤ 5 ∧ Hid (RowsAt w L p (p + 1) D0 (List.replicate k Z ++ List.replicate (5 - k) ByteArray.empty) (List.replicate k Z ++ List.replicate (5 - k) ByteArray.empty) wr)) (fun x _ => 5 - (intOf x).toNat)
  case atStart => exact ⟨0, rfl, by omega, HR0⟩
  case round =>
    clear HR0
    obtain ⟨k, rfl, hk, HK⟩ := hrel
    by_cases hlt : k < 5
    · have hkI : (k : Int) < 5 := by omega
      have Hlt := Lib.hid hlt
      have h5 : k ≤ 4 := by omega
      clear hlt hk
      go_wp2_with fail
      go_region_with (go_at_call 34; (with_reducible refine (CF'.out _).mono ?_); rintro e w4 ⟨rfl, hb4⟩; have R4 : RowsAt w L p (p + 1) D0 (List.replicate k Z ++ List.replicate (5 - k) ByteArray.empty) (List.replicate k Z ++ List.replicate (5 - k) ByteArray.empty) w4 := (by (refine RowsAt.setBoth ?_ hb4; (repeat (first | (with_reducible assumption) | exact HK.out | refine RowsAt.drew ?_)))); have z1 := R4.s.frz k; have z2 := R4.l.frz k; have z3 := R4.s.cell Hlt.out; have z4 := R4.l.cell Hlt.out; clear hb4)
      have HS : Hid (RowsAt w L p (p + 1) D0 (List.replicate (k + 1) Z ++ List.replicate (5 - (k + 1)) ByteArray.empty) (List.replicate (k + 1) Z ++ List.replicate (5 - (k + 1)) ByteArray.empty) ((w4.setCell ⟨p, k, none⟩ (.string Z)).setCell ⟨p + 1, k, none⟩ (.string Z))) := Lib.hid (by
        have h1 := (R4.setS hW hP.out.1 (by omega) k Z).setL (Nat.le_succ_of_le hW) hP.out.2 (by omega) k Z
        rw [fills k Hlt.out] at h1
        exact h1)
      clear R4
      go_wp2
      go_roundw
      case rel => exact ⟨k + 1, by go_num, by have := Hlt.out; omega, HS⟩
      case measure => have := Hlt.out; simp [intOf]; omega
    · have hk5 : k = 5 := by omega
      have hkI : ¬ (k : Int) < 5 := by omega
      rw [hk5] at HK
      have hI0 : KeepsInv D0 (List.replicate 5 Z ++ List.replicate (5 - 5) ByteArray.empty) (List.replicate 5 Z ++ List.replicate (5 - 5) ByteArray.empty) := by
        have hz : Z = zeros 256 := by
          rw [← HZ.out]
          apply ba_ext
          rw [fillTo, app_data]
          rfl
        rw [hz, ← HD0.out]
        refine ⟨make_live 5, by rw [HD0.out]; exact HK.out.d.ok, rfl, rfl, rfl, fun i hi => ?_, fun i hi => rfl⟩
        obtain rfl | rfl | rfl | rfl | rfl : i = 0 ∨ i = 1 ∨ i = 2 ∨ i = 3 ∨ i = 4 := by omega
        all_goals exact zeros_size 256
      have HK2 : Hid (KeepsAt w L p (p + 1) wr) := ⟨D0, _, _, HK.out, hI0⟩
      clear hI0 HK HZ HD0 CF' hlt hk hk5
      go_wp2
      go_loopw [11] (fun x wr => ∃ k : Nat, x = .int .i64 k ∧ k ≤ n ∧ Hid (KeepsAt w L p (p + 1) wr)) (fun x _ => n - (intOf x).toNat)
      case atStart => exact ⟨0, rfl, by omega, HK2⟩
      case round =>
        clear HK2
        obtain ⟨k, rfl, hk, HK⟩ := hrel
        by_cases hlt : k < n ∧ k < 30
        · obtain ⟨hlt, h30⟩ := hlt
          obtain ⟨b, off, ha, hA⟩ := HA.out k hlt
          subst ha
          obtain ⟨D, sure, last, hR, hI⟩ := HK.out
          have q0 := below_cells hR.b _ _ hA
          obtain ⟨s, hs⟩ : ∃ s, cutTo (f k) 256 = s := ⟨_, rfl⟩
          have CC : ∀ W, Calls Try.prog 16 #[.string (f k), .int .i64 256] W fun e w' => e = .returned (.string s) ∧ W = w' := by
            intro W
            rw [← hs]
            exact law01_Cut (f k) 256 W (by omega)
          have hss : s.size ≤ 256 := by rw [← hs]; exact cutTo_le _ _
          obtain ⟨j, hj⟩ : ∃ j : Nat, j = s.size % 5 := ⟨_, rfl⟩
          have hj5 : j < 5 := by omega
          have hjI : ((s.size : Int)).tmod 5 = (j : Int) := by rw [hj]; exact (Int.ofNat_tmod s.size 5)
          obtain ⟨X, hw⟩ : ∃ X, D.write (j : Int) s = (X, 0) := ⟨_, (write_live hI.live j (by rw [hI.now, hI.len]; exact hj5) s hss).1⟩
          have CW := disk_Write wr L D j s hR.d
          rw [hw] at CW
          obtain ⟨z, hz⟩ : ∃ z, fillTo s 256 = z := ⟨_, rfl⟩
          have CF : ∀ W, Calls Try.prog 34 #[.string s] W fun e w' => e = .returned (.string z) ∧ Below W.heap.size W w' := by
            intro W
            rw [← hz]
            exact ref05_Fill s W (by omega)
          have CC' := Lib.hid CC
          have CW' := Lib.hid CW
          have CF' := Lib.hid CF
          have HR := Lib.hid hR
          have HI := Lib.hid hI
          have Hw := Lib.hid hw
          have Hz := Lib.hid hz
          have Hj := Lib.hid hj5
          have Hs := Lib.hid hss
          have hkI : (k : Int) < (n : Int) := by omega
          have hk30 : (k : Int) < 30 := by omega
          have hj5I : (j : Int) < 5 := by omega
          have Hlt := Lib.hid hlt
          clear CC CW CF hR hI hw hz hj5 hss hs hj hA HK hk hlt
          go_wp2_with fail
          refine (CC'.out _).mono ?_
          rintro e w' ⟨rfl, rfl⟩
          go_wp2_with fail
          refine CW'.out.mono ?_
          rintro e w4 ⟨rfl, d4, k4⟩
          have R4 : Hid (RowsAt w L p (p + 1) X sure last w4) := ⟨d4, HR.out.s.keep k4 hP.out.1, HR.out.l.keep k4 hP.out.2, bel_keep HR.out.b k4 HF.out⟩
          have I4 : Hid (KeepsInv X sure (last.set j z)) := Lib.hid (by
            obtain ⟨D', hw', hI'⟩ := HI.out.write j Hj.out s Hs.out (fun D' h => by rw [Hw.out] at h; cases h; exact d4.ok)
            rw [Hw.out] at hw'
            cases hw'
            rw [← Hz.out]
            exact hI')
          clear d4 k4 CW' CC' HR HI Hw
          go_wp2_with fail
          refine (CF'.out _).mono ?_
          rintro e w5 ⟨rfl, hb5⟩
          have r5 := R4.out.setBoth hb5
          have R6 : Hid (RowsAt w L p (p + 1) X sure (last.set j z) (w5.setCell ⟨p + 1, j, none⟩ (.string z))) := Lib.hid (r5.setL (Nat.le_succ_of_le hW) hP.out.2 (by omega) j z)
          have z1 := r5.l.frz j
          have z2 := r5.l.cell Hj.out
          clear r5 hb5 R4 CF'
          by_cases hkn : k < n'
          · obtain ⟨b', off', ha, hA⟩ := HA'.out k hkn
            subst ha
            have q1 := below_cells R6.out.b _ _ hA
            have hknI : (k : Int) < (n' : Int) := by omega
            clear hA hkn
            cases hg : g k with
            | true =>
              rw [hg] at q1
              have CL := disk_Flush _ L X R6.out.d
              obtain ⟨Y, hf⟩ : ∃ Y, X.flush = (Y, 0) := ⟨_, (flush_live I4.out.live).1⟩
              rw [hf] at CL
              have CL' := Lib.hid CL
              have Hf := Lib.hid hf
              clear CL hf hg
              go_wp2_with fail
              refine CL'.out.mono ?_
              rintro e w7 ⟨rfl, d7, k7⟩
              have R7 : Hid (RowsAt w L p (p + 1) Y sure (last.set j z) w7) := ⟨d7, R6.out.s.keep k7 hP.out.1, R6.out.l.keep k7 hP.out.2, bel_keep R6.out.b k7 HF.out⟩
              have I7 : Hid (KeepsInv Y (last.set j z) (last.set j z)) := Lib.hid (by
                obtain ⟨D', hw', hI'⟩ := I4.out.flush (fun D' h => by rw [Hf.out] at h; cases h; exact d7.ok)
                rw [Hf.out] at hw'
                cases hw'
                exact hI')
              clear d7 k7 CL' R6 I4 z1 z2 q1
              obtain ⟨t, ht⟩ : ∃ t, last.set j z = t := ⟨_, rfl⟩
              rw [ht] at R7 I7
              clear ht
              obtain ⟨x0, x1, x2, x3, x4, rfl⟩ := list5 R7.out.l.len
              have c0 : w7.cell? ⟨p + 1, 0, none⟩ = some (.string x0) := R7.out.l.cell (i := 0) (by omega)
              have c1 : w7.cell? ⟨p + 1, 1, none⟩ = some (.string x1) := R7.out.l.cell (i := 1) (by omega)
              have c2 : w7.cell? ⟨p + 1, 2, none⟩ = some (.string x2) := R7.out.l.cell (i := 2) (by omega)
              have c3 : w7.cell? ⟨p + 1, 3, none⟩ = some (.string x3) := R7.out.l.cell (i := 3) (by omega)
              have c4 : w7.cell? ⟨p + 1, 4, none⟩ = some (.string x4) := R7.out.l.cell (i := 4) (by omega)
              have f0 := R7.out.s.frz 0
              have f1 := R7.out.s.frz 1
              have f2 := R7.out.s.frz 2
              have f3 := R7.out.s.frz 3
              have f4 := R7.out.s.frz 4
              have e0 := R7.out.s.cell (i := 0) (by omega)
              have e1 := R7.out.s.cell (i := 1) (by omega)
              have e2 := R7.out.s.cell (i := 2) (by omega)
              have e3 := R7.out.s.cell (i := 3) (by omega)
              have e4 := R7.out.s.cell (i := 4) (by omega)
              have HS : Hid (KeepsAt w L p (p + 1) (((((w7.setCell ⟨p, 0, none⟩ (.string x0)).setCell ⟨p, 1, none⟩ (.string x1)).setCell ⟨p, 2, none⟩ (.string x2)).setCell ⟨p, 3, none⟩ (.string x3)).setCell ⟨p, 4, none⟩ (.string x4))) := Lib.hid (by
                have h5 := ((((R7.out.setS hW hP.out.1 (by omega) 0 x0).setS hW hP.out.1 (by omega) 1 x1).setS hW hP.out.1 (by omega) 2 x2).setS hW hP.out.1 (by omega) 3 x3).setS hW hP.out.1 (by omega) 4 x4
                obtain ⟨y0, y1, y2, y3, y4, hy⟩ := list5 R7.out.s.len
                rw [hy] at h5
                exact ⟨Y, _, _, h5, I7.out⟩)
              go_wp2
              go_roundw
              case rel => exact ⟨k + 1, by go_num, by have := Hlt.out; omega, HS⟩
              case measure => have := Hlt.out; simp [intOf]; omega
            | false =>
              rw [hg] at q1
              have HS : Hid (KeepsAt w L p (p + 1) (w5.setCell ⟨p + 1, j, none⟩ (.string z))) := ⟨X, _, _, R6.out, I4.out⟩
              clear hg
              go_wp2
              go_roundw
              case rel => exact ⟨k + 1, by go_num, by have := Hlt.out; omega, HS⟩
              case measure => have := Hlt.out; simp [intOf]; omega
          · have hknI : ¬ (k : Int) < (n' : Int) := by omega
            have HS : Hid (KeepsAt w L p (p + 1) (w5.setCell ⟨p + 1, j, none⟩ (.string z))) := ⟨X, _, _, R6.out, I4.out⟩
            clear hkn
            go_wp2
            go_roundw
            case rel => exact ⟨k + 1, by go_num, by have := Hlt.out; omega, HS⟩
            case measure => have := Hlt.out; simp [intOf]; omega
        · by_cases hkn : k < n
          · have hkI : (k : Int) < (n : Int) := by omega
            have hk30 : ¬ (k : Int) < 30 := by omega
            clear hlt hkn hk
            obtain ⟨D, sure, last, hR, hI⟩ := HK.out
            have hch' := HCH.out.at (below_cells hR.b)
            have CFw := Lib.hid (law5_Few wr vc choice hch' HCap.out)
            have CC := disk_Crash wr L D (fewV vc) (choice.take 20) hR.d (fewV_ints hch') (fun b off n c hv hfoot => by
              obtain ⟨n', c', hv'⟩ := fewV_block hv
              rw [HCH.out.lt _ _ _ _ hv' (HF.out _ hfoot)]
              rfl)
            obtain ⟨E, hE⟩ : ∃ E, D.crash (choice.take 20) = E := ⟨_, rfl⟩
            have hlive : E.Live := by rw [← hE]; exact crash_live D _
            have hlen : E.now.length = 5 := by rw [← hE, crash_len, hI.now]; exact hI.len
            have hloose : E.looseL = [] := by rw [← hE]; exact crash_loose _ _
            have hsec : ∀ i, i < 5 → ∃ m, m ≤ 256 ∧ E.sec i = joinAt (last.getD i ByteArray.empty) (sure.getD i ByteArray.empty) m := by rw [← hE]; exact fun i hi => hI.crash _ i hi
            have hlz : ∀ i, i < 5 → (last.getD i ByteArray.empty).size = 256 := by
              intro i hi
              have hl := hI.len
              rw [List.getD_eq_getElem?_getD, List.getElem?_eq_getElem (by omega), Option.getD_some]
              exact hI.ok.now _ (by rw [hI.now]; exact List.getElem_mem _)
            have hsz := hI.sz
            rw [hE] at CC
            have CC' := Lib.hid CC
            have HR := Lib.hid hR
            have HLi := Lib.hid hlive
            have HLe := Lib.hid hlen
            have HLo := Lib.hid hloose
            have HSec := Lib.hid hsec
            have HLz := Lib.hid hlz
            have HSz := Lib.hid hsz
            clear hch' CC hE hlive hlen hloose hsec hlz hsz hI hR HK
            go_wp2_with fail
            refine CFw.out.mono ?_
            rintro e w' ⟨rfl, rfl⟩
            go_wp2_with fail
            refine CC'.out.mono ?_
            rintro e w6 ⟨rfl, d6, k6⟩
            have R6 : Hid (RowsAt w L p (p + 1) E sure last w6) := ⟨d6, HR.out.s.keep k6 hP.out.1, HR.out.l.keep k6 hP.out.2, bel_keep HR.out.b k6 HF.out⟩
            clear d6 k6 CC' CFw HR
            go_wp2
            go_loopw [78] (fun x wr => ∃ k : Nat, x = .int .i64 k ∧ k ≤ 5 ∧ Hid (RowsAt w L p (p + 1) E sure last wr)) (fun x _ => 5 - (intOf x).toNat)
            case atStart => exact ⟨0, rfl, by omega, R6⟩
            case round =>
              clear R6
              obtain ⟨k, rfl, hk, HK⟩ := hrel
              by_cases hlt : k < 5
              · have hrd := read_live HLi.out k (by rw [HLe.out]; exact hlt)
                have C1 := disk_Read wr L E k HK.out.d
                rw [hrd] at C1
                obtain ⟨m, hm, hs⟩ := HSec.out k hlt
                have haz := HLz.out k hlt
                have hbz := HSz.out k hlt
                obtain ⟨s, hs'⟩ : ∃ s, E.sec k = s := ⟨_, rfl⟩
                obtain ⟨a, ha⟩ : ∃ a, last.getD k ByteArray.empty = a := ⟨_, rfl⟩
                obtain ⟨b, hb⟩ : ∃ b, sure.getD k ByteArray.empty = b := ⟨_, rfl⟩
                rw [hs'] at C1 hs
                rw [ha] at hs haz
                rw [hb] at hs hbz
                have QA := Lib.hid ha
                have QB := Lib.hid hb
                have hsz : s.size = 256 := by rw [hs]; exact joinAt_size haz hbz hm
                have hszI : (s.size : Int) = 256 := by omega
                have C1' := Lib.hid C1
                have Hlt := Lib.hid hlt
                have HS := Lib.hid hs
                have Haz := Lib.hid haz
                have Hbz := Lib.hid hbz
                have Hsz := Lib.hid hsz
                have hkI : (k : Int) < 5 := by omega
                have hk5 : k < 5 := hlt
                clear C1 hrd hs' ha hb hs haz hbz hsz hlt hk
                go_wp2_with fail
                refine C1'.out.mono ?_
                rintro e w' ⟨rfl, rfl⟩
                go_wp2
                go_loopw [17] (fun x wr' => ∃ j : Nat, x = .int .i64 j ∧ j ≤ 256 ∧ Hid ((∀ i, i < j → s.get! i = a.get! i) ∧ RowsAt w L p (p + 1) E sure last wr' ∧ wr'.cell? ⟨p + 1, k, none⟩ = some (.string a) ∧ wr'.cell? ⟨p, k, none⟩ = some (.string b))) (fun x _ => 256 - (intOf x).toNat)
                case atStart => exact ⟨0, rfl, by omega, ⟨fun i hi => absurd hi (by omega), HK.out, by rw [← QA.out]; exact HK.out.l.cell hk5, by rw [← QB.out]; exact HK.out.s.cell hk5⟩⟩
                case round =>
                  obtain ⟨j, rfl, hj, HJ⟩ := hrel
                  have ca := HJ.out.2.2.1
                  have cb := HJ.out.2.2.2
                  by_cases hj2 : j < 256
                  · have hjI : (j : Int) < 256 := by omega
                    have hjs : j < s.size := by rw [Hsz.out]; exact hj2
                    have hja : j < a.size := by rw [Haz.out]; exact hj2
                    have hjsI : (j : Int) < (s.size : Int) := by omega
                    have hjaI : (j : Int) < (a.size : Int) := by omega
                    by_cases hx : s.get! j = a.get! j
                    · have hpre : ∀ i, i < j + 1 → s.get! i = a.get! i := by
                        intro i hi
                        by_cases h : i = j
                        · rw [h]; exact hx
                        · exact HJ.out.1 i (by omega)
                      have HS2 : Hid (∀ m, (∀ i, i < j + 1 → s.get! i = a.get! i) ∧ RowsAt w L p (p + 1) E sure last (wr.drewN m) ∧ (wr.drewN m).cell? ⟨p + 1, k, none⟩ = some (.string a) ∧ (wr.drewN m).cell? ⟨p, k, none⟩ = some (.string b)) := Lib.hid (fun m => ⟨hpre, HJ.out.2.1.drewN m, HJ.out.2.2.1, HJ.out.2.2.2⟩)
                      have hby : s[j] = a[j] := by rw [← get_byte s j hjs, ← get_byte a j hja]; exact hx
                      have hbI : (((s[j]).toNat : Int) == ((a[j]).toNat : Int)) = true := by rw [hby]; simp
                      clear hpre hx hby
                      go_wp2_with fail
                      go_quiet (fail)
                      go_wp2
                      go_roundw
                      case rel => exact ⟨j + 1, by go_num, by omega, Lib.hid (HS2.out _)⟩
                      case measure => simp [intOf]; omega
                    · have hmj : m ≤ j := by
                        by_cases h : j < m
                        · exact absurd (by rw [HS.out]; exact head_last Haz.out hm h) hx
                        · omega
                      have hby : s[j] ≠ a[j] := by rw [← get_byte s j hjs, ← get_byte a j hja]; exact hx
                      have hbI : (((s[j]).toNat : Int) == ((a[j]).toNat : Int)) = false := by
                        simp only [beq_eq_false_iff_ne, ne_eq]
                        intro h
                        exact hby (UInt8.toNat_inj.1 (by omega))
                      clear hx hby
                      obtain ⟨X, hX⟩ : ∃ X, b.extract j b.size = X := ⟨_, rfl⟩
                      have hX2 : s.extract j s.size = X := by rw [Hsz.out, HS.out, tail_sure Haz.out Hbz.out hm hmj hj, ← hX, Hbz.out]
                      have sX := run_cut_l s j (by rw [Hsz.out]; exact hj)
                      have sY := run_cut_l b j (by rw [Hbz.out]; exact hj)
                      rw [hX2] at sX
                      rw [hX] at sY
                      have HX := Lib.hid hX
                      have HR8 := Lib.hid HJ.out.2.1
                      clear hX hX2 hmj HJ
                      go_wp2_with fail
                      go_quiet (fail)
                      go_wp2_with fail
                      go_quiet (fail)
                      go_wp2
                      go_roundw
                      case rel => exact ⟨k + 1, by go_num, by have := Hlt.out; omega, Lib.hid (by repeat (first | exact HR8.out | refine RowsAt.drewN ?_ _ | refine RowsAt.drew ?_))⟩
                      case measure => have := Hlt.out; simp [intOf]; omega
                  · have hmj : m ≤ j := by omega
                    have hjf : decide ((j : Int) < 256) = false := by simp; omega
                    obtain ⟨X, hX⟩ : ∃ X, b.extract j b.size = X := ⟨_, rfl⟩
                    have hX2 : s.extract j s.size = X := by rw [Hsz.out, HS.out, tail_sure Haz.out Hbz.out hm hmj hj, ← hX, Hbz.out]
                    have sX := run_cut_l s j (by rw [Hsz.out]; exact hj)
                    have sY := run_cut_l b j (by rw [Hbz.out]; exact hj)
                    rw [hX2] at sX
                    rw [hX] at sY
                    have HX := Lib.hid hX
                    have HR8 := Lib.hid HJ.out.2.1
                    clear hX hX2 hmj HJ
                    go_wp2_with fail
                    go_quiet (fail)
                    go_wp2_with fail
                    go_quiet (fail)
                    go_wp2
                    go_roundw
                    case rel => exact ⟨k + 1, by go_num, by have := Hlt.out; omega, Lib.hid (by repeat (first | exact HR8.out | refine RowsAt.drewN ?_ _ | refine RowsAt.drew ?_))⟩
                    case measure => have := Hlt.out; simp [intOf]; omega
              · have hkI : ¬ (k : Int) < 5 := by omega
                have CL := Lib.hid (disk_Loose wr L E HK.out.d)
                have HB := Lib.hid HK.out.b
                clear hlt hk HK
                go_wp2_with fail
                refine CL.out.mono ?_
                rintro e w7 ⟨v, rfl, hrow, hb7⟩
                rw [HLo.out] at hrow
                obtain ⟨A, c, rfl⟩ : ∃ A c, v = .slice A 0 c := by
                  rcases OwnInts.of hrow with ⟨_, h⟩ | ⟨g, c, h, _⟩
                  · exact h
                  · exact ⟨_, c, h⟩
                have hB := bel_then HB.out hb7
                clear hrow hb7 CL
                go_wp2
                go_ret
                exact ⟨rfl, hB⟩
          · have hkI : ¬ (k : Int) < (n : Int) := by omega
            clear hlt hkn hk
            obtain ⟨D, sure, last, hR, hI⟩ := HK.out
            have hch' := HCH.out.at (below_cells hR.b)
            have CFw := Lib.hid (law5_Few wr vc choice hch' HCap.out)
            have CC := disk_Crash wr L D (fewV vc) (choice.take 20) hR.d (fewV_ints hch') (fun b off n c hv hfoot => by
              obtain ⟨n', c', hv'⟩ := fewV_block hv
              rw [HCH.out.lt _ _ _ _ hv' (HF.out _ hfoot)]
              rfl)
            obtain ⟨E, hE⟩ : ∃ E, D.crash (choice.take 20) = E := ⟨_, rfl⟩
            have hlive : E.Live := by rw [← hE]; exact crash_live D _
            have hlen : E.now.length = 5 := by rw [← hE, crash_len, hI.now]; exact hI.len
            have hloose : E.looseL = [] := by rw [← hE]; exact crash_loose _ _
            have hsec : ∀ i, i < 5 → ∃ m, m ≤ 256 ∧ E.sec i = joinAt (last.getD i ByteArray.empty) (sure.getD i ByteArray.empty) m := by rw [← hE]; exact fun i hi => hI.crash _ i hi
            have hlz : ∀ i, i < 5 → (last.getD i ByteArray.empty).size = 256 := by
              intro i hi
              have hl := hI.len
              rw [List.getD_eq_getElem?_getD, List.getElem?_eq_getElem (by omega), Option.getD_some]
              exact hI.ok.now _ (by rw [hI.now]; exact List.getElem_mem _)
            have hsz := hI.sz
            rw [hE] at CC
            have CC' := Lib.hid CC
            have HR := Lib.hid hR
            have HLi := Lib.hid hlive
            have HLe := Lib.hid hlen
            have HLo := Lib.hid hloose
            have HSec := Lib.hid hsec
            have HLz := Lib.hid hlz
            have HSz := Lib.hid hsz
            clear hch' CC hE hlive hlen hloose hsec hlz hsz hI hR HK
            go_wp2_with fail
            refine CFw.out.mono ?_
            rintro e w' ⟨rfl, rfl⟩
            go_wp2_with fail
            refine CC'.out.mono ?_
            rintro e w6 ⟨rfl, d6, k6⟩
            have R6 : Hid (RowsAt w L p (p + 1) E sure last w6) := ⟨d6, HR.out.s.keep k6 hP.out.1, HR.out.l.keep k6 hP.out.2, bel_keep HR.out.b k6 HF.out⟩
            clear d6 k6 CC' CFw HR
            go_wp2
            go_loopw [78] (fun x wr => ∃ k : Nat, x = .int .i64 k ∧ k ≤ 5 ∧ Hid (RowsAt w L p (p + 1) E sure last wr)) (fun x _ => 5 - (intOf x).toNat)
            case atStart => exact ⟨0, rfl, by omega, R6⟩
            case round =>
              clear R6
              obtain ⟨k, rfl, hk, HK⟩ := hrel
              by_cases hlt : k < 5
              · have hrd := read_live HLi.out k (by rw [HLe.out]; exact hlt)
                have C1 := disk_Read wr L E k HK.out.d
                rw [hrd] at C1
                obtain ⟨m, hm, hs⟩ := HSec.out k hlt
                have haz := HLz.out k hlt
                have hbz := HSz.out k hlt
                obtain ⟨s, hs'⟩ : ∃ s, E.sec k = s := ⟨_, rfl⟩
                obtain ⟨a, ha⟩ : ∃ a, last.getD k ByteArray.empty = a := ⟨_, rfl⟩
                obtain ⟨b, hb⟩ : ∃ b, sure.getD k ByteArray.empty = b := ⟨_, rfl⟩
                rw [hs'] at C1 hs
                rw [ha] at hs haz
                rw [hb] at hs hbz
                have QA := Lib.hid ha
                have QB := Lib.hid hb
                have hsz : s.size = 256 := by rw [hs]; exact joinAt_size haz hbz hm
                have hszI : (s.size : Int) = 256 := by omega
                have C1' := Lib.hid C1
                have Hlt := Lib.hid hlt
                have HS := Lib.hid hs
                have Haz := Lib.hid haz
                have Hbz := Lib.hid hbz
                have Hsz := Lib.hid hsz
                have hkI : (k : Int) < 5 := by omega
                have hk5 : k < 5 := hlt
                clear C1 hrd hs' ha hb hs haz hbz hsz hlt hk
                go_wp2_with fail
                refine C1'.out.mono ?_
                rintro e w' ⟨rfl, rfl⟩
                go_wp2
                go_loopw [17] (fun x wr' => ∃ j : Nat, x = .int .i64 j ∧ j ≤ 256 ∧ Hid ((∀ i, i < j → s.get! i = a.get! i) ∧ RowsAt w L p (p + 1) E sure last wr' ∧ wr'.cell? ⟨p + 1, k, none⟩ = some (.string a) ∧ wr'.cell? ⟨p, k, none⟩ = some (.string b))) (fun x _ => 256 - (intOf x).toNat)
                case atStart => exact ⟨0, rfl, by omega, ⟨fun i hi => absurd hi (by omega), HK.out, by rw [← QA.out]; exact HK.out.l.cell hk5, by rw [← QB.out]; exact HK.out.s.cell hk5⟩⟩
                case round =>
                  obtain ⟨j, rfl, hj, HJ⟩ := hrel
                  have ca := HJ.out.2.2.1
                  have cb := HJ.out.2.2.2
                  by_cases hj2 : j < 256
                  · have hjI : (j : Int) < 256 := by omega
                    have hjs : j < s.size := by rw [Hsz.out]; exact hj2
                    have hja : j < a.size := by rw [Haz.out]; exact hj2
                    have hjsI : (j : Int) < (s.size : Int) := by omega
                    have hjaI : (j : Int) < (a.size : Int) := by omega
                    by_cases hx : s.get! j = a.get! j
                    · have hpre : ∀ i, i < j + 1 → s.get! i = a.get! i := by
                        intro i hi
                        by_cases h : i = j
                        · rw [h]; exact hx
                        · exact HJ.out.1 i (by omega)
                      have HS2 : Hid (∀ m, (∀ i, i < j + 1 → s.get! i = a.get! i) ∧ RowsAt w L p (p + 1) E sure last (wr.drewN m) ∧ (wr.drewN m).cell? ⟨p + 1, k, none⟩ = some (.string a) ∧ (wr.drewN m).cell? ⟨p, k, none⟩ = some (.string b)) := Lib.hid (fun m => ⟨hpre, HJ.out.2.1.drewN m, HJ.out.2.2.1, HJ.out.2.2.2⟩)
                      have hby : s[j] = a[j] := by rw [← get_byte s j hjs, ← get_byte a j hja]; exact hx
                      have hbI : (((s[j]).toNat : Int) == ((a[j]).toNat : Int)) = true := by rw [hby]; simp
                      clear hpre hx hby
                      go_wp2_with fail
                      go_quiet (fail)
                      go_wp2
                      go_roundw
                      case rel => exact ⟨j + 1, by go_num, by omega, Lib.hid (HS2.out _)⟩
                      case measure => simp [intOf]; omega
                    · have hmj : m ≤ j := by
                        by_cases h : j < m
                        · exact absurd (by rw [HS.out]; exact head_last Haz.out hm h) hx
                        · omega
                      have hby : s[j] ≠ a[j] := by rw [← get_byte s j hjs, ← get_byte a j hja]; exact hx
                      have hbI : (((s[j]).toNat : Int) == ((a[j]).toNat : Int)) = false := by
                        simp only [beq_eq_false_iff_ne, ne_eq]
                        intro h
                        exact hby (UInt8.toNat_inj.1 (by omega))
                      clear hx hby
                      obtain ⟨X, hX⟩ : ∃ X, b.extract j b.size = X := ⟨_, rfl⟩
                      have hX2 : s.extract j s.size = X := by rw [Hsz.out, HS.out, tail_sure Haz.out Hbz.out hm hmj hj, ← hX, Hbz.out]
                      have sX := run_cut_l s j (by rw [Hsz.out]; exact hj)
                      have sY := run_cut_l b j (by rw [Hbz.out]; exact hj)
                      rw [hX2] at sX
                      rw [hX] at sY
                      have HX := Lib.hid hX
                      have HR8 := Lib.hid HJ.out.2.1
                      clear hX hX2 hmj HJ
                      go_wp2_with fail
                      go_quiet (fail)
                      go_wp2_with fail
                      go_quiet (fail)
                      go_wp2
                      go_roundw
                      case rel => exact ⟨k + 1, by go_num, by have := Hlt.out; omega, Lib.hid (by repeat (first | exact HR8.out | refine RowsAt.drewN ?_ _ | refine RowsAt.drew ?_))⟩
                      case measure => have := Hlt.out; simp [intOf]; omega
                  · have hmj : m ≤ j := by omega
                    have hjf : decide ((j : Int) < 256) = false := by simp; omega
                    obtain ⟨X, hX⟩ : ∃ X, b.extract j b.size = X := ⟨_, rfl⟩
                    have hX2 : s.extract j s.size = X := by rw [Hsz.out, HS.out, tail_sure Haz.out Hbz.out hm hmj hj, ← hX, Hbz.out]
                    have sX := run_cut_l s j (by rw [Hsz.out]; exact hj)
                    have sY := run_cut_l b j (by rw [Hbz.out]; exact hj)
                    rw [hX2] at sX
                    rw [hX] at sY
                    have HX := Lib.hid hX
                    have HR8 := Lib.hid HJ.out.2.1
                    clear hX hX2 hmj HJ
                    go_wp2_with fail
                    go_quiet (fail)
                    go_wp2_with fail
                    go_quiet (fail)
                    go_wp2
                    go_roundw
                    case rel => exact ⟨k + 1, by go_num, by have := Hlt.out; omega, Lib.hid (by repeat (first | exact HR8.out | refine RowsAt.drewN ?_ _ | refine RowsAt.drew ?_))⟩
                    case measure => have := Hlt.out; simp [intOf]; omega
              · have hkI : ¬ (k : Int) < 5 := by omega
                have CL := Lib.hid (disk_Loose wr L E HK.out.d)
                have HB := Lib.hid HK.out.b
                clear hlt hk HK
                go_wp2_with fail
                refine CL.out.mono ?_
                rintro e w7 ⟨v, rfl, hrow, hb7⟩
                rw [HLo.out] at hrow
                obtain ⟨A, c, rfl⟩ : ∃ A c, v = .slice A 0 c := by
                  rcases OwnInts.of hrow with ⟨_, h⟩ | ⟨g, c, h, _⟩
                  · exact h
                  · exact ⟨_, c, h⟩
                have hB := bel_then HB.out hb7
                clear hrow hb7 CL
                go_wp2
                go_ret
                exact ⟨rfl, hB⟩
end Go.Proofs.Ytcbefilcdelplaa
