/- DiskDown: while it is down nothing changes; a crash brings it back. -/
import Derived.Test.YtcbefilcdelplaaActs
import Derived.Deep.RegionHeld3
namespace Go.Proofs.Ytcbefilcdelplaa
open Go.RowKit
set_option linter.unusedVariables false
set_option linter.unusedSimpArgs false
attribute [local go_sem ↓] max_mx min_mn

/-- So many went well, of so many that there may be. -/
structure DownInv (D : Dk) (ok h : Nat) : Prop where
  four : D.now.length = 4
  writes : D.writes = ok
  le : ok ≤ h
  h30 : h ≤ 30
  up : D.down = false → D.halt = (h : Int) - ok
  dn : D.down = true → ok = h

theorem DownInv.turn {D : Dk} {ok h : Nat} (H : DownInv D ok h) (hd : D.down = false) :
    (D.turn.2 = false ∧ DownInv D.turn.1 ok h ∧ ok = h) ∨ (D.turn.2 = true ∧ DownInv D.turn.1 (ok + 1) h) := by
  have hu := H.up hd
  have := H.le
  have := H.h30
  by_cases h0 : D.halt = 0
  · have e : D.turn = ({ D with down := true }, false) := by simp [Dk.turn, h0]
    rw [e]
    exact .inl ⟨rfl, ⟨H.four, H.writes, H.le, H.h30, (fun h => by simp at h), (fun _ => by omega)⟩, by omega⟩
  · have hn : ¬ D.halt < 0 := by omega
    have e : D.turn = ({ D with halt := D.halt - 1, writes := wrap64 (D.writes + 1) }, true) := by simp [Dk.turn, h0, hn]
    rw [e]
    refine .inr ⟨rfl, ⟨H.four, ?_, by omega, H.h30, fun _ => by show D.halt - 1 = _; omega, fun h => by rw [hd] at h; cases h⟩⟩
    show wrap64 (D.writes + 1) = _
    rw [H.writes, IntWalk.wrap64_in _ (by omega)]
    omega

theorem loosen_down (D : Dk) (i : Nat) : (D.loosen i).down = D.down := by unfold Dk.loosen; split <;> rfl
theorem loosen_halt (D : Dk) (i : Nat) : (D.loosen i).halt = D.halt := by unfold Dk.loosen; split <;> rfl
theorem loosen_writes (D : Dk) (i : Nat) : (D.loosen i).writes = D.writes := by unfold Dk.loosen; split <;> rfl

theorem DownInv.put {D : Dk} {ok h : Nat} (H : DownInv D ok h) (i : Nat) (s : ByteArray) : DownInv (D.put i s) ok h := by
  refine ⟨?_, ?_, H.le, H.h30, ?_, ?_⟩
  · simp [Dk.put, loosen_now, H.four]
  · simp [Dk.put, loosen_writes, H.writes]
  · simpa [Dk.put, loosen_down, loosen_halt] using H.up
  · simpa [Dk.put, loosen_down] using H.dn

theorem DownInv.write {D : Dk} {ok h : Nat} (H : DownInv D ok h) (i : Int) (s : ByteArray) (h0 : 0 ≤ i) (h4 : i < 4) (hs : s.size ≤ 256) :
    ∃ D', (D.write i s = (D', 6) ∧ DownInv D' ok h ∧ ok = h) ∨ (D.write i s = (D', 0) ∧ DownInv D' (ok + 1) h) := by
  have hi : D.is i = true := by simp [Dk.is, H.four]; omega
  have hs' : ¬ 256 < s.size := by omega
  by_cases hd : D.down = true
  · exact ⟨D, .inl ⟨by simp [Dk.write, hd], H, H.dn hd⟩⟩
  · simp only [Bool.not_eq_true] at hd
    rcases H.turn hd with ⟨ht, hI, he⟩ | ⟨ht, hI⟩
    · exact ⟨D.turn.1, .inl ⟨by simp [Dk.write, hd, hi, hs', ht], hI, he⟩⟩
    · exact ⟨D.turn.1.put i.toNat s, .inr ⟨by simp [Dk.write, hd, hi, hs', ht], hI.put _ _⟩⟩

theorem DownInv.flush {D : Dk} {ok h : Nat} (H : DownInv D ok h) :
    ∃ D', (D.flush = (D', 6) ∧ DownInv D' ok h ∧ ok = h) ∨ (D.flush = (D', 0) ∧ DownInv D' (ok + 1) h) := by
  by_cases hd : D.down = true
  · exact ⟨D, .inl ⟨by simp [Dk.flush, hd], H, H.dn hd⟩⟩
  · simp only [Bool.not_eq_true] at hd
    rcases H.turn hd with ⟨ht, hI, he⟩ | ⟨ht, hI⟩
    · exact ⟨D.turn.1, .inl ⟨by simp [Dk.flush, hd, ht], hI, he⟩⟩
    · exact ⟨{ D.turn.1 with was := [] }, .inr ⟨by simp [Dk.flush, hd, ht], hI.four, hI.writes, hI.le, hI.h30, hI.up, hI.dn⟩⟩

theorem flush_live {D : Dk} (h : D.Live) : D.flush = ({ D.turn.1 with was := [] }, 0) ∧ Dk.Live { D.turn.1 with was := [] } ∧ (D.turn.1).now = D.now := by
  have ht := turn_live h
  refine ⟨?_, ?_, ?_⟩
  · unfold Dk.flush
    rw [if_neg (by rw [h.1]; decide), if_neg (by rw [ht]; simp)]
  · rw [ht]; exact ⟨h.1, rfl⟩
  · rw [ht]

theorem crash_live (D : Dk) (l : List Int) : (D.crash l).Live := ⟨rfl, rfl⟩
theorem crash_len (D : Dk) (l : List Int) : (D.crash l).now.length = D.now.length := crashTo_len _ _ _

theorem back {D : Dk} (h4 : D.now.length = 4) (l : List Int) (s : ByteArray) (hs : s.size ≤ 256) : ∃ D1 D2, (D.crash l).write 0 s = (D1, 0) ∧ D1.flush = (D2, 0) := by
  obtain ⟨h1, h2, _, _⟩ := write_live (crash_live D l) 0 (by rw [crash_len]; omega) s hs
  exact ⟨_, _, h1, (flush_live h2).1⟩

theorem and3 (x : Int) : bits .and .i64 x 3 = x % 4 := by
  simp only [bits]
  have h : (BitVec.ofInt IntKind.i64.bits x &&& BitVec.ofInt IntKind.i64.bits 3).toNat = (x % 4).toNat := by
    rw [BitVec.toNat_and]
    have e : (BitVec.ofInt IntKind.i64.bits 3).toNat = 2 ^ 2 - 1 := by decide
    rw [e, Nat.and_two_pow_sub_one_eq_mod, BitVec.toNat_ofInt]
    show (x % (2 ^ 64 : Nat)).toNat % 2 ^ 2 = _
    omega
  rw [h, IntKind.wrap_i64]
  omega

theorem cutTo_le (s : ByteArray) (n : Nat) : (cutTo s n).size ≤ n := by
  unfold cutTo
  split
  · rw [ByteArray.size_extract]; omega
  · omega

theorem ActCells.two {w : World} {b off : Nat} {A : Act} (h : ActCells w b off A) : w.cell? ⟨b, off + 1, none⟩ = some (.int .i64 A.i) ∧ w.cell? ⟨b, off + 2, none⟩ = some (.string A.s) := ⟨h.c1, h.c2⟩
theorem ActCells.drew {w : World} {b off : Nat} {A : Act} (h : ActCells w b off A) : ActCells w.drew b off A := h.at fun _ _ h => h
theorem ActCells.drewN {w : World} {b off : Nat} {A : Act} (h : ActCells w b off A) (n : Nat) : ActCells (w.drewN n) b off A := h.at fun _ _ h => h

/-- Behind so many rounds. -/
def DownAt (w : World) (L : Loc) (ok h : Nat) (wr : World) : Prop := ∃ D, DiskAt wr L D ∧ DownInv D ok h ∧ Below w.heap.size w wr

def sEx : ByteArray := ⟨#[120]⟩

set_option maxHeartbeats 4000000 in
set_option maxRecDepth 100000 in
theorem down_walk (va : Value) (acts : List Act) (halt : Int) (vc : Value) (choice : List Int) (w : World) (hacts : ActsAt w va acts) (hch : IntsAt w vc choice) (hcap : sliceOk vc) :
    Calls Try.prog 8 #[va, .int .i64 halt, vc] w fun e w' => e = .returned (.bool true) ∧ Below w.heap.size w w' := by
  obtain ⟨h, hh⟩ : ∃ h : Nat, mx 0 (mn halt 30) = (h : Int) := ⟨(max 0 (min halt 30)).toNat, by rw [mx_eq, mn_eq]; omega⟩
  have h30 : h ≤ 30 := by rw [mx_eq, mn_eq] at hh; omega
  have CN := Lib.hid (fun W => disk_New 4 W)
  have hlen : (Dk.make 4).now.length = 4 := rfl
  have hini : DownInv ((Dk.make 4).doHalt h) 0 h := ⟨hlen, rfl, by omega, h30, (fun _ => by simp [Dk.doHalt]; try omega), (fun h => by simp [Dk.doHalt, Dk.make] at h)⟩
  generalize Dk.make 4 = D at *
  have CH := Lib.hid (fun W L (d : DiskAt W L D) => disk_Halt W L D h d (by omega))
  have HI := Lib.hid hini
  obtain ⟨a, c, rfl, hal, hac⟩ := hacts
  obtain ⟨n, hn⟩ : ∃ n, n = acts.length := ⟨_, rfl⟩
  rw [← hn]
  have HA := Lib.hid hac
  have HN := Lib.hid hn
  have HCH := Lib.hid hch
  have HCap := Lib.hid hcap
  have HB0 := Lib.hid (Below.refl w.heap.size w)
  have hn64 : n ≤ 9223372036854775807 := by rw [hn]; exact hal
  clear hini hac hn hch hcap hlen hal
  go_enter Try.func8, Try.ntmps8
  go_wp2_with (first
    | (go_at_call 33; refine (law5_awake _).mono ?_; rintro e w1 ⟨rfl, hb1⟩; have HB1 := Lib.hid (bel_then HB0.out hb1); clear hb1)
    | (go_at_call 14; refine (CN.out _).mono ?_; rintro e w2 ⟨L, rfl, d2, hf2, hb2⟩; have HD2 := Lib.hid d2; have HF := Lib.hid (fun i (h : L.foot i) => Nat.le_trans HB1.out.size (hf2 i h)); have HB2 := Lib.hid (bel_then HB1.out hb2); clear d2 hf2 hb2)
    | (go_at_call 23; refine (CH.out _ _ HD2.out).mono ?_; rintro e w3 ⟨rfl, d3, k3⟩; have HR3 : Hid (DownAt w L 0 h w3) := ⟨_, d3, HI.out, bel_keep HB2.out k3 HF.out⟩; clear d3 k3))
  clear CN CH HD2 HB2 HB1 HB0 HI hh
  go_loopw [8, 9] (fun o x wr => ∃ (k ok : Nat), x = .int .i64 k ∧ o = .int .i64 ok ∧ k ≤ n ∧ Hid (DownAt w L ok h wr)) (fun o x _ => n - (intOf x).toNat)
  case atStart => exact ⟨0, 0, rfl, rfl, by omega, HR3⟩
  case round =>
    obtain ⟨k, ok, rfl, rfl, hk, HK⟩ := hrel
    clear HR3
    by_cases hlt : k < n ∧ k < 40
    · obtain ⟨hlt, h40⟩ := hlt
      obtain ⟨b, off, ha, hA⟩ := HA.out k (by rw [← HN.out]; exact hlt)
      subst ha
      generalize acts[k]'_ = A at hA
      obtain ⟨D', dD, hI, hb⟩ := HK.out
      have hA' := hA.at (below_cells hb)
      have q0 := hA'.c0
      have q1 := hA'.c1
      have q2 := hA'.c2
      have hw := fun q (h0 : 0 ≤ q) (h4 : q < 4) => hI.write q (cutTo A.s 20) h0 h4 (Nat.le_trans (cutTo_le _ _) (by omega))
      obtain ⟨q, hq⟩ : ∃ q : Int, bits .and .i64 A.i 3 = q := ⟨_, rfl⟩
      obtain ⟨h0, h4⟩ : 0 ≤ q ∧ q < 4 := by rw [and3] at hq; omega
      have hw := hw q h0 h4
      obtain ⟨s, hs⟩ : ∃ s, cutTo A.s 20 = s := ⟨_, rfl⟩
      rw [hs] at hw
      have CC : ∀ W, Calls Try.prog 16 #[.string A.s, .int .i64 20] W fun e w' => e = .returned (.string s) ∧ W = w' := by
        intro W
        rw [← hs]
        exact law01_Cut A.s 20 W (by omega)
      have CC' := Lib.hid CC
      have CW := fun W (d : DiskAt W L D') => disk_Write W L D' q s d
      have hok : ok ≤ 30 := Nat.le_trans hI.le hI.h30
      have hok1 : IntKind.i64.wrap ((ok : Int) + 1) = (ok : Int) + 1 := IntWalk.i64_in _ (by omega)
      have hok2 : IntKind.i64.wrap ((ok : Int) + 1 + 1) = (ok : Int) + 1 + 1 := IntWalk.i64_in _ (by omega)
      have HD := Lib.hid dD
      have HBk := Lib.hid hb
      have HcA := Lib.hid hA
      have HcR := Lib.hid hA'
      obtain ⟨D1, hw⟩ := hw
      obtain ⟨e1, hw, hcase⟩ : ∃ e1, D'.write q s = (D1, e1) ∧ ((e1 = 6 ∧ DownInv D1 ok h ∧ ok = h) ∨ (e1 = 0 ∧ DownInv D1 (ok + 1) h)) := by
        rcases hw with ⟨h1, h2, h3⟩ | ⟨h1, h2⟩
        · exact ⟨6, h1, .inl ⟨rfl, h2, h3⟩⟩
        · exact ⟨0, h1, .inr ⟨rfl, h2⟩⟩
      have hkI : (k : Int) < (n : Int) := by omega
      have hk40 : (k : Int) < 40 := by omega
      rw [hw] at CW
      have CW' := Lib.hid CW
      have Hcase := Lib.hid hcase
      have Hlt := Lib.hid hlt
      clear CW CC hw hcase hA hA' HK hI dD hb hs hn64 hk hlt q1 q2
      go_wp2_with fail
      go_region_held3 (fun w' => w'.cell? ⟨b, off + k * 4 + 1, none⟩ = some (.int .i64 A.i) ∧ w'.cell? ⟨b, off + k * 4 + 2, none⟩ = some (.string A.s))
        ((refine ActCells.two ?_; (repeat (first | (with_reducible assumption) | exact HcR.out | refine ActCells.drewN ?_ _ | refine ActCells.drew ?_)))) (first
        | (go_at_call 16; (with_reducible refine (CC'.out _).mono ?_); rintro e w' ⟨rfl, rfl⟩)
        | (go_at_call 20; (with_reducible refine (CW'.out _ ?_).mono ?_); (repeat (first | (with_reducible assumption) | exact HD.out | refine DiskAt.drewN ?_ _ | refine DiskAt.drew ?_)); rintro e w4 ⟨rfl, d4, k4⟩; have b4 : Below w.heap.size w w4 := (by (refine bel_keep ?_ k4 HF.out; (repeat (first | (with_reducible assumption) | exact HBk.out | refine bel_drewN ?_ _ | refine bel_drew ?_)))); have a4 := HcA.out.at (below_cells b4); clear k4))
      have H4 := Lib.hid d4
      have B4 := Lib.hid b4
      have c4 := a4.c0
      clear d4 b4 a4 q0 CC' CW' HD HBk HcA HcR
      rcases Hcase.out with ⟨he, hI1, hok3⟩ | ⟨he, hI1⟩
      · subst he
        subst hok3
        have HS : Hid (DownAt w L ok ok w4) := ⟨D1, H4.out, hI1, B4.out⟩
        clear hI1
        by_cases hkd : A.kind = 2
        · rw [hkd] at c4
          clear hkd
          go_wp2
          go_roundw
          case rel => exact ⟨k + 1, ok, by go_num, rfl, by have := Hlt.out; omega, HS⟩
          case measure => have := Hlt.out; simp [intOf]; omega
        · have hkb : (A.kind == 2) = false := by simpa using hkd
          clear hkd
          go_wp2
          go_roundw
          case rel => exact ⟨k + 1, ok, by go_num, rfl, by have := Hlt.out; omega, HS⟩
          case measure => have := Hlt.out; simp [intOf]; omega
      · subst he
        have hle := hI1.le
        have HI1 := Lib.hid hI1
        have hleI : ¬ (h : Int) < (ok : Int) + 1 := by omega
        clear hI1
        by_cases hkd : A.kind = 2
        · rw [hkd] at c4
          have CF := disk_Flush w4 L D1 H4.out
          obtain ⟨D2, hf⟩ := HI1.out.flush
          obtain ⟨e2, hf, hcase⟩ : ∃ e2, D1.flush = (D2, e2) ∧ ((e2 = 6 ∧ DownInv D2 (ok + 1) h ∧ ok + 1 = h) ∨ (e2 = 0 ∧ DownInv D2 (ok + 2) h)) := by
            rcases hf with ⟨h1, h2, h3⟩ | ⟨h1, h2⟩
            · exact ⟨6, h1, .inl ⟨rfl, h2, h3⟩⟩
            · exact ⟨0, h1, .inr ⟨rfl, h2⟩⟩
          rw [hf] at CF
          have CF' := Lib.hid CF
          have Hc2 := Lib.hid hcase
          clear hkd hf hcase CF hle
          go_wp2_with fail
          refine CF'.out.mono ?_
          rintro e w5 ⟨rfl, d5, k5⟩
          have B5 := Lib.hid (bel_keep B4.out k5 HF.out)
          have H5 := Lib.hid d5
          clear d5 k5 CF'
          rcases Hc2.out with ⟨he, hI2, hok3⟩ | ⟨he, hI2⟩
          · subst he
            have HS : Hid (DownAt w L (ok + 1) h w5) := ⟨D2, H5.out, hI2, B5.out⟩
            have hh : (((ok : Int) + 1) == (h : Int)) = true := by simp; omega
            clear hI2
            go_wp2
            go_roundw
            case rel => exact ⟨k + 1, ok + 1, by go_num, by go_num, by have := Hlt.out; omega, HS⟩
            case measure => have := Hlt.out; simp [intOf]; omega
          · subst he
            have HS : Hid (DownAt w L (ok + 2) h w5) := ⟨D2, H5.out, hI2, B5.out⟩
            have hle2 := hI2.le
            have hleI2 : ¬ (h : Int) < (ok : Int) + 1 + 1 := by omega
            clear hI2 hle2
            by_cases hh : (ok : Int) + 1 + 1 = (h : Int)
            · have hh' : (((ok : Int) + 1 + 1) == (h : Int)) = true := by simp; omega
              clear hh
              go_wp2
              go_roundw
              case rel => exact ⟨k + 1, ok + 2, by go_num, by go_num, by have := Hlt.out; omega, HS⟩
              case measure => have := Hlt.out; simp [intOf]; omega
            · have hh' : (((ok : Int) + 1 + 1) == (h : Int)) = false := by simp; omega
              clear hh
              go_wp2
              go_roundw
              case rel => exact ⟨k + 1, ok + 2, by go_num, by go_num, by have := Hlt.out; omega, HS⟩
              case measure => have := Hlt.out; simp [intOf]; omega
        · have hkb : (A.kind == 2) = false := by simpa using hkd
          have HS : Hid (DownAt w L (ok + 1) h w4) := ⟨D1, H4.out, HI1.out, B4.out⟩
          clear hkd hle
          by_cases hh : (ok : Int) + 1 = (h : Int)
          · have hh' : (((ok : Int) + 1) == (h : Int)) = true := by simp; omega
            clear hh
            go_wp2
            go_roundw
            case rel => exact ⟨k + 1, ok + 1, by go_num, by go_num, by have := Hlt.out; omega, HS⟩
            case measure => have := Hlt.out; simp [intOf]; omega
          · have hh' : (((ok : Int) + 1) == (h : Int)) = false := by simp; omega
            clear hh
            go_wp2
            go_roundw
            case rel => exact ⟨k + 1, ok + 1, by go_num, by go_num, by have := Hlt.out; omega, HS⟩
            case measure => have := Hlt.out; simp [intOf]; omega
    · obtain ⟨D', dD, hI, hb⟩ := HK.out
      have CWr := disk_Writes wr L D' dD
      rw [hI.writes] at CWr
      obtain ⟨D1, D2, hw, hf⟩ := back hI.four (choice.take 20) sEx (by decide)
      have hch' := HCH.out.at (below_cells hb)
      have CFw := Lib.hid (law5_Few wr vc choice hch' HCap.out)
      have CC := Lib.hid (disk_Crash wr L D' (fewV vc) (choice.take 20) dD (fewV_ints hch') (fun b off n c hv hfoot => by
        obtain ⟨n', c', hv'⟩ := fewV_block hv
        rw [HCH.out.lt _ _ _ _ hv' (HF.out _ hfoot)]
        rfl))
      have CWt := fun W d => disk_Write W L (D'.crash (choice.take 20)) 0 sEx d
      rw [hw] at CWt
      have CWt' := Lib.hid CWt
      have CFl := fun W d => disk_Flush W L D1 d
      rw [hf] at CFl
      have CFl' := Lib.hid CFl
      have CWr' := Lib.hid CWr
      have HBk := Lib.hid hb
      clear CWr CWt CFl hw hf hch' hb hI dD HK
      by_cases hkn : k < n
      · have hkI : (k : Int) < (n : Int) := by omega
        have hk40 : ¬ (k : Int) < 40 := by omega
        clear hlt hkn hn64 hk
        go_wp2_with (first
          | (go_at_call 32; refine CWr'.out.mono ?_; rintro e w' ⟨rfl, rfl⟩)
          | (go_at_call 37; refine CFw.out.mono ?_; rintro e w' ⟨rfl, rfl⟩)
          | (go_at_call 36; refine CC.out.mono ?_; rintro e w5 ⟨rfl, d5, k5⟩; have H5 := Lib.hid d5; have B5 := Lib.hid (bel_keep HBk.out k5 HF.out); clear d5 k5)
          | (go_at_call 20; refine (CWt'.out _ H5.out).mono ?_; rintro e w6 ⟨rfl, d6, k6⟩; have H6 := Lib.hid d6; have B6 := Lib.hid (bel_keep B5.out k6 HF.out); clear d6 k6)
          | (go_at_call 35; refine (CFl'.out _ H6.out).mono ?_; rintro e w7 ⟨rfl, d7, k7⟩; have B7 := Lib.hid (bel_keep B6.out k7 HF.out); clear d7 k7))
        go_ret
        exact ⟨rfl, B7.out⟩
      · have hkI : ¬ (k : Int) < (n : Int) := by omega
        clear hlt hkn hn64 hk
        go_wp2_with (first
          | (go_at_call 32; refine CWr'.out.mono ?_; rintro e w' ⟨rfl, rfl⟩)
          | (go_at_call 37; refine CFw.out.mono ?_; rintro e w' ⟨rfl, rfl⟩)
          | (go_at_call 36; refine CC.out.mono ?_; rintro e w5 ⟨rfl, d5, k5⟩; have H5 := Lib.hid d5; have B5 := Lib.hid (bel_keep HBk.out k5 HF.out); clear d5 k5)
          | (go_at_call 20; refine (CWt'.out _ H5.out).mono ?_; rintro e w6 ⟨rfl, d6, k6⟩; have H6 := Lib.hid d6; have B6 := Lib.hid (bel_keep B5.out k6 HF.out); clear d6 k6)
          | (go_at_call 35; refine (CFl'.out _ H6.out).mono ?_; rintro e w7 ⟨rfl, d7, k7⟩; have B7 := Lib.hid (bel_keep B6.out k7 HF.out); clear d7 k7))
        go_ret
        exact ⟨rfl, B7.out⟩
end Go.Proofs.Ytcbefilcdelplaa
