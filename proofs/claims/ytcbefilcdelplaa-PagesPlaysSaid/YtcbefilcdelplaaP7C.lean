/- PagesPlays, walked. -/
import Derived.Test.YtcbefilcdelplaaP7B
import Derived.Test.YtcbefilcdelplaaLaw7A
import Derived.Deep.RegionHeld3
import Derived.Deep.DeepCutAuto
import Derived.Deep.DrawnRows
import Derived.Deep.QuietTactic
import Derived.BigQuiet
namespace Go.Proofs.Ytcbefilcdelplaa
open Go.RowKit
open Go.Proofs.YtcbefilcdelplaaW
open PrintWords (Kd Reps rd rdOf)
open Pref7 (S23 k23 at_T23 rd_T23 z23)
set_option linter.unusedVariables false
set_option linter.unusedSimpArgs false
attribute [local go_sem ↓] max_mx min_mn Go.wp_at_zero Go.wp_at_succ

/-- A call. -/
structure Act7 where
  kind : Int
  k : Int
  n : Int
  s : ByteArray
  cv : Value
  ch : List Int
instance : Inhabited Act7 := ⟨⟨0, 0, 0, ByteArray.empty, .bool false, []⟩⟩

/-- It lies from an offset on. -/
structure ActCells7 (w : World) (b off : Nat) (A : Act7) : Prop where
  c0 : w.cell? ⟨b, off, none⟩ = some (.int .i64 A.kind)
  c1 : w.cell? ⟨b, off + 1, none⟩ = some (.int .i64 A.k)
  c2 : w.cell? ⟨b, off + 2, none⟩ = some (.int .i64 A.n)
  c3 : w.cell? ⟨b, off + 3, none⟩ = some (.string A.s)
  c4 : w.cell? ⟨b, off + 4, none⟩ = some A.cv
  ints : IntsAt w A.cv A.ch
  cap : sliceOk A.cv

def ActsAt7 (w : World) (v : Value) (l : List Act7) : Prop :=
  ∃ a c, v = .slice a l.length c ∧ l.length ≤ 9223372036854775807 ∧ ∀ i (hi : i < l.length), ∃ b off, a = some ⟨b, off, none⟩ ∧ ActCells7 w b (off + i * 5) l[i]
theorem ActCells7.at {w w' : World} {b off : Nat} {A : Act7} (h : ActCells7 w b off A) (hb : ∀ p x, w.cell? p = some x → w'.cell? p = some x) : ActCells7 w' b off A :=
  ⟨hb _ _ h.c0, hb _ _ h.c1, hb _ _ h.c2, hb _ _ h.c3, hb _ _ h.c4, h.ints.at hb, h.cap⟩

/-- A call in a block of its own. -/
def ActB7 (w : World) (b : Nat) (A : Act7) (v : Value) : Prop := w.heap[b]? = some (.cells #[.int .i64 A.kind, .int .i64 A.k, .int .i64 A.n, .string A.s, v] 87 (0, 0))
namespace ActB7
variable {w w' : World} {b : Nat} {A : Act7} {v : Value}
theorem lt (h : ActB7 w b A v) : b < w.heap.size := lt_of_heap h
theorem below (h : ActB7 w b A v) (k : Below w.heap.size w w') : ActB7 w' b A v := (k.block _ h.lt).trans h
theorem keepT {F : Nat → Prop} (h : ActB7 w b A v) (k : Keep F w w') (hf : NotT w F 87) : ActB7 w' b A v := heap_keepT h k hf
theorem cells (h : ActB7 w b A v) : w.cell? ⟨b, 0, none⟩ = some (.int .i64 A.kind) ∧ w.cell? ⟨b, 1, none⟩ = some (.int .i64 A.k) ∧ w.cell? ⟨b, 2, none⟩ = some (.int .i64 A.n) ∧ w.cell? ⟨b, 3, none⟩ = some (.string A.s) ∧ w.cell? ⟨b, 4, none⟩ = some v :=
  ⟨(cell_of_heap h 0).trans rfl, (cell_of_heap h 1).trans rfl, (cell_of_heap h 2).trans rfl, (cell_of_heap h 3).trans rfl, (cell_of_heap h 4).trans rfl⟩
end ActB7

/-- Behind so many rounds. -/
def PagesPlaysAt (w : World) (L : Loc) (bh m b h : Nat) (wr : World) : Prop := ∃ D H S, PgAt w L bh b D H S h (H h).length wr ∧ PgInv D H m

theorem room_m {D : Dk} {m : Nat} (h : D.now.length = m) : D.room = (m - 2) / 2 := by unfold Dk.room; rw [h]

/-- What stands at a round's end. -/
structure Tail (w : World) (L : Loc) (bh b : Nat) (D : Dk) (H : Nat → List S23) (S : Nat → Sx) (h r : Nat) (sa : Option Addr) (ln sc : Nat) : Prop where
  n : (H h).length = ln
  small : (ln : Int) ≤ 40000
  cell : ∀ W, PgAt w L bh b D H S h (H h).length W → W.cell? ⟨bh, h, none⟩ = some (.slice sa ln sc)
  half : ∀ W, PgAt w L bh b D H S h (H h).length W → Calls Try.prog 47 #[.pointer (some ⟨b, 0, none⟩)] W fun e w' => e = .returned (.int .i64 (h : Int)) ∧ W = w'
  next : ∀ W, PgAt w L bh b D H S h (H h).length W → Calls Try.prog 24 #[.pointer (some ⟨b, 0, none⟩)] W fun e w' => e = .returned (.int .i64 (ln : Int)) ∧ W = w'
  free : ∀ W, PgAt w L bh b D H S h (H h).length W → Calls Try.prog 26 #[.pointer (some ⟨b, 0, none⟩)] W fun e w' => e = .returned (.int .i64 ((r : Int) - (ln : Int))) ∧ ∃ m, w' = W.drewN m
  reads : ∀ W, PgAt w L bh b D H S h (H h).length W → Calls Try.prog 48 #[.pointer (some ⟨b, 0, none⟩), .slice sa ln sc] W fun e w' => e = .returned (.bool true) ∧ Below W.heap.size W w'

theorem tail_of {w wr : World} {L : Loc} {bh b : Nat} {D : Dk} {H : Nat → List S23} {S : Nat → Sx} {h m r : Nat} (P : PgAt w L bh b D H S h (H h).length wr) (I : PgInv D H m) (hh : h ≤ 1) (hr : (m - 2) / 2 = r) :
    ∃ sa ln sc, Tail w L bh b D H S h r sa ln sc := by
  have hroom : D.room = r := (room_m I.len).trans hr
  have hn := I.room h hh
  have hsn := (P.len hh).1
  refine ⟨(S h).a, (H h).length, (S h).c, rfl, ?_, ?_, ?_, ?_, ?_, ?_⟩
  · have := room_le P.d.ok
    omega
  · intro W Q
    rw [Q.cell hh, hsn]
  · intro W Q
    exact pages_Half W b L h _ Q.p
  · intro W Q
    exact pages_Next W b L h _ Q.p
  · intro W Q
    have := pages_Free W b L D h _ Q.p Q.d hn
    rw [hroom, Int.ofNat_sub (by omega)] at this
    exact this
  · intro W Q
    obtain ⟨h1, h2, h3⟩ := Q.len hh
    rw [h1] at h3
    exact law7_reads W b L D h (H h) (S h).a (S h).c Q.p Q.d hh hn (I.holds h hh) I.live h3

theorem upd_self {α : Type} (f : Nat → α) (j : Nat) : upd f j (f j) = f := by
  funext i
  unfold upd
  split
  · rename_i h; rw [h]
  · rfl

/-- The cells that a call of the reference's Append reads. -/
def TwoCells (w : World) (bh h g : Nat) (v : Value) (k : Int) : Prop := w.cell? ⟨bh, h, none⟩ = some v ∧ w.cell? ⟨g, 1, none⟩ = some (.int .i64 k)
theorem TwoCells.flat {w : World} {bh h g : Nat} {v : Value} {k : Int} (x : TwoCells w bh h g v k) : w.cell? ⟨bh, h, none⟩ = some v ∧ w.cell? ⟨g, 1, none⟩ = some (.int .i64 k) := x
theorem TwoCells.drewN {w : World} {bh h g : Nat} {v : Value} {k : Int} (x : TwoCells w bh h g v k) (n : Nat) : TwoCells (w.drewN n) bh h g v k := x
theorem TwoCells.drew {w : World} {bh h g : Nat} {v : Value} {k : Int} (x : TwoCells w bh h g v k) : TwoCells w.drew bh h g v k := x

set_option maxHeartbeats 8000000 in
set_option maxRecDepth 1000000 in
theorem pages_plays_walk (size : Int) (va : Value) (acts : List Act7) (w : World) (hacts : ActsAt7 w va acts) :
    Calls Try.prog 11 #[.int .i64 size, va] w fun e w' => e = .returned (.bool true) ∧ Below w.heap.size w w' := by
  obtain ⟨m, hm⟩ : ∃ m : Nat, mx 2 (mn size 20) = (m : Int) := ⟨(max 2 (min size 20)).toNat, by rw [mx_eq, mn_eq]; omega⟩
  have h28 : 2 ≤ m ∧ m ≤ 20 := by rw [mx_eq, mn_eq] at hm; omega
  have CN := Lib.hid (fun W => disk_New (m : Int) W)
  have hinv : PgInv (Dk.make (m : Int)) (fun _ => []) m := ⟨make_live _, by rw [make_now]; omega, h28.1, fun j _ => Nat.zero_le _, fun j _ i hi => absurd hi (Nat.not_lt_zero _)⟩
  generalize Dk.make (m : Int) = D0 at *
  obtain ⟨r, hr⟩ : ∃ r : Nat, (m - 2) / 2 = r := ⟨_, rfl⟩
  have hrm : ((m : Int) - 2) / 2 = (r : Int) := by omega
  have hroom : D0.room = r := (room_m hinv.len).trans hr
  have CS := Lib.hid (fun W L (d : DiskAt W L D0) => show Calls Try.prog 22 #[.pointer (some ⟨L.a, 0, none⟩)] W fun e w' => e = .returned (.int .i64 (m : Int)) ∧ W = w' from by
    have := disk_Size W L D0 d
    rw [hinv.len] at this
    exact this)
  have CR := Lib.hid (fun W L (d : DiskAt W L D0) => show Calls Try.prog 25 #[.pointer (some ⟨L.a, 0, none⟩)] W fun e w' => e = .returned (.int .i64 (r : Int)) ∧ W = w' from by
    have := pages_Room W L D0 d
    rw [hroom] at this
    exact this)
  have CO := Lib.hid (fun W L (d : DiskAt W L D0) => pages_Open W L D0 0 0 d (by omega) (by omega))
  have HI := Lib.hid hinv
  have HRM := Lib.hid hr
  obtain ⟨a, c, rfl, hal, hac⟩ := hacts
  obtain ⟨n, hn⟩ : ∃ n, n = acts.length := ⟨_, rfl⟩
  rw [← hn]
  have HA := Lib.hid hac
  have HN := Lib.hid hn
  have HB0 := Lib.hid (Below.refl w.heap.size w)
  have hn64 : n ≤ 9223372036854775807 := by rw [hn]; exact hal
  obtain ⟨hm2, hm20⟩ := h28
  have hrI : (r : Int) ≤ 9 := by omega
  clear hac hn hal hinv hroom hr
  go_enter Try.func11, Try.ntmps11
  go_wp2_with (first
    | (go_at_call 13; refine (law7_awake _).mono ?_; rintro e w1 ⟨rfl, hb1⟩; have HB1 := Lib.hid (bel_then HB0.out hb1); clear hb1)
    | (go_at_call 14; refine (CN.out _).mono ?_; rintro e w2 ⟨L, rfl, d2, hf2, hb2⟩; have HF := Lib.hid (fun i (h : L.foot i) => Nat.le_trans HB1.out.size (hf2 i h)); have HD2 := Lib.hid d2; have HB2 := Lib.hid (bel_then HB1.out hb2); clear d2 hf2 hb2)
    | (go_at_call 22; refine (CS.out _ L HD2.out).mono ?_; rintro e w' ⟨rfl, rfl⟩)
    | (go_at_call 15; refine (CO.out _ L HD2.out).mono ?_; rintro e w3 ⟨rfl, p3, hb3⟩; have HP3 := Lib.hid p3; have HB3 := Lib.hid hb3; clear p3 hb3)
    | (go_at_call 25; refine (CR.out _ L (HD2.out.below HB3.out)).mono ?_; rintro e w' ⟨rfl, rfl⟩))
  -- LOOP
  have HR : Hid (PagesPlaysAt w L w3.heap.size m w2.heap.size 0 (w3.alloc (.cells #[.slice none 0 0, .slice none 0 0] 85 (0, 0)))) := by
    have ba := bel_alloc (Below.refl w3.heap.size w3) (.cells #[.slice none 0 0, .slice none 0 0] 85 (0, 0))
    exact ⟨D0, fun _ => [], fun _ => ⟨none, 0, 0⟩, ⟨(HD2.out.below HB3.out).below ba, HP3.out.below ba, heap_alloc_self w3 _, fun j hj => Kd.R_nil _ _ _ _ _, bel_then (bel_then HB2.out HB3.out) ba, HF.out, HB2.out.size, Nat.le_trans HB2.out.size HB3.out.size⟩, HI.out⟩
  clear CN CS CR CO HB0 HD2 HB2 HB3 HP3 HI hm hrm
  generalize w3.heap.size = bh at *
  generalize w2.heap.size = b0 at *
  go_loopw [7, 8, 10, 11] (fun p e hv x wr => ∃ (k b h : Nat) (e0 : Int), p = .pointer (some ⟨b, 0, none⟩) ∧ e = .int .i64 e0 ∧ hv = .int .i64 (h : Int) ∧ x = .int .i64 k ∧ k ≤ n ∧ h ≤ 1 ∧ Hid (PagesPlaysAt w L bh m b h wr)) (fun p e hv x _ => n - (intOf x).toNat)
  case atStart => exact ⟨0, b0, 0, 0, rfl, rfl, rfl, rfl, by omega, by omega, HR⟩
  case round =>
    obtain ⟨k, b, h, e0, rfl, rfl, rfl, rfl, hk, hh1, HK⟩ := hrel
    clear HR
    by_cases hlt : k < n ∧ k < 60
    · obtain ⟨hlt, h60⟩ := hlt
      obtain ⟨b1, off, ha, hA⟩ := HA.out k (by rw [← HN.out]; exact hlt)
      subst ha
      generalize acts[k]'_ = A at hA
      obtain ⟨D, H, S, hP, hIv⟩ := HK.out
      have hA' := hA.at (below_cells hP.bel)
      have q0 := hA'.c0
      have q1 := hA'.c1
      have q2 := hA'.c2
      have q3 := hA'.c3
      have q4 := hA'.c4
      obtain ⟨va, vn, vc, hcv⟩ : ∃ a n c, A.cv = .slice a n c := by
        rcases hA.ints with ⟨_, a, c, h⟩ | ⟨b, off, c, h, _⟩
        · exact ⟨_, _, _, h⟩
        · exact ⟨_, _, _, h⟩
      rw [hcv] at q4
      have HCV := Lib.hid hcv
      have HM := Lib.hid (hP.below (bel_alloc (Below.refl wr.heap.size wr) (.cells #[.int .i64 A.kind, .int .i64 A.k, .int .i64 A.n, .string A.s, .slice va vn vc] 87 (0, 0))))
      have HB := Lib.hid (show ActB7 (wr.alloc (.cells #[.int .i64 A.kind, .int .i64 A.k, .int .i64 A.n, .string A.s, .slice va vn vc] 87 (0, 0))) wr.heap.size A (.slice va vn vc) from heap_alloc_self wr _)
      have HIv := Lib.hid hIv
      have HcA := Lib.hid hA
      have Hlt := Lib.hid hlt
      obtain ⟨s, hs⟩ : ∃ s, cutTo A.s 242 = s := ⟨_, rfl⟩
      have CC : ∀ W, Calls Try.prog 16 #[.string A.s, .int .i64 242] W fun e w' => e = .returned (.string s) ∧ W = w' := by
        intro W
        rw [← hs]
        exact law01_Cut A.s 242 W (by omega)
      have CC' := Lib.hid CC
      have hkI : (k : Int) < (n : Int) := by omega
      have hk60 : (k : Int) < 60 := by omega
      have hh2 : (h : Int) < 2 := by omega
      have hh0 : (0 : Int) ≤ (h : Int) := by omega
      clear CC hs hk hlt hA hA' hP hIv HK hn64 hcv
      have e1 := HB.out.cells.1
      go_upto_block 2 with (go_at_call 16; refine (CC'.out _).mono ?_; rintro e w' ⟨rfl, rfl⟩)
      generalize wr.alloc (.cells #[.int .i64 A.kind, .int .i64 A.k, .int .i64 A.n, .string A.s, .slice va vn vc] 87 (0, 0)) = w5 at *
      generalize wr.heap.size = g at *
      clear q0 q1 q2 q3 q4 CC'
      go_cut [7, 8, 10] (fun p e hv wc => ∃ (b h : Nat) (e0 : Int), p = .pointer (some ⟨b, 0, none⟩) ∧ e = .int .i64 e0 ∧ hv = .int .i64 (h : Int) ∧ h ≤ 1 ∧ Hid (PagesPlaysAt w L bh m b h wc))
      case first =>
        clear e1
        by_cases k1 : A.kind = 1
        · have k1b : (A.kind == 1) = true := by simp [k1]
          clear k1
          as_aux_lemma =>
            have a2 := HB.out.cells.2.2.1
            obtain ⟨sa, ln, sc, hT⟩ := tail_of HM.out HIv.out hh1 HRM.out
            have hln := hT.n
            have CP := pages_Read w5 b L D h (H h).length A.n HM.out.p HM.out.d hh1 (HIv.out.room h hh1)
            have zs := hT.small
            have HT := Lib.hid hT
            have Hln := Lib.hid hln
            rw [hln] at CP
            clear hT hln

            by_cases c1 : A.n < 0
            · have hp : D.pgRead h ln A.n = (0, ByteArray.empty, 1) := by unfold Dk.pgRead; rw [if_pos (.inl c1)]
              rw [hp] at CP
              clear hp
              have CP' := Lib.hid CP
              clear CP
              go_wp2_with fail
              refine CP'.out.mono ?_
              rintro e w6 ⟨rfl, b6⟩
              have HM6 := Lib.hid (HM.out.below b6)
              have a2 := (HB.out.below b6).cells.2.2.1
              have z0 := HT.out.cell _ HM6.out
              clear b6 CP'
              go_wp2_with fail
              go_quiet (fail)
              go_wp2_with fail
              go_meet
              case rel => exact ⟨b, h, _, rfl, rfl, rfl, hh1, ⟨_, _, _, HM6.out.drewN _, HIv.out⟩⟩

            · by_cases c2 : (ln : Int) ≤ A.n
              · have hp : D.pgRead h ln A.n = (0, ByteArray.empty, 1) := by unfold Dk.pgRead; rw [if_pos (.inr c2)]
                rw [hp] at CP
                clear hp
                have CP' := Lib.hid CP
                clear CP
                go_wp2_with fail
                refine CP'.out.mono ?_
                rintro e w6 ⟨rfl, b6⟩
                have HM6 := Lib.hid (HM.out.below b6)
                have a2 := (HB.out.below b6).cells.2.2.1
                have z0 := HT.out.cell _ HM6.out
                clear b6 CP'
                go_wp2_with fail
                go_quiet (fail)
                go_wp2_with fail
                go_meet
                case rel => exact ⟨b, h, _, rfl, rfl, rfl, hh1, ⟨_, _, _, HM6.out.drewN _, HIv.out⟩⟩

              · generalize D.pgRead h ln A.n = q at CP
                obtain ⟨q1, q2, q3⟩ := q
                have CP' := Lib.hid CP
                clear CP
                go_wp2_with fail
                refine CP'.out.mono ?_
                rintro e w6 ⟨rfl, b6⟩
                have HM6 := Lib.hid (HM.out.below b6)
                have a2 := (HB.out.below b6).cells.2.2.1
                have z0 := HT.out.cell _ HM6.out
                clear b6 CP'
                go_wp2_with fail
                go_quiet (fail)
                go_wp2_with fail
                go_meet
                case rel => exact ⟨b, h, _, rfl, rfl, rfl, hh1, ⟨_, _, _, HM6.out.drewN _, HIv.out⟩⟩
        · have k1b : (A.kind == 1) = false := by simpa using k1
          by_cases k2 : A.kind = 2
          · have k2b : (A.kind == 2) = true := by simp [k2]
            clear k1 k2
            as_aux_lemma =>
              have a2 := HB.out.cells.2.2.1
              obtain ⟨sa, ln, sc, hT⟩ := tail_of HM.out HIv.out hh1 HRM.out
              have hln := hT.n
              have zs := hT.small
              have z0 := hT.cell _ HM.out
              have HT := Lib.hid hT
              have Hln := Lib.hid hln
              clear hT hln

              by_cases c1 : A.n < 0
              · have hd1 : decide (0 ≤ A.n) = false := by simp; omega
                have CP := fun m => pages_Cut (w5.drewN m) b L h (H h).length A.n (HM.out.drewN m).p
                have hno : ¬ (0 ≤ A.n ∧ A.n ≤ ((H h).length : Int)) := by rw [Hln.out]; omega
                simp only [if_neg hno, decide_eq_false hno] at CP
                have CP' := Lib.hid CP
                clear CP hno
                go_wp2_with fail
                go_quiet (fail)
                go_wp2_with fail
                refine (CP'.out _).mono ?_
                rintro e w6 ⟨rfl, p6, k6⟩
                have HM6 := Lib.hid ((HM.out.drewN nq).cut p6 k6)
                clear p6 k6 CP' z0 a2
                go_wp2_with fail
                go_meet
                case rel => exact ⟨b, h, _, rfl, rfl, rfl, hh1, ⟨_, _, _, HM6.out, HIv.out⟩⟩

              · by_cases c2 : (ln : Int) < A.n
                · have hd1 : decide (0 ≤ A.n) = true := by simp; omega
                  have hd2 : decide (A.n ≤ (ln : Int)) = false := by simp; omega
                  have CP := fun m => pages_Cut (w5.drewN m) b L h (H h).length A.n (HM.out.drewN m).p
                  have hno : ¬ (0 ≤ A.n ∧ A.n ≤ ((H h).length : Int)) := by rw [Hln.out]; omega
                  simp only [if_neg hno, decide_eq_false hno] at CP
                  have CP' := Lib.hid CP
                  clear CP hno
                  go_wp2_with fail
                  go_quiet (fail)
                  go_wp2_with fail
                  refine (CP'.out _).mono ?_
                  rintro e w6 ⟨rfl, p6, k6⟩
                  have HM6 := Lib.hid ((HM.out.drewN nq).cut p6 k6)
                  clear p6 k6 CP' z0 a2
                  go_wp2_with fail
                  go_meet
                  case rel => exact ⟨b, h, _, rfl, rfl, rfl, hh1, ⟨_, _, _, HM6.out, HIv.out⟩⟩

                · obtain ⟨q, hq⟩ := Int.eq_ofNat_of_zero_le (show 0 ≤ A.n by omega)
                  have CP := fun m => pages_Cut (w5.drewN m) b L h (H h).length (q : Int) (HM.out.drewN m).p
                  have hyes : 0 ≤ (q : Int) ∧ (q : Int) ≤ ((H h).length : Int) := by rw [Hln.out]; omega
                  simp only [if_pos hyes, decide_eq_true hyes, Int.toNat_natCast] at CP
                  have CP' := Lib.hid CP
                  have hq0 : (0 : Int) ≤ (q : Int) := by omega
                  have hq1 : (q : Int) ≤ (ln : Int) := by omega
                  rw [hq] at a2
                  have HQ := Lib.hid hq
                  clear CP hyes hq c1 c2
                  go_wp2_with fail
                  go_quiet (fail)
                  go_wp2_with fail
                  refine (CP'.out _).mono ?_
                  rintro e w6 ⟨rfl, p6, k6⟩
                  have HM6 := Lib.hid ((HM.out.drewN nq).cut p6 k6)
                  have HB6 := Lib.hid ((show ActB7 (w5.drewN nq) g A (.slice va vn vc) from HB.out).keepT k6 (notT_one (HM.out.drewN nq).p (by decide)))
                  obtain ⟨l1, l2, _⟩ := HM6.out.len hh1
                  have z0 := HM6.out.cell hh1
                  have zf := HM6.out.frz h
                  have a2 := HB6.out.cells.2.2.1
                  rw [l1, Hln.out] at z0
                  rw [l1, Hln.out] at l2
                  have hr := HM6.out.r h hh1
                  have hqc : (q : Int) ≤ ((S h).c : Int) := by omega
                  have hR := Lib.hid (show Kd.R k23 23 w6 0 (fun _ => True) (Sx.v ⟨(S h).a, q, (S h).c⟩) ((H h).take q) from Kd.R_take (n := (S h).n) (m := q) hr (by rw [Hln.out]; omega))
                  have HM7 := Lib.hid (HM6.out.set hh1 ⟨(S h).a, q, (S h).c⟩ ((H h).take q) hR.out)
                  have hlq : ((H h).take q).length = q := by rw [List.length_take, Hln.out]; omega
                  have HI7 := Lib.hid (HIv.out.cut h q)
                  rw [HQ.out] at a2
                  clear p6 k6 CP' hr l1 l2
                  generalize (S h).a = sa' at *
                  generalize (S h).c = sc' at *
                  go_wp2_with fail
                  go_region
                  have HM8 := Lib.hid (show PgAt w L bh b D (upd H h ((H h).take q)) (upd S h ⟨sa', q, sc'⟩) h (upd H h ((H h).take q) h).length (w6.setCell ⟨bh, h, none⟩ (.slice sa' q sc')).drew from by
                    rw [upd_same, hlq]
                    exact HM7.out.drew)
                  clear z0 zf a2 HM7 hlq hR
                  go_wp2_with fail
                  go_meet
                  case rel => exact ⟨b, h, _, rfl, rfl, rfl, hh1, ⟨_, _, _, HM8.out, HI7.out⟩⟩
          · have k2b : (A.kind == 2) = false := by simpa using k2
            by_cases k3 : A.kind = 3
            · have k3b : (A.kind == 3) = true := by simp [k3]
              clear k1 k2 k3
              as_aux_lemma =>
                have CF := Lib.hid (disk_Flush w5 L D HM.out.d)
                go_wp2_with fail
                refine CF.out.mono ?_
                rintro e w6 ⟨rfl, d6, k6⟩
                have HM6 := Lib.hid (HM.out.disk d6 k6)
                have HI6 := Lib.hid HIv.out.flush.1
                clear d6 k6 CF HM HB
                go_wp2_with fail
                go_meet
                case rel => exact ⟨b, h, _, rfl, rfl, rfl, hh1, ⟨_, _, _, HM6.out, HI6.out⟩⟩
            · have k3b : (A.kind == 3) = false := by simpa using k3
              by_cases k4 : A.kind = 4
              · have k4b : (A.kind == 4) = true := by simp [k4]
                clear k1 k2 k3 k4
                as_aux_lemma =>
                  obtain ⟨h', he, hh'⟩ : ∃ h' : Nat, (1 : Int) - (h : Int) = (h' : Int) ∧ h' ≤ 1 := ⟨1 - h, by omega, by omega⟩
                  have h0' : (0 : Int) ≤ (h' : Int) := by omega
                  have h2' : (h' : Int) < 2 := by omega

                  have z0 := HM.out.cell hh'
                  rw [(HM.out.len hh').1] at z0
                  have CP := Lib.hid (pages_Open w5 L D h' (H h').length HM.out.d hh' (HIv.out.room h' hh'))
                  go_wp2_with fail
                  refine CP.out.mono ?_
                  rintro e w6 ⟨rfl, p6, b6⟩
                  have HM6 := Lib.hid (HM.out.turn p6 b6 (Nat.le_refl _))
                  clear p6 b6 CP z0
                  go_wp2_with fail
                  go_meet
                  case rel => exact ⟨_, h', _, rfl, rfl, rfl, hh', ⟨_, _, _, HM6.out, HIv.out⟩⟩
              · have k4b : (A.kind == 4) = false := by simpa using k4
                by_cases k5 : A.kind = 5
                · have k5b : (A.kind == 5) = true := by simp [k5]
                  clear k1 k2 k3 k4 k5
                  as_aux_lemma =>
                    obtain ⟨h', he, hh'⟩ : ∃ h' : Nat, (1 : Int) - (h : Int) = (h' : Int) ∧ h' ≤ 1 := ⟨1 - h, by omega, by omega⟩
                    have h0' : (0 : Int) ≤ (h' : Int) := by omega
                    have h2' : (h' : Int) < 2 := by omega

                    have CP := pages_Other w5 b L h (H h).length HM.out.p hh1
                    rw [show 1 - h = h' from by omega] at CP
                    have CP' := Lib.hid CP
                    clear CP
                    go_wp2_with fail
                    refine CP'.out.mono ?_
                    rintro e w6 ⟨rfl, p6, b6⟩
                    have HM6 := Lib.hid (HM.out.turn p6 b6 (Nat.le_refl _))
                    have zf := HM6.out.frz h'
                    have z0 := HM6.out.cell hh'
                    have HM7 := Lib.hid (show PgAt w L bh w5.heap.size D (upd H h' []) (upd S h' ⟨none, 0, 0⟩) h' (upd H h' [] h').length (w6.setCell ⟨bh, h', none⟩ (.slice none 0 0)) from by
                      rw [upd_same]
                      exact HM6.out.set hh' ⟨none, 0, 0⟩ [] (Kd.R_nil _ _ _ _ _))
                    have HI7 := Lib.hid (HIv.out.other h')
                    clear p6 b6 CP'
                    go_wp2_with fail
                    go_meet
                    case rel => exact ⟨_, h', _, rfl, rfl, rfl, hh', ⟨_, _, _, HM7.out, HI7.out⟩⟩
                · have k5b : (A.kind == 5) = false := by simpa using k5
                  by_cases k6 : A.kind = 6
                  · have k6b : (A.kind == 6) = true := by simp [k6]
                    clear k1 k2 k3 k4 k5 k6
                    as_aux_lemma =>
                      have a4 := HB.out.cells.2.2.2.2
                      have CF := Lib.hid (disk_Flush w5 L D HM.out.d)
                      go_wp2_with fail
                      refine CF.out.mono ?_
                      rintro e w6 ⟨rfl, d6, k6⟩
                      obtain ⟨hi6, hw6⟩ := HIv.out.flush
                      have HM6 := Lib.hid (HM.out.disk d6 k6)
                      have HB6 := Lib.hid (HB.out.keepT k6 (HM.out.d.notT (by decide) (by decide)))
                      generalize D.flush.1 = D1 at *
                      obtain ⟨fa, fn, fc, hfv⟩ : ∃ fa fn fc, fewV A.cv = .slice fa fn fc := by rw [HCV.out]; exact ⟨_, _, _, rfl⟩
                      have CFw := law5_Few w6 A.cv A.ch (HcA.out.ints.at (below_cells HM6.out.bel)) HcA.out.cap
                      have CC := disk_Crash w6 L D1 (fewV A.cv) (A.ch.take 20) HM6.out.d (fewV_ints (HcA.out.ints.at (below_cells HM6.out.bel))) (fun b' off' n0 c0 hv hfoot => by
                        obtain ⟨n1, c1, hv'⟩ := fewV_block hv
                        rw [HcA.out.ints.lt _ _ _ _ hv' (HM6.out.f _ hfoot)]
                        rfl)
                      rw [hfv] at CFw CC
                      rw [HCV.out] at CFw
                      have CFw' := Lib.hid CFw
                      have CC' := Lib.hid CC
                      have HI7 := Lib.hid (hi6.crash hw6 (A.ch.take 20))
                      have a4 := HB6.out.cells.2.2.2.2
                      clear d6 k6 CF HM HB CFw CC hi6 hw6 hfv
                      go_wp2_with fail
                      refine CFw'.out.mono ?_
                      rintro e w' ⟨rfl, rfl⟩
                      go_wp2_with fail
                      refine CC'.out.mono ?_
                      rintro e w7 ⟨rfl, d7, k7⟩
                      have HM7 := Lib.hid (HM6.out.disk d7 k7)
                      clear d7 k7 CC' CFw' a4
                      go_wp2_with fail
                      go_meet
                      case rel => exact ⟨b, h, _, rfl, rfl, rfl, hh1, ⟨_, _, _, HM7.out, HI7.out⟩⟩
                  · have k6b : (A.kind == 6) = false := by simpa using k6
                    clear k1 k2 k3 k4 k5 k6
                    as_aux_lemma =>
                      obtain ⟨l1, l2, lC⟩ := HM.out.len hh1
                      have z0 := HM.out.cell hh1
                      have a1 := HB.out.cells.2.1
                      rw [l1] at z0 l2 lC
                      have hroom : D.room = r := (room_m HIv.out.len).trans HRM.out
                      have hle := HIv.out.room h hh1
                      rw [hroom] at hle
                      obtain ⟨ln, hln⟩ : ∃ ln, (H h).length = ln := ⟨_, rfl⟩
                      rw [hln] at z0 l2 hle
                      have HLC := Lib.hid lC
                      have HZ := Lib.hid (show TwoCells w5 bh h g (.slice (S h).a ln (S h).c) A.k from ⟨z0, a1⟩)
                      have zr : (r : Int) ≤ 9 := hrI
                      clear lC l1 a1

                      by_cases hb : A.k < 0 ∨ 255 < A.k ∨ 240 < s.size
                      · have CA := fun W (_ : Below w5.heap.size w5 W) => ref7_Append_bad (S h).a ln (S h).c (r : Int) A.k s W hb
                        have CP := fun W (Q : PgAt w L bh b D H S h (H h).length W) => pages_Append W b L D h (H h).length A.k s Q.p Q.d hh1 (HIv.out.room h hh1)

                        rw [append_no hb] at CP
                        clear hb
                        have CA' := Lib.hid CA
                        have CP' := Lib.hid CP
                        clear CA CP
                        go_wp2_with fail
                        go_region_held3 (fun w' => w'.cell? ⟨bh, h, none⟩ = some (.slice (S h).a ln (S h).c) ∧ w'.cell? ⟨g, 1, none⟩ = some (.int .i64 A.k))
                          ((refine TwoCells.flat ?_; (repeat (first | (with_reducible exact HZ.out) | (with_reducible exact HZ6.out) | refine TwoCells.drewN ?_ _ | refine TwoCells.drew ?_))))
                          (first
                          | (go_at_call 46; (with_reducible refine (CA'.out _ ?_).mono ?_); (repeat (first | exact Below.refl _ _ | refine bel_drewN ?_ _ | refine bel_drew ?_)); rintro e w6 ⟨rfl, b6'⟩; have b6 : Below w5.heap.size w5 w6 := ⟨b6'.os, b6'.tape, b6'.output, b6'.size, b6'.block⟩; have HM6 := Lib.hid (HM.out.below b6); have HB6 := Lib.hid (HB.out.below b6); have HZ6 := Lib.hid (show TwoCells w6 bh h g (.slice (S h).a ln (S h).c) A.k from ⟨by have := HM6.out.cell hh1; rw [(HM6.out.len hh1).1, hln] at this; exact this, HB6.out.cells.2.1⟩); clear b6 b6'))
                        have a1 := HB6.out.cells.2.1
                        have z0 := HM6.out.cell hh1
                        clear CA' HZ HZ6
                        go_wp2_with fail
                        refine (CP'.out _ (by first | exact HM6.out | (rw [← hln]; exact HM6.out))).mono ?_
                        rintro e w7 ⟨rfl, d7, p7, k7⟩
                        have HM7 := Lib.hid (HM6.out.app d7 p7 k7)
                        have zf := HM7.out.frz h
                        have z0 := HM7.out.cell hh1

                        have HM8 := Lib.hid (show PgAt w L bh b D H S h (H h).length (w7.setCell ⟨bh, h, none⟩ (.slice (S h).a ln (S h).c)) from by
                          have hs := HM7.out.set hh1 (S h) (H h) (HM7.out.r h hh1)
                          rw [upd_self, upd_self] at hs
                          have e1 : (S h).v = .slice (S h).a ln (S h).c := by rw [Sx.v, (HM7.out.len hh1).1, hln]
                          rw [e1] at hs
                          exact hs)
                        clear d7 p7 k7 CP' HM7
                        go_wp2_with fail
                        go_meet
                        case rel => exact ⟨b, h, _, rfl, rfl, rfl, hh1, ⟨_, _, _, HM8.out, HIv.out⟩⟩

                      · by_cases hf : r = ln
                        · have CA := fun W (_ : Below w5.heap.size w5 W) => ref7_Append_full (S h).a ln (S h).c (r : Int) A.k s W (by omega) (by omega) (by omega) (by omega)
                          have CP := fun W (Q : PgAt w L bh b D H S h (H h).length W) => pages_Append W b L D h (H h).length A.k s Q.p Q.d hh1 (HIv.out.room h hh1)

                          rw [append_full hb (by rw [hroom, hln]; exact hf)] at CP
                          clear hb hf
                          have CA' := Lib.hid CA
                          have CP' := Lib.hid CP
                          clear CA CP
                          go_wp2_with fail
                          go_region_held3 (fun w' => w'.cell? ⟨bh, h, none⟩ = some (.slice (S h).a ln (S h).c) ∧ w'.cell? ⟨g, 1, none⟩ = some (.int .i64 A.k))
                            ((refine TwoCells.flat ?_; (repeat (first | (with_reducible exact HZ.out) | (with_reducible exact HZ6.out) | refine TwoCells.drewN ?_ _ | refine TwoCells.drew ?_))))
                            (first
                            | (go_at_call 46; (with_reducible refine (CA'.out _ ?_).mono ?_); (repeat (first | exact Below.refl _ _ | refine bel_drewN ?_ _ | refine bel_drew ?_)); rintro e w6 ⟨rfl, b6'⟩; have b6 : Below w5.heap.size w5 w6 := ⟨b6'.os, b6'.tape, b6'.output, b6'.size, b6'.block⟩; have HM6 := Lib.hid (HM.out.below b6); have HB6 := Lib.hid (HB.out.below b6); have HZ6 := Lib.hid (show TwoCells w6 bh h g (.slice (S h).a ln (S h).c) A.k from ⟨by have := HM6.out.cell hh1; rw [(HM6.out.len hh1).1, hln] at this; exact this, HB6.out.cells.2.1⟩); clear b6 b6'))
                          have a1 := HB6.out.cells.2.1
                          have z0 := HM6.out.cell hh1
                          clear CA' HZ HZ6
                          go_wp2_with fail
                          refine (CP'.out _ (by first | exact HM6.out | (rw [← hln]; exact HM6.out))).mono ?_
                          rintro e w7 ⟨rfl, d7, p7, k7⟩
                          have HM7 := Lib.hid (HM6.out.app d7 p7 k7)
                          have zf := HM7.out.frz h
                          have z0 := HM7.out.cell hh1

                          have HM8 := Lib.hid (show PgAt w L bh b D H S h (H h).length (w7.setCell ⟨bh, h, none⟩ (.slice (S h).a ln (S h).c)) from by
                            have hs := HM7.out.set hh1 (S h) (H h) (HM7.out.r h hh1)
                            rw [upd_self, upd_self] at hs
                            have e1 : (S h).v = .slice (S h).a ln (S h).c := by rw [Sx.v, (HM7.out.len hh1).1, hln]
                            rw [e1] at hs
                            exact hs)
                          clear d7 p7 k7 CP' HM7
                          go_wp2_with fail
                          go_meet
                          case rel => exact ⟨b, h, _, rfl, rfl, rfl, hh1, ⟨_, _, _, HM8.out, HIv.out⟩⟩

                        · have CA := fun W (hbW : Below w5.heap.size w5 W) => ref7_Append_sx (S h).a (S h).c (H h) (r : Int) A.k s W (by omega) (by omega) (by omega) (by omega) (by omega) (Kd.C_below HLC.out hbW) (by omega)
                          rw [hln] at CA
                          obtain ⟨D1, hpa, hI1⟩ := HIv.out.append h hh1 (by rw [hroom, hln]; omega) A.k s (by omega) (by omega) (by omega)
                          have CP := fun W (Q : PgAt w L bh b D H S h (H h).length W) => pages_Append W b L D h (H h).length A.k s Q.p Q.d hh1 (HIv.out.room h hh1)

                          rw [hpa, hln] at CP
                          have HI1 := Lib.hid hI1
                          clear hb hf hpa hI1
                          have CA' := Lib.hid CA
                          have CP' := Lib.hid CP
                          clear CA CP
                          go_wp2_with fail
                          go_region_held3 (fun w' => w'.cell? ⟨bh, h, none⟩ = some (.slice (S h).a ln (S h).c) ∧ w'.cell? ⟨g, 1, none⟩ = some (.int .i64 A.k))
                            ((refine TwoCells.flat ?_; (repeat (first | (with_reducible exact HZ.out) | (with_reducible exact HZ6.out) | refine TwoCells.drewN ?_ _ | refine TwoCells.drew ?_))))
                            (first
                            | (go_at_call 46; (with_reducible refine (CA'.out _ ?_).mono ?_); (repeat (first | exact Below.refl _ _ | refine bel_drewN ?_ _ | refine bel_drew ?_)); rintro e w6 ⟨t6, rfl, hR6, b6'⟩; have R6 := Lib.hid hR6; clear hR6; have b6 : Below w5.heap.size w5 w6 := ⟨b6'.os, b6'.tape, b6'.output, b6'.size, b6'.block⟩; have HM6 := Lib.hid (HM.out.below b6); have HB6 := Lib.hid (HB.out.below b6); have HZ6 := Lib.hid (show TwoCells w6 bh h g (.slice (S h).a ln (S h).c) A.k from ⟨by have := HM6.out.cell hh1; rw [(HM6.out.len hh1).1, hln] at this; exact this, HB6.out.cells.2.1⟩); clear b6 b6'))
                          have a1 := HB6.out.cells.2.1
                          have z0 := HM6.out.cell hh1
                          clear CA' HZ HZ6
                          go_wp2_with fail
                          refine (CP'.out _ (by first | exact HM6.out | (rw [← hln]; exact HM6.out))).mono ?_
                          rintro e w7 ⟨rfl, d7, p7, k7⟩
                          have HM7 := Lib.hid (HM6.out.app d7 p7 k7)
                          have zf := HM7.out.frz h
                          have z0 := HM7.out.cell hh1

                          have HM8 := Lib.hid (show PgAt w L bh b D1 (upd H h (H h ++ [⟨A.k, s⟩])) (upd S h t6) h (upd H h (H h ++ [⟨A.k, s⟩]) h).length (w7.setCell ⟨bh, h, none⟩ (.slice t6.a t6.n t6.c)) from by
                            rw [upd_same, List.length_append, List.length_singleton, hln]
                            exact HM7.out.set hh1 t6 _ (rows_keepT R6.out k7 (HM6.out.notT (by decide) (by decide) (by decide))))
                          clear d7 p7 k7 CP' HM7
                          go_wp2_with fail
                          go_meet
                          case rel => exact ⟨b, h, _, rfl, rfl, rfl, hh1, ⟨_, _, _, HM8.out, HI1.out⟩⟩
      case rest =>
        clear HM HB HIv HCV HcA
        obtain ⟨b, h, e0, rfl, rfl, rfl, hh1, HP⟩ := hcut
        obtain ⟨D, H, S, hP, hIv⟩ := HP.out
        have HM := Lib.hid hP
        have HIv := Lib.hid hIv
        have hh2 : (h : Int) < 2 := by omega
        have hh0 : (0 : Int) ≤ (h : Int) := by omega
        clear hP hIv HP
        as_aux_lemma =>
          go_wp2_with fail
          obtain ⟨sa, ln, sc, hT⟩ := tail_of HM.out HIv.out hh1 HRM.out
          have HT := Lib.hid hT
          have zs := hT.small
          have z0 := hT.cell _ HM.out
          have zw : IntKind.i64.wrap ((r : Int) - (ln : Int)) = (r : Int) - (ln : Int) := IntWalk.i64_in _ (by omega)
          clear hT
          go_region_held3 (fun w' => w'.cell? ⟨bh, h, none⟩ = some (.slice sa ln sc))
            ((refine HT.out.cell _ ?_; (repeat (first | (with_reducible exact HM.out) | (with_reducible exact HM9.out) | refine PgAt.drewN ?_ _ | refine PgAt.drew ?_))))
            (first
            | (go_at_call 47; (with_reducible refine (HT.out.half _ ?_).mono ?_); (repeat (first | exact HM.out | refine PgAt.drewN ?_ _ | refine PgAt.drew ?_)); rintro e w' ⟨rfl, rfl⟩)
            | (go_at_call 24; (with_reducible refine (HT.out.next _ ?_).mono ?_); (repeat (first | exact HM.out | refine PgAt.drewN ?_ _ | refine PgAt.drew ?_)); rintro e w' ⟨rfl, rfl⟩)
            | (go_at_call 26; (with_reducible refine (HT.out.free _ ?_).mono ?_); (repeat (first | exact HM.out | refine PgAt.drewN ?_ _ | refine PgAt.drew ?_)); rintro e w' ⟨rfl, ⟨md, rfl⟩⟩)
            | (go_at_call 48; (with_reducible refine (HT.out.reads _ ?_).mono ?_); (repeat (first | exact HM.out | refine PgAt.drewN ?_ _ | refine PgAt.drew ?_)); rintro e w9 ⟨rfl, b9⟩; have HM9 := Lib.hid ((HM.out.below (w' := w9) ⟨b9.os, b9.tape, b9.output, b9.size, b9.block⟩)); clear b9))
          all_goals
            have HS : Hid (PagesPlaysAt w L bh m b h w9) := ⟨_, _, _, HM9.out, HIv.out⟩
            clear HM9 z0 HT zw
            go_wp2
            go_roundw
            case rel => exact ⟨k + 1, b, h, e0, rfl, rfl, rfl, by go_num, by have := Hlt.out; omega, hh1, HS⟩
            case measure => have := Hlt.out; simp [intOf]; omega
    · obtain ⟨D, H, S, hP, hIv⟩ := HK.out
      by_cases hkn : k < n
      · have hkI : (k : Int) < (n : Int) := by omega
        have hk60 : ¬ (k : Int) < 60 := by omega
        clear hlt hkn hn64 hk
        obtain ⟨h', he, hh'⟩ : ∃ h' : Nat, (1 : Int) - (h : Int) = (h' : Int) ∧ h' ≤ 1 := ⟨1 - h, by omega, by omega⟩
        have h0' : (0 : Int) ≤ (h' : Int) := by omega
        have h2' : (h' : Int) < 2 := by omega

        have z0 := hP.cell hh'
        have hl := (hP.len hh').1
        rw [hl] at z0
        have hCr := (hP.len hh').2.2
        rw [hl] at hCr
        have CO := Lib.hid (pages_Open wr L D h' (H h').length hP.d hh' (hIv.room h' hh'))
        have CL := Lib.hid (fun W (Q : PgAt w L bh wr.heap.size D H S h' (H h').length W) (hc : Kd.C k23 W (S h').a (H h').length (H h')) => law7_reads W wr.heap.size L D h' (H h') (S h').a (S h').c Q.p Q.d hh' (hIv.room h' hh') (hIv.holds h' hh') hIv.live hc)
        have HM := Lib.hid hP
        have HCr := Lib.hid hCr
        clear hP hIv HK hCr hl
        go_wp2_with fail
        refine CO.out.mono ?_
        rintro e w6 ⟨rfl, p6, b6⟩
        have HM6 := Lib.hid (HM.out.turn p6 b6 (Nat.le_refl _))
        have HC6 := Lib.hid (Kd.C_below HCr.out b6)
        have z0 := HM6.out.cell hh'
        rw [(HM6.out.len hh').1] at z0
        clear p6 b6 CO HCr HM
        go_wp2_with fail
        refine (CL.out _ HM6.out HC6.out).mono ?_
        rintro e w7 ⟨rfl, b7⟩
        have HB7 := Lib.hid (bel_then HM6.out.bel b7)
        clear b7 CL HM6 HC6 z0
        go_wp2
        go_ret
        exact ⟨rfl, HB7.out⟩
      · have hkI : ¬ (k : Int) < (n : Int) := by omega
        clear hlt hkn hn64 hk
        obtain ⟨h', he, hh'⟩ : ∃ h' : Nat, (1 : Int) - (h : Int) = (h' : Int) ∧ h' ≤ 1 := ⟨1 - h, by omega, by omega⟩
        have h0' : (0 : Int) ≤ (h' : Int) := by omega
        have h2' : (h' : Int) < 2 := by omega

        have z0 := hP.cell hh'
        have hl := (hP.len hh').1
        rw [hl] at z0
        have hCr := (hP.len hh').2.2
        rw [hl] at hCr
        have CO := Lib.hid (pages_Open wr L D h' (H h').length hP.d hh' (hIv.room h' hh'))
        have CL := Lib.hid (fun W (Q : PgAt w L bh wr.heap.size D H S h' (H h').length W) (hc : Kd.C k23 W (S h').a (H h').length (H h')) => law7_reads W wr.heap.size L D h' (H h') (S h').a (S h').c Q.p Q.d hh' (hIv.room h' hh') (hIv.holds h' hh') hIv.live hc)
        have HM := Lib.hid hP
        have HCr := Lib.hid hCr
        clear hP hIv HK hCr hl
        go_wp2_with fail
        refine CO.out.mono ?_
        rintro e w6 ⟨rfl, p6, b6⟩
        have HM6 := Lib.hid (HM.out.turn p6 b6 (Nat.le_refl _))
        have HC6 := Lib.hid (Kd.C_below HCr.out b6)
        have z0 := HM6.out.cell hh'
        rw [(HM6.out.len hh').1] at z0
        clear p6 b6 CO HCr HM
        go_wp2_with fail
        refine (CL.out _ HM6.out HC6.out).mono ?_
        rintro e w7 ⟨rfl, b7⟩
        have HB7 := Lib.hid (bel_then HM6.out.bel b7)
        clear b7 CL HM6 HC6 z0
        go_wp2
        go_ret
        exact ⟨rfl, HB7.out⟩
end Go.Proofs.Ytcbefilcdelplaa
