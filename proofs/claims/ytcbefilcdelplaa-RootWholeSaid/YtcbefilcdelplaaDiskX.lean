/- The disk's Crash, walked. -/
import Derived.Test.YtcbefilcdelplaaDiskK
namespace Go.Proofs.Ytcbefilcdelplaa
open Go.RowKit
open Go.ChangeMaps (setBlock)
set_option linter.unusedVariables false
set_option linter.unusedSimpArgs false
attribute [local go_sem ↓] max_mx min_mn

/-- A row of numbers of a call's own: from the head of block g, or nil. -/
def OwnInts (w : World) (v : Value) (B : Nat) (l : List Nat) : Prop :=
  (l = [] ∧ ∃ A c, v = .slice A 0 c) ∨ ∃ g c, v = .slice (some ⟨g, 0, none⟩) l.length c ∧ B ≤ g ∧ ∀ i, i < l.length → w.cell? ⟨g, i, none⟩ = some (.int .i64 ((l.getD i 0 : Nat) : Int))

theorem add0 (g i : Nat) : (⟨g, 0, none⟩ : Addr).add i = ⟨g, i, none⟩ := by unfold Addr.add; split <;> simp_all

theorem OwnInts.of {w : World} {v : Value} {B : Nat} {e : TypeId} {l : List Nat} (h : w.ownsRow B e 1 v l.length (l.map fun i : Nat => Value.int .i64 (i : Int))) : OwnInts w v B l := by
  rcases h.2 with ⟨rfl, h1⟩ | ⟨g, cap, cur, rfl, hg, _⟩
  · exact .inl ⟨List.eq_nil_of_length_eq_zero h1, none, 0, rfl⟩
  · refine .inr ⟨g, cap, rfl, hg, fun i hi => ?_⟩
    rw [← add0]
    exact h.cells (g := g) rfl i (.int .i64 ((l.getD i 0 : Nat) : Int)) (by simp [hi, List.getD_eq_getElem?_getD])

theorem OwnInts.keep {w w' : World} {v : Value} {B : Nat} {l : List Nat} (h : OwnInts w v B l) {F : Nat → Prop} (k : Keep F w w') (hf : ∀ b, F b → b < B) : OwnInts w' v B l := by
  rcases h with h | ⟨g, c, hv, hg, hc⟩
  · exact .inl h
  · exact .inr ⟨g, c, hv, hg, fun i hi => by
      rw [k.cell (World.block_lt_of_cell? w _ (hc i hi)) (fun hF => by have := hf g hF; omega)]
      exact hc i hi⟩

/-- Behind k rounds. -/
def CrashAt (w : World) (L : Loc) (D : Dk) (v vch : Value) (choice : List Int) (k : Nat) (wr : World) : Prop :=
  DiskAt wr L (D.crashTo choice k) ∧ OwnInts wr v w.heap.size D.looseL ∧ IntsAt wr vch choice ∧ Keep L.foot w wr

theorem CrashAt.step {w : World} {L : Loc} {D : Dk} {v vch : Value} {choice : List Int} {k : Nat} {wr wr' : World} (h : CrashAt w L D v vch choice k wr) (hD : DiskAt w L D)
    (hne : ∀ b off n c, vch = .slice (some ⟨b, off, none⟩) n c → L.foot b → choice = []) (hd : DiskAt wr' L (D.crashTo choice (k + 1))) (hk : Keep L.foot wr wr') : CrashAt w L D v vch choice (k + 1) wr' :=
  ⟨hd, h.2.1.keep hk (fun b hb => hD.foot_lt hb), h.2.2.1.keep hk (fun b hb off c n hv => hne b off n c hv hb), h.2.2.2.andThen hk (fun _ _ h => h)⟩

theorem CrashAt.store {w : World} {L : Loc} {D : Dk} {v vch : Value} {choice : List Int} {k i : Nat} {wr : World} (h : CrashAt w L D v vch choice k wr) (hD : DiskAt w L D)
    (hne : ∀ b off n c, vch = .slice (some ⟨b, off, none⟩) n c → L.foot b → choice = []) (hi : D.looseL.getD k 0 = i) (hm : i ∈ D.was.map (·.1)) {s : ByteArray}
    (hs : joinAt ((D.crashTo choice k).sec i) (D.old i) (keepN choice k) = s) : CrashAt w L D v vch choice (k + 1) (wr.setCell ⟨L.n, i, none⟩ (.string s)) := by
  have hlt : i < (D.crashTo choice k).now.length := by
    rw [crashTo_len]
    obtain ⟨p, hp, rfl⟩ := List.mem_map.1 hm
    exact hD.ok.keys p hp
  have hsz : s.size = 256 := by
    rw [← hs]
    exact joinAt_size (sec_size h.1.ok hlt) (old_size hD.ok hm) (keepN_le _ _)
  refine h.step hD hne ?_ ((Keep.refl _ _).setCell (.inl (.inr (.inl rfl))) _)
  have := h.1.setNow i s hsz
  rw [Dk.crashTo, hi, hs]
  exact this

theorem CrashAt.drew {w : World} {L : Loc} {D : Dk} {v vch : Value} {choice : List Int} {k : Nat} {wr : World} (h : CrashAt w L D v vch choice k wr) : CrashAt w L D v vch choice k wr.drew :=
  ⟨h.1.drew, h.2.1, h.2.2.1, h.2.2.2.drew⟩

set_option maxHeartbeats 2000000 in
set_option maxRecDepth 100000 in
theorem disk_Crash (w : World) (L : Loc) (D : Dk) (vch : Value) (choice : List Int) (h : DiskAt w L D) (hch : IntsAt w vch choice) (hne : ∀ b off n c, vch = .slice (some ⟨b, off, none⟩) n c → L.foot b → choice = []) :
    Calls Try.prog 36 #[.pointer (some ⟨L.a, 0, none⟩), vch] w fun e w' => e = .returned (.tuple #[]) ∧ DiskAt w' L (D.crash choice) ∧ Keep L.foot w w' := by
  have CL := Lib.hid (disk_Loose w L D h)
  have HD := Lib.hid h
  have HNE := Lib.hid hne
  have hwl := was_len h.ok
  have hmo := h.ok.most
  have hll := (looseL_perm D).length_eq
  obtain ⟨n, hn⟩ : ∃ n, n = D.looseL.length := ⟨_, rfl⟩
  have hn6 : n ≤ 65536 := by rw [hn, hll]; simp; omega
  have HN := Lib.hid hn
  have HCH := Lib.hid hch
  obtain ⟨a, len, cap, hvc, hlen⟩ : ∃ a len cap, vch = .slice a len cap ∧ len = choice.length := by
    rcases hch with ⟨h2, a, c, h1⟩ | ⟨b, off, c, h1, _⟩
    · exact ⟨a, 0, c, h1, by rw [h2]; rfl⟩
    · exact ⟨_, _, c, h1, rfl⟩
  subst hvc
  have HL := Lib.hid hlen
  have hB0 := Lib.hid (Keep.refl L.foot w)
  clear h hne hwl hmo hll hn hch hlen
  go_enter Try.func36, Try.ntmps36
  go_wp2_with fail
  refine CL.out.mono ?_
  rintro e w1 ⟨v, rfl, hrow, hb1⟩
  have HO := Lib.hid (OwnInts.of hrow)
  have HC : Hid (CrashAt w L D v (.slice a len cap) choice 0 w1) := ⟨HD.out.below hb1, HO.out, HCH.out.keep (Keep.below (F := fun _ => False) hb1) (fun _ h => h.elim), Keep.below hb1⟩
  obtain ⟨A, c, hv⟩ : ∃ A c, v = .slice A n c := by
    rw [HN.out]
    rcases HO.out with ⟨h1, A, c, hv⟩ | ⟨g, c, hv, _⟩
    · exact ⟨A, c, by rw [h1]; exact hv⟩
    · exact ⟨_, c, hv⟩
  subst hv
  clear hrow hb1 HO CL
  go_wp2_with fail
  go_loopw [10] (fun x wr => ∃ k : Nat, x = .int .i64 k ∧ k ≤ n ∧ Hid (CrashAt w L D (.slice A n c) (.slice a len cap) choice k wr)) (fun x _ => n - (intOf x).toNat)
  case atStart => exact ⟨0, rfl, by omega, HC⟩
  case round =>
    obtain ⟨k, rfl, hk, HK⟩ := hrel
    clear HC
    by_cases hlt : k < n
    · obtain ⟨g, hA, hgc⟩ : ∃ g, A = some ⟨g, 0, none⟩ ∧ ∀ j, j < n → wr.cell? ⟨g, j, none⟩ = some (.int .i64 ((D.looseL.getD j 0 : Nat) : Int)) := by
        rcases HK.out.2.1 with ⟨h1, A', c', hv⟩ | ⟨g, c', hv, _, hc⟩
        · have := HN.out; rw [h1] at this; simp at this; omega
        · simp only [Value.slice.injEq] at hv
          exact ⟨g, hv.1, by rw [HN.out]; exact hc⟩
      subst hA
      obtain ⟨i, hi⟩ : ∃ i, D.looseL.getD k 0 = i := ⟨_, rfl⟩
      have hm : i ∈ D.was.map (·.1) := by
        rw [← looseL_mem, ← hi, List.getD_eq_getElem?_getD, List.getElem?_eq_getElem (by rw [← HN.out]; exact hlt)]
        exact List.getElem_mem _
      have q1 := hgc k hlt
      rw [hi] at q1
      have hil : i < (D.crashTo choice k).now.length := by
        rw [crashTo_len]
        obtain ⟨p, hp, rfl⟩ := List.mem_map.1 hm
        exact HD.out.ok.keys p hp
      obtain ⟨E, hE⟩ : ∃ E, D.crashTo choice k = E := ⟨_, rfl⟩
      have hEo : E.old i = D.old i := by rw [← hE]; simp only [Dk.old, crashTo_was]
      have hdE : DiskAt wr L E := by rw [← hE]; exact HK.out.1
      rw [hE] at hil
      obtain ⟨S, hS⟩ : ∃ S, E.sec i = S := ⟨_, rfl⟩
      obtain ⟨O, hO⟩ : ∃ O, D.old i = O := ⟨_, rfl⟩
      have hSz : S.size = 256 := by rw [← hS]; exact sec_size hdE.ok hil
      have hOz : O.size = 256 := by rw [← hO]; exact old_size HD.out.ok hm
      obtain ⟨nn, hnn⟩ : ∃ nn, keepN choice k = nn := ⟨_, rfl⟩
      have hn256 : nn ≤ 256 := by rw [← hnn]; exact keepN_le _ _
      have hlk := look_was hdE.drew i
      rw [hEo, hO] at hlk
      have d0 := hdE.cell0
      have d1 := hdE.cell1
      have dn := hdE.cellN hil
      rw [hS] at dn
      have df := hdE.frzN i
      obtain ⟨X, hX⟩ : ∃ X, S.extract 0 nn = X := ⟨_, rfl⟩
      obtain ⟨Y, hY⟩ : ∃ Y, O.extract nn O.size = Y := ⟨_, rfl⟩
      have sX := run_cut_h S nn (by omega)
      have sY := run_cut_l O nn (by omega)
      rw [hX] at sX
      rw [hY] at sY
      have hXs : X.size ≤ 256 := by rw [← hX, ByteArray.size_extract]; omega
      have hYs : Y.size ≤ 256 := by rw [← hY, ByteArray.size_extract]; omega
      have hcat : ¬ (9223372036854775807 < X.size + Y.size) := by omega
      have HS : Hid (CrashAt w L D (.slice (some ⟨g, 0, none⟩) n c) (.slice a len cap) choice (k + 1) (wr.drew.setCell ⟨L.n, i, none⟩ (.string (X ++ Y)))) :=
        CrashAt.store (CrashAt.drew HK.out) HD.out HNE.out hi hm (by rw [hE, hS, hO, hnn, joinAt, hX, hY])
      have hiI : (i : Int) < (E.now.length : Int) := by omega
      by_cases hkc : k < choice.length
      · obtain ⟨b, off, hb, hcc⟩ : ∃ b off, a = some ⟨b, off, none⟩ ∧ ∀ j, j < choice.length → wr.cell? ⟨b, off + j, none⟩ = some (.int .i64 (choice.getD j 0)) := by
          rcases HK.out.2.2.1 with ⟨h2, _⟩ | ⟨b, off, c', hv, hc⟩
          · rw [h2] at hkc; simp at hkc
          · simp only [Value.slice.injEq] at hv
            exact ⟨b, off, hv.1, hc⟩
        subst hb
        have q2 := hcc k hkc
        obtain ⟨x, hx⟩ : ∃ x, choice.getD k 0 = x := ⟨_, rfl⟩
        rw [hx] at q2
        obtain ⟨y, hy⟩ : ∃ y : Int, bits .and .i64 x 511 = y := ⟨_, rfl⟩
        have hmn : mn y 256 = (nn : Int) := by
          rw [← hnn, keepN, if_pos hkc, hx, mn_eq, ← hy, and511]
          omega
        have hkl : (k : Int) < (len : Int) := by rw [HL.out]; omega
        clear hi hm hil hE hEo hdE hS hO hSz hOz hnn hX hY hXs hYs hx hgc hcc hkc HK
        go_wp2_with fail
        go_region
        all_goals go_wp2
        all_goals go_roundw
        all_goals first
          | (case rel => exact ⟨k + 1, by go_num, by omega, HS⟩)
          | (case measure => simp [intOf]; omega)
      · have hkl : ¬ (k : Int) < (len : Int) := by rw [HL.out]; omega
        have hn0 : nn = 0 := by rw [← hnn, keepN, if_neg hkc]
        subst hn0
        have sX0 : ∀ W, (Instr.slice 9 (.string S) none (some (.int .i64 0)) none).run Try.prog W = .ok (.string X) W := sX
        have sY0 : ∀ W, (Instr.slice 9 (.string O) (some (.int .i64 0)) none none).run Try.prog W = .ok (.string Y) W := sY
        clear sX sY
        clear hi hm hil hE hEo hdE hS hO hSz hOz hnn hX hY hXs hYs hgc hkc HK
        go_wp2_with fail
        go_region
        all_goals go_wp2
        all_goals go_roundw
        all_goals first
          | (case rel => exact ⟨k + 1, by go_num, by omega, HS⟩)
          | (case measure => simp [intOf]; omega)
    · obtain rfl : k = n := by omega
      have hdE := HK.out.1
      have hwas : (D.crashTo choice k).was = D.was := crashTo_was _ _ _
      have hcr : D.crash choice = { D.crashTo choice k with was := [], halt := -1, down := false } := by rw [Dk.crash, ← HN.out]
      obtain ⟨E, hE⟩ : ∃ E, D.crashTo choice k = E := ⟨_, rfl⟩
      rw [hE] at hdE hcr
      have d1 := hdE.cell1
      obtain ⟨o, hrun, hD2⟩ := clear_was hdE
      have hk2 := HK.out.2.2.2.setBlock (b := L.m) (.inl (.inr (.inr rfl))) o
      have d3 := hD2.cell3
      have d4 := hD2.cell4
      have df := hD2.frz
      have HF := Lib.hid ((hD2.setHalt (-1) (by omega) (by omega)).setDown false)
      have HK2 := Lib.hid ((hk2.setCell (p := ⟨L.a, 3, none⟩) (.inl (.inl rfl)) (.int .i64 (-1))).setCell (p := ⟨L.a, 4, none⟩) (.inl (.inl rfl)) (.bool false))
      have HCR := Lib.hid hcr
      clear hdE hwas hcr hE hD2 hk2 HK
      go_wp2
      go_end0
      exact ⟨rfl, by rw [HCR.out]; exact HF.out, HK2.out⟩

end Go.Proofs.Ytcbefilcdelplaa
