/- dowserlaw05.is, walked. The reference's disk, plain. The reference's crash, plain. The disk and the reference's disk agree: plain steps. -/
import Derived.Test.YtcbefilcdelplaaR5AE
import Derived.Test.YtcbefilcdelplaaDiskX
import Derived.Deep.QuietTactic
import Derived.BigQuiet
import Derived.Lib.Hide
namespace Go.Proofs.Ytcbefilcdelplaa
open Go.RowKit
open Go.Proofs.YtcbefilcdelplaaW
open PrintWords (Kd Reps rd rdOf)
set_option linter.unusedVariables false
set_option linter.unusedSimpArgs false

theorem looseL_len_i64 {w : World} {L : Loc} {D : Dk} (h : DiskAt w L D) : (D.looseL.length : Int) ≤ 9223372036854775807 := by
  have h1 := (looseL_perm D).length_eq
  rw [List.length_map] at h1
  have h2 := was_len h.ok
  have h3 := h.ok.most
  omega

set_option maxHeartbeats 1000000 in
set_option maxRecDepth 100000 in
theorem law5_is (w : World) (L : Loc) (D : Dk) (i : Int) (A0 A1 A2 : Option Addr) (c0 n1 c1 c2 : Nat) (hl : Int) (h : DiskAt w L D) (h0 : Kd.C Kd.string w A0 D.now.length D.now) (h2 : Kd.C (Kd.int .i64) w A2 D.looseL.length (D.looseL.map fun i : Nat => (i : Int))) :
    Calls Try.prog 43 #[.pointer (some ⟨L.a, 0, none⟩), .agg #[.slice A0 D.now.length c0, .slice A1 n1 c1, .slice A2 D.looseL.length c2, .int .i64 D.writes, .int .i64 hl, .bool D.down], .int .i64 i] w fun e w' => e = .returned (.bool true) ∧ Below w.heap.size w w' := by
  have H := Lib.hid h
  have H0 := Lib.hid h0
  have H2 := Lib.hid h2
  clear h h0 h2
  go_enter Try.func43, Try.ntmps43
  go_wp2_with fail
  refine (disk_Loose _ L D (H.out.alloc _)).mono ?_
  rintro e w2 ⟨v, rfl, hv, hb⟩
  have HV := Lib.hid (OwnInts.of hv)
  have HB := Lib.hid (bel_then (bel_alloc (Below.refl _ w) _) hb)
  have HX := Lib.hid ((hb.block _ (by simp)).trans (heap_alloc_self w (.cells #[.slice A0 D.now.length c0, .slice A1 n1 c1, .slice A2 D.looseL.length c2, .int .i64 D.writes, .int .i64 hl, .bool D.down] 72 (0, 0))))
  obtain ⟨vA, vn, vc, rfl⟩ : ∃ A n c, v = .slice A n c := by
    rcases hv.2 with ⟨rfl, _⟩ | ⟨g, cap, cur, rfl, _⟩
    · exact ⟨_, _, _, rfl⟩
    · exact ⟨_, _, _, rfl⟩
  have hvn : vn = D.looseL.length := by
    rcases HV.out with ⟨h1, A, c, h2⟩ | ⟨g, c, h2, _⟩
    · injection h2 with _ h3 _; rw [h3, h1]; rfl
    · injection h2
  subst hvn
  have x0 : w2.cell? ⟨w.heap.size, 0, none⟩ = some (.slice A0 D.now.length c0) := (cell_of_heap HX.out 0).trans rfl
  have x2 : w2.cell? ⟨w.heap.size, 2, none⟩ = some (.slice A2 D.looseL.length c2) := (cell_of_heap HX.out 2).trans rfl
  have x3 : w2.cell? ⟨w.heap.size, 3, none⟩ = some (.int .i64 D.writes) := (cell_of_heap HX.out 3).trans rfl
  have x5 : w2.cell? ⟨w.heap.size, 5, none⟩ = some (.bool D.down) := (cell_of_heap HX.out 5).trans rfl
  have CS := Lib.hid (fun W (h : DiskAt W L D) => disk_Size W L D h)
  have CW := Lib.hid (fun W (h : DiskAt W L D) => disk_Writes W L D h)
  have HD := Lib.hid (H.out.below HB.out)
  clear hv hb
  go_wp2_with fail
  go_quiet ((first
    | (go_at_call 22; exact Calls.quiet_of_same ((disk_Size _ L D (HD.out.drewN _)).mono (fun e w' h => ⟨h.1, h.2.symm⟩)))
    | (go_at_call 32; exact Calls.quiet_of_same ((disk_Writes _ L D (HD.out.drewN _)).mono (fun e w' h => ⟨h.1, h.2.symm⟩)))))
  have HLL := Lib.hid (looseL_len_i64 H.out)
  have hll := HLL.out
  go_wp2_with fail
  go_loop [38] (fun i => ∃ k : Nat, k ≤ D.looseL.length ∧ i = .int .i64 k) (fun i => D.looseL.length - (intOf i).toNat)
  case atStart => exact ⟨0, by omega, rfl⟩
  case round =>
    obtain ⟨k, hk, rfl⟩ := hrel
    by_cases hlt : k < D.looseL.length
    · obtain ⟨ad, rfl, ha⟩ := Kd.at_int (Kd.C_below H2.out HB.out) (k : Int) (by omega) (by omega)
      have hrd : rd (D.looseL.map fun i : Nat => (i : Int)) (k : Int) = ((D.looseL.getD k 0 : Nat) : Int) := by
        simp [rd, List.getD_eq_getElem?_getD, List.getElem?_map, List.getElem?_eq_getElem hlt]
      rw [hrd] at ha
      obtain ⟨g, c, hv, hg, hc⟩ := (HV.out.resolve_left (fun h => by have := h.1; rw [this] at hlt; simp at hlt))
      injection hv with hv1 hv2 hv3
      subst hv1
      have hck := hc k hlt
      have hkI : (k : Int) < (D.looseL.length : Int) := by omega
      clear hrd hv2 hv3 hc hg
      simp only [Int.toNat_natCast] at ha
      go_wp2_with fail
      go_round
      case rel => exact ⟨k + 1, by omega, by go_num⟩
      case measure => simp [intOf]; omega
    · have hkI : ¬ (k : Int) < (D.looseL.length : Int) := by omega
      have CR := disk_Read (w2.drewN nq) L D i (HD.out.drewN nq)
      have HB' := Lib.hid (bel_drewN HB.out nq)
      cases hd : D.down with
      | true =>
        have e : D.read i = (ByteArray.empty, 6) := by simp [Dk.read, hd]
        rw [e] at CR
        rw [hd] at x5
        have CR' := Lib.hid CR
        clear CR e hd
        go_wp2_with fail
        refine CR'.out.mono ?_
        rintro e w' ⟨rfl, rfl⟩
        go_wp2
        go_ret
        exact ⟨rfl, HB'.out⟩
      | false =>
        rw [hd] at x5
        by_cases i0 : i < 0
        · have e : D.read i = (ByteArray.empty, 7) := by
            have : D.is i = false := by simp [Dk.is]; omega
            simp [Dk.read, hd, this]
          rw [e] at CR
          have CR' := Lib.hid CR
          clear CR e hd
          go_wp2_with fail
          refine CR'.out.mono ?_
          rintro e w' ⟨rfl, rfl⟩
          go_wp2
          go_ret
          exact ⟨rfl, HB'.out⟩
        · by_cases i1 : (D.now.length : Int) ≤ i
          · have e : D.read i = (ByteArray.empty, 7) := by
              have : D.is i = false := by simp [Dk.is]; omega
              simp [Dk.read, hd, this]
            rw [e] at CR
            have CR' := Lib.hid CR
            clear CR e hd
            go_wp2_with fail
            refine CR'.out.mono ?_
            rintro e w' ⟨rfl, rfl⟩
            go_wp2
            go_ret
            exact ⟨rfl, HB'.out⟩
          · have e : D.read i = (D.sec i.toNat, 0) := by
              have : D.is i = true := by simp [Dk.is]; omega
              simp [Dk.read, hd, this]
            rw [e] at CR
            have CR' := Lib.hid CR
            obtain ⟨ad, rfl, ha⟩ := Kd.at_string (Kd.C_below H0.out HB.out) i (by omega) (by omega)
            have hrd : rdOf ByteArray.empty D.now i = D.sec i.toNat := rfl
            rw [hrd] at ha
            have j0 : 0 ≤ i := by omega
            have j1 : i < (D.now.length : Int) := by omega
            clear CR e hd hrd
            generalize D.sec i.toNat = t at *
            go_wp2_with fail
            refine CR'.out.mono ?_
            rintro e w' ⟨rfl, rfl⟩
            go_wp2
            go_ret
            exact ⟨rfl, HB'.out⟩
end Go.Proofs.Ytcbefilcdelplaa

namespace Go.Proofs.Ytcbefilcdelplaa
open Go.RowKit
open Go.Proofs.YtcbefilcdelplaaW
open PrintWords (Kd Reps rd rdOf)
set_option linter.unusedVariables false
set_option linter.unusedSimpArgs false

/-- One number more among sorted ones, as the reference goes. -/
def goW (x : Int) : List Int → Bool → List Int → List Int
  | [], done, out => if done then out else out ++ [x]
  | y :: t, done, out => goW x t (done || decide (x ≤ y)) ((if !done && decide (x < y) then out ++ [x] else out) ++ [y])

theorem with_l0 (x : Int) (l : List Int) (hl : l.length ≤ 100000) : ∀ (d j k : Nat) (out : List Int) (done : Bool), l.length - j = d → j ≤ l.length → d < k → out.length ≤ 2 * j →
    Pref5.dowserref05_with.l0 k x out done l (l.length : Int) (j : Int) = some (goW x (l.drop j) done out)
  | 0, j, k, out, done, hd, hj, hk, ho => by
    obtain ⟨k, rfl⟩ : ∃ k', k = k' + 1 := ⟨k - 1, by omega⟩
    rw [Pref5.dowserref05_with.l0, if_neg (by omega), List.drop_of_length_le (by omega), goW]
    cases done with
    | true => rfl
    | false => rw [if_neg (by decide), if_pos (by omega)]; rfl
  | d + 1, j, k, out, done, hd, hj, hk, ho => by
    obtain ⟨k, rfl⟩ : ∃ k', k = k' + 1 := ⟨k - 1, by omega⟩
    have hlt : j < l.length := by omega
    have hrd : rd l (j : Int) = l[j] := by simp [rd, List.getD_eq_getElem?_getD, List.getElem?_eq_getElem hlt]
    rw [Pref5.dowserref05_with.l0, if_pos (by omega), if_pos (by omega), if_pos (by omega), hrd, IntWalk.wrap64_in _ (by omega), ← Int.natCast_succ, List.drop_eq_getElem_cons hlt, goW]
    cases done with
    | true =>
      rw [if_pos rfl, if_pos (by omega)]
      have := with_l0 x l hl d (j + 1) k (out ++ [l[j]]) true (by omega) (by omega) (by omega) (by rw [List.length_append, List.length_singleton]; omega)
      simpa using this
    | false =>
      rw [if_neg (by decide)]
      by_cases h : x < l[j]
      · rw [if_pos h, if_pos (by omega), Option.bind_some, if_pos (by rw [List.length_append, List.length_singleton]; omega)]
        have := with_l0 x l hl d (j + 1) k (out ++ [x] ++ [l[j]]) (decide (x ≤ l[j])) (by omega) (by omega) (by omega) (by simp; omega)
        simpa [h] using this
      · rw [if_neg h, if_pos (by omega)]
        have := with_l0 x l hl d (j + 1) k (out ++ [l[j]]) (decide (x ≤ l[j])) (by omega) (by omega) (by omega) (by rw [List.length_append, List.length_singleton]; omega)
        simpa [h] using this

theorem with_f (x : Int) (l : List Int) (hl : l.length ≤ 100000) (k : Nat) (hk : l.length < k) : Pref5.dowserref05_with.f k l x = some (goW x l false []) := by
  have := with_l0 x l hl l.length 0 k [] false (by omega) (by omega) hk (by simp)
  rw [Pref5.dowserref05_with.f]
  simpa using this

/-- What comes of it: the same numbers and the new one, in their order. -/
theorem goW_true (x : Int) : ∀ (l out : List Int), goW x l true out = out ++ l
  | [], out => by simp [goW]
  | y :: t, out => by rw [goW]; simp [goW_true x t]
theorem goW_false (x : Int) : ∀ (l out : List Int), l.Pairwise (fun a b => a < b) → goW x l false out = out ++ (if x ∈ l then l else l.filter (fun y => decide (y < x)) ++ x :: l.filter (fun y => decide (x < y)))
  | [], out, _ => by simp [goW]
  | y :: t, out, h => by
    have ht := (List.pairwise_cons.1 h).2
    have hy := (List.pairwise_cons.1 h).1
    rw [goW]
    by_cases hxy : x = y
    · subst hxy
      have : decide (x ≤ x) = true := by simp
      simp [goW_true]
    · by_cases hlt : x < y
      · have hnot : x ∉ t := fun hm => by have := hy x hm; omega
        have hf1 : t.filter (fun z => decide (z < x)) = [] := by
          rw [List.filter_eq_nil_iff]; intro z hz; have := hy z hz; simp; omega
        have hf2 : t.filter (fun z => decide (x < z)) = t := by
          rw [List.filter_eq_self]; intro z hz; have := hy z hz; simp; omega
        have hle : decide (x ≤ y) = true := by simp; omega
        have hnlt : ¬ y < x := by omega
        simp [hlt, hle, goW_true, hxy, hnot, hf1, hf2, hnlt]
      · have hle : decide (x ≤ y) = false := by simp; omega
        have hylt : y < x := by omega
        have ih := goW_false x t (out ++ [y]) ht
        have hlt' := hlt
        simp only [hlt, hle, Bool.or_false, decide_false, Bool.and_false, Bool.not_false] at *
        simp only [Bool.false_eq_true, if_false]
        rw [ih]
        by_cases hm : x ∈ t
        · simp [hm, hxy]
        · have hny : ¬ x < y := by omega
          simp [hm, hxy, hylt, hny]
end Go.Proofs.Ytcbefilcdelplaa

namespace Go.Proofs.Ytcbefilcdelplaa.Pref5
open Go.RowKit Go.Proofs.YtcbefilcdelplaaW.PrintWords Go.Proofs.YtcbefilcdelplaaW.PrintLast Go.Proofs.YtcbefilcdelplaaW.PrintMore
theorem Crash_eq (k : Nat) (x1 : List Int) (x5 : List ByteArray) (x14 : List Int) (x15 : Int) (x16 : Int) (x139000 : List ByteArray) (x139001 : List ByteArray) (x139002 : List Int) (x139003 : Int) (x139004 : Int) (x139005 : Bool) : dowserref05_Crash.l0 (k + 1) x1 x5 x14 x15 x16 x139000 x139001 x139002 x139003 x139004 x139005 = (if x16 < x15 then (if 0 ≤ x16 then (if x16 < (x14.length : Int) then (if x16 < (x1.length : Int) then (if 0 ≤ (rd x14 x16) then (if (rd x14 x16) < (x5.length : Int) then (if 0 ≤ (mn (Int.tmod (wrap64 ((Int.tmod (rd x1 x16) 512) + 512)) 512) 256) then (if (mn (Int.tmod (wrap64 ((Int.tmod (rd x1 x16) 512) + 512)) 512) 256) ≤ ((rdOf ByteArray.empty x5 (rd x14 x16)).size : Int) then (if (rd x14 x16) < (x139001.length : Int) then (if (mn (Int.tmod (wrap64 ((Int.tmod (rd x1 x16) 512) + 512)) 512) 256) ≤ ((rdOf ByteArray.empty x139001 (rd x14 x16)).size : Int) then (if ((rdOf ByteArray.empty x5 (rd x14 x16)).extract 0 ((mn (Int.tmod (wrap64 ((Int.tmod (rd x1 x16) 512) + 512)) 512) 256) : Int).toNat).size + ((rdOf ByteArray.empty x139001 (rd x14 x16)).extract ((mn (Int.tmod (wrap64 ((Int.tmod (rd x1 x16) 512) + 512)) 512) 256) : Int).toNat (rdOf ByteArray.empty x139001 (rd x14 x16)).size).size ≤ 9223372036854775807 then (dowserref05_Crash.l0 k x1 (x5.set ((rd x14 x16) : Int).toNat (((rdOf ByteArray.empty x5 (rd x14 x16)).extract 0 ((mn (Int.tmod (wrap64 ((Int.tmod (rd x1 x16) 512) + 512)) 512) 256) : Int).toNat) ++ ((rdOf ByteArray.empty x139001 (rd x14 x16)).extract ((mn (Int.tmod (wrap64 ((Int.tmod (rd x1 x16) 512) + 512)) 512) 256) : Int).toNat (rdOf ByteArray.empty x139001 (rd x14 x16)).size))) x14 x15 (wrap64 (x16 + 1)) x139000 x139001 x139002 x139003 x139004 x139005) else (none)) else (none)) else (none)) else (none)) else (none)) else (none)) else (none)) else (if 0 ≤ (rd x14 x16) then (if (rd x14 x16) < (x5.length : Int) then (if 0 ≤ 0 then (if 0 ≤ ((rdOf ByteArray.empty x5 (rd x14 x16)).size : Int) then (if (rd x14 x16) < (x139001.length : Int) then (if 0 ≤ ((rdOf ByteArray.empty x139001 (rd x14 x16)).size : Int) then (if ((rdOf ByteArray.empty x5 (rd x14 x16)).extract 0 0).size + ((rdOf ByteArray.empty x139001 (rd x14 x16)).extract 0 (rdOf ByteArray.empty x139001 (rd x14 x16)).size).size ≤ 9223372036854775807 then (dowserref05_Crash.l0 k x1 (x5.set ((rd x14 x16) : Int).toNat (((rdOf ByteArray.empty x5 (rd x14 x16)).extract 0 0) ++ ((rdOf ByteArray.empty x139001 (rd x14 x16)).extract 0 (rdOf ByteArray.empty x139001 (rd x14 x16)).size))) x14 x15 (wrap64 (x16 + 1)) x139000 x139001 x139002 x139003 x139004 x139005) else (none)) else (none)) else (none)) else (none)) else (none)) else (none)) else (none))) else (none)) else (none)) else ((some (([] : List ByteArray) : List ByteArray)).bind fun y154 => (if y154.length + x5.length < 8796093022208 then (some (x5, (y154 ++ x5), ([] : List Int), x139003, (-1), false)) else (none)))) := rfl
end Go.Proofs.Ytcbefilcdelplaa.Pref5
namespace Go.Proofs.Ytcbefilcdelplaa
open Go.RowKit
open Go.Proofs.YtcbefilcdelplaaW
open PrintWords (Kd Reps rd rdOf)
set_option linter.unusedVariables false
set_option linter.unusedSimpArgs false

/-- Go's way to a number below 512 is Euclid's. -/
theorem mod512 (c : Int) : Int.tmod (wrap64 (Int.tmod c 512 + 512)) 512 = c % 512 := by
  have h1 := Int.tmod_lt_of_pos c (show (0 : Int) < 512 by decide)
  have h2 : -512 < Int.tmod c 512 := by
    have := Int.lt_tmod_of_pos c (show (0 : Int) < 512 by decide); omega
  have h3 : Int.tmod c 512 % 512 = c % 512 := by
    have e := Int.mul_tdiv_add_tmod c 512
    have : Int.tmod c 512 = c - 512 * Int.tdiv c 512 := by omega
    rw [this]; omega
  rw [IntWalk.wrap64_in _ (by omega), Int.tmod_eq_emod_of_nonneg (by omega)]
  omega

theorem sizes_to {D : Dk} (h : D.Ok) (choice : List Int) : ∀ j, j ≤ D.looseL.length → ∀ s ∈ (D.crashTo choice j).now, s.size = 256
  | 0, _, s, hs => h.now s hs
  | j + 1, hj, s, hs => by
    rw [Dk.crashTo] at hs
    rcases List.mem_or_eq_of_mem_set hs with hs | rfl
    · exact sizes_to h choice j (by omega) s hs
    · have hlt : j < D.looseL.length := by omega
      have hm : D.looseL.getD j 0 ∈ D.looseL := by
        rw [List.getD_eq_getElem?_getD, List.getElem?_eq_getElem hlt]; exact List.getElem_mem hlt
      have hm' := (looseL_mem D _).1 hm
      have hi : D.looseL.getD j 0 < D.now.length := by
        obtain ⟨p, hp, he⟩ := List.mem_map.1 hm'
        rw [← he]; exact h.keys p hp
      refine joinAt_size ?_ (old_size h hm') (keepN_le _ _)
      have hl := crashTo_len D choice j
      have hi2 : D.looseL.getD j 0 < (D.crashTo choice j).now.length := by omega
      rw [Dk.sec, List.getD_eq_getElem?_getD, List.getElem?_eq_getElem hi2]
      exact sizes_to h choice j (by omega) _ (List.getElem_mem hi2)

/-- One round of the reference's crash. -/
theorem crash_round (k : Nat) (choice : List Int) (now sure now0 : List ByteArray) (l loose0 : List Int) (j i n : Nat) (wr hl : Int) (dn : Bool) (s t : ByteArray) (hj : j < l.length) (hrd : rd l (j : Int) = (i : Int)) (hi : i < now.length) (hi2 : i < sure.length)
    (hs : rdOf ByteArray.empty now (i : Int) = s) (ht : rdOf ByteArray.empty sure (i : Int) = t) (zs : s.size = 256) (zt : t.size = 256) (hn : n = keepN choice j) (hk : n ≤ 256) (hw : wrap64 ((j : Int) + 1) = ((j + 1 : Nat) : Int)) :
    Pref5.dowserref05_Crash.l0 (k + 1) choice now l (l.length : Int) (j : Int) now0 sure loose0 wr hl dn = Pref5.dowserref05_Crash.l0 k choice (now.set i (joinAt s t n)) l (l.length : Int) ((j + 1 : Nat) : Int) now0 sure loose0 wr hl dn := by
  have HW := Lib.hid hw
  clear hw
  have a1 : (j : Int) < (l.length : Int) := by omega
  have a2 : (0 : Int) ≤ (j : Int) := by omega
  have a3 : (0 : Int) ≤ rd l (j : Int) := by rw [hrd]; omega
  have a4 : rd l (j : Int) < (now.length : Int) := by rw [hrd]; omega
  have a5 : rd l (j : Int) < (sure.length : Int) := by rw [hrd]; omega
  have hi' : (rd l (j : Int)).toNat = i := by rw [hrd]; rfl
  have es : rdOf ByteArray.empty now (rd l (j : Int)) = s := by rw [hrd]; exact hs
  have et : rdOf ByteArray.empty sure (rd l (j : Int)) = t := by rw [hrd]; exact ht
  have a9 : (s.extract 0 n).size + (t.extract n t.size).size ≤ 9223372036854775807 := by rw [ByteArray.size_extract, ByteArray.size_extract]; omega
  refine (Pref5.Crash_eq ..).trans ?_
  refine (if_pos a1).trans ?_
  refine (if_pos a2).trans ?_
  refine (if_pos a1).trans ?_
  by_cases hc : j < choice.length
  · have HK : Hid (mn (Int.tmod (wrap64 (Int.tmod (rd choice (j : Int)) 512 + 512)) 512) 256 = (n : Int)) := Lib.hid (by
      have e1 : rd choice (j : Int) = choice.getD j 0 := rfl
      rw [mod512, e1, hn, keepN, if_pos hc]
      unfold mn
      split <;> omega)
    have HN : Hid ((mn (Int.tmod (wrap64 (Int.tmod (rd choice (j : Int)) 512 + 512)) 512) 256).toNat = n) := Lib.hid (by rw [HK.out]; rfl)
    have b6 : Hid ((0 : Int) ≤ mn (Int.tmod (wrap64 (Int.tmod (rd choice (j : Int)) 512 + 512)) 512) 256) := Lib.hid (by rw [HK.out]; omega)
    have b7 : Hid (mn (Int.tmod (wrap64 (Int.tmod (rd choice (j : Int)) 512 + 512)) 512) 256 ≤ ((rdOf ByteArray.empty now (rd l (j : Int))).size : Int)) := Lib.hid (by rw [HK.out, es]; omega)
    have b8 : Hid (mn (Int.tmod (wrap64 (Int.tmod (rd choice (j : Int)) 512 + 512)) 512) 256 ≤ ((rdOf ByteArray.empty sure (rd l (j : Int))).size : Int)) := Lib.hid (by rw [HK.out, et]; omega)
    refine (if_pos (show (j : Int) < (choice.length : Int) by omega)).trans ?_
    refine (if_pos a3).trans ?_
    refine (if_pos a4).trans ?_
    refine (if_pos b6.out).trans ?_
    refine (if_pos b7.out).trans ?_
    refine (if_pos a5).trans ?_
    refine (if_pos b8.out).trans ?_
    refine (if_pos (by rw [es, et, HN.out]; exact a9)).trans ?_
    rw [es, et, HN.out, hi', HW.out]
    rfl
  · have hn0 : n = 0 := by rw [hn, keepN, if_neg hc]
    subst hn0
    refine (if_neg (show ¬ (j : Int) < (choice.length : Int) by omega)).trans ?_
    refine (if_pos a3).trans ?_
    refine (if_pos a4).trans ?_
    refine (if_pos (by omega)).trans ?_
    refine (if_pos (by rw [es]; omega)).trans ?_
    refine (if_pos a5).trans ?_
    refine (if_pos (by rw [et]; omega)).trans ?_
    refine (if_pos (by rw [es, et]; exact a9)).trans ?_
    rw [es, et, hi', HW.out]
    rfl

theorem crash_l0 {D : Dk} (h : D.Ok) (choice : List Int) (sure : List ByteArray) (hsl : sure.length = D.now.length) (hsure : ∀ j ∈ D.looseL, rdOf ByteArray.empty sure (j : Int) = D.old j) (wr hl : Int) (dn : Bool) (now0 : List ByteArray) (loose0 : List Int) :
    ∀ (d j k : Nat), D.looseL.length - j = d → j ≤ D.looseL.length → d < k →
    Pref5.dowserref05_Crash.l0 k choice (D.crashTo choice j).now (D.looseL.map fun i : Nat => (i : Int)) (D.looseL.length : Int) (j : Int) now0 sure loose0 wr hl dn = some ((D.crash choice).now, (D.crash choice).now, [], wr, -1, false)
  | 0, j, k, hd, hj, hk => by
    obtain ⟨k, rfl⟩ : ∃ k', k = k' + 1 := ⟨k - 1, by omega⟩
    obtain rfl : j = D.looseL.length := by omega
    have hl := crashTo_len D choice D.looseL.length
    have hmost := h.most
    refine (Pref5.Crash_eq ..).trans ?_
    refine (if_neg (by omega)).trans ?_
    refine (if_pos (by simp; omega)).trans ?_
    simp [Dk.crash]
  | d + 1, j, k, hd, hj, hk => by
    obtain ⟨k, rfl⟩ : ∃ k', k = k' + 1 := ⟨k - 1, by omega⟩
    have hlt : j < D.looseL.length := by omega
    have hmem : D.looseL.getD j 0 ∈ D.looseL := by
      rw [List.getD_eq_getElem?_getD, List.getElem?_eq_getElem hlt]; exact List.getElem_mem hlt
    have hm' := (looseL_mem D _).1 hmem
    have hi : D.looseL.getD j 0 < D.now.length := by
      obtain ⟨p, hp, he⟩ := List.mem_map.1 hm'
      rw [← he]; exact h.keys p hp
    have hlen := crashTo_len D choice j
    have hrd : rd (D.looseL.map fun i : Nat => (i : Int)) (j : Int) = ((D.looseL.getD j 0 : Nat) : Int) := by
      simp [rd, List.getD_eq_getElem?_getD, List.getElem?_map, List.getElem?_eq_getElem hlt]
    have hsec : rdOf ByteArray.empty (D.crashTo choice j).now ((D.looseL.getD j 0 : Nat) : Int) = (D.crashTo choice j).sec (D.looseL.getD j 0) := rfl
    have hs := hsure _ hmem
    have hz1 : ((D.crashTo choice j).sec (D.looseL.getD j 0)).size = 256 := by
      have hi2 : D.looseL.getD j 0 < (D.crashTo choice j).now.length := by omega
      rw [Dk.sec, List.getD_eq_getElem?_getD, List.getElem?_eq_getElem hi2]
      exact sizes_to h choice j (by omega) _ (List.getElem_mem hi2)
    have hz2 := old_size h hm'
    have hnext : (D.crashTo choice (j + 1)).now = (D.crashTo choice j).now.set (D.looseL.getD j 0) (joinAt ((D.crashTo choice j).sec (D.looseL.getD j 0)) (D.old (D.looseL.getD j 0)) (keepN choice j)) := rfl
    have ih := crash_l0 h choice sure hsl hsure wr hl dn now0 loose0 d (j + 1) k (by omega) (by omega) (by omega)
    rw [hnext] at ih
    have hkle := keepN_le choice j
    have hlm : (D.looseL.map fun i : Nat => (i : Int)).length = D.looseL.length := by rw [List.length_map]
    have hcount := length_le_of_nodup D.now.length D.looseL (looseL_nodup h) (fun x hx => by
      obtain ⟨p, hp, he⟩ := List.mem_map.1 ((looseL_mem D x).1 hx)
      rw [← he]; exact h.keys p hp)
    have hmost := h.most
    have EW : Hid (wrap64 ((j : Int) + 1) = ((j + 1 : Nat) : Int)) := Lib.hid (by rw [IntWalk.wrap64_in _ (by omega)]; omega)
    have hr := crash_round k choice (D.crashTo choice j).now sure now0 (D.looseL.map fun i : Nat => (i : Int)) loose0 j (D.looseL.getD j 0) (keepN choice j) wr hl dn _ _ (by omega) hrd (by omega) (by omega) hsec hs hz1 hz2 rfl hkle EW.out
    rw [hlm] at hr
    exact hr.trans ih
end Go.Proofs.Ytcbefilcdelplaa

namespace Go.Proofs.Ytcbefilcdelplaa
open Go.RowKit
open Go.Proofs.YtcbefilcdelplaaW
open PrintWords (Kd Reps rd rdOf)
set_option linter.unusedVariables false
set_option linter.unusedSimpArgs false

/-- The reference's disk, plain. -/
structure Xd where
  now : List ByteArray
  sure : List ByteArray
  loose : List Int
  wr : Int
  hl : Int
  dn : Bool

/-- What is there for sure. -/
def Dk.base (D : Dk) (i : Nat) : ByteArray := if i ∈ D.was.map (·.1) then D.old i else D.sec i

structure Agree (D : Dk) (X : Xd) : Prop where
  now : X.now = D.now
  len : X.sure.length = D.now.length
  sure : ∀ i, i < D.now.length → rdOf ByteArray.empty X.sure (i : Int) = D.base i
  loose : X.loose = D.looseL.map fun i : Nat => (i : Int)
  wr : X.wr = D.writes
  hl : X.hl = D.halt
  dn : X.dn = D.down

theorem getD_putS {α : Type} (l : List α) (i j : Nat) (x d : α) (hj : j < l.length) : (l.set i x).getD j d = if i = j then x else l.getD j d := by
  simp only [List.getD_eq_getElem?_getD, List.getElem?_set]
  by_cases h : i = j
  · subst h; simp [hj]
  · simp [h]
theorem looseL_of {D E : Dk} (h : E.was = D.was) : E.looseL = D.looseL := by unfold Dk.looseL; rw [h]
theorem base_of {D E : Dk} (h : E.was = D.was) (h2 : E.now = D.now) (i : Nat) : E.base i = D.base i := by unfold Dk.base Dk.old Dk.sec; rw [h, h2]
theorem rdOf_nat (l : List ByteArray) (i : Nat) : rdOf ByteArray.empty l (i : Int) = l.getD i ByteArray.empty := rfl

namespace Agree
variable {D : Dk} {X : Xd}
theorem turned (h : Agree D X) (wr hl : Int) (dn : Bool) : Agree { D with writes := wr, halt := hl, down := dn } { X with wr := wr, hl := hl, dn := dn } :=
  ⟨h.now, h.len, fun i hi => (h.sure i hi).trans (base_of rfl rfl i).symm, h.loose, rfl, rfl, rfl⟩
theorem down (h : Agree D X) : Agree { D with down := true } { X with dn := true } := by
  have := h.turned D.writes D.halt true
  rw [← h.wr, ← h.hl] at this
  have e : ({ D with writes := X.wr, halt := X.hl, down := true } : Dk) = { D with down := true } := by rw [h.wr, h.hl]
  rw [e] at this
  exact this
theorem halted (h : Agree D X) (n : Int) : Agree (D.doHalt n) { X with hl := if n < -1 then -1 else n } := by
  have := h.turned D.writes (if n < -1 then -1 else n) D.down
  rw [← h.wr, ← h.dn] at this
  have e : ({ D with writes := X.wr, halt := if n < -1 then -1 else n, down := X.dn } : Dk) = D.doHalt n := by rw [h.wr, h.dn]; rfl
  rw [e] at this
  exact this
end Agree

theorem turn_halted {D : Dk} (h : D.halt = 0) : D.turn = ({ D with down := true }, false) := by simp [Dk.turn, h]
theorem turn_goes {D : Dk} (hok : D.Ok) (h : D.halt ≠ 0) (hd : D.down = false) : ∃ wr hl, D.turn = ({ D with writes := wr, halt := hl, down := false }, true) ∧ turnX D.writes D.halt false = ⟨wr, hl, false, true⟩ := by
  refine ⟨wrap64 (D.writes + 1), if D.halt < 0 then -1 else D.halt - 1, ?_, ?_⟩
  · simp only [Dk.turn, if_neg h]
    congr 1
    rw [← hd]
  · have hh := hok.halt
    unfold turnX
    rw [if_neg h]
    by_cases h1 : D.halt > 0
    · rw [if_pos h1, if_neg (show ¬ D.halt < 0 by omega)]
    · rw [if_neg h1, if_pos (show D.halt < 0 by omega)]
      congr 1
      omega

/-- What a flush leaves. -/
theorem Agree.flushed {D : Dk} {X : Xd} (h : Agree D X) (wr hl : Int) : Agree { D with writes := wr, halt := hl, down := false, was := [] } ⟨X.now, X.now, [], wr, hl, false⟩ := by
  refine ⟨h.now, by show X.now.length = D.now.length; rw [h.now], fun i hi => ?_, ?_, rfl, rfl, rfl⟩
  · show rdOf ByteArray.empty X.now (i : Int) = _
    rw [h.now]
    simp [Dk.base, Dk.sec, rdOf_nat]
  · simp [Dk.looseL]

/-- One sector more is loose. -/
theorem loosen_looseL {D : Dk} (hok : D.Ok) (i : Nat) : ((D.loosen i).looseL.map fun j : Nat => (j : Int)) = goW (i : Int) (D.looseL.map fun j : Nat => (j : Int)) false [] := by
  have hs0 := looseL_sorted D
  have hnd := looseL_nodup hok
  have hlt : (D.looseL.map fun j : Nat => (j : Int)).Pairwise (fun a b => a < b) := by
    rw [List.pairwise_map]
    have := hs0.and hnd
    exact this.imp (fun {a b} hab => by have h1 := hab.1; have h2 := hab.2; omega)
  rw [goW_false _ _ _ hlt, List.nil_append]
  by_cases hm : i ∈ D.was.map (·.1)
  · have hin : (i : Int) ∈ D.looseL.map (fun j : Nat => (j : Int)) := List.mem_map.2 ⟨i, (looseL_mem D i).2 hm, rfl⟩
    rw [if_pos hin]
    unfold Dk.loosen
    rw [if_pos hm]
  · have hin : ¬ (i : Int) ∈ D.looseL.map (fun j : Nat => (j : Int)) := fun hx => by
      obtain ⟨j, hj, he⟩ := List.mem_map.1 hx
      have : j = i := by omega
      exact hm ((looseL_mem D i).1 (this ▸ hj))
    rw [if_neg hin]
    refine sorted_unique ?_ ?_ ?_
    · rw [List.pairwise_map]
      exact (looseL_sorted _).imp (fun {a b} h => by omega)
    · generalize D.looseL.map (fun j : Nat => (j : Int)) = l at hlt hin
      rw [List.pairwise_append]
      refine ⟨(hlt.filter _).imp (fun {a b} h => by omega), ?_, ?_⟩
      · rw [List.pairwise_cons]
        refine ⟨fun y hy => ?_, (hlt.filter _).imp (fun {a b} h => by omega)⟩
        have := (List.mem_filter.1 hy).2
        simp at this
        omega
      · intro a ha b hb
        have h1 := (List.mem_filter.1 ha).2
        simp at h1
        rcases List.mem_cons.1 hb with rfl | hb
        · omega
        · have h2 := (List.mem_filter.1 hb).2
          simp at h2
          omega
    · have e : (D.loosen i).was = D.was ++ [(i, D.sec i)] := by unfold Dk.loosen; rw [if_neg hm]
      have h1 : ((D.loosen i).looseL.map fun j : Nat => (j : Int)).Perm ((D.was.map (·.1) ++ [i]).map fun j : Nat => (j : Int)) := by
        refine ((looseL_perm (D.loosen i)).map _).trans ?_
        rw [e, List.map_append]
        exact List.Perm.refl _
      have h2 : ((D.was.map (·.1) ++ [i]).map fun j : Nat => (j : Int)).Perm ((i : Int) :: D.looseL.map fun j : Nat => (j : Int)) := by
        rw [List.map_append]
        refine List.perm_append_comm.trans ?_
        exact List.Perm.cons _ ((looseL_perm D).symm.map _)
      refine (h1.trans h2).trans ?_
      generalize D.looseL.map (fun j : Nat => (j : Int)) = l at hlt hin
      have h3 : (l.filter (fun y => decide (y < (i : Int))) ++ l.filter (fun y => decide ((i : Int) < y))).Perm l := by
        have e2 : l.filter (fun y => decide ((i : Int) < y)) = l.filter (fun y => !decide (y < (i : Int))) := by
          apply List.filter_congr
          intro y hy
          have : y ≠ (i : Int) := fun he => hin (he ▸ hy)
          by_cases hc : y < (i : Int)
          · have : ¬ (i : Int) < y := by omega
            simp [hc, this]
          · have : (i : Int) < y := by omega
            simp [hc, this]
        rw [e2]
        exact List.filter_append_perm _ l
      refine (List.Perm.cons _ h3.symm).trans ?_
      exact List.perm_middle.symm

theorem old_append (l : List (Nat × ByteArray)) (i j : Nat) (s : ByteArray) (h : j ≠ i ∨ i ∈ l.map (·.1)) : ((l ++ [(i, s)]).lookup j).getD ByteArray.empty = if j = i then (l.lookup j).getD ByteArray.empty else (l.lookup j).getD ByteArray.empty := by
  simp only [ite_self]
  induction l with
  | nil =>
    rcases h with h | h
    · have : (j == i) = false := by simp [h]
      simp [List.lookup, this]
    · simp at h
  | cons p l ih =>
    obtain ⟨k, t⟩ := p
    by_cases hk : j = k
    · subst hk
      simp [List.lookup]
    · have hk' : (j == k) = false := by simp [hk]
      simp only [List.cons_append, List.lookup, hk']
      apply ih
      rcases h with h | h
      · exact .inl h
      · by_cases hji : j = i
        · rw [List.map_cons] at h
          rcases List.mem_cons.1 h with h | h
          · exact absurd (hji.trans h) hk
          · exact .inr h
        · exact .inl hji

theorem put_base {D : Dk} (hok : D.Ok) (i : Nat) (hi : i < D.now.length) (s : ByteArray) (j : Nat) (hj : j < D.now.length) : (D.put i s).base j = D.base j := by
  by_cases hm : i ∈ D.was.map (·.1)
  · have e : D.loosen i = D := by unfold Dk.loosen; rw [if_pos hm]
    have ew : (D.put i s).was = D.was := by unfold Dk.put; rw [e]
    unfold Dk.base
    rw [ew]
    by_cases hjm : j ∈ D.was.map (·.1)
    · rw [if_pos hjm, if_pos hjm]; unfold Dk.old; rw [ew]
    · rw [if_neg hjm, if_neg hjm]
      have hne : i ≠ j := fun he => hjm (he ▸ hm)
      show ((D.loosen i).now.set i (Dk.fill s)).getD j _ = D.now.getD j _
      rw [loosen_now, getD_putS _ _ _ _ _ hj, if_neg hne]
  · have ew : (D.put i s).was = D.was ++ [(i, D.sec i)] := by
      show (D.loosen i).was = _
      unfold Dk.loosen
      rw [if_neg hm]
    have en : (D.put i s).now = D.now.set i (Dk.fill s) := by
      show (D.loosen i).now.set i (Dk.fill s) = _
      rw [loosen_now]
    unfold Dk.base
    by_cases hji : j = i
    · subst hji
      have h1 : j ∈ (D.put j s).was.map (·.1) := by rw [ew]; simp
      rw [if_pos h1, if_neg hm]
      unfold Dk.old
      rw [ew]
      have hn : ∀ (l : List (Nat × ByteArray)) (t : ByteArray), j ∉ l.map (·.1) → ((l ++ [(j, t)]).lookup j).getD ByteArray.empty = t := by
        intro l t hl
        induction l with
        | nil => simp [List.lookup]
        | cons p l ih =>
          obtain ⟨k, u⟩ := p
          have hk : j ≠ k := fun he => hl (by simp [he])
          have hk' : (j == k) = false := by simp [hk]
          simp only [List.cons_append, List.lookup, hk']
          exact ih (fun hx => hl (List.mem_cons_of_mem _ hx))
      exact hn _ _ hm
    · have h2 : (j ∈ (D.put i s).was.map (·.1)) ↔ j ∈ D.was.map (·.1) := by rw [ew]; simp [hji]
      by_cases hjm : j ∈ D.was.map (·.1)
      · rw [if_pos (h2.2 hjm), if_pos hjm]
        unfold Dk.old
        rw [ew, old_append _ _ _ _ (.inl hji)]
        simp
      · rw [if_neg (fun h => hjm (h2.1 h)), if_neg hjm]
        unfold Dk.sec
        rw [en, getD_putS _ _ _ _ _ hj, if_neg (fun h => hji h.symm)]

/-- What a write leaves. -/
theorem Agree.put {D : Dk} {X : Xd} (h : Agree D X) (hok : D.Ok) (i : Nat) (hi : i < D.now.length) (s : ByteArray) (wr hl : Int) :
    Agree (Dk.put { D with writes := wr, halt := hl, down := false } i s) ⟨X.now.set i (fillTo s 256), X.sure, goW (i : Int) X.loose false [], wr, hl, false⟩ := by
  have e : Dk.put { D with writes := wr, halt := hl, down := false } i s = { D.put i s with writes := wr, halt := hl, down := false } := by
    unfold Dk.put Dk.loosen
    by_cases hm : i ∈ D.was.map (·.1)
    · rw [if_pos hm, if_pos hm]
    · rw [if_neg hm, if_neg hm]; rfl
  rw [e]
  have hn : (D.put i s).now = D.now.set i (Dk.fill s) := by
    show (D.loosen i).now.set i (Dk.fill s) = _
    rw [loosen_now]
  refine ⟨?_, ?_, fun j hj => ?_, ?_, rfl, rfl, rfl⟩
  · show X.now.set i (fillTo s 256) = (D.put i s).now
    rw [h.now, hn]; rfl
  · show X.sure.length = (D.put i s).now.length
    rw [hn, List.length_set]; exact h.len
  · have hj' : j < D.now.length := by
      have : j < (D.put i s).now.length := hj
      rwa [hn, List.length_set] at this
    exact (h.sure j hj').trans (((base_of rfl rfl j).trans (put_base hok i hi s j hj')).symm)
  · show goW (i : Int) X.loose false [] = _
    rw [h.loose, ← loosen_looseL hok i]
    rfl

theorem crashTo_writes (D : Dk) (choice : List Int) : ∀ k, (D.crashTo choice k).writes = D.writes
  | 0 => rfl
  | k + 1 => crashTo_writes D choice k

/-- What a crash leaves. -/
theorem Agree.crashed {D : Dk} {X : Xd} (h : Agree D X) (choice : List Int) : Agree (D.crash choice) ⟨(D.crash choice).now, (D.crash choice).now, [], X.wr, -1, false⟩ := by
  refine ⟨rfl, rfl, fun i hi => ?_, ?_, ?_, rfl, rfl⟩
  · have : (D.crash choice).was = [] := rfl
    simp [Dk.base, this, Dk.sec, rdOf_nat]
  · have : (D.crash choice).was = [] := rfl
    simp [Dk.looseL, this]
  · show X.wr = (D.crashTo choice _).writes
    rw [crashTo_writes]; exact h.wr

theorem Agree.crash_f {D : Dk} {X : Xd} (h : Agree D X) (hok : D.Ok) (choice : List Int) :
    ∃ k, Pref5.dowserref05_Crash.f k X.now X.sure X.loose X.wr X.hl X.dn choice = some ((D.crash choice).now, (D.crash choice).now, [], X.wr, -1, false) := by
  have hmost := hok.most
  refine ⟨D.looseL.length + 1, ?_⟩
  unfold Pref5.dowserref05_Crash.f
  rw [Option.bind_some, if_pos (by rw [h.now]; simp; omega), List.nil_append, h.now, h.loose, List.length_map]
  refine crash_l0 hok choice X.sure h.len (fun j hj => ?_) X.wr X.hl X.dn D.now _ D.looseL.length 0 _ (by omega) (by omega) (by omega)
  have hj' := (looseL_mem D j).1 hj
  have hlt : j < D.now.length := by
    obtain ⟨p, hp, he⟩ := List.mem_map.1 hj'
    rw [← he]; exact hok.keys p hp
  rw [h.sure j hlt]
  unfold Dk.base
  rw [if_pos hj']

end Go.Proofs.Ytcbefilcdelplaa
