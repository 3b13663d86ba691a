/- blob.walk and blob.Read, walked. intern.Load of any value, intern.Value of a long text, walked. intern.Value of a long text, walked; what stands for any text. Texts that are kept, each under its sum; plain. intern.keep and Put, with or without room, walked. intern's calls over texts that are kept, a -/
import Derived.Test.YtendgmblgdkiaaaGreatGInternFull0
import Derived.Test.YtendgmblgdkiaaaGreatGInternFull36
import Derived.WalkMore
import Derived.Test.YtendgmblgdkiaaaGreatGInternFull34
import Derived.Test.YtendgmblgdkiaaaGreatGInternFull16
import Derived.Deep.DeepCutAuto
namespace Go.Proofs.YtendgmblgdkiaaaGreat
open Go.RowKit
open Go.Proofs.YtendgmblgdkiaaaGreatW
open PrintWords PrintLast PrintMore
set_option linter.unusedVariables false
set_option linter.unusedSimpArgs false

/-- A slice's length. -/
def lenV : Value → Nat
 | .slice _ n _ => n
 | _ => 0
/-- While walk runs: the builder and its bytes, the list of pages. -/
structure WkAt (w : World) (acc : BA) (l : Value) (n : Nat) (wr : World) : Prop where
 b : Lib.IsBuilder 233 5 w.heap.size w.heap.size (Lib.byteCells acc.data.toList) wr
 l : ∃ xs : List Int, xs.length = n ∧ Kd.R (Kd.int .i64) 3 wr w.heap.size (fun _ => True) l xs
 bel : Below w.heap.size w wr
theorem blobP_part (P : List Pg) (hP : ∀ (i : Nat) k s, P[i]? = some (k, s) → s.size ≤ 240) (n : Int) : (blobP P n).1.size ≤ 240 ∧ ((blobP P n).2.2 = 0 → -1 ≤ (blobP P n).2.1 ∧ (blobP P n).2.1 ≤ n) := by
 have hz : (pgSay P n).2.1.size ≤ 240 := by
  unfold pgSay
  split
  ·decide
  ·split
   ·decide
   ·next k s hp => exact hP _ _ _ hp
 unfold blobP
 split
 ·exact ⟨Nat.zero_le 240, fun h => by simp_all⟩
 ·split
  ·exact ⟨Nat.zero_le 240, fun h => by cases h⟩
  ·next x m hh =>
   split
   ·next hc => exact ⟨by rw [ByteArray.size_extract]; omega, fun _ => by simp only; omega⟩
   ·exact ⟨Nat.zero_le 240, fun h => by cases h⟩
theorem WkAt.below {w wr w' : World} {acc : BA} {l : Value} {n : Nat} (H : WkAt w acc l n wr) (k : Below wr.heap.size wr w') : WkAt w acc l n w' := by
 have mv : ∀ p, Lib.BuilderAt 233 5 w.heap.size w.heap.size p (Lib.byteCells acc.data.toList) wr → Lib.BuilderAt 233 5 w.heap.size w.heap.size p (Lib.byteCells acc.data.toList) w' := by
  rintro p ⟨hB, v, hb, ho, hn⟩
  exact ⟨hB, v, (k.block _ (lt_of_heap hb)).trans hb, PrintWords.own_move ho (fun i hi => k.block i (PrintWords.own_lt ho i hi)), hn⟩
 refine ⟨?_, ?_, below_then H.bel H.bel.size k⟩
 ·rcases H.b with h | h
  ·exact .inl (mv _ h)
  ·exact .inr (mv _ h)
 ·obtain ⟨xs, hx, hr⟩ := H.l
  exact ⟨xs, hx, Kd.R_below hr k⟩
set_option maxHeartbeats 2000000 in
set_option maxRecDepth 100000 in
theorem blob_walk (w : World) (b : Nat) (L : Loc) (h : Nat) (D : Dk) (P : List Pg) (S : St w L b h D P) (up : D.down = false) (n : Int) (hn : -9223372036854775808 ≤ n ∧ n ≤ 9223372036854775807) :
  Calls Tryz.prog 167 #[.pointer (some ⟨b, 0, none⟩), .int .i64 n] w fun e w' => (∃ v, e = .returned (.tuple #[.string (blobW P 279 n ⟨#[]⟩).1, v, .int .i64 (blobW P 279 n ⟨#[]⟩).2])) ∧ Below w.heap.size w w' := by
 obtain ⟨R, hR⟩ : ∃ R, R = blobW P 279 n ⟨#[]⟩ := ⟨_, rfl⟩
 rw [← hR]
 have HR := hi_ hR
 have HS := hi_ S
 have HU := hi_ up
 have HN := hi_ hn
 clear hR S up hn
 go_enter Tryz.func167, Tryz.ntmps167
 go_wp2_with fail
 go_step3
 go_wp2_with fail
 have W0 : Hid (WkAt w ⟨#[]⟩ (.slice none 0 0) 0 (w.alloc (.cells #[.pointer none, .slice none 0 0] 233 (0, 0)))) := hi_ ⟨.inl ⟨Nat.le_refl _, .slice none 0 0, blk_new w _, ⟨by simp [Lib.byteCells], .inl ⟨rfl, rfl⟩⟩, by simp [Value.ownBlock]⟩, ⟨[], rfl, Kd.R_nil _ _ _ _ _⟩, below_alloc (Below.refl _ _) _⟩
 generalize w.alloc (.cells #[.pointer none, .slice none 0 0] 233 (0, 0)) = w0 at *
 go_step3
 go_wp2_with fail
 go_loopw [9, 8] (fun x l wr => ∃ (f : Nat) (nv : Int) (acc : BA), f ≤ 279 ∧ x = .int .i64 nv ∧ (-9223372036854775808 ≤ nv ∧ nv ≤ 9223372036854775807) ∧ R = blobW P f nv acc ∧ acc.size ≤ (279 - f) * 240 ∧ Hid (WkAt w acc l (279 - f) wr)) (fun _ l _ => 280 - lenV l)
 case atStart => exact ⟨279, n, ⟨#[]⟩, by omega, rfl, HN.out, HR.out, by decide, W0⟩
 case round =>
  obtain ⟨f, nv, acc, hf, rfl, hnv, hR, hacc, WK⟩ := hrel
  clear W0
  have HF := hi_ hf
  have HRR := hi_ hR
  have CP := hi_ (blob_page wr b L h D P (HS.out.below WK.out.bel) HU.out nv hnv)
  obtain ⟨pg, hpg⟩ : ∃ pg, pg = blobP P nv := ⟨_, rfl⟩
  rw [← hpg] at CP
  have HPG := hi_ hpg
  have HPB := hi_ (show pg.1.size ≤ 240 ∧ (pg.2.2 = 0 → -1 ≤ pg.2.1 ∧ pg.2.1 ≤ nv) from by rw [hpg]; exact blobP_part P (fun i k s hi => (HS.out.holds i k s hi).2.2.1) nv)
  have HACC := hi_ hacc
  have HNV := hi_ hnv
  obtain ⟨part, next, er⟩ := pg
  clear hf hR hpg hacc hnv
  go_wp2_with fail
  refine CP.out.mono ?_
  rintro e w3 ⟨rfl, hb⟩
  have W3 := hi_ (WK.out.below hb)
  clear hb CP WK
  by_cases her : er = 0
  ·subst her
   obtain ⟨xs, hxl, hxr⟩ := W3.out.l
   obtain ⟨A, cA, hl⟩ := Kd.R_slice hxr
   subst hl
   have HXR := hi_ hxr
   have hxn : (xs.length : Int) = 279 - (f : Int) := by have := HF.out; omega
   have hco : costN 65536 = 279 := by decide
   have CC := hi_ (fun W => blob_Cost 65536 om_ W)
   rw [hco] at CC
   have HXL := hi_ hxl
   clear hxl hxr hco
   go_wp2_with fail
   refine (CC.out w3).mono ?_
   rintro e w4 ⟨rfl, rfl⟩
   clear CC
   by_cases hf0 : f = 0
   ·have hR : R = (⟨#[]⟩, 8) := by
     rw [HRR.out, hf0]
     unfold blobW
     rw [← HPG.out]
     rfl
    have h279 : (xs.length : Int) = 279 := by omega
    go_wp2_with fail
    rw [Exit.noGoto_ret]
    go_ret3
    exact ⟨⟨_, by rw [hR]; rfl⟩, W3.out.bel⟩
   ·have hne : ¬ (xs.length : Int) = 279 := by omega
    have hbl : (Lib.byteCells acc.data.toList).length + part.size ≤ 140737488355328 := by
     rw [Lib.byteCells_length]
     have h1 := HACC.out
     have h2 : part.size ≤ 240 := HPB.out.1
     have h3 : acc.data.toList.length = acc.size := rfl
     have h4 : (279 - f) * 240 ≤ 279 * 240 := Nat.mul_le_mul_right _ om_
     omega
    have HBL := hi_ hbl
    clear hbl
    go_wp2_with fail
    refine (bld_WriteString2 w.heap.size w.heap.size (Lib.byteCells acc.data.toList) part w3 W3.out.b HBL.out W3.out.bel.size).mono ?_
    rintro e w5 ⟨rfl, hB, hb, hst⟩
    rw [strCells_app, app_bytes] at hB
    have hbk : ∃ v : Value × Value, w3.heap[w.heap.size]? = some (.cells #[v.1, v.2] 233 (0, 0)) := by
     rcases W3.out.b with ⟨-, v, hb, -⟩ | ⟨-, v, hb, -⟩
     ·exact ⟨(_, v), hb⟩
     ·exact ⟨(_, v), hb⟩
    have R5 : Hid (Kd.R (Kd.int .i64) 3 w5 w.heap.size (fun _ => True) (.slice A xs.length cA) xs) := hi_ (Kd.R_of_own (PrintWords.own_move (Kd.own_of_R HXR.out) (fun k hk => by
     obtain ⟨cells, hc⟩ := PrintWords.own_typed (Kd.own_of_R HXR.out) k hk
     have hne : k ≠ w.heap.size := by
      rintro rfl
      obtain ⟨v, hv⟩ := hbk
      rw [hc] at hv
      simp at hv
     exact (hst.2 k _ hc hne (fun cs fz e => by simp at e)).trans hc.symm)) (fun _ _ => trivial))
    have HB5 := hi_ hB
    have hs5 := hi_ (Nat.le_trans W3.out.bel.size hb.size : w.heap.size ≤ w5.heap.size)
    have HW5 := hi_ (W3.out.bel.trans hb)
    have HLp := hi_ (show (xs.length + 1) * 8 ≤ 140737488355328 by omega)
    clear hB hb hst hbk W3
    by_cases hnx : next < 0
    ·go_wp2_with ((with_reducible refine gate_builtin (b := .append) (xs := #[.tmp 32, .tmp 34]) rfl ?_); at_builtin; refine Kd.R_append (Kd.int .i64) (w0 := w5) w.heap.size rfl (.tmp 32) (.tmp 34) 84 3 (.int .i64 0) 8 rfl Tryz.underlying84 PNd.info3 rfl (by decide) om_ (.slice A xs.length cA) _ nv [.int .i64 nv] (fun _ => True) (fun _ => False) rfl rfl rfl (fun _ hk => hk.elim) (fun _ _ => trivial) R5.out ((Below.refl w5.heap.size w5).mono hs5.out) hs5.out HLp.out ?_; intro y2 w6 ho2 hb2 hg2 hat2; have Q6 := hi_ ho2; have G6 := hi_ hg2; have B6 := hi_ hb2; clear ho2 hb2 hg2 hat2)
     have HBA : Hid (Lib.IsBuilder 233 5 w.heap.size w.heap.size (Lib.byteCells (acc ++ part).data.toList) w6) := hi_ (.inr (by
      obtain ⟨hB, v, hb, ho, hn⟩ := HB5.out
      have hlt5 := lt_of_heap hb
      have t1 : (Value.slice A xs.length cA).ownBlock ≠ some w.heap.size := fun hk => by
       obtain ⟨cells, hc⟩ := PrintWords.own_typed (Kd.own_of_R R5.out) _ hk
       rw [hb] at hc
       simp at hc
      exact ⟨hB, v, (G6.out.block _ hlt5 (fun e => t1 e.symm)).trans hb, PrintWords.own_move ho (fun k hk => G6.out.block k (PrintWords.own_lt ho k hk) (fun e => by
       obtain ⟨cells, hc⟩ := PrintWords.own_typed (Kd.own_of_R R5.out) _ e.symm
       obtain ⟨cells', hc'⟩ := PrintWords.own_typed ho k hk
       rw [hc] at hc'
       simp at hc')), hn⟩))
     have HBL6 : Hid (Below w.heap.size w w6) := hi_ (HW5.out.trans B6.out)
     refine (Tryz.Builder_String_any w.heap.size w.heap.size _ w6 HBA.out HBL6.out.size).mono ?_
     rintro e w7 ⟨rfl, hb⟩
     have hR : R = (acc ++ part, 0) := by
      rw [HRR.out]
      cases f with
      | zero => exact absurd rfl hf0
      | succ f =>
       unfold blobW
       rw [← HPG.out, if_neg (by simp), if_pos hnx]
     have HBL7 := hi_ (HBL6.out.trans hb)
     clear hb
     go_wp2_with fail
     rw [Exit.noGoto_ret]
     go_ret3
     refine ⟨⟨y2, ?_⟩, HBL7.out⟩
     rw [hR]
     have he : (⟨(acc.data.toList ++ part.data.toList).toArray⟩ : BA) = acc ++ part := by apply bytes_ext; rw [bytes_app]
     simp [← he]
    ·go_wp2_with ((with_reducible refine gate_builtin (b := .append) (xs := #[.tmp 32, .tmp 34]) rfl ?_); at_builtin; refine Kd.R_append (Kd.int .i64) (w0 := w5) w.heap.size rfl (.tmp 32) (.tmp 34) 84 3 (.int .i64 0) 8 rfl Tryz.underlying84 PNd.info3 rfl (by decide) om_ (.slice A xs.length cA) _ nv [.int .i64 nv] (fun _ => True) (fun _ => False) rfl rfl rfl (fun _ hk => hk.elim) (fun _ _ => trivial) R5.out ((Below.refl w5.heap.size w5).mono hs5.out) hs5.out HLp.out ?_; intro y2 w6 ho2 hb2 hg2 hat2; have Q6 := hi_ ho2; have G6 := hi_ hg2; have B6 := hi_ hb2; clear ho2 hb2 hg2 hat2)
     have HBA : Hid (Lib.IsBuilder 233 5 w.heap.size w.heap.size (Lib.byteCells (acc ++ part).data.toList) w6) := hi_ (.inr (by
      obtain ⟨hB, v, hb, ho, hn⟩ := HB5.out
      have hlt5 := lt_of_heap hb
      have t1 : (Value.slice A xs.length cA).ownBlock ≠ some w.heap.size := fun hk => by
       obtain ⟨cells, hc⟩ := PrintWords.own_typed (Kd.own_of_R R5.out) _ hk
       rw [hb] at hc
       simp at hc
      exact ⟨hB, v, (G6.out.block _ hlt5 (fun e => t1 e.symm)).trans hb, PrintWords.own_move ho (fun k hk => G6.out.block k (PrintWords.own_lt ho k hk) (fun e => by
       obtain ⟨cells, hc⟩ := PrintWords.own_typed (Kd.own_of_R R5.out) _ e.symm
       obtain ⟨cells', hc'⟩ := PrintWords.own_typed ho k hk
       rw [hc] at hc'
       simp at hc')), hn⟩))
     have hR : R = blobW P (f - 1) next (acc ++ part) := by
      rw [HRR.out]
      cases f with
      | zero => exact absurd rfl hf0
      | succ f =>
       rw [Nat.add_sub_cancel, blobW, ← HPG.out, if_neg (by simp), if_neg (show ¬ next < 0 by omega)]
     have hnb : -1 ≤ next ∧ next ≤ nv := by simpa using HPB.out.2
     have hnv := HNV.out
     have hlen2 : (acc ++ part).size ≤ (279 - (f - 1)) * 240 := by
      have h1 := HACC.out
      have h2 : part.size ≤ 240 := HPB.out.1
      have h3 : (279 - (f - 1)) * 240 = (279 - f) * 240 + 240 := by have := HF.out; rw [show 279 - (f - 1) = 279 - f + 1 from by omega, Nat.add_mul]
      rw [ByteArray.size_append]
      omega
     obtain ⟨A2, cA2, hl2⟩ := Kd.R_slice Q6.out
     refine ⟨⟨f - 1, next, acc ++ part, by have := HF.out; omega, rfl, ?_, hR, hlen2, hi_ ⟨HBA.out, ⟨_, ?_, Q6.out⟩, HW5.out.trans B6.out⟩⟩, ?_⟩
     ·omega
     ·have := HF.out; have := HXL.out; simp; omega
     ·rw [hl2]
      have := HF.out
      have := HXL.out
      simp [lenV]
      omega
  ·have hR : R = (⟨#[]⟩, er) := by
    rw [HRR.out]
    cases f with
    | zero => unfold blobW; rw [← HPG.out, if_pos her]
    | succ f => unfold blobW; rw [← HPG.out, if_pos her]
   go_wp2_with fail
   rw [Exit.noGoto_ret]
   go_ret3
   exact ⟨⟨_, by rw [hR]; rfl⟩, W3.out.bel⟩
/-- What Read says. -/
def blobR (P : List Pg) (n : Int) : BA × Int := blobW P 279 n ⟨#[]⟩
theorem blob_Read (w : World) (b : Nat) (L : Loc) (h : Nat) (D : Dk) (P : List Pg) (S : St w L b h D P) (up : D.down = false) (n : Int) (hn : -9223372036854775808 ≤ n ∧ n ≤ 9223372036854775807) :
  Calls Tryz.prog 124 #[.pointer (some ⟨b, 0, none⟩), .int .i64 n] w fun e w' => e = .returned (.tuple #[.string (blobR P n).1, .int .i64 (blobR P n).2]) ∧ Below w.heap.size w w' := by
 have CW := blob_walk w b L h D P S up n hn
 obtain ⟨R, hR⟩ : ∃ R, R = blobR P n := ⟨_, rfl⟩
 have hR' : blobW P 279 n ⟨#[]⟩ = R := hR.symm
 rw [hR'] at CW
 rw [← hR]
 have CW := hi_ CW
 obtain ⟨s, er⟩ := R
 clear hR hR' S
 go_enter Tryz.func124, Tryz.ntmps124
 go_wp2_with fail
 refine CW.out.mono ?_
 rintro e w1 ⟨⟨v, rfl⟩, hb⟩
 have B1 := hi_ hb
 clear hb CW
 go_wp2_with fail
 go_ret2
 exact ⟨rfl, B1.out⟩
end Go.Proofs.YtendgmblgdkiaaaGreat

namespace Go.Proofs.YtendgmblgdkiaaaGreat
open Go.RowKit
open Go.Proofs.YtendgmblgdkiaaaGreatW
open PrintWords PrintLast PrintMore
set_option linter.unusedVariables false
set_option linter.unusedSimpArgs false

/-- What a blob's value says behind its first byte: its page and its size. -/
def blobL (l : List UInt8) : Option (Nat × Nat) := match hd 0 l with
 | none => none
 | some (x, m) => if x ≤ 2147483647 then (match hd 0 (l.drop m) with
  | none => none
  | some (y, j) => if y ≤ 65536 ∧ m + j = l.length then some (x, y) else none) else none
theorem blob_say (s : BA) (hs : s.size ≤ 1000) : ∃ (a e1 b e2 e3 e4 : Int) (r1 r2 r3 : BA), PNd.varint_In_Num.f 3020 s 0 2147483647 = some (a, r1, e1) ∧ (0 ≤ a ∧ a ≤ 2147483647) ∧ PNd.varint_In_Num.f 3020 r1 e1 65536 = some (b, r2, e2) ∧ (0 ≤ b ∧ b ≤ 65536) ∧ PNd.varint_In_End.f r2 e2 = some (e3, r3, e4) ∧
  ((∃ x y : Nat, blobL s.data.toList = some (x, y) ∧ a = x ∧ b = y ∧ e3 = 0) ∨ (blobL s.data.toList = none ∧ e3 ≠ 0)) := by
 obtain ⟨g1, g2⟩ := in_num_hd s 2147483647 hs
 have hl : s.data.toList.length = s.size := rfl
 cases h : hd 0 s.data.toList with
 | none =>
  obtain ⟨d, hd', h3⟩ := g2 h
  have hd0 : d ≠ 0 := by omega
  exact ⟨0, d, 0, d, d, d, ⟨#[]⟩, ⟨#[]⟩, ⟨#[]⟩, h3, by omega, num_err _ _ _ _ hd0, by omega, end_nil d, .inr ⟨by unfold blobL; rw [h], hd0⟩⟩
 | some p =>
  obtain ⟨x, m⟩ := p
  have h3 := g1 x m h
  have h4 := hd_lt _ 0 x m om_ h
  by_cases hx : x ≤ 2147483647
  ·rw [if_pos hx] at h3
   have hr : (s.extract m s.size).size ≤ 1000 := by
    have := congrArg List.length (cut_list s m)
    have e : (s.extract m s.size).data.toList.length = (s.extract m s.size).size := rfl
    rw [List.length_drop] at this
    omega
   obtain ⟨f1, f2⟩ := in_num_hd (s.extract m s.size) 65536 hr
   rw [cut_list] at f1 f2
   cases h' : hd 0 (s.data.toList.drop m) with
   | none =>
    obtain ⟨d, hd', h5⟩ := f2 h'
    have hd0 : d ≠ 0 := by omega
    exact ⟨x, 0, 0, d, d, d, _, ⟨#[]⟩, ⟨#[]⟩, h3, by omega, h5, by omega, end_nil d, .inr ⟨by unfold blobL; simp only [h, if_pos hx, h'], hd0⟩⟩
   | some p =>
    obtain ⟨y, j⟩ := p
    have h5 := f1 y j h'
    have h6 := hd_lt _ 0 y j om_ h'
    rw [List.length_drop] at h6
    by_cases hy : y ≤ 65536
    ·rw [if_pos hy] at h5
     have he : ((s.extract m s.size).extract j (s.extract m s.size).size).data.toList = (s.data.toList.drop m).drop j := by rw [cut_list, cut_list]
     by_cases hj : m + j = s.data.toList.length
     ·refine ⟨x, 0, y, 0, 0, 0, _, _, ((s.extract m s.size).extract j (s.extract m s.size).size), h3, by omega, h5, by omega, ?_, .inl ⟨x, y, ?_, rfl, rfl, rfl⟩⟩
      ·unfold PNd.varint_In_End.f
       rw [if_pos]
       rw [ByteArray.toList_eq, he, List.drop_drop]
       exact List.drop_eq_nil_of_le om_
      ·unfold blobL
       simp only [h, if_pos hx, h']
       rw [if_pos ⟨hy, hj⟩]
     ·refine ⟨x, 0, y, 0, 3, 0, _, _, ((s.extract m s.size).extract j (s.extract m s.size).size), h3, by omega, h5, by omega, ?_, .inr ⟨?_, by omega⟩⟩
      ·unfold PNd.varint_In_End.f
       rw [if_neg]
       rw [ByteArray.toList_eq, he, List.drop_drop]
       intro hn
       have := congrArg List.length hn
       rw [List.length_drop, List.length_nil] at this
       omega
      ·unfold blobL
       simp only [h, if_pos hx, h']
       rw [if_neg (fun h => hj h.2)]
    ·rw [if_neg hy] at h5
     refine ⟨x, 0, 0, 4, 4, 4, _, ⟨#[]⟩, ⟨#[]⟩, h3, by omega, h5, by omega, end_nil 4, .inr ⟨?_, by omega⟩⟩
     unfold blobL
     simp only [h, if_pos hx, h']
     rw [if_neg (fun h => hy h.1)]
  ·rw [if_neg hx] at h3
   refine ⟨0, 4, 0, 4, 4, 4, ⟨#[]⟩, ⟨#[]⟩, ⟨#[]⟩, h3, by omega, num_err _ _ _ _ om_, by omega, end_nil 4, .inr ⟨?_, by omega⟩⟩
   unfold blobL
   simp only [h, if_neg hx]
theorem blobL_num (p n : Nat) (hp : p ≤ 2147483647) (hn : n ≤ 65536) : blobL (vNum p ++ vNum n).data.toList = some (p, n) := by
 have h2 : (128 : Nat) ^ 10 = 1180591620717411303424 := by decide
 have h1 := hd_num 10 p 0 (vNumL n) om_ om_ om_ om_ om_
 have h3 := hd_num 10 n 0 [] om_ om_ om_ om_ om_
 rw [List.append_nil] at h3
 unfold blobL
 rw [bytes_app, vNum_list, vNum_list, h1]
 simp only [if_pos hp, List.drop_left, h3, List.length_append]
 rw [if_pos ⟨hn, trivial⟩]
/-- What a blob at x of size y says. -/
def loadAt (P : List Pg) (x y : Nat) : BA × Int := if (blobR P x).2 ≠ 0 then (⟨#[]⟩, (blobR P x).2) else if (blobR P x).1.size ≠ y then (⟨#[]⟩, 8) else ((blobR P x).1, 0)
/-- What Load says of a value. -/
def loadB (P : List Pg) (v : BA) : BA × Int := if (cutPre v 105).2 = true then ((cutPre v 105).1, 0) else if (cutPre v 98).2 = true then (match blobL (cutPre v 98).1.data.toList with
 | none => (⟨#[]⟩, 8)
 | some (x, y) => loadAt P x y) else (⟨#[]⟩, 8)
theorem cutPre_le (s : BA) (c : UInt8) : (cutPre s c).1.size ≤ s.size := by
 unfold cutPre
 split
 ·rw [ByteArray.size_extract]; omega
 ·exact Nat.le_refl _
set_option maxRecDepth 100000 in
theorem int_Load (w : World) (b : Nat) (L : Loc) (h : Nat) (D : Dk) (P : List Pg) (S : St w L b h D P) (up : D.down = false) (v : BA) (hv : v.size ≤ 900) :
  Calls Tryz.prog 63 #[.pointer (some ⟨b, 0, none⟩), .string v] w fun e w' => e = .returned (.tuple #[.string (loadB P v).1, .int .i64 (loadB P v).2]) ∧ Below w.heap.size w w' := by
 obtain ⟨R, hR⟩ : ∃ R, R = loadB P v := ⟨_, rfl⟩
 rw [← hR]
 have HR := hi_ hR
 clear hR
 have CI := hi_ (fun W => lib_CutPrefix v 105 W om_)
 have CB := hi_ (fun W => lib_CutPrefix v 98 W om_)
 have hsz := cutPre_le v 98
 unfold loadB at HR
 generalize cutPre v 105 = p0 at *
 generalize cutPre v 98 = p1 at *
 obtain ⟨x0, q0⟩ := p0
 obtain ⟨rest, q⟩ := p1
 have hsz : rest.size ≤ 900 := Nat.le_trans hsz hv
 simp only at HR
 cases q0 with
 | true =>
  clear CB hsz
  go_enter Tryz.func63, Tryz.ntmps63
  go_wp2_with fail
  refine (CI.out w).mono ?_
  rintro e w1 ⟨rfl, rfl⟩
  clear CI
  go_wp2_with fail
  go_ret2
  have e : R = (x0, 0) := by rw [HR.out]; simp
  rw [e]
  exact ⟨rfl, Below.refl _ _⟩
 | false =>
  obtain ⟨a, e1, y, e2, e3, e4, r1, r2, r3, h1, ha, h2, hb, h3, hc⟩ := blob_say rest om_
  have H1 := hi_ h1
  have H2 := hi_ h2
  have H3 := hi_ h3
  have HA := hi_ ha
  have hwa : IntKind.i64.wrap a = a := by rw [IntKind.wrap_i64]; omega
  have hwb : IntKind.i64.wrap y = y := by rw [IntKind.wrap_i64]; omega
  have HC := hi_ hc
  have HS := hi_ S
  have HU := hi_ up
  clear h1 h2 h3 hc ha S up hsz hv
  go_enter Tryz.func63, Tryz.ntmps63
  go_wp2_with fail
  refine (CI.out w).mono ?_
  rintro e w0 ⟨rfl, rfl⟩
  clear CI
  go_wp2_with fail
  refine (CB.out w).mono ?_
  rintro e w0 ⟨rfl, rfl⟩
  clear CB
  go_wp2_with fail
  refine (PNd.varint_Of.calls rest rest 0 w w (Below.refl _ _) rfl).mono ?_
  rintro e w1 ⟨g, rfl, hI, hB, -⟩
  have I1 := hi_ hI
  have B1 := hi_ hB
  clear hI hB
  go_wp2_with fail
  refine (PNd.varint_In_Num.calls 3020 g rest 0 2147483647 a r1 e1 w w1 I1.out B1.out H1.out).mono ?_
  rintro e w2 ⟨rfl, hI, hB, -⟩
  have I2 := hi_ hI
  have B2 := hi_ hB
  clear hI hB I1 B1
  go_wp2_with fail
  refine (PNd.varint_In_Num.calls 3020 g r1 e1 65536 y r2 e2 w w2 I2.out B2.out H2.out).mono ?_
  rintro e w3 ⟨rfl, hI, hB, -⟩
  have I3 := hi_ hI
  have B3 := hi_ hB
  clear hI hB I2 B2
  cases q with
  | false =>
   go_wp2_with fail
   go_ret2
   have e : R = (⟨#[]⟩, 8) := by rw [HR.out]; simp
   rw [e]
   exact ⟨rfl, B3.out⟩
  | true =>
   have HR2 : Hid (R = match blobL rest.data.toList with | none => (⟨#[]⟩, 8) | some (x, y) => loadAt P x y) := hi_ (by rw [HR.out]; simp)
   clear HR
   have HR := HR2
   clear HR2
   go_wp2_with fail
   refine (PNd.varint_In_End.calls g r2 e2 e3 r3 e4 w w3 I3.out B3.out H3.out).mono ?_
   rintro e w4 ⟨rfl, hI, hB, -⟩
   have B4 := hi_ hB
   clear hI hB I3 B3
   rcases HC.out with ⟨x, z, hbl, hax, hyz, he⟩ | ⟨hbl, he⟩
   ·rw [hbl] at HR
    simp only at HR
    subst he
    have HAX := hi_ hax
    have HYZ := hi_ hyz
    have CR := blob_Read w4 b L h D P (HS.out.below B4.out) HU.out a (by have := HA.out; omega)
    rw [hax] at CR
    unfold loadAt at HR
    generalize blobR P (x : Int) = q at *
    obtain ⟨s, er⟩ := q
    simp only at CR HR
    have CR := hi_ CR
    clear hbl hyz HC
    rw [hax]
    clear hax
    rw [HYZ.out]
    go_wp2_with fail
    refine CR.out.mono ?_
    rintro e w5 ⟨rfl, hb⟩
    have B5 := hi_ (B4.out.trans (hb.mono B4.out.size))
    clear hb CR B4
    by_cases her : er = 0
    ·subst her
     by_cases hsz : s.size = z
     ·have hsz' : (s.size : Int) = (z : Int) := by omega
      go_wp2_with fail
      go_ret2
      have e : R = (s, 0) := by rw [HR.out]; simp [hsz]
      rw [e]
      exact ⟨rfl, B5.out⟩
     ·have hsz' : ¬ (s.size : Int) = (z : Int) := by omega
      go_wp2_with fail
      go_ret2
      have e : R = (⟨#[]⟩, 8) := by rw [HR.out]; simp [hsz]
      rw [e]
      exact ⟨rfl, B5.out⟩
    ·go_wp2_with fail
     go_ret2
     have e : R = (⟨#[]⟩, er) := by rw [HR.out]; simp [her]
     rw [e]
     exact ⟨rfl, B5.out⟩
   ·rw [hbl] at HR
    simp only at HR
    go_wp2_with fail
    go_ret2
    have e : R = (⟨#[]⟩, 8) := HR.out
    rw [e]
    exact ⟨rfl, B4.out⟩
end Go.Proofs.YtendgmblgdkiaaaGreat

namespace Go.Proofs.YtendgmblgdkiaaaGreat
open Go.RowKit
open Go.Proofs.YtendgmblgdkiaaaGreatW
open PrintWords PrintLast PrintMore
set_option linter.unusedVariables false
set_option linter.unusedSimpArgs false

theorem St.drewN {w : World} {L : Loc} {b h : Nat} {D : Dk} {P : List Pg} (S : St w L b h D P) (m : Nat) : St (w.drewN m) L b h D P := S.below (below_drewN (Below.refl _ _) m)
theorem ValM.below {m : Nat} {W w' w'' : World} {b : Nat} {L : Loc} {h : Nat} {D : Dk} {P : List Pg} {D' : Dk} {P' : List Pg} (V : ValM m W w' b L h D P D' P') (k : Below w'.heap.size w' w'') : ValM m W w'' b L h D P D' P' :=
 ⟨V.st.below k, V.live, V.app, V.most, V.keep.andThen (Keep.below (F := fun k => L.foot k ∨ k = b) k) (fun _ _ h => h)⟩
set_option maxRecDepth 100000 in
theorem blob_Write_full (w : World) (b : Nat) (L : Loc) (h : Nat) (D : Dk) (P : List Pg) (S : St w L b h D P) (s : BA) (hs : s.size ≤ 65536) (hr : D.room < P.length + costN s.size) :
  Calls Tryz.prog 123 #[.pointer (some ⟨b, 0, none⟩), .string s] w fun e w' => e = .returned (.tuple #[.int .i64 (-1), .int .i64 5]) ∧ Below w.heap.size w w' := by
 have hrl := room_le S.d.ok
 obtain ⟨c, hc⟩ : ∃ c, c = costN s.size := ⟨_, rfl⟩
 have CC := hi_ (fun W => blob_Cost s.size om_ W)
 rw [← hc] at CC hr
 have hs1 : ¬ (65536 : Int) < (s.size : Int) := by omega
 have hpr := S.room
 have CF := pages_Free w b L D h P.length S.p S.d om_
 obtain ⟨fr, hfr⟩ : ∃ fr : Int, fr = ((D.room - P.length : Nat) : Int) := ⟨_, rfl⟩
 rw [← hfr] at CF
 have hfc : fr < (c : Int) := by omega
 have CF := hi_ CF
 clear S hs hc hr hrl hpr hfr
 go_enter Tryz.func123, Tryz.ntmps123
 go_wp2_with fail
 refine (CC.out w).mono ?_
 rintro e w1 ⟨rfl, rfl⟩
 clear CC
 go_wp2_with fail
 refine CF.out.mono ?_
 rintro e w1 ⟨rfl, m, rfl⟩
 clear CF
 go_wp2_with fail
 go_ret2
 exact ⟨rfl, below_drewN (Below.refl _ _) m⟩
theorem besB_size (p n : Nat) (hp : p ≤ 2147483647) (hn : n ≤ 65536) : (besB p n).size ≤ 32 := by
 have z1 := vNum_le (x := p) om_
 have z2 := vNum_le (x := n) om_
 unfold besB
 rw [ByteArray.size_append, ByteArray.size_append]
 have : (⟨#[98]⟩ : BA).size = 1 := rfl
 omega
set_option maxRecDepth 100000 in
theorem int_Value_b (w : World) (b : Nat) (L : Loc) (h : Nat) (D : Dk) (P : List Pg) (S : St w L b h D P) (lv : D.Live) (s : BA) (hs1 : 31 < s.size) (hs : s.size ≤ 65536) (c : Nat) (hc : c = costN s.size) (hr : P.length + c ≤ D.room) :
  Calls Tryz.prog 62 #[.pointer (some ⟨b, 0, none⟩), .string s] w fun e w' => e = .returned (.tuple #[.string (besB (P.length + c - 1) s.size), .int .i64 0]) ∧ ∃ D1, ValM c w w' b L h D P D1 (P ++ pgsB P.length (partB s c) c) := by
 have hrl := room_le S.d.ok
 have CW := hi_ (blob_Write w b L h D P S lv s hs c hc hr)
 have CB := hi_ (fun W => int_Beside (P.length + c - 1) s.size om_ hs W)
 have h0 : ¬ (s.size : Int) ≤ 31 := by omega
 clear S lv hs1 hs hc hr hrl
 go_enter Tryz.func62, Tryz.ntmps62
 go_wp2_with fail
 refine CW.out.mono ?_
 rintro e w1 ⟨rfl, D1, VM⟩
 have V1 := hi_ VM
 clear VM CW
 go_wp2_with fail
 refine (CB.out w1).mono ?_
 rintro e w2 ⟨rfl, hb⟩
 have V2 := hi_ (V1.out.below hb)
 clear hb V1 CB
 go_wp2_with fail
 go_ret2
 exact ⟨rfl, D1, V2.out⟩
set_option maxRecDepth 100000 in
theorem int_Value_full (w : World) (b : Nat) (L : Loc) (h : Nat) (D : Dk) (P : List Pg) (S : St w L b h D P) (s : BA) (hs1 : 31 < s.size) (hs : s.size ≤ 65536) (hr : D.room < P.length + costN s.size) :
  Calls Tryz.prog 62 #[.pointer (some ⟨b, 0, none⟩), .string s] w fun e w' => e = .returned (.tuple #[.string ⟨#[]⟩, .int .i64 5]) ∧ Below w.heap.size w w' := by
 have CW := hi_ (blob_Write_full w b L h D P S s hs hr)
 have h0 : ¬ (s.size : Int) ≤ 31 := by omega
 clear S hs1 hs hr
 go_enter Tryz.func62, Tryz.ntmps62
 go_wp2_with fail
 refine CW.out.mono ?_
 rintro e w1 ⟨rfl, hb⟩
 have B1 := hi_ hb
 clear hb CW
 go_wp2_with fail
 go_ret2
 exact ⟨rfl, B1.out⟩
/-- How many pages a text's value takes. -/
def valC (s : BA) : Nat := if s.size ≤ 31 then 0 else costN s.size
/-- The value of a text behind so many pages. -/
def valOf (n : Nat) (s : BA) : BA := if s.size ≤ 31 then valIn s else besB (n + costN s.size - 1) s.size
/-- What stands for a text. -/
def VLa (P : List Pg) (v s : BA) : Prop := s.size ≤ 65536 ∧ ∃ base, v = valOf base s ∧ base + valC s ≤ 40000 ∧ ∀ i, i < valC s → P[base + i]? = some (blobPg base i (partB s (costN s.size) i))
theorem valOf_ok {n : Nat} {s : BA} (hn : n + valC s ≤ 40000) (hs : s.size ≤ 65536) : valOk (valOf n s) = true := by
 unfold valOf
 unfold valC at hn
 split
 ·next h => exact valIn_ok h
 ·next h => rw [if_neg h] at hn; exact decide_eq_true (besB_size _ _ om_ hs)
theorem cutPre_no {c : UInt8} {s : BA} (h : Lib.hasPrefix s.data.toList [c] = false) : cutPre s c = (s, false) := by
 unfold cutPre
 rw [h]
 rfl
theorem load_in (P : List Pg) (s : BA) : loadB P (valIn s) = (s, 0) := by
 unfold loadB
 have e : cutPre (valIn s) 105 = (s, true) := cutPre_own 105 s
 rw [e]
 rfl
theorem load_b (P : List Pg) (t : BA) {x y : Nat} (h : blobL t.data.toList = some (x, y)) : loadB P ((⟨#[98]⟩ : BA) ++ t) = loadAt P x y := by
 unfold loadB
 have e1 : cutPre ((⟨#[98]⟩ : BA) ++ t) 105 = ((⟨#[98]⟩ : BA) ++ t, false) := cutPre_no (by rw [bytes_app]; rfl)
 have e2 : cutPre ((⟨#[98]⟩ : BA) ++ t) 98 = (t, true) := cutPre_own 98 t
 rw [e1, e2]
 simp only [h]
 rfl
theorem VLa.load {P : List Pg} {v s : BA} (H : VLa P v s) : loadB P v = (s, 0) ∧ v.size ≤ 900 := by
 obtain ⟨hs, base, rfl, hb, hp⟩ := H
 have hk := valOf_ok hb hs
 have hk2 : (valOf base s).size ≤ 32 := of_decide_eq_true hk
 refine ⟨?_, by omega⟩
 unfold valOf
 unfold valC at hb hp
 by_cases h : s.size ≤ 31
 ·rw [if_pos h]
  exact load_in P s
 ·rw [if_neg h] at hb hp ⊢
  obtain ⟨k1, k2, k3⟩ := cost_le s.size
  have hc : costN s.size ≤ 279 := by unfold costN; omega
  have e : besB (base + costN s.size - 1) s.size = (⟨#[98]⟩ : BA) ++ (vNum (base + costN s.size - 1) ++ vNum s.size) := ByteArray.append_assoc
  rw [e, load_b P _ (blobL_num _ _ (by omega) hs)]
  have hr : blobR P ((base + costN s.size - 1 : Nat) : Int) = (s, 0) := by
   unfold blobR
   rw [show base + costN s.size - 1 = base + (costN s.size - 1) from by omega, blobW_chain P base (partB s (costN s.size)) (costN s.size - 1) 279 ⟨#[]⟩ (by omega) (by omega) (fun i hi => hp i (by omega)), catP_all]
   congr 1
  unfold loadAt
  rw [hr]
  simp
theorem VLa.pre {P X : List Pg} {v s : BA} (H : VLa P v s) : VLa (P ++ X) v s := by
 obtain ⟨hs, base, hv, hb, hp⟩ := H
 refine ⟨hs, base, hv, hb, fun i hi => ?_⟩
 have h := hp i hi
 obtain ⟨hl, -⟩ := List.getElem?_eq_some_iff.1 h
 rw [List.getElem?_append_left hl]
 exact h
theorem vals_all (L : Loc) (b h : Nat) : Vals L b h VLa :=
 ⟨fun W D P v s S up hv => by
  obtain ⟨e, hz⟩ := hv.load
  have := int_Load W b L h D P S up v hz
  rw [e] at this
  exact this, fun P X v s h => h.pre⟩
/-- Value where there is room. -/
theorem int_Value (w : World) (b : Nat) (L : Loc) (h : Nat) (D : Dk) (P : List Pg) (S : St w L b h D P) (lv : D.Live) (s : BA) (hs : s.size ≤ 65536) (hr : P.length + valC s ≤ D.room) :
  Calls Tryz.prog 62 #[.pointer (some ⟨b, 0, none⟩), .string s] w fun e w' => e = .returned (.tuple #[.string (valOf P.length s), .int .i64 0]) ∧ ∃ D1 P1, ValM (valC s) w w' b L h D P D1 P1 ∧ VLa P1 (valOf P.length s) s := by
 have hrl := room_le S.d.ok
 by_cases h : s.size ≤ 31
 ·have hc : valC s = 0 := if_pos h
  have ho : valOf P.length s = valIn s := if_pos h
  rw [hc, ho]
  refine (int_Value_in b s w h).mono ?_
  rintro e w' ⟨rfl, rfl⟩
  exact ⟨rfl, D, P, ⟨S, lv, AppOk.refl S.room S.holds, rfl, Keep.below (Below.refl _ _)⟩, hs, P.length, ho.symm, by omega, fun i hi => by omega⟩
 ·have hc : valC s = costN s.size := if_neg h
  have ho : valOf P.length s = besB (P.length + costN s.size - 1) s.size := if_neg h
  rw [hc] at hr
  rw [hc, ho]
  refine (int_Value_b w b L _ D P S lv s om_ hs (costN s.size) rfl hr).mono ?_
  rintro e w' ⟨rfl, D1, V⟩
  refine ⟨rfl, D1, _, V, hs, P.length, ho.symm, by omega, fun i hi => ?_⟩
  rw [List.getElem?_append_right (by omega), Nat.add_sub_cancel_left]
  exact pgsB_at _ _ om_
end Go.Proofs.YtendgmblgdkiaaaGreat

namespace Go.Proofs.YtendgmblgdkiaaaGreat
open Go.RowKit
open Go.Proofs.YtendgmblgdkiaaaGreatW
open PrintWords PrintLast PrintMore
set_option linter.unusedVariables false
set_option linter.unusedSimpArgs false

theorem sumOf_u32 (s : BA) : 0 ≤ sumOf s ∧ sumOf s < 4294967296 := by
 unfold sumOf
 have := (crcOf s.data.toList).isLt
 omega
theorem four_inj2 {a b : Int} (ha : 0 ≤ a ∧ a < 4294967296) (hb : 0 ≤ b ∧ b < 4294967296) (h : four a = four b) : a = b := by
 have h := congrArg (fun x : BA => x.data.toList.map UInt8.toNat) h
 simp only [four, strOfNums_data, List.map_cons, List.map_nil, List.cons.injEq, and_true, UInt8.toNat_ofNat'] at h
 obtain ⟨h1, h2, h3, h4⟩ := h
 omega
/-- The kept texts of one sum. -/
def flt (s : Int) (ks : List BA) : List BA := ks.filter fun y => decide (sumOf y = s)
theorem flt_app (s : Int) (ks : List BA) (x : BA) : flt s (ks ++ [x]) = flt s ks ++ (if sumOf x = s then [x] else []) := by
 unfold flt
 rw [List.filter_append]
 congr 1
 by_cases h : sumOf x = s <;> simp [h]
theorem flt_len (s : Int) (ks : List BA) : (flt s ks).length ≤ ks.length := List.length_filter_le _ _
theorem flt_mem {s : Int} {ks : List BA} {y : BA} (h : y ∈ flt s ks) : y ∈ ks ∧ sumOf y = s := by
 unfold flt at h
 rw [List.mem_filter] at h
 exact ⟨h.1, of_decide_eq_true h.2⟩
/-- Just these texts are kept. -/
def KsIn (P : List Pg) (ks : List BA) (kvs : List KV) : Prop := ∀ s : Int, (0 ≤ s ∧ s < 4294967296) → OneSum VLa P s (fun n => (flt s ks)[n]?) kvs
theorem KsIn.nil (P : List Pg) : KsIn P [] [] := fun s _ => ⟨fun _ _ _ v h => (by cases h), fun n x _ h => (by simp [flt] at h)⟩
theorem KsIn.put {P X : List Pg} {ks : List BA} {kvs : List KV} {v x : BA} (K : KsIn P ks kvs) (hn : ks.length < 256) (hv : VLa (P ++ X) v x) : KsIn (P ++ X) (ks ++ [x]) (ed (keyOf (sumOf x) (flt (sumOf x) ks).length) (some v) kvs) := by
 intro s hs
 have hl := flt_len (sumOf x) ks
 have hkey : ∀ n, n < 256 → keyOf s n = keyOf (sumOf x) (flt (sumOf x) ks).length → s = sumOf x ∧ n = (flt (sumOf x) ks).length := fun n hn h => by
  obtain ⟨h1, h2⟩ := keyOf_inj hn om_ h
  exact ⟨four_inj2 hs (sumOf_u32 x) h1, h2⟩
 constructor
 ·intro n hn hf u hm
  rw [flt_app] at hf
  rcases mem_ed.1 hm with h | ⟨h, -⟩
  ·simp only [Prod.mk.injEq] at h
   obtain ⟨rfl, rfl⟩ := hkey n hn h.1
   rw [if_pos rfl] at hf
   simp at hf
  ·refine (K s hs).no n hn ?_ u h
   rw [List.getElem?_eq_none_iff] at hf ⊢
   rw [List.length_append] at hf
   omega
 ·intro n y hn hf
  rw [flt_app] at hf
  by_cases hk : s = sumOf x ∧ n = (flt (sumOf x) ks).length
  ·obtain ⟨rfl, rfl⟩ := hk
   rw [if_pos rfl] at hf
   simp at hf
   subst hf
   exact ⟨v, mem_ed.2 (.inl rfl), hv⟩
  ·have hf' : (flt s ks)[n]? = some y := by
    by_cases hsx : sumOf x = s
    ·rw [if_pos hsx] at hf
     have hlt := (List.getElem?_eq_some_iff.1 hf).1
     rw [List.length_append, List.length_singleton] at hlt
     subst hsx
     have hn2 : n ≠ (flt (sumOf x) ks).length := fun h => hk ⟨rfl, h⟩
     rwa [List.getElem?_append_left (by omega)] at hf
    ·rw [if_neg hsx, List.append_nil] at hf
     exact hf
   obtain ⟨u, h1, h2⟩ := (K s hs).yes n y hn hf'
   exact ⟨u, mem_ed.2 (.inr ⟨h1, fun h => hk (hkey n hn h)⟩), h2.pre⟩
theorem KsIn.pre {P X : List Pg} {ks : List BA} {kvs : List KV} (K : KsIn P ks kvs) : KsIn (P ++ X) ks kvs := fun s hs => ⟨(K s hs).no, fun n x hn h => by
 obtain ⟨v, h1, h2⟩ := (K s hs).yes n x hn h
 exact ⟨v, h1, h2.pre⟩⟩
end Go.Proofs.YtendgmblgdkiaaaGreat

namespace Go.Proofs.YtendgmblgdkiaaaGreat
open Go.RowKit
open Go.Proofs.YtendgmblgdkiaaaGreatW
open PrintWords PrintLast PrintMore
set_option linter.unusedVariables false
set_option linter.unusedSimpArgs false

/-- Where there is no room: nothing is otherwise but what lies behind the pages. -/
structure FullM (w w' : World) (t b : Nat) (L : Loc) (h : Nat) (D : Dk) (P : List Pg) (r : Rt) (D' : Dk) : Prop where
 ts : TS w.heap.size w' t b L h D' P r
 live : D'.Live
 room : D'.room = D.room
 keep : Keep (fun k => (L.foot k ∨ k = b) ∨ k = t) w w'
theorem Wr.drop {h : Nat} {D D' : Dk} {P X : List Pg} (H : Wr (fun s => ∃ j, (P ++ X).length ≤ j ∧ s = D.sector h j) D D') : Wr (fun s => ∃ j, P.length ≤ j ∧ s = D.sector h j) D D' := H.mono fun s ⟨j, hj, hs⟩ => ⟨j, by rw [List.length_append] at hj; omega, hs⟩
set_option maxHeartbeats 2000000 in
set_option maxRecDepth 100000 in
theorem int_keep2 (w : World) (t b : Nat) (L : Loc) (h : Nat) (D : Dk) (P : List Pg) (r : Rt) (S : St w L b h D P) (T : TreeAt w t b r) (lv : D.Live) (kvs : List KV) (C : TreeC P r kvs) (hct : kvs.length ≤ 100000000) (s : Int) (n : Nat) (x : BA) (hx : x.size ≤ 65536) :
  Calls Tryz.prog 116 #[.pointer (some ⟨t, 0, none⟩), .pointer (some ⟨b, 0, none⟩), .agg #[.int .u32 s, .int .i64 (n : Int)], .string x] w fun e w' =>
   (e = .returned (.tuple #[.agg #[.int .u32 s, .int .i64 (n : Int)], .bool true, .int .i64 0]) ∧ ∃ D' P' r', DoneM (valC x) w w' t b L h D P r D' P' r' (ed (keyOf s n) (some (valOf P.length x)) kvs) ∧ P.length < P'.length ∧ VLa P' (valOf P.length x) x) ∨
   (e = .returned (.tuple #[.agg #[.int .u32 0, .int .i64 0], .bool false, .int .i64 5]) ∧ D.room < P.length + valC x + 2 * r.height + 1 ∧ ∃ D', FullM w w' t b L h D P r D') := by
 obtain ⟨Q, hQ⟩ : ∃ Q : Ending → World → Prop, Q = fun e w' =>
   (e = .returned (.tuple #[.agg #[.int .u32 s, .int .i64 (n : Int)], .bool true, .int .i64 0]) ∧ ∃ D' P' r', DoneM (valC x) w w' t b L h D P r D' P' r' (ed (keyOf s n) (some (valOf P.length x)) kvs) ∧ P.length < P'.length ∧ VLa P' (valOf P.length x) x) ∨
   (e = .returned (.tuple #[.agg #[.int .u32 0, .int .i64 0], .bool false, .int .i64 5]) ∧ D.room < P.length + valC x + 2 * r.height + 1 ∧ ∃ D', FullM w w' t b L h D P r D') := ⟨_, rfl⟩
 rw [← hQ]
 have HQ := hi_ hQ
 have HS := hi_ S
 have HT := hi_ T
 have HLV := hi_ lv
 have HC := hi_ C
 have HCT := hi_ hct
 have HX := hi_ hx
 have HH := hi_ ((C.low (m := 27) om_).1)
 clear hQ S T lv C hct hx
 go_enter Tryz.func116, Tryz.ntmps116
 go_wp2_with fail
 have X1 := hi_ (blk_alloc (blk_new w (.cells #[.int .u32 s, .int .i64 (n : Int)] 77 (0, 0))) (.cells #[.int .u32 0, .int .i64 0] 77 (0, 0)))
 have Y1 := hi_ (blk_new (w.alloc (.cells #[.int .u32 s, .int .i64 (n : Int)] 77 (0, 0))) (.cells #[.int .u32 0, .int .i64 0] 77 (0, 0)))
 have B1 := hi_ (below_alloc (below_alloc (Below.refl w.heap.size w) (.cells #[.int .u32 s, .int .i64 (n : Int)] 77 (0, 0))) (.cells #[.int .u32 0, .int .i64 0] 77 (0, 0)))
 simp only [World.size_alloc] at Y1
 generalize (w.alloc (.cells #[.int .u32 s, .int .i64 (n : Int)] 77 (0, 0))).alloc (.cells #[.int .u32 0, .int .i64 0] 77 (0, 0)) = w1 at *
 obtain ⟨z, hz⟩ : ∃ z, z = w.heap.size := ⟨_, rfl⟩
 rw [← hz] at X1 Y1 ⊢
 have HZ := hi_ hz
 clear hz
 have LO := hi_ (lo_of HS.out HT.out)
 refine (pages_Next w1 b L h P.length (HS.out.below B1.out).p).mono ?_
 rintro e w1 ⟨rfl, rfl⟩
 go_wp2_with fail
 by_cases hroom : P.length + valC x ≤ D.room
 ·have CV := hi_ (int_Value w1 b L h D P (HS.out.below B1.out) HLV.out x HX.out hroom)
  refine CV.out.mono ?_
  clear CV
  rintro e w2 ⟨rfl, D1, P1, VM, hvl⟩
  have HVL := hi_ hvl
  have HVO : Hid (valOk (valOf P.length x) = true) := hi_ (valOf_ok (by have := room_le HS.out.d.ok; omega) HX.out)
  obtain ⟨v, hv⟩ : ∃ v, v = valOf P.length x := ⟨_, rfl⟩
  rw [← hv] at HVL HVO HQ ⊢
  clear hvl hv
  have hF1 : ∀ k, (L.foot k ∨ k = b) → k < w.heap.size := fun k hk => LO.out.lo k hk
  have K2 := hi_ ((Keep.below (F := fun k => (L.foot k ∨ k = b) ∨ k = t) B1.out).andThen VM.keep (fun i _ hf => .inl hf))
  have X2 := hi_ (VM.keep.heap X1.out (fun hf => by have := hF1 _ hf; have := HZ.out; omega))
  have Y2 := hi_ (VM.keep.heap Y1.out (fun hf => by have := hF1 _ hf; have := HZ.out; omega))
  have T2 := hi_ (show TS w.heap.size w2 t b L h D1 P1 r from ⟨VM.st, (HT.out.below B1.out).keep VM.keep (fun hf => HT.out.foot HS.out hf), LO.out.lo, LO.out.tl⟩)
  have VM := hi_ VM
  have C2 := hi_ (show TreeC P1 r kvs by obtain ⟨Z, hZ⟩ := VM.out.app.pre; rw [hZ]; exact HC.out.pre)
  clear X1 Y1 B1 hF1
  have x0 := blk_cell X2.out 0
  have x1 := blk_cell X2.out 1
  go_wp2_with fail
  refine (ref_Key s n w2).mono ?_
  rintro e w3 ⟨rfl, hb⟩
  have K3 := hi_ (K2.out.andThen (G := fun _ => False) (Keep.below hb) (fun _ _ hf => hf.elim))
  have X3 := hi_ (blk_below X2.out hb)
  have Y3 := hi_ (blk_below Y2.out hb)
  have T3 := hi_ (T2.out.below hb)
  have hsz : Hid (w.heap.size ≤ w3.heap.size) := hi_ (by have := K3.out.size; omega)
  clear hb X2 Y2 K2 T2 x0 x1
  go_wp2_with fail
  refine (tree_Put0 w.heap.size w3 t b L h D1 P1 r (keyOf s n) v kvs hsz.out T3.out VM.out.live.1 C2.out (keyOf_ok s n) HVO.out (C2.out.small HCT.out) HCT.out).mono ?_
  rintro e w4 ⟨D2, P2, r2, T4, KP, hres⟩
  have hF2 : ∀ k, ((L.foot k ∨ k = b) ∨ k = t) → k < w.heap.size := fun k hk => by
   rcases hk with h | rfl
   ·exact LO.out.lo k h
   ·exact LO.out.tl
  have K4 := hi_ (K3.out.andThen KP (fun i _ hf => hf))
  have X4 := hi_ (KP.heap X3.out (fun hf => by have := hF2 _ hf; have := HZ.out; omega))
  have Y4 := hi_ (KP.heap Y3.out (fun hf => by have := hF2 _ hf; have := HZ.out; omega))
  have T4 := hi_ T4
  clear X3 Y3 K3 hF2 KP
  have x0 := blk_cell X4.out 0
  have x1 := blk_cell X4.out 1
  have y0 := blk_cell Y4.out 0
  have y1 := blk_cell Y4.out 1
  have f0 := blk_frozen Y4.out 0
  have f1 := blk_frozen Y4.out 1
  rcases hres with ⟨rfl, ha, hrc, hc, up, hle, hgr⟩ | ⟨er, rfl, rfl, rfl, hw, hres⟩
  ·have HP := hi_ (show TreeC P2 r2 (ed (keyOf s n) (some v) kvs) from ⟨hrc, by rw [hc, C2.out.count, ed_put_len C2.out.good.1], ed_good C2.out.good (keyOf_ok s n) (fun u e => by cases e; exact HVO.out)⟩)
   have HA := hi_ ha
   have HL := hi_ hle
   have HG := hi_ (hgr (by simp [ed]))
   clear ha hrc hc up hle hgr
   go_wp2_with fail
   have Z5 := blk_put (blk_put Y4.out 0 (.int .u32 s) rfl) 1 (.int .i64 (n : Int)) rfl
   have hnb : Keep (fun k => w.heap.size ≤ k) w4 ((w4.setCell ⟨z + 1, 0, none⟩ (.int .u32 s)).setCell ⟨z + 1, 1, none⟩ (.int .i64 (n : Int))) :=
    ((Keep.refl _ w4).setCell (p := ⟨z + 1, 0, none⟩) (.inl (by have := HZ.out; show w.heap.size ≤ z + 1; omega)) _).setCell (p := ⟨z + 1, 1, none⟩) (.inl (by have := HZ.out; show w.heap.size ≤ z + 1; omega)) _
   refine bodyPost_ret (PrintWords.results_list (rs := [.cell 8 77, .tmp 9, .tmp 10]) (vs := [.agg #[.int .u32 s, .int .i64 (n : Int)], .bool true, .int .i64 0]) rfl (by simp) (.cell (z + 1) 77 #[.int .u32 s, .int .i64 (n : Int)] (0, 0) _ rfl Z5 Tryz.underlying77 rfl kr_ (.tmp (.tmp .nil)))) rfl ?_
   have TS4 := TS.hi (B := w.heap.size) T4.out hnb
   obtain ⟨Z, hZ⟩ := HA.out.pre
   rw [HQ.out]
   exact .inl ⟨rfl, D2, P2, r2, ⟨TS4.st, TS4.tr, HP.out, HA.out.wr.live VM.out.live, VM.out.app.trans HA.out, by have := HL.out; have := VM.out.most; omega, K4.out.andThen hnb (fun i hi hf => by omega)⟩, by have := HG.out; have := VM.out.most; omega, by rw [hZ]; exact HVL.out.pre⟩
  ·have hlv := VM.out.live
   rcases hres with ⟨rfl, -, hrm⟩ | ⟨-, -, hno⟩
   rotate_left
   ·exact absurd hlv hno
   have HRM := hi_ (show D.room < P.length + valC x + 2 * r2.height + 1 ∧ D2.room = D.room by have := hw.room; have := VM.out.app.wr.room; have := VM.out.most; omega)
   have HLV2 := hi_ (hw.live hlv)
   clear hw hrm hlv
   go_wp2_with fail
   refine (cut_back (P := P) T4.out VM.out.app.pre).mono ?_
   rintro e w5 ⟨⟨vb, rfl⟩, T5, KC⟩
   have hF2 : ∀ k, (L.foot k ∨ k = b) → k < w.heap.size := fun k hk => LO.out.lo k hk
   have K5 := hi_ (K4.out.andThen KC (fun i _ hf => .inl hf))
   have Y5 := hi_ (KC.heap Y4.out (fun hf => by have := hF2 _ hf; have := HZ.out; omega))
   have T5 := hi_ T5
   clear KC hF2 X4 Y4 K4 x0 x1 y0 y1 f0 f1 T4
   have y0 := blk_cell Y5.out 0
   have y1 := blk_cell Y5.out 1
   have f0 := blk_frozen Y5.out 0
   have f1 := blk_frozen Y5.out 1
   go_wp2_with fail
   have Z6 := blk_put (blk_put Y5.out 0 (.int .u32 0) rfl) 1 (.int .i64 0) rfl
   have hnb : Keep (fun k => w.heap.size ≤ k) w5 ((w5.setCell ⟨z + 1, 0, none⟩ (.int .u32 0)).setCell ⟨z + 1, 1, none⟩ (.int .i64 0)) :=
    ((Keep.refl _ w5).setCell (p := ⟨z + 1, 0, none⟩) (.inl (by have := HZ.out; show w.heap.size ≤ z + 1; omega)) _).setCell (p := ⟨z + 1, 1, none⟩) (.inl (by have := HZ.out; show w.heap.size ≤ z + 1; omega)) _
   refine bodyPost_ret (PrintWords.results_list (rs := [.cell 8 77, .tmp 9, .tmp 10]) (vs := [.agg #[.int .u32 0, .int .i64 0], .bool false, .int .i64 5]) rfl (by simp) (.cell (z + 1) 77 #[.int .u32 0, .int .i64 0] (0, 0) _ rfl Z6 Tryz.underlying77 rfl kr_ (.tmp (.tmp .nil)))) rfl ?_
   rw [HQ.out]
   exact .inr ⟨rfl, HRM.out.1, D2, TS.hi (B := w.heap.size) T5.out hnb, HLV2.out, HRM.out.2, K5.out.andThen hnb (fun i hi hf => by omega)⟩
 ·have hsz : 31 < x.size := by
   rcases Nat.lt_or_ge 31 x.size with h | h
   ·exact h
   ·exfalso
    have := HS.out.room
    unfold valC at hroom
    rw [if_pos h] at hroom
    omega
  have hvc : valC x = costN x.size := if_neg om_
  have CV := hi_ (int_Value_full w1 b L h D P (HS.out.below B1.out) x hsz HX.out om_)
  have HRM := hi_ (show D.room < P.length + valC x + 2 * r.height + 1 by have := HH.out; omega)
  clear hroom hsz hvc
  refine CV.out.mono ?_
  clear CV
  rintro e w2 ⟨rfl, hb⟩
  have B2 := hi_ (below_then B1.out B1.out.size hb)
  have X2 := hi_ (blk_below X1.out hb)
  have Y2 := hi_ (blk_below Y1.out hb)
  have T2 := hi_ (LO.out.below B2.out)
  clear hb X1 Y1 B1
  go_wp2_with fail
  refine (cut_back (P := P) T2.out ⟨[], by simp⟩).mono ?_
  rintro e w5 ⟨⟨vb, rfl⟩, T5, KC⟩
  have hF2 : ∀ k, (L.foot k ∨ k = b) → k < w.heap.size := fun k hk => LO.out.lo k hk
  have K5 := hi_ ((Keep.below (F := fun k => (L.foot k ∨ k = b) ∨ k = t) B2.out).andThen KC (fun i _ hf => .inl hf))
  have Y5 := hi_ (KC.heap Y2.out (fun hf => by have := hF2 _ hf; have := HZ.out; omega))
  have T5 := hi_ T5
  have HLV2 := HLV
  clear KC hF2 X2 Y2 B2 T2
  have y0 := blk_cell Y5.out 0
  have y1 := blk_cell Y5.out 1
  have f0 := blk_frozen Y5.out 0
  have f1 := blk_frozen Y5.out 1
  go_wp2_with fail
  have Z6 := blk_put (blk_put Y5.out 0 (.int .u32 0) rfl) 1 (.int .i64 0) rfl
  have hnb : Keep (fun k => w.heap.size ≤ k) w5 ((w5.setCell ⟨z + 1, 0, none⟩ (.int .u32 0)).setCell ⟨z + 1, 1, none⟩ (.int .i64 0)) :=
   ((Keep.refl _ w5).setCell (p := ⟨z + 1, 0, none⟩) (.inl (by have := HZ.out; show w.heap.size ≤ z + 1; omega)) _).setCell (p := ⟨z + 1, 1, none⟩) (.inl (by have := HZ.out; show w.heap.size ≤ z + 1; omega)) _
  refine bodyPost_ret (PrintWords.results_list (rs := [.cell 8 77, .tmp 9, .tmp 10]) (vs := [.agg #[.int .u32 0, .int .i64 0], .bool false, .int .i64 5]) rfl (by simp) (.cell (z + 1) 77 #[.int .u32 0, .int .i64 0] (0, 0) _ rfl Z6 Tryz.underlying77 rfl kr_ (.tmp (.tmp .nil)))) rfl ?_
  rw [HQ.out]
  exact .inr ⟨rfl, HRM.out, D, TS.hi (B := w.heap.size) T5.out hnb, HLV2.out, rfl, K5.out.andThen hnb (fun i hi hf => by omega)⟩
set_option maxHeartbeats 2000000 in
set_option maxRecDepth 100000 in
theorem int_Put2 (N : Nat) (w : World) (t b : Nat) (L : Loc) (h : Nat) (D : Dk) (P : List Pg) (r : Rt) (S : St w L b h D P) (T : TreeAt w t b r) (lv : D.Live) (kvs : List KV) (C : TreeC P r kvs) (hct : kvs.length ≤ 100000000) (x : BA) (hx : x.size ≤ 65536) (f : Nat → Option BA) (O : OneSum VLa P (sumOf x) f kvs) (hN : N < 256) (hlow : ∀ k, k < N → ∃ y, f k = some y ∧ y ≠ x) (hat : f N = none ∨ f N = some x) :
  Calls Tryz.prog 51 #[.pointer (some ⟨t, 0, none⟩), .pointer (some ⟨b, 0, none⟩), .string x] w fun e w' =>
   (f N = some x ∧ e = .returned (.tuple #[.agg #[.int .u32 (sumOf x), .int .i64 (N : Int)], .bool false, .int .i64 0]) ∧ Below w.heap.size w w') ∨
   (f N = none ∧ e = .returned (.tuple #[.agg #[.int .u32 (sumOf x), .int .i64 (N : Int)], .bool true, .int .i64 0]) ∧ ∃ D' P' r', DoneM (valC x) w w' t b L h D P r D' P' r' (ed (keyOf (sumOf x) N) (some (valOf P.length x)) kvs) ∧ P.length < P'.length ∧ VLa P' (valOf P.length x) x) ∨
   (f N = none ∧ e = .returned (.tuple #[.agg #[.int .u32 0, .int .i64 0], .bool false, .int .i64 5]) ∧ D.room < P.length + valC x + 2 * r.height + 1 ∧ ∃ D', FullM w w' t b L h D P r D') := by
 obtain ⟨Q, hQ⟩ : ∃ Q : Ending → World → Prop, Q = fun e w' =>
   (f N = some x ∧ e = .returned (.tuple #[.agg #[.int .u32 (sumOf x), .int .i64 (N : Int)], .bool false, .int .i64 0]) ∧ Below w.heap.size w w') ∨
   (f N = none ∧ e = .returned (.tuple #[.agg #[.int .u32 (sumOf x), .int .i64 (N : Int)], .bool true, .int .i64 0]) ∧ ∃ D' P' r', DoneM (valC x) w w' t b L h D P r D' P' r' (ed (keyOf (sumOf x) N) (some (valOf P.length x)) kvs) ∧ P.length < P'.length ∧ VLa P' (valOf P.length x) x) ∨
   (f N = none ∧ e = .returned (.tuple #[.agg #[.int .u32 0, .int .i64 0], .bool false, .int .i64 5]) ∧ D.room < P.length + valC x + 2 * r.height + 1 ∧ ∃ D', FullM w w' t b L h D P r D') := ⟨_, rfl⟩
 rw [← hQ]
 have HQ := hi_ hQ
 have HS := hi_ S
 have HT := hi_ T
 have HLV := hi_ lv
 have HC := hi_ C
 have HCT := hi_ hct
 have HO := hi_ O
 have HN := hi_ hN
 have HL := hi_ hlow
 have HA := hi_ hat
 have HXX := hi_ hx
 have HH := hi_ (C.small hct)
 have hx0 : (x.size : Int) ≤ 65536 := by omega
 have HX := hi_ (show x.size ≤ maxLen by unfold maxLen; omega)
 have CK := fun W hc => crc_Of (w.heap.size + 1) x W (by unfold maxLen; omega) hc
 obtain ⟨sm, hsm⟩ : ∃ sm, sm = sumOf x := ⟨_, rfl⟩
 have hsm' : ((crcOf x.data.toList).toNat : Int) = sm := hsm.symm
 rw [hsm'] at CK
 have CK := hi_ CK
 have HSM := hi_ hsm
 clear hQ S T lv C hct O hN hlow hat hx hsm hsm'
 go_enter Tryz.func51, Tryz.ntmps51
 go_wp2_with fail
 have X1 := hi_ (blk_alloc (blk_new w (.cells #[.int .u32 0, .int .i64 0] 77 (0, 0))) (.cells #[.string x] 9 (0, 0)))
 have B1 := hi_ (below_alloc (below_alloc (Below.refl w.heap.size w) (.cells #[.int .u32 0, .int .i64 0] 77 (0, 0))) (.cells #[.string x] 9 (0, 0)))
 have c1 := blk_cell (blk_new (w.alloc (.cells #[.int .u32 0, .int .i64 0] 77 (0, 0))) (.cells #[.string x] 9 (0, 0))) 0
 have s1 : Hid (((w.alloc (.cells #[.int .u32 0, .int .i64 0] 77 (0, 0))).alloc (.cells #[.string x] 9 (0, 0))).heap.size = w.heap.size + 2) := hi_ (by simp)
 simp only [World.size_alloc] at c1
 generalize (w.alloc (.cells #[.int .u32 0, .int .i64 0] 77 (0, 0))).alloc (.cells #[.string x] 9 (0, 0)) = w1 at *
 refine (CK.out w1 c1).mono ?_
 clear c1
 rintro e w1 ⟨rfl, rfl⟩
 go_wp2_with fail
 have X2 := hi_ (blk_alloc X1.out (.cells #[.int .u32 sm, .int .i64 0] 77 (0, 0)))
 have Y2 := hi_ (blk_new w1 (.cells #[.int .u32 sm, .int .i64 0] 77 (0, 0)))
 have B2 := hi_ (below_alloc B1.out (.cells #[.int .u32 sm, .int .i64 0] 77 (0, 0)))
 generalize w1.alloc (.cells #[.int .u32 sm, .int .i64 0] 77 (0, 0)) = w2 at *
 obtain ⟨q, hq⟩ : ∃ q, q = w1.heap.size := ⟨_, rfl⟩
 obtain ⟨z, hz⟩ : ∃ z, z = w.heap.size := ⟨_, rfl⟩
 rw [← hq] at Y2 ⊢
 rw [← hz] at X2 ⊢
 have HZ := hi_ (show z = w.heap.size ∧ z < q ∧ w.heap.size ≤ q by have := s1.out; have := B1.out.size; omega)
 clear hq hz X1 B1 s1
 go_loopw [11] (fun _ wr => ∃ (k : Nat), k ≤ N ∧ Hid (wr.heap[z]? = some (.cells #[.int .u32 0, .int .i64 0] 77 (0, 0))) ∧ Hid (wr.heap[q]? = some (.cells #[.int .u32 sm, .int .i64 (k : Int)] 77 (0, 0))) ∧ Hid (Below w.heap.size w wr)) (fun _ wr => N - boxN q wr)
 case atStart => exact ⟨0, Nat.zero_le _, X2, Y2, B2⟩
 case round =>
  clear X2 Y2 B2
  obtain ⟨k, hk, X2, Y2, B2⟩ := hrel
  have y0 := blk_cell Y2.out 0
  have y1 := blk_cell Y2.out 1
  have hk0 : (0 : Int) ≤ (k : Int) := by omega
  have hk2 : (k : Int) < 256 := by have := HN.out; omega
  have HK := hi_ hk
  by_cases hkN : k < N
  ·obtain ⟨y, hy, hne⟩ := HL.out k hkN
   obtain ⟨v, hv1, hv2⟩ := HO.out.yes k y (by have := HN.out; omega) hy
   have hs := str_ne hne
   have HKN := hi_ hkN
   have CG := hi_ (int_Get_some wr t b L h D P r (HS.out.below B2.out) (HT.out.below B2.out) HLV.out.1 kvs HC.out HH.out (sumOf x) k (by have := HN.out; omega) v y hv1 (fun W hW => (vals_all L b h).load W D P v y ((HS.out.below B2.out).below hW) HLV.out.1 hv2))
   rw [← HSM.out] at CG
   clear hy hne hv1 hv2 hk hkN
   go_wp2_with fail
   refine CG.out.mono ?_
   clear CG
   rintro e w3 ⟨rfl, hb⟩
   have X3 := hi_ (blk_below X2.out hb)
   have Y3 := hi_ (blk_below Y2.out hb)
   have B3 := hi_ (below_then B2.out B2.out.size hb)
   clear hb X2 B2 y0 y1
   have y0 := blk_cell Y3.out 0
   have y1 := blk_cell Y3.out 1
   have f1 := blk_frozen Y3.out 1
   go_wp2_with fail
   have hkc : ((k : Int) + 1) = ((k + 1 : Nat) : Int) := by omega
   rw [hkc]
   have Y4 := hi_ (blk_put Y3.out 1 (.int .i64 ((k + 1 : Nat) : Int)) rfl)
   have X4 := hi_ (blk_far X3.out (p := ⟨q, 1, none⟩) (by have := HZ.out; show z ≠ q; omega) (.int .i64 ((k + 1 : Nat) : Int)))
   have B4 := hi_ (below_set (g := q) (j := 1) (v := .int .i64 ((k + 1 : Nat) : Int)) B3.out HZ.out.2.2)
   exact ⟨⟨k + 1, by have := HKN.out; omega, X4, Y4, B4⟩, by rw [boxN_eq Y4.out, boxN_eq Y2.out]; have := HKN.out; omega⟩
  ·obtain rfl : k = N := by omega
   clear hkN hk
   rcases HA.out with hf | hf
   ·have HF := hi_ hf
    have CG := hi_ (int_Get_none wr t b L h D P r (HS.out.below B2.out) (HT.out.below B2.out) HLV.out.1 kvs HC.out HH.out (sumOf x) k om_ (HO.out.no k om_ hf))
    rw [← HSM.out] at CG
    have CKP := hi_ (fun W (hW : Below w.heap.size w W) => int_keep2 W t b L h D P r (HS.out.below hW) (HT.out.below hW) HLV.out kvs HC.out HCT.out (sumOf x) k x HXX.out)
    rw [← HSM.out] at CKP
    clear hf
    go_wp2_with fail
    refine CG.out.mono ?_
    clear CG
    rintro e w3 ⟨rfl, hb⟩
    have X3 := hi_ (blk_below X2.out hb)
    have Y3 := hi_ (blk_below Y2.out hb)
    have B3 := hi_ (below_then B2.out B2.out.size hb)
    clear hb X2 B2 y0 y1 Y2
    have y0 := blk_cell Y3.out 0
    have y1 := blk_cell Y3.out 1
    go_wp2_with fail
    refine (CKP.out w3 B3.out).mono ?_
    clear CKP
    have LO := hi_ (lo_of HS.out HT.out)
    have hF : Hid (∀ k, ((L.foot k ∨ k = b) ∨ k = t) → k < w.heap.size) := hi_ (fun k hk => by
     rcases hk with h | rfl
     ·exact LO.out.lo k h
     ·exact LO.out.tl)
    rintro e w4 (⟨rfl, D', P', r', DM, hgr, hvl⟩ | ⟨rfl, hroom, D', FM⟩)
    ·have K4 := hi_ ((Keep.below (F := fun k => (L.foot k ∨ k = b) ∨ k = t) B3.out).andThen DM.keep (fun i _ hf => hf))
     have X4 := hi_ (DM.keep.heap X3.out (fun hf => by have := hF.out _ hf; have := HZ.out; omega))
     have DM := hi_ DM
     have HVL := hi_ hvl
     have HGR := hi_ hgr
     clear X3 Y3 hvl hgr y0 y1 B3
     have x0 := blk_cell X4.out 0
     have x1 := blk_cell X4.out 1
     have f0 := blk_frozen X4.out 0
     have f1 := blk_frozen X4.out 1
     go_wp2_with fail
     have Z5 := blk_put (blk_put X4.out 0 (.int .u32 sm) rfl) 1 (.int .i64 (k : Int)) rfl
     have hnb : Keep (fun k => w.heap.size ≤ k) w4 ((w4.setCell ⟨z, 0, none⟩ (.int .u32 sm)).setCell ⟨z, 1, none⟩ (.int .i64 (k : Int))) :=
      ((Keep.refl _ w4).setCell (p := ⟨z, 0, none⟩) (.inl (by have := HZ.out; show w.heap.size ≤ z; omega)) _).setCell (p := ⟨z, 1, none⟩) (.inl (by have := HZ.out; show w.heap.size ≤ z; omega)) _
     refine bodyPost_ret (PrintWords.results_list (rs := [.cell 6 77, .tmp 7, .tmp 8]) (vs := [.agg #[.int .u32 sm, .int .i64 (k : Int)], .bool true, .int .i64 0]) rfl (by simp) (.cell z 77 #[.int .u32 sm, .int .i64 (k : Int)] (0, 0) _ rfl Z5 Tryz.underlying77 rfl kr_ (.tmp (.tmp .nil)))) rfl ?_
     have TS4 := TS.hi (B := w.heap.size) ⟨DM.out.st, DM.out.tr, LO.out.lo, LO.out.tl⟩ hnb
     rw [HQ.out, ← HSM.out]
     exact .inr (.inl ⟨HF.out, rfl, D', P', r', ⟨TS4.st, TS4.tr, DM.out.tc, DM.out.live, DM.out.app, DM.out.most, K4.out.andThen hnb (fun i hi hf => by omega)⟩, HGR.out, HVL.out⟩)
    ·have K4 := hi_ ((Keep.below (F := fun k => (L.foot k ∨ k = b) ∨ k = t) B3.out).andThen FM.keep (fun i _ hf => hf))
     have X4 := hi_ (FM.keep.heap X3.out (fun hf => by have := hF.out _ hf; have := HZ.out; omega))
     have FM := hi_ FM
     have HRM := hi_ hroom
     clear X3 Y3 hroom y0 y1 B3
     have x0 := blk_cell X4.out 0
     have x1 := blk_cell X4.out 1
     have f0 := blk_frozen X4.out 0
     have f1 := blk_frozen X4.out 1
     go_wp2_with fail
     have Z5 := blk_put (blk_put X4.out 0 (.int .u32 0) rfl) 1 (.int .i64 0) rfl
     have hnb : Keep (fun k => w.heap.size ≤ k) w4 ((w4.setCell ⟨z, 0, none⟩ (.int .u32 0)).setCell ⟨z, 1, none⟩ (.int .i64 0)) :=
      ((Keep.refl _ w4).setCell (p := ⟨z, 0, none⟩) (.inl (by have := HZ.out; show w.heap.size ≤ z; omega)) _).setCell (p := ⟨z, 1, none⟩) (.inl (by have := HZ.out; show w.heap.size ≤ z; omega)) _
     refine bodyPost_ret (PrintWords.results_list (rs := [.cell 6 77, .tmp 7, .tmp 8]) (vs := [.agg #[.int .u32 0, .int .i64 0], .bool false, .int .i64 5]) rfl (by simp) (.cell z 77 #[.int .u32 0, .int .i64 0] (0, 0) _ rfl Z5 Tryz.underlying77 rfl kr_ (.tmp (.tmp .nil)))) rfl ?_
     have TS4 := TS.hi (B := w.heap.size) ⟨FM.out.ts.st, FM.out.ts.tr, LO.out.lo, LO.out.tl⟩ hnb
     rw [HQ.out]
     exact .inr (.inr ⟨HF.out, rfl, HRM.out, D', TS4, FM.out.live, FM.out.room, K4.out.andThen hnb (fun i hi hf => by omega)⟩)
   ·obtain ⟨v, hv1, hv2⟩ := HO.out.yes k x om_ hf
    have HF := hi_ hf
    have CG := hi_ (int_Get_some wr t b L h D P r (HS.out.below B2.out) (HT.out.below B2.out) HLV.out.1 kvs HC.out HH.out (sumOf x) k om_ v x hv1 (fun W hW => (vals_all L b h).load W D P v x ((HS.out.below B2.out).below hW) HLV.out.1 hv2))
    rw [← HSM.out] at CG
    clear hf hv1 hv2
    go_wp2_with fail
    refine CG.out.mono ?_
    clear CG
    rintro e w3 ⟨rfl, hb⟩
    have X3 := hi_ (blk_below X2.out hb)
    have Y3 := hi_ (blk_below Y2.out hb)
    have B3 := hi_ (below_then B2.out B2.out.size hb)
    clear hb X2 B2 y0 y1 Y2
    have y0 := blk_cell Y3.out 0
    have y1 := blk_cell Y3.out 1
    have x0 := blk_cell X3.out 0
    have x1 := blk_cell X3.out 1
    have f0 := blk_frozen X3.out 0
    have f1 := blk_frozen X3.out 1
    go_wp2_with fail
    have Z5 := blk_put (blk_put X3.out 0 (.int .u32 sm) rfl) 1 (.int .i64 (k : Int)) rfl
    refine bodyPost_ret (PrintWords.results_list (rs := [.cell 6 77, .tmp 7, .tmp 8]) (vs := [.agg #[.int .u32 sm, .int .i64 (k : Int)], .bool false, .int .i64 0]) rfl (by simp) (.cell z 77 #[.int .u32 sm, .int .i64 (k : Int)] (0, 0) _ rfl Z5 Tryz.underlying77 rfl kr_ (.tmp (.tmp .nil)))) rfl ?_
    rw [HQ.out]
    exact .inl ⟨HF.out, by rw [HSM.out], below_set (below_set B3.out (by have := HZ.out; omega)) (by have := HZ.out; omega)⟩
end Go.Proofs.YtendgmblgdkiaaaGreat

namespace Go.Proofs.YtendgmblgdkiaaaGreat
open Go.RowKit
open Go.Proofs.YtendgmblgdkiaaaGreatW
open PrintWords PrintLast PrintMore
set_option linter.unusedVariables false
set_option linter.unusedSimpArgs false

/-- A tree over pages where just these texts are kept. -/
structure Kept14 (w0 : World) (L : Loc) (b t : Nat) (ks : List BA) (D : Dk) (P : List Pg) (r : Rt) (kvs : List KV) (w : World) : Prop where
 made : Made w0 w L b t D P r kvs
 kin : KsIn P ks kvs
 len : kvs.length ≤ ks.length
namespace Kept14
variable {w0 w w' : World} {L : Loc} {b t : Nat} {ks : List BA} {D : Dk} {P : List Pg} {r : Rt} {kvs : List KV}
theorem below (H : Kept14 w0 L b t ks D P r kvs w) (hb : Below w.heap.size w w') : Kept14 w0 L b t ks D P r kvs w' := ⟨H.made.below hb, H.kin, H.len⟩
theorem lo (H : Kept14 w0 L b t ks D P r kvs w) : ∀ k, ((L.foot k ∨ k = b) ∨ k = t) → k < w.heap.size := fun k hk => by
 have LO := lo_of H.made.pg.st H.made.tr
 rcases hk with h | rfl
 ·exact LO.lo k h
 ·exact LO.tl
end Kept14
/-- What a Put of a text that isn't kept leaves. -/
def PutNew (w0 : World) (L : Loc) (b t : Nat) (ks : List BA) (D : Dk) (P : List Pg) (r : Rt) (x : BA) (w : World) (e : Ending) (w' : World) : Prop :=
 Keep (fun k => (L.foot k ∨ k = b) ∨ k = t) w w' ∧
 ((e = .returned (.tuple #[.agg #[.int .u32 (sumOf x), .int .i64 ((flt (sumOf x) ks).length : Int)], .bool true, .int .i64 0]) ∧ ∃ D' P' r' kvs', Kept14 w0 L b t (ks ++ [x]) D' P' r' kvs' w' ∧ D'.room = D.room ∧ P.length < P'.length ∧ (P'.length : Int) ≤ P.length + valC x + 2 * r.height + 1) ∨
  (e = .returned (.tuple #[.agg #[.int .u32 0, .int .i64 0], .bool false, .int .i64 5]) ∧ D.room < P.length + valC x + 2 * r.height + 1 ∧ ∃ D' kvs', Kept14 w0 L b t ks D' P r kvs' w' ∧ D'.room = D.room))
theorem kept_new (w0 w : World) (L : Loc) (b t : Nat) (ks : List BA) (D : Dk) (P : List Pg) (r : Rt) (kvs : List KV) (H : Kept14 w0 L b t ks D P r kvs w) (hn : ks.length < 256) (x : BA) (hx : x.size ≤ 65536) (hno : x ∉ ks) :
  Calls Tryz.prog 51 #[.pointer (some ⟨t, 0, none⟩), .pointer (some ⟨b, 0, none⟩), .string x] w (PutNew w0 L b t ks D P r x w) := by
 have hl := flt_len (sumOf x) ks
 have hk := H.len
 refine (int_Put2 (flt (sumOf x) ks).length w t b L 0 D P r H.made.pg.st H.made.tr H.made.pg.live kvs H.made.tc om_ x hx (fun n => (flt (sumOf x) ks)[n]?) (H.kin _ (sumOf_u32 x)) om_ (fun k hk => ⟨_, List.getElem?_eq_getElem hk, fun e => hno (by
  have := (flt_mem (List.getElem_mem hk)).1
  rw [e] at this
  exact this)⟩) (.inl (List.getElem?_eq_none_iff.2 (Nat.le_refl _)))).mono ?_
 rintro e w' (⟨h, -, -⟩ | ⟨-, rfl, D', P', r', DM, hgr, hvl⟩ | ⟨-, rfl, hroom, D', FM⟩)
 ·simp at h
 ·obtain ⟨X, hX⟩ := DM.app.pre
  refine ⟨DM.keep, .inl ⟨rfl, D', P', r', _, ⟨H.made.done DM, ?_, ?_⟩, DM.app.wr.room, hgr, DM.most⟩⟩
  ·rw [hX] at hvl ⊢
   exact H.kin.put hn hvl
  ·rw [List.length_append]
   exact Nat.le_trans (ed_len _ _ _) (by simpa using hk)
 ·exact ⟨FM.keep, .inr ⟨rfl, hroom, D', kvs, ⟨⟨⟨FM.ts.st, FM.live⟩, FM.ts.tr, H.made.tc, ((Keep.below (F := fun _ => False) H.made.bel).andThen FM.keep (fun i hi hf => by have := H.made.hi i hf; omega)).toBelow, H.made.hi⟩, H.kin, H.len⟩, FM.room⟩⟩
theorem kept_made {w0 w : World} {L : Loc} {b t : Nat} {D : Dk} (M : Made w0 w L b t D [] ⟨-1, 0, 0⟩ []) : Kept14 w0 L b t [] D [] ⟨-1, 0, 0⟩ [] w := ⟨M, KsIn.nil [], Nat.le_refl _⟩
end Go.Proofs.YtendgmblgdkiaaaGreat

namespace Go.Proofs.YtendgmblgdkiaaaGreat
open Go.RowKit
open Go.Proofs.YtendgmblgdkiaaaGreatW
open PrintWords PrintLast PrintMore
set_option linter.unusedVariables false
set_option linter.unusedSimpArgs false

theorem conv1b (W : World) (b : Nat) (a : Int) (h : W.heap[b]? = some (.cells #[.int .u8 a] 5 (0, 0))) : (convert 55 9 (.slice (some ⟨b, 0, none⟩) 1 1)).run Tryz.prog W = .ok (.string (strOfNums [a])) W := by
 refine run_convert_bytes_arg (P := Tryz.prog) W 55 5 Tryz.underlying55 Tryz.underlying5 b 0 1 1 [a] rfl ?_ 9 Tryz.underlying9
 intro i hi
 obtain rfl : i = 0 := by omega
 rw [cell_of_heap h]
 rfl
theorem Kept14.set {w0 w : World} {L : Loc} {b t : Nat} {ks : List BA} {D : Dk} {P : List Pg} {r : Rt} {kvs : List KV} (H : Kept14 w0 L b t ks D P r kvs w) {g : Nat} (hg : ∀ k, ((L.foot k ∨ k = b) ∨ k = t) → k < g) (hlo : w0.heap.size ≤ g) (j : Nat) (v : Value) : Kept14 w0 L b t ks D P r kvs (w.setCell ⟨g, j, none⟩ v) := by
 have hk : Keep (fun k => k = g) w (w.setCell ⟨g, j, none⟩ v) := (Keep.refl (fun k => k = g) w).setCell (p := ⟨g, j, none⟩) (.inl rfl) v
 have LO := lo_of H.made.pg.st H.made.tr
 exact ⟨⟨⟨⟨H.made.pg.st.d.keep hk (fun i hi e => by have := hg i (.inl (.inl hi)); omega), H.made.pg.st.p.keep hk (fun e => by have := hg b (.inl (.inr rfl)); omega), H.made.pg.st.hh, H.made.pg.st.room, H.made.pg.st.holds⟩, H.made.pg.live⟩, H.made.tr.keep hk (fun e => by have := hg t (.inr rfl); omega), H.made.tc, below_set H.made.bel hlo, H.made.hi⟩, H.kin, H.len⟩
/-- What Put says, and leaves. -/
def PutRes (w0 : World) (L : Loc) (b t : Nat) (ks : List BA) (D : Dk) (P : List Pg) (r : Rt) (x : BA) (rs rn : Int) (ra : Bool) (re : Int) (w' : World) : Prop :=
 (ra = true ∧ re = 0 ∧ ∃ D' P' r' kvs', Kept14 w0 L b t (ks ++ [x]) D' P' r' kvs' w' ∧ D'.room = D.room ∧ P.length < P'.length) ∨
 (rs = 0 ∧ rn = 0 ∧ ra = false ∧ re = 5 ∧ ∃ D' kvs', Kept14 w0 L b t ks D' P r kvs' w' ∧ D'.room = D.room)
theorem PutRes.below {w0 w w' : World} {L : Loc} {b t : Nat} {ks : List BA} {D : Dk} {P : List Pg} {r : Rt} {x : BA} {rs rn : Int} {ra : Bool} {re : Int} (H : PutRes w0 L b t ks D P r x rs rn ra re w) (hb : Below w.heap.size w w') : PutRes w0 L b t ks D P r x rs rn ra re w' := by
 rcases H with ⟨h1, h2, D', P', r', kv, h3, h4⟩ | ⟨h1, h2, h3, h4, D', kv, h5, h6⟩
 ·exact .inl ⟨h1, h2, D', P', r', kv, h3.below hb, h4⟩
 ·exact .inr ⟨h1, h2, h3, h4, D', kv, h5.below hb, h6⟩
theorem PutRes.set {w0 w : World} {L : Loc} {b t : Nat} {ks : List BA} {D : Dk} {P : List Pg} {r : Rt} {x : BA} {rs rn : Int} {ra : Bool} {re : Int} (H : PutRes w0 L b t ks D P r x rs rn ra re w) {g : Nat} (hg : ∀ k, ((L.foot k ∨ k = b) ∨ k = t) → k < g) (hlo : w0.heap.size ≤ g) (j : Nat) (v : Value) : PutRes w0 L b t ks D P r x rs rn ra re (w.setCell ⟨g, j, none⟩ v) := by
 rcases H with ⟨h1, h2, D', P', r', kv, h3, h4⟩ | ⟨h1, h2, h3, h4, D', kv, h5, h6⟩
 ·exact .inl ⟨h1, h2, D', P', r', kv, h3.set hg hlo j v, h4⟩
 ·exact .inr ⟨h1, h2, h3, h4, D', kv, h5.set hg hlo j v, h6⟩
theorem put_open {w0 w w' : World} {L : Loc} {b t : Nat} {ks : List BA} {D : Dk} {P : List Pg} {r : Rt} {x : BA} {e : Ending} (H : PutNew w0 L b t ks D P r x w e w') : ∃ rs rn ra re, e = .returned (.tuple #[.agg #[.int .u32 rs, .int .i64 rn], .bool ra, .int .i64 re]) ∧ Keep (fun k => (L.foot k ∨ k = b) ∨ k = t) w w' ∧ PutRes w0 L b t ks D P r x rs rn ra re w' := by
 obtain ⟨hk, ⟨he, D', P', r', kv, h1, h2, h3, -⟩ | ⟨he, -, D', kv, h1, h2⟩⟩ := H
 ·exact ⟨_, _, true, 0, he, hk, .inl ⟨rfl, rfl, D', P', r', kv, h1, h2, h3⟩⟩
 ·exact ⟨0, 0, false, 5, he, hk, .inr ⟨rfl, rfl, rfl, rfl, D', kv, h1, h2⟩⟩
theorem clamp1 (x : Int) (m : Nat) (hm : 1 ≤ m) : ∃ p : Nat, 1 ≤ p ∧ p ≤ m ∧ mx 1 (mn x m) = p := by
 refine ⟨(mx 1 (mn x m)).toNat, ?_, ?_, ?_⟩ <;> unfold mx mn <;> split <;> split <;> omega
/-- Texts that end in letters that rise. -/
def Ends (ks : List BA) : Prop := ∀ x ∈ ks, ∃ (y : BA) (j : Nat), j < ks.length ∧ x = y ++ strOfNums [97 + (j : Int)]
theorem ends_no {ks : List BA} (H : Ends ks) (hl : ks.length ≤ 20) (y : BA) : y ++ strOfNums [97 + (ks.length : Int)] ∉ ks := by
 intro h
 obtain ⟨z, j, hj, he⟩ := H _ h
 have hl := congrArg (fun b : BA => b.data.toList.getLast?) he
 simp only [bytes_app, strOfNums_data, List.map_cons, List.map_nil, List.getLast?_append, List.getLast?_singleton, Option.some_or, Option.some.injEq] at hl
 have h4 := congrArg UInt8.toNat hl
 simp only [UInt8.toNat_ofNat'] at h4
 omega
theorem ends_add {ks : List BA} (H : Ends ks) (y : BA) : Ends (ks ++ [y ++ strOfNums [97 + (ks.length : Int)]]) := by
 intro x hx
 rw [List.length_append, List.length_singleton]
 rcases List.mem_append.1 hx with h | h
 ·obtain ⟨z, j, hj, he⟩ := H x h
  exact ⟨z, j, by omega, he⟩
 ·rw [List.mem_singleton] at h
  exact ⟨y, ks.length, by omega, h⟩
def full_put.T : Bool × List (List Nat × List Nat) := (true, [([], []), ([], []), ([], []), ([2], [2]), ([3], [3]), ([4], [4]), ([], []), ([5, 6], [5, 6]), ([], []), ([8], [8]), ([9], [9]), ([10], [10]), ([11], [11]), ([7, 12], [7, 12]), ([0, 1, 13, 7], [0, 1, 13]), ([14], [14]), ([15], [15]), ([15], [15]), ([15], [15]), ([], []), ([19, 16, 14, 0, 1, 2, 3, 4, 5, 6, 7, 8, 9, 10, 11, 12, 13, 14, 15, 16, 19], [16, 19]), ([17, 20, 0, 1, 2, 3, 4, 5, 6, 7, 8, 9, 10, 11, 12, 13, 14, 15, 16, 17, 19, 20], [17]), ([18, 21, 0, 1, 2, 3, 4, 5, 6, 7, 8, 9, 10, 11, 12, 13, 14, 15, 16, 17, 18, 19, 20, 21], [18])])
def full_put.B : List Nat := [0, 0, 0, 4, 12, 28, 0, 124, 0, 256, 768, 1792, 3840, 8188, 16383, 32767, 65535, 65535, 65535, 0, 655359, 1835007, 4194303]
theorem full_put.tab : rtab .any (opsOf Tryz.f11 11) = full_put.T := by kernel_rfl
theorem full_put.bits : waitsOk full_put.T.2 full_put.B = true := by kernel_rfl
def full_end.T : Bool × List (List Nat × List Nat) := (true, [([], []), ([], []), ([0, 1], [0, 1]), ([2], [2]), ([3], [3]), ([4, 3], [3, 4]), ([3, 5], [3, 5]), ([6, 3], [6]), ([7], [7]), ([8, 7, 7], [7, 8]), ([7], [7]), ([9, 10, 7], [7, 9, 10]), ([7, 11], [7, 11]), ([12, 9], [12]), ([13], [13]), ([14, 13, 13], [13, 14]), ([13], [13]), ([15, 16, 13], [13, 15, 16]), ([13, 17], [13, 17]), ([18, 15, 0, 1, 2, 3, 4, 5, 6, 7, 8, 9, 10, 11, 12, 13, 14, 15, 16, 17, 18], [18])])
def full_end.B : List Nat := [0, 0, 3, 7, 15, 31, 63, 127, 255, 511, 255, 2047, 4095, 8191, 16383, 32767, 16383, 131071, 262143, 524287]
theorem full_end.tab : rtab .any (opsOf Tryz.f11 13) = full_end.T := by kernel_rfl
theorem full_end.bits : waitsOk full_end.T.2 full_end.B = true := by kernel_rfl
attribute [local go_sem] max2_mx min2_mn max_two min_two
set_option maxHeartbeats 4000000 in
set_option maxRecDepth 100000 in
theorem full_walk (w : World) (room n0 : Int) :
  Calls Tryz.prog 11 #[.int .i64 room, .int .i64 n0] w fun e w' => e = .returned (.bool true) ∧ Below w.heap.size w w' := by
 go_enter Tryz.func11, Tryz.ntmps11
 go_wp2_with fail
 refine (awake14 w).mono ?_
 rintro e w1 ⟨rfl, hb⟩
 have B1 := hi_ hb
 clear hb
 obtain ⟨p, hp1, hp2, hpe⟩ := clamp1 room 12 om_
 obtain ⟨n, hn, hne⟩ := clamp n0 900
 rw [show ((12 : Nat) : Int) = 12 from rfl] at hpe
 rw [show ((900 : Nat) : Int) = 900 from rfl] at hne
 have HP := hi_ (And.intro hp1 hp2)
 have HNB := hi_ hn
 clear hp1 hp2 hn
 go_wp2_with fail
 refine (law_made w1 p (by have := HP.out; omega)).mono ?_
 rintro e w2 ⟨L, pb, t, D, rfl, M, hr⟩
 have K2 := hi_ (kept_made M)
 have R2 := hi_ hr
 clear M hr hpe hne
 go_wp2_with fail
 go_loopw [28] (fun c wr => ∃ (k : Nat) (ks : List BA) (D' : Dk) (P : List Pg) (r : Rt) (kvs : List KV), c = .int .i64 k ∧ k ≤ P.length ∧ ks.length = k ∧ Hid (Ends ks) ∧ D'.room = p ∧ Hid (Kept14 w1 L pb t ks D' P r kvs wr)) (fun c _ => 20 - (intOf c).toNat)
 case atStart => exact ⟨0, [], D, [], _, [], rfl, Nat.le_refl _, rfl, hi_ (fun x hx => by cases hx), R2.out, K2⟩
 case round =>
  clear K2
  obtain ⟨k, ks, D', P, r, kvs, rfl, hkP, hkl, HE, hDr, HK⟩ := hrel
  have hk12 : k ≤ 12 := by have := HK.out.made.pg.st.room; have := HP.out; omega
  have HDR := hi_ hDr
  have HKP := hi_ (show k ≤ P.length ∧ ks.length = k ∧ k ≤ 12 from ⟨hkP, hkl, hk12⟩)
  have hlt : (k : Int) < 20 := by omega
  clear hkP hkl hDr
  go_wp2_with fail
  refine (pages_Next wr pb L 0 P.length HK.out.made.pg.st.p).mono ?_
  rintro e w3 ⟨rfl, rfl⟩
  go_wp2_with fail
  refine (tree_Root wr t pb r HK.out.made.tr).mono ?_
  rintro e w4 ⟨rfl, hb⟩
  have K4 := hi_ (HK.out.below hb)
  clear hb HK
  unfold rootV
  have CLG := hi_ (fun W => law_Long_n (strOfNums [(k : Int)]) n (by have := HNB.out; omega) (by rw [strOfNums_size]; simp) W)
  have hw1 : IntKind.u8.wrap (k : Int) = (k : Int) := by rw [IntKind.wrap_u8]; omega
  have hw2 : (k : Int) % 256 = (k : Int) := by omega
  have hw3 : IntKind.i64.wrap (97 + (k : Int)) = 97 + (k : Int) := by rw [IntKind.wrap_i64]; omega
  have hw4 : IntKind.u8.wrap (97 + (k : Int)) = 97 + (k : Int) := by rw [IntKind.wrap_u8]; omega
  have hw5 : (97 + (k : Int)) % 256 = 97 + (k : Int) := by omega
  go_upto_region 11 with fail
  have hs9 : (w4.alloc (.cells #[.int .i64 r.page, .int .i64 r.count, .int .i64 r.height] 31 (0, 0))).heap.size = w4.heap.size + 1 := World.size_alloc _ _
  have X9 := am_ (blk_new w4 (.cells #[.int .i64 r.page, .int .i64 r.count, .int .i64 r.height] 31 (0, 0)))
  have K0 := am_ (K4.out.below (below_alloc (Below.refl w4.heap.size w4) (.cells #[.int .i64 r.page, .int .i64 r.count, .int .i64 r.height] 31 (0, 0))))
  obtain ⟨B, hB⟩ : ∃ B, B = w4.heap.size + 1 := ⟨_, rfl⟩
  rw [← hB] at hs9
  have HS := am_ (Nat.le_of_eq hs9.symm)
  obtain ⟨g9, hg9⟩ : ∃ g9, g9 = w4.heap.size := ⟨_, rfl⟩
  have HG9 := am_ (show g9 < B ∧ ∀ i, ((L.foot i ∨ i = pb) ∨ i = t) → i ≠ g9 from ⟨by omega, fun i hi => by have := K4.out.lo i hi; omega⟩)
  have HF := am_ (show ∀ i, ((L.foot i ∨ i = pb) ∨ i = t) → i < B from fun i hi => by have := K4.out.lo i hi; omega)
  have HB1 := am_ (show w1.heap.size ≤ B by have := K4.out.made.bel.size; omega)
  have HKL := am_ (show ks.length < 256 by have := HKP.out; omega)
  have HXS := am_ (show ∀ y : BA, y.size = n → (y ++ strOfNums [97 + (k : Int)]).size ≤ 65536 ∧ y ++ strOfNums [97 + (k : Int)] ∉ ks from fun y hy => ⟨by rw [ByteArray.size_append, strOfNums_size, hy]; have := HNB.out; simp; omega, by
   have := ends_no HE.out (by have := HKP.out; omega) y
   rwa [HKP.out.2.1] at this⟩)
  rw [← hg9] at X9 ⊢
  generalize w4.alloc (.cells #[.int .i64 r.page, .int .i64 r.count, .int .i64 r.height] 31 (0, 0)) = wc at *
  clear hs9 hB hg9 K4
  -- the region
  refine start_ (n := 23) (S := fun w' => True) (ds := []) (bz 23 0) kr_ rfl rfl trivial (fun hHeld => ?_); refine with_tabW full_put.tab full_put.bits (fun HT_ HW_ => ?_)
  have n0 := am_ (show B ≤ wc.drew.heap.size from HS.out); have n1 := am_ (blk_drew X9.out); have n2 := am_ (K0.out.below (bel_drew (Below.refl _ _)))
  clear HS X9 K0
  have HS := n0; have X9 := n1; have K0 := n2
  clear n0 n1 n2
  generalize wc.drew = wc at *
  refine pure_ (i := 0) (N := some 36) (v := ?_) (a' := ?_) (bz 23 1) rfl rfl (any_of HT_.out kr_) (fun _ _ _ h => h) (Or.inl ⟨by rfl, ?_⟩) ?_ ?_
  rotate_left
  ·intro w'
   go_simp
   with_reducible rfl
  rotate_left
  ·simp only [Act.put, List.setIfInBounds_toArray, List.set_cons_zero, List.set_cons_succ, i64_w, i32_w]
   rfl
  refine pure_ (i := 1) (N := some 37) (v := ?_) (a' := ?_) (bz 23 3) rfl rfl (any_of HT_.out kr_) (fun _ _ _ h => h) (Or.inl ⟨by rfl, ?_⟩) ?_ ?_
  rotate_left
  ·intro w'
   go_simp
   with_reducible rfl
  rotate_left
  ·simp only [Act.put, List.setIfInBounds_toArray, List.set_cons_zero, List.set_cons_succ, i64_w, i32_w]
   rfl
  refine pure_ (i := 2) (N := some 38) (v := ?_) (a' := ?_) (bz 23 7) rfl rfl (any_of HT_.out kr_) (fun _ _ _ h => h) (Or.inl ⟨by rfl, ?_⟩) ?_ ?_
  rotate_left
  ·intro w'
   go_simp
   with_reducible rfl
  rotate_left
  ·simp only [Act.put, List.setIfInBounds_toArray, List.set_cons_zero, List.set_cons_succ, i64_w, i32_w]
   rfl
  refine pure_ (i := 3) (N := some 39) (v := ?_) (a' := ?_) (bz 23 15) rfl rfl (any_of HT_.out kr_) (fun _ _ _ h => h) (Or.inl ⟨by rfl, ?_⟩) ?_ ?_
  rotate_left
  ·intro w'
   go_simp
   with_reducible rfl
  rotate_left
  ·simp only [Act.put, List.setIfInBounds_toArray, List.set_cons_zero, List.set_cons_succ, i64_w, i32_w]
   rfl
  refine pure_ (i := 6) (N := some 42) (v := ?_) (a' := ?_) (bz 23 79) rfl rfl (any_of HT_.out kr_) (fun _ _ _ h => h) (Or.inl ⟨by rfl, ?_⟩) ?_ ?_
  rotate_left
  ·intro w'
   go_simp
   with_reducible rfl
  rotate_left
  ·simp only [Act.put, List.setIfInBounds_toArray, List.set_cons_zero, List.set_cons_succ, i64_w, i32_w]
   rfl
  refine pure_ (i := 8) (N := some 44) (v := ?_) (a' := ?_) (bz 23 335) rfl rfl (any_of HT_.out kr_) (fun _ _ _ h => h) (Or.inl ⟨by rfl, ?_⟩) ?_ ?_
  rotate_left
  ·intro w'
   go_simp
   with_reducible rfl
  rotate_left
  ·simp only [Act.put, List.setIfInBounds_toArray, List.set_cons_zero, List.set_cons_succ, i64_w, i32_w]
   rfl
  refine pure_ (i := 9) (N := some 45) (v := ?_) (a' := ?_) (bz 23 847) rfl rfl (any_of HT_.out kr_) (fun _ _ _ h => h) (Or.inl ⟨by rfl, ?_⟩) ?_ ?_
  rotate_left
  ·intro w'
   go_simp
   with_reducible rfl
  rotate_left
  ·simp only [Act.put, List.setIfInBounds_toArray, List.set_cons_zero, List.set_cons_succ, i64_w, i32_w]
   rfl
  refine pure_ (i := 10) (N := some 46) (v := ?_) (a' := ?_) (bz 23 1871) rfl rfl (any_of HT_.out kr_) (fun _ _ _ h => h) (Or.inl ⟨by rfl, ?_⟩) ?_ ?_
  rotate_left
  ·intro w'
   go_simp
   with_reducible rfl
  rotate_left
  ·simp only [Act.put, List.setIfInBounds_toArray, List.set_cons_zero, List.set_cons_succ, i64_w, i32_w]
   rfl
  refine inv_at [4, 5, 7, 11, 12, 13, 14, 15, 16, 17, 18, 19, 20, 21, 22] (fun a0_ b a w' => ∃ (g4 : Nat) (g11 : Nat) (g19 : Nat) (x7 : BA) (rs : Int) (rn : Int) (ra : Bool) (re : Int) (m4_ : Value) (m7_ : Value) (m11_ : Value) (m13_ : Value) (m14_ : Value) (m15_ : Value) (m16_ : Value) (m17_ : Value) (m18_ : Value) (m19_ : Value) (m21_ : Value) (m22_ : Value), a = putSel a0_ b [(4, 40, m4_), (5, 41, .string (strOfNums [(k : Int)])), (7, 43, m7_), (11, 47, m11_), (12, 48, .string (strOfNums [97 + (k : Int)])), (13, 49, m13_), (14, 50, m14_), (15, 35, m15_), (16, 51, m16_), (17, 52, m17_), (18, 53, m18_), (19, 10, m19_), (21, 11, m21_), (22, 12, m22_)] ∧ (B ≤ w'.heap.size) ∧ (w'.heap[g9]? = some (.cells #[.int .i64 r.page, .int .i64 r.count, .int .i64 r.height] 31 (0, 0))) ∧ (b 14 = false → Kept14 w1 L pb t ks D' P r kvs w') ∧ (b 14 = true → PutRes w1 L pb t ks D' P r (x7 ++ strOfNums [97 + (k : Int)]) rs rn ra re w') ∧ (b 4 = true → b 5 = false → w'.heap[g4]? = some (.cells #[.int .u8 ((k : Int))] 5 (0, 0))) ∧ (b 11 = true → b 12 = false → w'.heap[g11]? = some (.cells #[.int .u8 (97 + (k : Int))] 5 (0, 0))) ∧ (b 7 = true → x7.size = n) ∧ (b 19 = true → B ≤ g19) ∧ (b 19 = true → b 20 = false → w'.heap[g19]? = some (.cells #[.int .u32 0, .int .i64 0] 77 (0, 0))) ∧ (b 20 = true → w'.heap[g19]? = some (.cells #[.int .u32 rs, .int .i64 rn] 77 (0, 0))) ∧ (b 4 = true → (m4_ : Value) = .slice (some ⟨g4, 0, none⟩) 1 1) ∧ (b 7 = true → (m7_ : Value) = .string x7) ∧ (b 11 = true → (m11_ : Value) = .slice (some ⟨g11, 0, none⟩) 1 1) ∧ (b 13 = true → (m13_ : Value) = .string (x7 ++ strOfNums [97 + (k : Int)])) ∧ (b 14 = true → (m14_ : Value) = .tuple #[.agg #[.int .u32 rs, .int .i64 rn], .bool ra, .int .i64 re]) ∧ (b 15 = true → (m15_ : Value) = .tuple #[.agg #[.int .u32 rs, .int .i64 rn], .bool ra, .int .i64 re]) ∧ (b 16 = true → (m16_ : Value) = .agg #[.int .u32 rs, .int .i64 rn]) ∧ (b 17 = true → (m17_ : Value) = .bool ra) ∧ (b 18 = true → (m18_ : Value) = .int .i64 re) ∧ (b 19 = true → (m19_ : Value) = .pointer (some ⟨g19, 0, none⟩)) ∧ (b 21 = true → (m21_ : Value) = .bool ra) ∧ (b 22 = true → (m22_ : Value) = .int .i64 re)) HT_.out HW_.out kr_ kr_ ?_ ?_ ?_
  ·exact ⟨0, 0, 0, ⟨#[]⟩, 0, 0, false, 0, .bool false, .bool false, .bool false, .bool false, .bool false, .bool false, .bool false, .bool false, .bool false, .bool false, .bool false, .bool false, by simp only [putSel, Bool.false_eq_true, if_false], HS.out, X9.out, fun _ => K0.out, fun h_ => absurd h_ (by decide), fun h_ => absurd h_ (by decide), fun h_ => absurd h_ (by decide), fun h_ => absurd h_ (by decide), fun h_ => absurd h_ (by decide), fun h_ => absurd h_ (by decide), fun h_ => absurd h_ (by decide), fun h_ => absurd h_ (by decide), fun h_ => absurd h_ (by decide), fun h_ => absurd h_ (by decide), fun h_ => absurd h_ (by decide), fun h_ => absurd h_ (by decide), fun h_ => absurd h_ (by decide), fun h_ => absurd h_ (by decide), fun h_ => absurd h_ (by decide), fun h_ => absurd h_ (by decide), fun h_ => absurd h_ (by decide), fun h_ => absurd h_ (by decide), fun h_ => absurd h_ (by decide)⟩
  ·skip
   clear HS K0 X9
   refine steps_cons ?_ ?_
   ·rintro b a w' ⟨g4, g11, g19, x7, rs, rn, ra, re, m4_, m7_, m11_, m13_, m14_, m15_, m16_, m17_, m18_, m19_, m21_, m22_, ha, Q_HS, Q_X9, Q_K0, Q_KP, Q_S4, Q_S11, Q_Z7, Q_N19, Q_X19, Q_XS, Q_X4_, Q_X7_, Q_X11_, Q_X13_, Q_X14_, Q_X15_, Q_X16_, Q_X17_, Q_X18_, Q_X19_, Q_X21_, Q_X22_⟩ hb_ hon hoff
    refine ⟨_, rfl, fun K hK => ?_⟩
    have e39 : a.tmps[39]? = some (.int .u8 (k : Int)) := by rw [ha]; exact (putSel_off rfl).trans rfl
    replace ha := am_ ha
    have HS := am_ Q_HS
    have X9 := am_ Q_X9
    have K0 := am_ (Q_K0 (hoff 14 kr_))
    refine value_ (w1 := w'.alloc (.cells #[.int .u8 ((k : Int))] 5 (0, 0))) (v := .slice (some ⟨w'.heap.size, 0, none⟩) 1 1) (by rfl) rfl ?_ ?_
    ·go_simp
     try rfl
    refine hK.out _ _ ⟨w'.heap.size, g11, g19, x7, rs, rn, ra, re, (.slice (some ⟨w'.heap.size, 0, none⟩) 1 1), m7_, m11_, m13_, m14_, m15_, m16_, m17_, m18_, m19_, m21_, m22_, (by rw [ha.out]; exact putSel_upk 0 hb_ rfl rfl rfl), Nat.le_trans HS.out (below_alloc (Below.refl w'.heap.size w') (.cells #[.int .u8 ((k : Int))] 5 (0, 0))).size, blk_below X9.out (below_alloc (Below.refl w'.heap.size w') (.cells #[.int .u8 ((k : Int))] 5 (0, 0))), fun _ => K0.out.below (below_alloc (Below.refl w'.heap.size w') (.cells #[.int .u8 ((k : Int))] 5 (0, 0))), fo_ (hoff 14), fun _ _ => blk_new w' (.cells #[.int .u8 ((k : Int))] 5 (0, 0)), fun h0_ h1_ => blk_below (Q_S11 h0_ h1_) (below_alloc (Below.refl w'.heap.size w') (.cells #[.int .u8 ((k : Int))] 5 (0, 0))), fo_ (hoff 7), Q_N19, fun h0_ h1_ => blk_below (Q_X19 h0_ h1_) (below_alloc (Below.refl w'.heap.size w') (.cells #[.int .u8 ((k : Int))] 5 (0, 0))), fo_ (hoff 20), fun _ => rfl, fo_ (hoff 7), Q_X11_, fo_ (hoff 13), fo_ (hoff 14), fo_ (hoff 15), fo_ (hoff 16), fo_ (hoff 17), fo_ (hoff 18), Q_X19_, fo_ (hoff 21), fo_ (hoff 22)⟩
   refine steps_cons ?_ ?_
   ·rintro b a w' ⟨g4, g11, g19, x7, rs, rn, ra, re, m4_, m7_, m11_, m13_, m14_, m15_, m16_, m17_, m18_, m19_, m21_, m22_, ha, Q_HS, Q_X9, Q_K0, Q_KP, Q_S4, Q_S11, Q_Z7, Q_N19, Q_X19, Q_XS, Q_X4_, Q_X7_, Q_X11_, Q_X13_, Q_X14_, Q_X15_, Q_X16_, Q_X17_, Q_X18_, Q_X19_, Q_X21_, Q_X22_⟩ hb_ hon hoff
    refine ⟨_, rfl, fun K hK => ?_⟩
    have e40 : a.tmps[40]? = some (m4_) := by rw [ha]; exact putSel_on (e := (4, 40, m4_)) 0 rfl rfl (hon 4 kr_) rfl
    rw [Q_X4_ (hon 4 (by kernel_rfl))] at e40
    replace ha := am_ ha
    have HS := am_ Q_HS
    have X9 := am_ Q_X9
    have K0 := am_ (Q_K0 (hoff 14 kr_))
    have S4 := am_ (Q_S4 (hon 4 kr_) hb_)
    have hcv_ := conv1b _ _ _ S4.out
    refine value_ (w1 := w') (v := .string (strOfNums [(k : Int)])) (by rfl) rfl ?_ ?_
    ·go_simp
     (try simp only [i64_w])
     try rfl
    refine hK.out _ _ ⟨g4, g11, g19, x7, rs, rn, ra, re, m4_, m7_, m11_, m13_, m14_, m15_, m16_, m17_, m18_, m19_, m21_, m22_, (by rw [ha.out]; exact putSel_upk 1 hb_ rfl rfl rfl), Q_HS, Q_X9, Q_K0, fo_ (hoff 14), fun _ h1_ => absurd ((up_self b 5).symm.trans h1_) (by decide), Q_S11, fo_ (hoff 7), Q_N19, Q_X19, fo_ (hoff 20), Q_X4_, fo_ (hoff 7), Q_X11_, fo_ (hoff 13), fo_ (hoff 14), fo_ (hoff 15), fo_ (hoff 16), fo_ (hoff 17), fo_ (hoff 18), Q_X19_, fo_ (hoff 21), fo_ (hoff 22)⟩
   refine steps_cons ?_ ?_
   ·rintro b a w' ⟨g4, g11, g19, x7, rs, rn, ra, re, m4_, m7_, m11_, m13_, m14_, m15_, m16_, m17_, m18_, m19_, m21_, m22_, ha, Q_HS, Q_X9, Q_K0, Q_KP, Q_S4, Q_S11, Q_Z7, Q_N19, Q_X19, Q_XS, Q_X4_, Q_X7_, Q_X11_, Q_X13_, Q_X14_, Q_X15_, Q_X16_, Q_X17_, Q_X18_, Q_X19_, Q_X21_, Q_X22_⟩ hb_ hon hoff
    refine ⟨_, rfl, fun K hK => ?_⟩
    have e41 : a.tmps[41]? = some (.string (strOfNums [(k : Int)])) := by rw [ha]; exact putSel_on (e := (5, 41, .string (strOfNums [(k : Int)]))) 1 rfl rfl (hon 5 kr_) rfl
    have e42 : a.tmps[42]? = some (.int .i64 (n : Int)) := by rw [ha]; exact (putSel_off rfl).trans rfl
    replace ha := am_ ha
    have HS := am_ Q_HS
    have X9 := am_ Q_X9
    have K0 := am_ (Q_K0 (hoff 14 kr_))
    refine goes_ Tryz.func49 kr_ rfl #[.string (strOfNums [(k : Int)]), .int .i64 (n : Int)] (by rfl) rfl rfl (by first | (simp only [List.map_toArray, List.map_cons, List.map_nil, Act.eval, Array.getD_eq_getD_getElem?, Option.getD_some, e41, e42]; done) | (simp only [List.map_toArray, List.map_cons, List.map_nil, Act.eval, Array.getD_eq_getD_getElem?, Option.getD_some, e41, e42]; rfl)) ?_
    refine (CLG.out w').mono ?_
    rintro e w2 ⟨y, rfl, hz, hb⟩
    refine ⟨_, rfl, ?_⟩
    refine hK.out _ _ ⟨g4, g11, g19, y, rs, rn, ra, re, m4_, (.string y), m11_, m13_, m14_, m15_, m16_, m17_, m18_, m19_, m21_, m22_, (by rw [ha.out]; exact putSel_upk 2 hb_ rfl rfl rfl), Nat.le_trans HS.out (hb).size, blk_below X9.out (hb), fun _ => K0.out.below (hb), fo_ (hoff 14), fun _ h1_ => absurd ((hon 5 kr_).symm.trans h1_) (by decide), fun h0_ h1_ => blk_below (Q_S11 h0_ h1_) (hb), fun _ => hz, Q_N19, fun h0_ h1_ => blk_below (Q_X19 h0_ h1_) (hb), fo_ (hoff 20), Q_X4_, fun _ => rfl, Q_X11_, fo_ (hoff 13), fo_ (hoff 14), fo_ (hoff 15), fo_ (hoff 16), fo_ (hoff 17), fo_ (hoff 18), Q_X19_, fo_ (hoff 21), fo_ (hoff 22)⟩
   refine steps_cons ?_ ?_
   ·rintro b a w' ⟨g4, g11, g19, x7, rs, rn, ra, re, m4_, m7_, m11_, m13_, m14_, m15_, m16_, m17_, m18_, m19_, m21_, m22_, ha, Q_HS, Q_X9, Q_K0, Q_KP, Q_S4, Q_S11, Q_Z7, Q_N19, Q_X19, Q_XS, Q_X4_, Q_X7_, Q_X11_, Q_X13_, Q_X14_, Q_X15_, Q_X16_, Q_X17_, Q_X18_, Q_X19_, Q_X21_, Q_X22_⟩ hb_ hon hoff
    refine ⟨_, rfl, fun K hK => ?_⟩
    have e46 : a.tmps[46]? = some (.int .u8 (97 + (k : Int))) := by rw [ha]; exact (putSel_off rfl).trans rfl
    replace ha := am_ ha
    have HS := am_ Q_HS
    have X9 := am_ Q_X9
    have K0 := am_ (Q_K0 (hoff 14 kr_))
    refine value_ (w1 := w'.alloc (.cells #[.int .u8 (97 + (k : Int))] 5 (0, 0))) (v := .slice (some ⟨w'.heap.size, 0, none⟩) 1 1) (by rfl) rfl ?_ ?_
    ·go_simp
     try rfl
    refine hK.out _ _ ⟨g4, w'.heap.size, g19, x7, rs, rn, ra, re, m4_, m7_, (.slice (some ⟨w'.heap.size, 0, none⟩) 1 1), m13_, m14_, m15_, m16_, m17_, m18_, m19_, m21_, m22_, (by rw [ha.out]; exact putSel_upk 3 hb_ rfl rfl rfl), Nat.le_trans HS.out (below_alloc (Below.refl w'.heap.size w') (.cells #[.int .u8 (97 + (k : Int))] 5 (0, 0))).size, blk_below X9.out (below_alloc (Below.refl w'.heap.size w') (.cells #[.int .u8 (97 + (k : Int))] 5 (0, 0))), fun _ => K0.out.below (below_alloc (Below.refl w'.heap.size w') (.cells #[.int .u8 (97 + (k : Int))] 5 (0, 0))), fo_ (hoff 14), fun h0_ h1_ => blk_below (Q_S4 h0_ h1_) (below_alloc (Below.refl w'.heap.size w') (.cells #[.int .u8 (97 + (k : Int))] 5 (0, 0))), fun _ _ => blk_new w' (.cells #[.int .u8 (97 + (k : Int))] 5 (0, 0)), Q_Z7, Q_N19, fun h0_ h1_ => blk_below (Q_X19 h0_ h1_) (below_alloc (Below.refl w'.heap.size w') (.cells #[.int .u8 (97 + (k : Int))] 5 (0, 0))), fo_ (hoff 20), Q_X4_, Q_X7_, fun _ => rfl, fo_ (hoff 13), fo_ (hoff 14), fo_ (hoff 15), fo_ (hoff 16), fo_ (hoff 17), fo_ (hoff 18), Q_X19_, fo_ (hoff 21), fo_ (hoff 22)⟩
   refine steps_cons ?_ ?_
   ·rintro b a w' ⟨g4, g11, g19, x7, rs, rn, ra, re, m4_, m7_, m11_, m13_, m14_, m15_, m16_, m17_, m18_, m19_, m21_, m22_, ha, Q_HS, Q_X9, Q_K0, Q_KP, Q_S4, Q_S11, Q_Z7, Q_N19, Q_X19, Q_XS, Q_X4_, Q_X7_, Q_X11_, Q_X13_, Q_X14_, Q_X15_, Q_X16_, Q_X17_, Q_X18_, Q_X19_, Q_X21_, Q_X22_⟩ hb_ hon hoff
    refine ⟨_, rfl, fun K hK => ?_⟩
    have e47 : a.tmps[47]? = some (m11_) := by rw [ha]; exact putSel_on (e := (11, 47, m11_)) 3 rfl rfl (hon 11 kr_) rfl
    rw [Q_X11_ (hon 11 (by kernel_rfl))] at e47
    replace ha := am_ ha
    have HS := am_ Q_HS
    have X9 := am_ Q_X9
    have K0 := am_ (Q_K0 (hoff 14 kr_))
    have S11 := am_ (Q_S11 (hon 11 kr_) hb_)
    have hcv_ := conv1b _ _ _ S11.out
    refine value_ (w1 := w') (v := .string (strOfNums [97 + (k : Int)])) (by rfl) rfl ?_ ?_
    ·go_simp
     (try simp only [i64_w])
     try rfl
    refine hK.out _ _ ⟨g4, g11, g19, x7, rs, rn, ra, re, m4_, m7_, m11_, m13_, m14_, m15_, m16_, m17_, m18_, m19_, m21_, m22_, (by rw [ha.out]; exact putSel_upk 4 hb_ rfl rfl rfl), Q_HS, Q_X9, Q_K0, fo_ (hoff 14), Q_S4, fun _ h1_ => absurd ((up_self b 12).symm.trans h1_) (by decide), Q_Z7, Q_N19, Q_X19, fo_ (hoff 20), Q_X4_, Q_X7_, Q_X11_, fo_ (hoff 13), fo_ (hoff 14), fo_ (hoff 15), fo_ (hoff 16), fo_ (hoff 17), fo_ (hoff 18), Q_X19_, fo_ (hoff 21), fo_ (hoff 22)⟩
   refine steps_cons ?_ ?_
   ·rintro b a w' ⟨g4, g11, g19, x7, rs, rn, ra, re, m4_, m7_, m11_, m13_, m14_, m15_, m16_, m17_, m18_, m19_, m21_, m22_, ha, Q_HS, Q_X9, Q_K0, Q_KP, Q_S4, Q_S11, Q_Z7, Q_N19, Q_X19, Q_XS, Q_X4_, Q_X7_, Q_X11_, Q_X13_, Q_X14_, Q_X15_, Q_X16_, Q_X17_, Q_X18_, Q_X19_, Q_X21_, Q_X22_⟩ hb_ hon hoff
    refine ⟨_, rfl, fun K hK => ?_⟩
    have e43 : a.tmps[43]? = some (m7_) := by rw [ha]; exact putSel_on (e := (7, 43, m7_)) 2 rfl rfl (hon 7 kr_) rfl
    rw [Q_X7_ (hon 7 (by kernel_rfl))] at e43
    have e48 : a.tmps[48]? = some (.string (strOfNums [97 + (k : Int)])) := by rw [ha]; exact putSel_on (e := (12, 48, .string (strOfNums [97 + (k : Int)]))) 4 rfl rfl (hon 12 kr_) rfl
    replace ha := am_ ha
    have HS := am_ Q_HS
    have X9 := am_ Q_X9
    have K0 := am_ (Q_K0 (hoff 14 kr_))
    have Z7 := am_ (Q_Z7 (hon 7 kr_))
    have hz7_ := Z7.out
    have hz1_ : (strOfNums [97 + (k : Int)]).size = 1 := strOfNums_size _
    have hcat_ : ¬ 9223372036854775807 < x7.size + 1 := by have := HNB.out; omega
    have hn_ : n ≤ 9223372036854775806 := by have := HNB.out; omega
    refine value_ (w1 := w') (v := .string (x7 ++ strOfNums [97 + (k : Int)])) (by rfl) rfl ?_ ?_
    ·go_simp
     (try simp only [i64_w])
     try rfl
    refine hK.out _ _ ⟨g4, g11, g19, x7, rs, rn, ra, re, m4_, m7_, m11_, (.string (x7 ++ strOfNums [97 + (k : Int)])), m14_, m15_, m16_, m17_, m18_, m19_, m21_, m22_, (by rw [ha.out]; exact putSel_upk 5 hb_ rfl rfl rfl), Q_HS, Q_X9, Q_K0, fo_ (hoff 14), fun _ h1_ => absurd ((hon 5 kr_).symm.trans h1_) (by decide), fun _ h1_ => absurd ((hon 12 kr_).symm.trans h1_) (by decide), Q_Z7, Q_N19, Q_X19, fo_ (hoff 20), Q_X4_, Q_X7_, Q_X11_, fun _ => rfl, fo_ (hoff 14), fo_ (hoff 15), fo_ (hoff 16), fo_ (hoff 17), fo_ (hoff 18), Q_X19_, fo_ (hoff 21), fo_ (hoff 22)⟩
   refine steps_cons ?_ ?_
   ·rintro b a w' ⟨g4, g11, g19, x7, rs, rn, ra, re, m4_, m7_, m11_, m13_, m14_, m15_, m16_, m17_, m18_, m19_, m21_, m22_, ha, Q_HS, Q_X9, Q_K0, Q_KP, Q_S4, Q_S11, Q_Z7, Q_N19, Q_X19, Q_XS, Q_X4_, Q_X7_, Q_X11_, Q_X13_, Q_X14_, Q_X15_, Q_X16_, Q_X17_, Q_X18_, Q_X19_, Q_X21_, Q_X22_⟩ hb_ hon hoff
    refine ⟨_, rfl, fun K hK => ?_⟩
    have e36 : a.tmps[36]? = some (.pointer (some ⟨t, 0, none⟩)) := by rw [ha]; exact (putSel_off rfl).trans rfl
    have e37 : a.tmps[37]? = some (.pointer (some ⟨pb, 0, none⟩)) := by rw [ha]; exact (putSel_off rfl).trans rfl
    have e49 : a.tmps[49]? = some (m13_) := by rw [ha]; exact putSel_on (e := (13, 49, m13_)) 5 rfl rfl (hon 13 kr_) rfl
    rw [Q_X13_ (hon 13 (by kernel_rfl))] at e49
    replace ha := am_ ha
    have HS := am_ Q_HS
    have X9 := am_ Q_X9
    have K0 := am_ (Q_K0 hb_)
    have Z7 := am_ (Q_Z7 (hon 7 kr_))
    have hz7_ := Z7.out
    refine goes_ Tryz.func51 kr_ rfl #[.pointer (some ⟨t, 0, none⟩), .pointer (some ⟨pb, 0, none⟩), .string (x7 ++ strOfNums [97 + (k : Int)])] (by rfl) rfl rfl (by first | (simp only [List.map_toArray, List.map_cons, List.map_nil, Act.eval, Array.getD_eq_getD_getElem?, Option.getD_some, e36, e37, e49]; done) | (simp only [List.map_toArray, List.map_cons, List.map_nil, Act.eval, Array.getD_eq_getD_getElem?, Option.getD_some, e36, e37, e49]; rfl)) ?_
    refine (kept_new w1 w' L pb t ks D' P r kvs K0.out HKL.out (x7 ++ strOfNums [97 + (k : Int)]) (HXS.out x7 hz7_).1 (HXS.out x7 hz7_).2).mono ?_
    rintro e w2 hp
    obtain ⟨rs', rn', ra', re', rfl, hk, hres⟩ := put_open hp
    refine ⟨_, rfl, ?_⟩
    refine hK.out _ _ ⟨g4, g11, g19, x7, rs', rn', ra', re', m4_, m7_, m11_, m13_, (.tuple #[.agg #[.int .u32 rs', .int .i64 rn'], .bool ra', .int .i64 re']), m15_, m16_, m17_, m18_, m19_, m21_, m22_, (by rw [ha.out]; exact putSel_upk 6 hb_ rfl rfl rfl), Nat.le_trans HS.out hk.size, hk.heap X9.out (fun hf => by have := HF.out _ hf; have := HG9.out.2 _ hf; omega), fun h0_ => absurd ((up_self b 14).symm.trans h0_) (by decide), fun _ => hres, fun _ h1_ => absurd ((hon 5 kr_).symm.trans h1_) (by decide), fun _ h1_ => absurd ((hon 12 kr_).symm.trans h1_) (by decide), Q_Z7, Q_N19, fun h0_ h1_ => hk.heap (Q_X19 h0_ h1_) (fun hf => by have := HF.out _ hf; have := Q_N19 h0_; omega), fo_ (hoff 20), Q_X4_, Q_X7_, Q_X11_, Q_X13_, fun _ => rfl, fo_ (hoff 15), fo_ (hoff 16), fo_ (hoff 17), fo_ (hoff 18), Q_X19_, fo_ (hoff 21), fo_ (hoff 22)⟩
   refine steps_cons ?_ ?_
   ·rintro b a w' ⟨g4, g11, g19, x7, rs, rn, ra, re, m4_, m7_, m11_, m13_, m14_, m15_, m16_, m17_, m18_, m19_, m21_, m22_, ha, Q_HS, Q_X9, Q_K0, Q_KP, Q_S4, Q_S11, Q_Z7, Q_N19, Q_X19, Q_XS, Q_X4_, Q_X7_, Q_X11_, Q_X13_, Q_X14_, Q_X15_, Q_X16_, Q_X17_, Q_X18_, Q_X19_, Q_X21_, Q_X22_⟩ hb_ hon hoff
    refine ⟨_, rfl, fun K hK => ?_⟩
    have e50 : a.tmps[50]? = some (m14_) := by rw [ha]; exact putSel_on (e := (14, 50, m14_)) 6 rfl rfl (hon 14 kr_) rfl
    rw [Q_X14_ (hon 14 (by kernel_rfl))] at e50
    replace ha := am_ ha
    have HS := am_ Q_HS
    have X9 := am_ Q_X9
    have KP := am_ (Q_KP (hon 14 kr_))
    have Z7 := am_ (Q_Z7 (hon 7 kr_))
    refine value_ (w1 := w') (v := .tuple #[.agg #[.int .u32 rs, .int .i64 rn], .bool ra, .int .i64 re]) (by rfl) rfl ?_ ?_
    ·go_simp
     (try simp only [i64_w])
     try rfl
    refine hK.out _ _ ⟨g4, g11, g19, x7, rs, rn, ra, re, m4_, m7_, m11_, m13_, m14_, (.tuple #[.agg #[.int .u32 rs, .int .i64 rn], .bool ra, .int .i64 re]), m16_, m17_, m18_, m19_, m21_, m22_, (by rw [ha.out]; exact putSel_upk 7 hb_ rfl rfl rfl), Q_HS, Q_X9, fo_ (hon 14), Q_KP, fun _ h1_ => absurd ((hon 5 kr_).symm.trans h1_) (by decide), fun _ h1_ => absurd ((hon 12 kr_).symm.trans h1_) (by decide), Q_Z7, Q_N19, Q_X19, fo_ (hoff 20), Q_X4_, Q_X7_, Q_X11_, Q_X13_, Q_X14_, fun _ => rfl, fo_ (hoff 16), fo_ (hoff 17), fo_ (hoff 18), Q_X19_, fo_ (hoff 21), fo_ (hoff 22)⟩
   refine steps_cons ?_ ?_
   ·rintro b a w' ⟨g4, g11, g19, x7, rs, rn, ra, re, m4_, m7_, m11_, m13_, m14_, m15_, m16_, m17_, m18_, m19_, m21_, m22_, ha, Q_HS, Q_X9, Q_K0, Q_KP, Q_S4, Q_S11, Q_Z7, Q_N19, Q_X19, Q_XS, Q_X4_, Q_X7_, Q_X11_, Q_X13_, Q_X14_, Q_X15_, Q_X16_, Q_X17_, Q_X18_, Q_X19_, Q_X21_, Q_X22_⟩ hb_ hon hoff
    refine ⟨_, rfl, fun K hK => ?_⟩
    have e35 : a.tmps[35]? = some (m15_) := by rw [ha]; exact putSel_on (e := (15, 35, m15_)) 7 rfl rfl (hon 15 kr_) rfl
    rw [Q_X15_ (hon 15 (by kernel_rfl))] at e35
    replace ha := am_ ha
    have HS := am_ Q_HS
    have X9 := am_ Q_X9
    have KP := am_ (Q_KP (hon 14 kr_))
    have Z7 := am_ (Q_Z7 (hon 7 kr_))
    refine value_ (w1 := w') (v := .agg #[.int .u32 rs, .int .i64 rn]) (by rfl) rfl ?_ ?_
    ·go_simp
     (try simp only [i64_w])
     try rfl
    refine hK.out _ _ ⟨g4, g11, g19, x7, rs, rn, ra, re, m4_, m7_, m11_, m13_, m14_, m15_, (.agg #[.int .u32 rs, .int .i64 rn]), m17_, m18_, m19_, m21_, m22_, (by rw [ha.out]; exact putSel_upk 8 hb_ rfl rfl rfl), Q_HS, Q_X9, fo_ (hon 14), Q_KP, fun _ h1_ => absurd ((hon 5 kr_).symm.trans h1_) (by decide), fun _ h1_ => absurd ((hon 12 kr_).symm.trans h1_) (by decide), Q_Z7, Q_N19, Q_X19, fo_ (hoff 20), Q_X4_, Q_X7_, Q_X11_, Q_X13_, Q_X14_, Q_X15_, fun _ => rfl, Q_X17_, Q_X18_, Q_X19_, fo_ (hoff 21), fo_ (hoff 22)⟩
   refine steps_cons ?_ ?_
   ·rintro b a w' ⟨g4, g11, g19, x7, rs, rn, ra, re, m4_, m7_, m11_, m13_, m14_, m15_, m16_, m17_, m18_, m19_, m21_, m22_, ha, Q_HS, Q_X9, Q_K0, Q_KP, Q_S4, Q_S11, Q_Z7, Q_N19, Q_X19, Q_XS, Q_X4_, Q_X7_, Q_X11_, Q_X13_, Q_X14_, Q_X15_, Q_X16_, Q_X17_, Q_X18_, Q_X19_, Q_X21_, Q_X22_⟩ hb_ hon hoff
    refine ⟨_, rfl, fun K hK => ?_⟩
    have e35 : a.tmps[35]? = some (m15_) := by rw [ha]; exact putSel_on (e := (15, 35, m15_)) 7 rfl rfl (hon 15 kr_) rfl
    rw [Q_X15_ (hon 15 (by kernel_rfl))] at e35
    replace ha := am_ ha
    have HS := am_ Q_HS
    have X9 := am_ Q_X9
    have KP := am_ (Q_KP (hon 14 kr_))
    have Z7 := am_ (Q_Z7 (hon 7 kr_))
    refine value_ (w1 := w') (v := .bool ra) (by rfl) rfl ?_ ?_
    ·go_simp
     (try simp only [i64_w])
     try rfl
    refine hK.out _ _ ⟨g4, g11, g19, x7, rs, rn, ra, re, m4_, m7_, m11_, m13_, m14_, m15_, m16_, (.bool ra), m18_, m19_, m21_, m22_, (by rw [ha.out]; exact putSel_upk 9 hb_ rfl rfl rfl), Q_HS, Q_X9, fo_ (hon 14), Q_KP, fun _ h1_ => absurd ((hon 5 kr_).symm.trans h1_) (by decide), fun _ h1_ => absurd ((hon 12 kr_).symm.trans h1_) (by decide), Q_Z7, Q_N19, Q_X19, Q_XS, Q_X4_, Q_X7_, Q_X11_, Q_X13_, Q_X14_, Q_X15_, Q_X16_, fun _ => rfl, Q_X18_, Q_X19_, fo_ (hoff 21), fo_ (hoff 22)⟩
   refine steps_cons ?_ ?_
   ·rintro b a w' ⟨g4, g11, g19, x7, rs, rn, ra, re, m4_, m7_, m11_, m13_, m14_, m15_, m16_, m17_, m18_, m19_, m21_, m22_, ha, Q_HS, Q_X9, Q_K0, Q_KP, Q_S4, Q_S11, Q_Z7, Q_N19, Q_X19, Q_XS, Q_X4_, Q_X7_, Q_X11_, Q_X13_, Q_X14_, Q_X15_, Q_X16_, Q_X17_, Q_X18_, Q_X19_, Q_X21_, Q_X22_⟩ hb_ hon hoff
    refine ⟨_, rfl, fun K hK => ?_⟩
    have e35 : a.tmps[35]? = some (m15_) := by rw [ha]; exact putSel_on (e := (15, 35, m15_)) 7 rfl rfl (hon 15 kr_) rfl
    rw [Q_X15_ (hon 15 (by kernel_rfl))] at e35
    replace ha := am_ ha
    have HS := am_ Q_HS
    have X9 := am_ Q_X9
    have KP := am_ (Q_KP (hon 14 kr_))
    have Z7 := am_ (Q_Z7 (hon 7 kr_))
    refine value_ (w1 := w') (v := .int .i64 re) (by rfl) rfl ?_ ?_
    ·go_simp
     (try simp only [i64_w])
     try rfl
    refine hK.out _ _ ⟨g4, g11, g19, x7, rs, rn, ra, re, m4_, m7_, m11_, m13_, m14_, m15_, m16_, m17_, (.int .i64 re), m19_, m21_, m22_, (by rw [ha.out]; exact putSel_upk 10 hb_ rfl rfl rfl), Q_HS, Q_X9, fo_ (hon 14), Q_KP, fun _ h1_ => absurd ((hon 5 kr_).symm.trans h1_) (by decide), fun _ h1_ => absurd ((hon 12 kr_).symm.trans h1_) (by decide), Q_Z7, Q_N19, Q_X19, Q_XS, Q_X4_, Q_X7_, Q_X11_, Q_X13_, Q_X14_, Q_X15_, Q_X16_, Q_X17_, fun _ => rfl, Q_X19_, Q_X21_, fo_ (hoff 22)⟩
   refine steps_cons ?_ ?_
   ·rintro b a w' ⟨g4, g11, g19, x7, rs, rn, ra, re, m4_, m7_, m11_, m13_, m14_, m15_, m16_, m17_, m18_, m19_, m21_, m22_, ha, Q_HS, Q_X9, Q_K0, Q_KP, Q_S4, Q_S11, Q_Z7, Q_N19, Q_X19, Q_XS, Q_X4_, Q_X7_, Q_X11_, Q_X13_, Q_X14_, Q_X15_, Q_X16_, Q_X17_, Q_X18_, Q_X19_, Q_X21_, Q_X22_⟩ hb_ hon hoff
    refine ⟨_, rfl, fun K hK => ?_⟩
    replace ha := am_ ha
    have HS := am_ Q_HS
    have X9 := am_ Q_X9
    refine value_ (w1 := w'.alloc (.cells #[.int .u32 0, .int .i64 0] 77 (0, 0))) (v := .pointer (some ⟨w'.heap.size, 0, none⟩)) (by rfl) rfl ?_ ?_
    ·go_simp
     try rfl
    refine hK.out _ _ ⟨g4, g11, w'.heap.size, x7, rs, rn, ra, re, m4_, m7_, m11_, m13_, m14_, m15_, m16_, m17_, m18_, (.pointer (some ⟨w'.heap.size, 0, none⟩)), m21_, m22_, (by rw [ha.out]; exact putSel_upk 11 hb_ rfl rfl rfl), Nat.le_trans HS.out (below_alloc (Below.refl w'.heap.size w') (.cells #[.int .u32 0, .int .i64 0] 77 (0, 0))).size, blk_below X9.out (below_alloc (Below.refl w'.heap.size w') (.cells #[.int .u32 0, .int .i64 0] 77 (0, 0))), fun h0_ => (Q_K0 h0_).below (below_alloc (Below.refl w'.heap.size w') (.cells #[.int .u32 0, .int .i64 0] 77 (0, 0))), fun h0_ => (Q_KP h0_).below (below_alloc (Below.refl w'.heap.size w') (.cells #[.int .u32 0, .int .i64 0] 77 (0, 0))), fun h0_ h1_ => blk_below (Q_S4 h0_ h1_) (below_alloc (Below.refl w'.heap.size w') (.cells #[.int .u32 0, .int .i64 0] 77 (0, 0))), fun h0_ h1_ => blk_below (Q_S11 h0_ h1_) (below_alloc (Below.refl w'.heap.size w') (.cells #[.int .u32 0, .int .i64 0] 77 (0, 0))), Q_Z7, fun _ => HS.out, fun _ _ => blk_new w' (.cells #[.int .u32 0, .int .i64 0] 77 (0, 0)), fo_ (hoff 20), Q_X4_, Q_X7_, Q_X11_, Q_X13_, Q_X14_, Q_X15_, Q_X16_, Q_X17_, Q_X18_, fun _ => rfl, fo_ (hoff 21), fo_ (hoff 22)⟩
   refine steps_cons ?_ ?_
   ·rintro b a w' ⟨g4, g11, g19, x7, rs, rn, ra, re, m4_, m7_, m11_, m13_, m14_, m15_, m16_, m17_, m18_, m19_, m21_, m22_, ha, Q_HS, Q_X9, Q_K0, Q_KP, Q_S4, Q_S11, Q_Z7, Q_N19, Q_X19, Q_XS, Q_X4_, Q_X7_, Q_X11_, Q_X13_, Q_X14_, Q_X15_, Q_X16_, Q_X17_, Q_X18_, Q_X19_, Q_X21_, Q_X22_⟩ hb_ hon hoff
    refine ⟨_, rfl, fun K hK => ?_⟩
    have e10 : a.tmps[10]? = some (m19_) := by rw [ha]; exact putSel_on (e := (19, 10, m19_)) 11 rfl rfl (hon 19 kr_) rfl
    rw [Q_X19_ (hon 19 (by kernel_rfl))] at e10
    have e51 : a.tmps[51]? = some (m16_) := by rw [ha]; exact putSel_on (e := (16, 51, m16_)) 8 rfl rfl (hon 16 kr_) rfl
    rw [Q_X16_ (hon 16 (by kernel_rfl))] at e51
    replace ha := am_ ha
    have HS := am_ Q_HS
    have X9 := am_ Q_X9
    have KP := am_ (Q_KP (hon 14 kr_))
    have Z7 := am_ (Q_Z7 (hon 7 kr_))
    have N19 := am_ (Q_N19 (hon 19 kr_))
    have X19 := am_ (Q_X19 (hon 19 kr_) hb_)
    have q0 := blk_cell X19.out 0
    have q1 := blk_cell X19.out 1
    have z0 := blk_frozen X19.out 0
    have z1 := blk_frozen X19.out 1
    have hne_ : g9 ≠ g19 := by have := HG9.out.1; have := N19.out; omega
    have hlo_ := N19.out
    refine skip_ (w1 := ((w'.setCell ⟨g19, 0, none⟩ (.int .u32 rs)).setCell ⟨g19, 1, none⟩ (.int .i64 rn))) (by rfl) rfl ?_ ?_
    ·go_simp
     try rfl
    refine hK.out _ _ ⟨g4, g11, g19, x7, rs, rn, ra, re, m4_, m7_, m11_, m13_, m14_, m15_, m16_, m17_, m18_, m19_, m21_, m22_, (by rw [ha.out]; exact putSel_none (v := undef) rfl), by simpa [World.setCell] using HS.out, blk_far (blk_far X9.out (p := ⟨g19, 0, none⟩) hne_ _) (p := ⟨g19, 1, none⟩) hne_ _, fo_ (hon 14), fun _ => (KP.out.set (fun k_ hk_ => by have := HF.out k_ hk_; omega) (by have := HB1.out; omega) 0 _).set (fun k_ hk_ => by have := HF.out k_ hk_; omega) (by have := HB1.out; omega) 1 _, fun _ h1_ => absurd ((hon 5 kr_).symm.trans h1_) (by decide), fun _ h1_ => absurd ((hon 12 kr_).symm.trans h1_) (by decide), Q_Z7, Q_N19, fun _ h1_ => absurd ((up_self b 20).symm.trans h1_) (by decide), fun _ => blk_put (blk_put X19.out 0 _ rfl) 1 _ rfl, Q_X4_, Q_X7_, Q_X11_, Q_X13_, Q_X14_, Q_X15_, Q_X16_, Q_X17_, Q_X18_, Q_X19_, fo_ (hoff 21), fo_ (hoff 22)⟩
   refine steps_cons ?_ ?_
   ·rintro b a w' ⟨g4, g11, g19, x7, rs, rn, ra, re, m4_, m7_, m11_, m13_, m14_, m15_, m16_, m17_, m18_, m19_, m21_, m22_, ha, Q_HS, Q_X9, Q_K0, Q_KP, Q_S4, Q_S11, Q_Z7, Q_N19, Q_X19, Q_XS, Q_X4_, Q_X7_, Q_X11_, Q_X13_, Q_X14_, Q_X15_, Q_X16_, Q_X17_, Q_X18_, Q_X19_, Q_X21_, Q_X22_⟩ hb_ hon hoff
    refine ⟨_, rfl, fun K hK => ?_⟩
    have e52 : a.tmps[52]? = some (m17_) := by rw [ha]; exact putSel_on (e := (17, 52, m17_)) 9 rfl rfl (hon 17 kr_) rfl
    rw [Q_X17_ (hon 17 (by kernel_rfl))] at e52
    replace ha := am_ ha
    have HS := am_ Q_HS
    have X9 := am_ Q_X9
    have KP := am_ (Q_KP (hon 14 kr_))
    have Z7 := am_ (Q_Z7 (hon 7 kr_))
    have N19 := am_ (Q_N19 (hon 19 kr_))
    have XS := am_ (Q_XS (hon 20 kr_))
    refine value_ (w1 := w') (v := .bool ra) (by rfl) rfl ?_ ?_
    ·go_simp
     (try simp only [i64_w])
     try rfl
    refine hK.out _ _ ⟨g4, g11, g19, x7, rs, rn, ra, re, m4_, m7_, m11_, m13_, m14_, m15_, m16_, m17_, m18_, m19_, (.bool ra), m22_, (by rw [ha.out]; exact putSel_upk 12 hb_ rfl rfl rfl), Q_HS, Q_X9, fo_ (hon 14), Q_KP, fun _ h1_ => absurd ((hon 5 kr_).symm.trans h1_) (by decide), fun _ h1_ => absurd ((hon 12 kr_).symm.trans h1_) (by decide), Q_Z7, Q_N19, fun _ h1_ => absurd ((hon 20 kr_).symm.trans h1_) (by decide), Q_XS, Q_X4_, Q_X7_, Q_X11_, Q_X13_, Q_X14_, Q_X15_, Q_X16_, Q_X17_, Q_X18_, Q_X19_, fun _ => rfl, fo_ (hoff 22)⟩
   refine steps_cons ?_ ?_
   ·rintro b a w' ⟨g4, g11, g19, x7, rs, rn, ra, re, m4_, m7_, m11_, m13_, m14_, m15_, m16_, m17_, m18_, m19_, m21_, m22_, ha, Q_HS, Q_X9, Q_K0, Q_KP, Q_S4, Q_S11, Q_Z7, Q_N19, Q_X19, Q_XS, Q_X4_, Q_X7_, Q_X11_, Q_X13_, Q_X14_, Q_X15_, Q_X16_, Q_X17_, Q_X18_, Q_X19_, Q_X21_, Q_X22_⟩ hb_ hon hoff
    refine ⟨_, rfl, fun K hK => ?_⟩
    have e53 : a.tmps[53]? = some (m18_) := by rw [ha]; exact putSel_on (e := (18, 53, m18_)) 10 rfl rfl (hon 18 kr_) rfl
    rw [Q_X18_ (hon 18 (by kernel_rfl))] at e53
    replace ha := am_ ha
    have HS := am_ Q_HS
    have X9 := am_ Q_X9
    have KP := am_ (Q_KP (hon 14 kr_))
    have Z7 := am_ (Q_Z7 (hon 7 kr_))
    have N19 := am_ (Q_N19 (hon 19 kr_))
    have XS := am_ (Q_XS (hon 20 kr_))
    refine value_ (w1 := w') (v := .int .i64 re) (by rfl) rfl ?_ ?_
    ·go_simp
     (try simp only [i64_w])
     try rfl
    refine hK.out _ _ ⟨g4, g11, g19, x7, rs, rn, ra, re, m4_, m7_, m11_, m13_, m14_, m15_, m16_, m17_, m18_, m19_, m21_, (.int .i64 re), (by rw [ha.out]; exact putSel_upk 13 hb_ rfl rfl rfl), Q_HS, Q_X9, fo_ (hon 14), Q_KP, fun _ h1_ => absurd ((hon 5 kr_).symm.trans h1_) (by decide), fun _ h1_ => absurd ((hon 12 kr_).symm.trans h1_) (by decide), Q_Z7, Q_N19, fun _ h1_ => absurd ((hon 20 kr_).symm.trans h1_) (by decide), Q_XS, Q_X4_, Q_X7_, Q_X11_, Q_X13_, Q_X14_, Q_X15_, Q_X16_, Q_X17_, Q_X18_, Q_X19_, Q_X21_, fun _ => rfl⟩
   exact steps_nil
  ·rintro b a w' hall ⟨g4, g11, g19, x7, rs, rn, ra, re, m4_, m7_, m11_, m13_, m14_, m15_, m16_, m17_, m18_, m19_, m21_, m22_, ha, Q_HS, Q_X9, Q_K0, Q_KP, Q_S4, Q_S11, Q_Z7, Q_N19, Q_X19, Q_XS, Q_X4_, Q_X7_, Q_X11_, Q_X13_, Q_X14_, Q_X15_, Q_X16_, Q_X17_, Q_X18_, Q_X19_, Q_X21_, Q_X22_⟩
   clear HS K0 X9
   have hb4_ := hall 4 kr_
   have hb5_ := hall 5 kr_
   have hb7_ := hall 7 kr_
   have hb11_ := hall 11 kr_
   have hb12_ := hall 12 kr_
   have hb13_ := hall 13 kr_
   have hb14_ := hall 14 kr_
   have hb15_ := hall 15 kr_
   have hb16_ := hall 16 kr_
   have hb17_ := hall 17 kr_
   have hb18_ := hall 18 kr_
   have hb19_ := hall 19 kr_
   have hb20_ := hall 20 kr_
   have hb21_ := hall 21 kr_
   have hb22_ := hall 22 kr_
   subst ha
   obtain rfl := Q_X4_ hb4_
   obtain rfl := Q_X7_ hb7_
   obtain rfl := Q_X11_ hb11_
   obtain rfl := Q_X13_ hb13_
   obtain rfl := Q_X14_ hb14_
   obtain rfl := Q_X15_ hb15_
   obtain rfl := Q_X16_ hb16_
   obtain rfl := Q_X17_ hb17_
   obtain rfl := Q_X18_ hb18_
   obtain rfl := Q_X19_ hb19_
   obtain rfl := Q_X21_ hb21_
   obtain rfl := Q_X22_ hb22_
   simp only [putSel, hb4_, hb5_, hb7_, hb11_, hb12_, hb13_, hb14_, hb15_, hb16_, hb17_, hb18_, hb19_, hb20_, hb21_, hb22_, if_true, Act.put, List.setIfInBounds_toArray, List.set_cons_zero, List.set_cons_succ]
   have HS := am_ Q_HS
   clear Q_HS
   have X9 := am_ Q_X9
   clear Q_X9
   clear Q_K0
   have KP := am_ (Q_KP hb14_)
   clear Q_KP
   clear Q_S4
   clear Q_S11
   have Z7 := am_ (Q_Z7 hb7_)
   clear Q_Z7
   have N19 := am_ (Q_N19 hb19_)
   clear Q_N19
   clear Q_X19
   have XS := am_ (Q_XS hb20_)
   clear Q_XS
   clear hall hb4_ hb5_ hb7_ hb11_ hb12_ hb13_ hb14_ hb15_ hb16_ hb17_ hb18_ hb19_ hb20_ hb21_ hb22_
   have hpl := HKP.out
   rcases KP.out with ⟨rfl, rfl, D2, P2, r2, kv2, hK, hR, hgr⟩ | ⟨rfl, rfl, rfl, rfl, D2, kv2, hK, hR⟩
   ·have K5 := hi_ hK
    have hz := Z7.out
    have HGR := hi_ (show k + 1 ≤ P2.length ∧ (ks ++ [x7 ++ strOfNums [97 + (k : Int)]]).length = k + 1 ∧ D2.room = p from ⟨by omega, by simp; omega, hR.trans HDR.out⟩)
    have HE2 := hi_ (ends_add HE.out x7)
    rw [HKP.out.2.1] at HE2
    clear hK hR hgr hz hpl KP X9 XS Z7 HE
    go_wp2_with fail
    exact ⟨⟨k + 1, _, D2, P2, r2, kv2, by congr 1, HGR.out.1, HGR.out.2.1, HE2, HGR.out.2.2, K5⟩, by simp only [intOf]; omega⟩
   ·have K5 := am_ hK
    clear hK hR hpl KP Z7 HS N19
    go_upto_region 13 with fail
    -- the last region
    obtain ⟨wd, hwd⟩ : ∃ wd, wd = w' := ⟨_, rfl⟩
    rw [← hwd] at K5 X9 XS ⊢
    clear hwd
    refine start_ (n := 20) (S := fun w' => True) (ds := []) (bz 20 0) kr_ rfl rfl trivial (fun hHeld => ?_); refine with_tabW full_end.tab full_end.bits (fun HT_ HW_ => ?_)
    have n0 := am_ (K5.out.below (bel_drew (Below.refl _ _))); have n1 := am_ (blk_drew X9.out); have n2 := am_ (blk_drew XS.out)
    clear K5 X9 XS
    have K5 := n0; have X9 := n1; have XS := n2
    clear n0 n1 n2
    generalize wd.drew = wd at *
    refine pure_ (i := 1) (N := some 57) (v := ?_) (a' := ?_) (bz 20 2) rfl rfl (any_of HT_.out kr_) (fun _ _ _ h => h) (Or.inl ⟨by rfl, ?_⟩) ?_ ?_
    rotate_left
    ·intro w'
     go_simp
     with_reducible rfl
    rotate_left
    ·simp only [Act.put, List.setIfInBounds_toArray, List.set_cons_zero, List.set_cons_succ, i64_w, i32_w]
     rfl
    refine inv_at [0, 2, 3, 4, 5, 6, 7, 8, 9, 10, 11, 12, 13, 14, 15, 16, 17, 18, 19] (fun a0_ b a w' => a = putSel a0_ b [(0, 56, .agg #[.int .u32 0, .int .i64 0]), (2, 58, .bool true), (3, 59, .bool true), (4, 60, .bool false), (5, 61, .bool true), (6, 62, .bool true), (7, 63, .bool true), (8, 64, .pointer (some ⟨pb, 0, none⟩)), (9, 65, .int .i64 (P.length : Int)), (10, 66, .int .i64 (P.length : Int)), (11, 67, .bool true), (12, 68, .bool true), (13, 69, .bool true), (14, 70, .pointer (some ⟨t, 0, none⟩)), (15, 71, .agg #[.int .i64 r.page, .int .i64 r.count, .int .i64 r.height]), (16, 72, .agg #[.int .i64 r.page, .int .i64 r.count, .int .i64 r.height]), (17, 73, .bool true), (18, 74, .bool true), (19, 4, .bool true)] ∧ (Kept14 w1 L pb t ks D2 P r kv2 w') ∧ (w'.heap[g9]? = some (.cells #[.int .i64 r.page, .int .i64 r.count, .int .i64 r.height] 31 (0, 0))) ∧ (w'.heap[g19]? = some (.cells #[.int .u32 0, .int .i64 0] 77 (0, 0)))) HT_.out HW_.out kr_ kr_ ?_ ?_ ?_
    ·exact ⟨by simp only [putSel, Bool.false_eq_true, if_false], K5.out, X9.out, XS.out⟩
    ·skip
     clear K5 X9 XS
     refine steps_cons ?_ ?_
     ·rintro b a w' ⟨ha, Q_K5, Q_X9, Q_XS⟩ hb_ hon hoff
      refine ⟨_, rfl, fun K hK => ?_⟩
      have e10 : a.tmps[10]? = some (.pointer (some ⟨g19, 0, none⟩)) := by rw [ha]; exact (putSel_off rfl).trans rfl
      replace ha := am_ ha
      have K5 := am_ Q_K5
      have X9 := am_ Q_X9
      have XS := am_ Q_XS
      have x0 := blk_cell XS.out 0
      have x1 := blk_cell XS.out 1
      refine value_ (w1 := w') (v := .agg #[.int .u32 0, .int .i64 0]) (by rfl) rfl ?_ ?_
      ·go_simp
       (try simp only [i64_w])
       try rfl
      refine hK.out _ _ ⟨(by rw [ha.out]; exact putSel_upk 0 hb_ rfl rfl rfl), Q_K5, Q_X9, Q_XS⟩
     refine steps_cons ?_ ?_
     ·rintro b a w' ⟨ha, Q_K5, Q_X9, Q_XS⟩ hb_ hon hoff
      refine ⟨_, rfl, fun K hK => ?_⟩
      have e56 : a.tmps[56]? = some (.agg #[.int .u32 0, .int .i64 0]) := by rw [ha]; exact putSel_on (e := (0, 56, .agg #[.int .u32 0, .int .i64 0])) 0 rfl rfl (hon 0 kr_) rfl
      have e57 : a.tmps[57]? = some (.agg #[.int .u32 0, .int .i64 0]) := by rw [ha]; exact (putSel_off rfl).trans rfl
      replace ha := am_ ha
      have K5 := am_ Q_K5
      have X9 := am_ Q_X9
      have XS := am_ Q_XS
      refine value_ (w1 := w') (v := .bool true) (by rfl) rfl ?_ ?_
      ·go_simp
       (try simp only [i64_w])
       try rfl
      refine hK.out _ _ ⟨(by rw [ha.out]; exact putSel_upk 1 hb_ rfl rfl rfl), Q_K5, Q_X9, Q_XS⟩
     refine steps_cons ?_ ?_
     ·rintro b a w' ⟨ha, Q_K5, Q_X9, Q_XS⟩ hb_ hon hoff
      refine ⟨_, rfl, fun K hK => ?_⟩
      have e58 : a.tmps[58]? = some (.bool true) := by rw [ha]; exact putSel_on (e := (2, 58, .bool true)) 1 rfl rfl (hon 2 kr_) rfl
      replace ha := am_ ha
      have K5 := am_ Q_K5
      have X9 := am_ Q_X9
      have XS := am_ Q_XS
      refine value_ (w1 := w') (v := .bool true) (by rfl) rfl ?_ ?_
      ·go_simp
       (try simp only [i64_w])
       try rfl
      refine hK.out _ _ ⟨(by rw [ha.out]; exact putSel_upk 2 hb_ rfl rfl rfl), Q_K5, Q_X9, Q_XS⟩
     refine steps_cons ?_ ?_
     ·rintro b a w' ⟨ha, Q_K5, Q_X9, Q_XS⟩ hb_ hon hoff
      refine ⟨_, rfl, fun K hK => ?_⟩
      have e11 : a.tmps[11]? = some (.bool false) := by rw [ha]; exact (putSel_off rfl).trans rfl
      have e59 : a.tmps[59]? = some (.bool true) := by rw [ha]; exact putSel_on (e := (3, 59, .bool true)) 2 rfl rfl (hon 3 kr_) rfl
      replace ha := am_ ha
      have K5 := am_ Q_K5
      have X9 := am_ Q_X9
      have XS := am_ Q_XS
      refine value_ (w1 := w') (v := .bool false) (wanted_on rfl rfl rfl (e59.trans (by first | rfl | (simp [*]; done)))) rfl ?_ ?_
      ·go_simp
       (try simp only [i64_w])
       try rfl
      refine hK.out _ _ ⟨(by rw [ha.out]; exact putSel_upk 3 hb_ rfl rfl rfl), Q_K5, Q_X9, Q_XS⟩
     refine steps_cons ?_ ?_
     ·rintro b a w' ⟨ha, Q_K5, Q_X9, Q_XS⟩ hb_ hon hoff
      refine ⟨_, rfl, fun K hK => ?_⟩
      have e60 : a.tmps[60]? = some (.bool false) := by rw [ha]; exact putSel_on (e := (4, 60, .bool false)) 3 rfl rfl (hon 4 kr_) rfl
      have e59 : a.tmps[59]? = some (.bool true) := by rw [ha]; exact putSel_on (e := (3, 59, .bool true)) 2 rfl rfl (hon 3 kr_) rfl
      replace ha := am_ ha
      have K5 := am_ Q_K5
      have X9 := am_ Q_X9
      have XS := am_ Q_XS
      refine value_ (w1 := w') (v := .bool true) (wanted_on rfl rfl rfl (e59.trans (by first | rfl | (simp [*]; done)))) rfl ?_ ?_
      ·go_simp
       (try simp only [i64_w])
       try rfl
      refine hK.out _ _ ⟨(by rw [ha.out]; exact putSel_upk 4 hb_ rfl rfl rfl), Q_K5, Q_X9, Q_XS⟩
     refine steps_cons ?_ ?_
     ·rintro b a w' ⟨ha, Q_K5, Q_X9, Q_XS⟩ hb_ hon hoff
      refine ⟨_, rfl, fun K hK => ?_⟩
      have e59 : a.tmps[59]? = some (.bool true) := by rw [ha]; exact putSel_on (e := (3, 59, .bool true)) 2 rfl rfl (hon 3 kr_) rfl
      have e61 : a.tmps[61]? = some (.bool true) := by rw [ha]; exact putSel_on (e := (5, 61, .bool true)) 4 rfl rfl (hon 5 kr_) rfl
      replace ha := am_ ha
      have K5 := am_ Q_K5
      have X9 := am_ Q_X9
      have XS := am_ Q_XS
      refine value_ (w1 := w') (v := .bool true) (by rfl) rfl ?_ ?_
      ·go_simp
       (try simp only [i64_w])
       try rfl
      refine hK.out _ _ ⟨(by rw [ha.out]; exact putSel_upk 5 hb_ rfl rfl rfl), Q_K5, Q_X9, Q_XS⟩
     refine steps_cons ?_ ?_
     ·rintro b a w' ⟨ha, Q_K5, Q_X9, Q_XS⟩ hb_ hon hoff
      refine ⟨_, rfl, fun K hK => ?_⟩
      have e62 : a.tmps[62]? = some (.bool true) := by rw [ha]; exact putSel_on (e := (6, 62, .bool true)) 5 rfl rfl (hon 6 kr_) rfl
      replace ha := am_ ha
      have K5 := am_ Q_K5
      have X9 := am_ Q_X9
      have XS := am_ Q_XS
      refine value_ (w1 := w') (v := .bool true) (by rfl) rfl ?_ ?_
      ·go_simp
       (try simp only [i64_w])
       try rfl
      refine hK.out _ _ ⟨(by rw [ha.out]; exact putSel_upk 6 hb_ rfl rfl rfl), Q_K5, Q_X9, Q_XS⟩
     refine steps_cons ?_ ?_
     ·rintro b a w' ⟨ha, Q_K5, Q_X9, Q_XS⟩ hb_ hon hoff
      refine ⟨_, rfl, fun K hK => ?_⟩
      have e5 : a.tmps[5]? = some (.pointer (some ⟨pb, 0, none⟩)) := by rw [ha]; exact (putSel_off rfl).trans rfl
      have e63 : a.tmps[63]? = some (.bool true) := by rw [ha]; exact putSel_on (e := (7, 63, .bool true)) 6 rfl rfl (hon 7 kr_) rfl
      replace ha := am_ ha
      have K5 := am_ Q_K5
      have X9 := am_ Q_X9
      have XS := am_ Q_XS
      refine value_ (w1 := w') (v := .pointer (some ⟨pb, 0, none⟩)) (wanted_on rfl rfl rfl (e63.trans (by first | rfl | (simp [*]; done)))) rfl ?_ ?_
      ·go_simp
       (try simp only [i64_w])
       try rfl
      refine hK.out _ _ ⟨(by rw [ha.out]; exact putSel_upk 7 hb_ rfl rfl rfl), Q_K5, Q_X9, Q_XS⟩
     refine steps_cons ?_ ?_
     ·rintro b a w' ⟨ha, Q_K5, Q_X9, Q_XS⟩ hb_ hon hoff
      refine ⟨_, rfl, fun K hK => ?_⟩
      have e64 : a.tmps[64]? = some (.pointer (some ⟨pb, 0, none⟩)) := by rw [ha]; exact putSel_on (e := (8, 64, .pointer (some ⟨pb, 0, none⟩))) 7 rfl rfl (hon 8 kr_) rfl
      have e63 : a.tmps[63]? = some (.bool true) := by rw [ha]; exact putSel_on (e := (7, 63, .bool true)) 6 rfl rfl (hon 7 kr_) rfl
      replace ha := am_ ha
      have K5 := am_ Q_K5
      have X9 := am_ Q_X9
      have XS := am_ Q_XS
      refine goes_ Tryz.func54 kr_ rfl #[.pointer (some ⟨pb, 0, none⟩)] (wanted_on rfl rfl rfl (e63.trans (by first | rfl | (simp [*]; done)))) rfl rfl (by first | (simp only [List.map_toArray, List.map_cons, List.map_nil, Act.eval, Array.getD_eq_getD_getElem?, Option.getD_some, e64, e63]; done) | (simp only [List.map_toArray, List.map_cons, List.map_nil, Act.eval, Array.getD_eq_getD_getElem?, Option.getD_some, e64, e63]; rfl)) ?_
      refine (pages_Next w' pb L 0 P.length K5.out.made.pg.st.p).mono ?_
      rintro e w2 ⟨rfl, rfl⟩
      refine ⟨_, rfl, ?_⟩
      refine hK.out _ _ ⟨(by rw [ha.out]; exact putSel_upk 8 hb_ rfl rfl rfl), K5.out, X9.out, XS.out⟩
     refine steps_cons ?_ ?_
     ·rintro b a w' ⟨ha, Q_K5, Q_X9, Q_XS⟩ hb_ hon hoff
      refine ⟨_, rfl, fun K hK => ?_⟩
      have e8 : a.tmps[8]? = some (.int .i64 (P.length : Int)) := by rw [ha]; exact (putSel_off rfl).trans rfl
      have e63 : a.tmps[63]? = some (.bool true) := by rw [ha]; exact putSel_on (e := (7, 63, .bool true)) 6 rfl rfl (hon 7 kr_) rfl
      replace ha := am_ ha
      have K5 := am_ Q_K5
      have X9 := am_ Q_X9
      have XS := am_ Q_XS
      refine value_ (w1 := w') (v := .int .i64 (P.length : Int)) (wanted_on rfl rfl rfl (e63.trans (by first | rfl | (simp [*]; done)))) rfl ?_ ?_
      ·go_simp
       (try simp only [i64_w])
       try rfl
      refine hK.out _ _ ⟨(by rw [ha.out]; exact putSel_upk 9 hb_ rfl rfl rfl), Q_K5, Q_X9, Q_XS⟩
     refine steps_cons ?_ ?_
     ·rintro b a w' ⟨ha, Q_K5, Q_X9, Q_XS⟩ hb_ hon hoff
      refine ⟨_, rfl, fun K hK => ?_⟩
      have e65 : a.tmps[65]? = some (.int .i64 (P.length : Int)) := by rw [ha]; exact putSel_on (e := (9, 65, .int .i64 (P.length : Int))) 8 rfl rfl (hon 9 kr_) rfl
      have e66 : a.tmps[66]? = some (.int .i64 (P.length : Int)) := by rw [ha]; exact putSel_on (e := (10, 66, .int .i64 (P.length : Int))) 9 rfl rfl (hon 10 kr_) rfl
      have e63 : a.tmps[63]? = some (.bool true) := by rw [ha]; exact putSel_on (e := (7, 63, .bool true)) 6 rfl rfl (hon 7 kr_) rfl
      replace ha := am_ ha
      have K5 := am_ Q_K5
      have X9 := am_ Q_X9
      have XS := am_ Q_XS
      refine value_ (w1 := w') (v := .bool true) (wanted_on rfl rfl rfl (e63.trans (by first | rfl | (simp [*]; done)))) rfl ?_ ?_
      ·go_simp
       (try simp only [i64_w])
       try rfl
      refine hK.out _ _ ⟨(by rw [ha.out]; exact putSel_upk 10 hb_ rfl rfl rfl), Q_K5, Q_X9, Q_XS⟩
     refine steps_cons ?_ ?_
     ·rintro b a w' ⟨ha, Q_K5, Q_X9, Q_XS⟩ hb_ hon hoff
      refine ⟨_, rfl, fun K hK => ?_⟩
      have e63 : a.tmps[63]? = some (.bool true) := by rw [ha]; exact putSel_on (e := (7, 63, .bool true)) 6 rfl rfl (hon 7 kr_) rfl
      have e67 : a.tmps[67]? = some (.bool true) := by rw [ha]; exact putSel_on (e := (11, 67, .bool true)) 10 rfl rfl (hon 11 kr_) rfl
      replace ha := am_ ha
      have K5 := am_ Q_K5
      have X9 := am_ Q_X9
      have XS := am_ Q_XS
      refine value_ (w1 := w') (v := .bool true) (by rfl) rfl ?_ ?_
      ·go_simp
       (try simp only [i64_w])
       try rfl
      refine hK.out _ _ ⟨(by rw [ha.out]; exact putSel_upk 11 hb_ rfl rfl rfl), Q_K5, Q_X9, Q_XS⟩
     refine steps_cons ?_ ?_
     ·rintro b a w' ⟨ha, Q_K5, Q_X9, Q_XS⟩ hb_ hon hoff
      refine ⟨_, rfl, fun K hK => ?_⟩
      have e68 : a.tmps[68]? = some (.bool true) := by rw [ha]; exact putSel_on (e := (12, 68, .bool true)) 11 rfl rfl (hon 12 kr_) rfl
      replace ha := am_ ha
      have K5 := am_ Q_K5
      have X9 := am_ Q_X9
      have XS := am_ Q_XS
      refine value_ (w1 := w') (v := .bool true) (by rfl) rfl ?_ ?_
      ·go_simp
       (try simp only [i64_w])
       try rfl
      refine hK.out _ _ ⟨(by rw [ha.out]; exact putSel_upk 12 hb_ rfl rfl rfl), Q_K5, Q_X9, Q_XS⟩
     refine steps_cons ?_ ?_
     ·rintro b a w' ⟨ha, Q_K5, Q_X9, Q_XS⟩ hb_ hon hoff
      refine ⟨_, rfl, fun K hK => ?_⟩
      have e6 : a.tmps[6]? = some (.pointer (some ⟨t, 0, none⟩)) := by rw [ha]; exact (putSel_off rfl).trans rfl
      have e69 : a.tmps[69]? = some (.bool true) := by rw [ha]; exact putSel_on (e := (13, 69, .bool true)) 12 rfl rfl (hon 13 kr_) rfl
      replace ha := am_ ha
      have K5 := am_ Q_K5
      have X9 := am_ Q_X9
      have XS := am_ Q_XS
      refine value_ (w1 := w') (v := .pointer (some ⟨t, 0, none⟩)) (wanted_on rfl rfl rfl (e69.trans (by first | rfl | (simp [*]; done)))) rfl ?_ ?_
      ·go_simp
       (try simp only [i64_w])
       try rfl
      refine hK.out _ _ ⟨(by rw [ha.out]; exact putSel_upk 13 hb_ rfl rfl rfl), Q_K5, Q_X9, Q_XS⟩
     refine steps_cons ?_ ?_
     ·rintro b a w' ⟨ha, Q_K5, Q_X9, Q_XS⟩ hb_ hon hoff
      refine ⟨_, rfl, fun K hK => ?_⟩
      have e70 : a.tmps[70]? = some (.pointer (some ⟨t, 0, none⟩)) := by rw [ha]; exact putSel_on (e := (14, 70, .pointer (some ⟨t, 0, none⟩))) 13 rfl rfl (hon 14 kr_) rfl
      have e69 : a.tmps[69]? = some (.bool true) := by rw [ha]; exact putSel_on (e := (13, 69, .bool true)) 12 rfl rfl (hon 13 kr_) rfl
      replace ha := am_ ha
      have K5 := am_ Q_K5
      have X9 := am_ Q_X9
      have XS := am_ Q_XS
      refine goes_ Tryz.func30 kr_ rfl #[.pointer (some ⟨t, 0, none⟩)] (wanted_on rfl rfl rfl (e69.trans (by first | rfl | (simp [*]; done)))) rfl rfl (by first | (simp only [List.map_toArray, List.map_cons, List.map_nil, Act.eval, Array.getD_eq_getD_getElem?, Option.getD_some, e70, e69]; done) | (simp only [List.map_toArray, List.map_cons, List.map_nil, Act.eval, Array.getD_eq_getD_getElem?, Option.getD_some, e70, e69]; rfl)) ?_
      refine (tree_Root w' t pb r K5.out.made.tr).mono ?_
      rintro e w2 ⟨rfl, hb⟩
      refine ⟨_, rfl, ?_⟩
      refine hK.out _ _ ⟨(by rw [ha.out]; exact putSel_upk 14 hb_ rfl rfl rfl), K5.out.below hb, blk_below X9.out hb, blk_below XS.out hb⟩
     refine steps_cons ?_ ?_
     ·rintro b a w' ⟨ha, Q_K5, Q_X9, Q_XS⟩ hb_ hon hoff
      refine ⟨_, rfl, fun K hK => ?_⟩
      have e9 : a.tmps[9]? = some (.pointer (some ⟨g9, 0, none⟩)) := by rw [ha]; exact (putSel_off rfl).trans rfl
      have e69 : a.tmps[69]? = some (.bool true) := by rw [ha]; exact putSel_on (e := (13, 69, .bool true)) 12 rfl rfl (hon 13 kr_) rfl
      replace ha := am_ ha
      have K5 := am_ Q_K5
      have X9 := am_ Q_X9
      have XS := am_ Q_XS
      have y0 := blk_cell X9.out 0
      have y1 := blk_cell X9.out 1
      have y2 := blk_cell X9.out 2
      refine value_ (w1 := w') (v := .agg #[.int .i64 r.page, .int .i64 r.count, .int .i64 r.height]) (wanted_on rfl rfl rfl (e69.trans (by first | rfl | (simp [*]; done)))) rfl ?_ ?_
      ·go_simp
       (try simp only [i64_w])
       try rfl
      refine hK.out _ _ ⟨(by rw [ha.out]; exact putSel_upk 15 hb_ rfl rfl rfl), Q_K5, Q_X9, Q_XS⟩
     refine steps_cons ?_ ?_
     ·rintro b a w' ⟨ha, Q_K5, Q_X9, Q_XS⟩ hb_ hon hoff
      refine ⟨_, rfl, fun K hK => ?_⟩
      have e71 : a.tmps[71]? = some (.agg #[.int .i64 r.page, .int .i64 r.count, .int .i64 r.height]) := by rw [ha]; exact putSel_on (e := (15, 71, .agg #[.int .i64 r.page, .int .i64 r.count, .int .i64 r.height])) 14 rfl rfl (hon 15 kr_) rfl
      have e72 : a.tmps[72]? = some (.agg #[.int .i64 r.page, .int .i64 r.count, .int .i64 r.height]) := by rw [ha]; exact putSel_on (e := (16, 72, .agg #[.int .i64 r.page, .int .i64 r.count, .int .i64 r.height])) 15 rfl rfl (hon 16 kr_) rfl
      have e69 : a.tmps[69]? = some (.bool true) := by rw [ha]; exact putSel_on (e := (13, 69, .bool true)) 12 rfl rfl (hon 13 kr_) rfl
      replace ha := am_ ha
      have K5 := am_ Q_K5
      have X9 := am_ Q_X9
      have XS := am_ Q_XS
      refine value_ (w1 := w') (v := .bool true) (wanted_on rfl rfl rfl (e69.trans (by first | rfl | (simp [*]; done)))) rfl ?_ ?_
      ·go_simp
       (try simp only [i64_w])
       try rfl
      refine hK.out _ _ ⟨(by rw [ha.out]; exact putSel_upk 16 hb_ rfl rfl rfl), Q_K5, Q_X9, Q_XS⟩
     refine steps_cons ?_ ?_
     ·rintro b a w' ⟨ha, Q_K5, Q_X9, Q_XS⟩ hb_ hon hoff
      refine ⟨_, rfl, fun K hK => ?_⟩
      have e69 : a.tmps[69]? = some (.bool true) := by rw [ha]; exact putSel_on (e := (13, 69, .bool true)) 12 rfl rfl (hon 13 kr_) rfl
      have e73 : a.tmps[73]? = some (.bool true) := by rw [ha]; exact putSel_on (e := (17, 73, .bool true)) 16 rfl rfl (hon 17 kr_) rfl
      replace ha := am_ ha
      have K5 := am_ Q_K5
      have X9 := am_ Q_X9
      have XS := am_ Q_XS
      refine value_ (w1 := w') (v := .bool true) (by rfl) rfl ?_ ?_
      ·go_simp
       (try simp only [i64_w])
       try rfl
      refine hK.out _ _ ⟨(by rw [ha.out]; exact putSel_upk 17 hb_ rfl rfl rfl), Q_K5, Q_X9, Q_XS⟩
     refine steps_cons ?_ ?_
     ·rintro b a w' ⟨ha, Q_K5, Q_X9, Q_XS⟩ hb_ hon hoff
      refine ⟨_, rfl, fun K hK => ?_⟩
      have e74 : a.tmps[74]? = some (.bool true) := by rw [ha]; exact putSel_on (e := (18, 74, .bool true)) 17 rfl rfl (hon 18 kr_) rfl
      replace ha := am_ ha
      have K5 := am_ Q_K5
      have X9 := am_ Q_X9
      have XS := am_ Q_XS
      refine value_ (w1 := w') (v := .bool true) (by rfl) rfl ?_ ?_
      ·go_simp
       (try simp only [i64_w])
       try rfl
      refine hK.out _ _ ⟨(by rw [ha.out]; exact putSel_upk 18 hb_ rfl rfl rfl), Q_K5, Q_X9, Q_XS⟩
     exact steps_nil
    ·rintro b a w' hall ⟨ha, Q_K5, Q_X9, Q_XS⟩
     clear K5 X9 XS
     have hb0_ := hall 0 kr_
     have hb2_ := hall 2 kr_
     have hb3_ := hall 3 kr_
     have hb4_ := hall 4 kr_
     have hb5_ := hall 5 kr_
     have hb6_ := hall 6 kr_
     have hb7_ := hall 7 kr_
     have hb8_ := hall 8 kr_
     have hb9_ := hall 9 kr_
     have hb10_ := hall 10 kr_
     have hb11_ := hall 11 kr_
     have hb12_ := hall 12 kr_
     have hb13_ := hall 13 kr_
     have hb14_ := hall 14 kr_
     have hb15_ := hall 15 kr_
     have hb16_ := hall 16 kr_
     have hb17_ := hall 17 kr_
     have hb18_ := hall 18 kr_
     have hb19_ := hall 19 kr_
     subst ha
     simp only [putSel, hb0_, hb2_, hb3_, hb4_, hb5_, hb6_, hb7_, hb8_, hb9_, hb10_, hb11_, hb12_, hb13_, hb14_, hb15_, hb16_, hb17_, hb18_, hb19_, if_true, Act.put, List.setIfInBounds_toArray, List.set_cons_zero, List.set_cons_succ]
     have K5 := am_ Q_K5
     clear Q_K5
     have X9 := am_ Q_X9
     clear Q_X9
     have XS := am_ Q_XS
     clear Q_XS
     clear hall hb0_ hb2_ hb3_ hb4_ hb5_ hb6_ hb7_ hb8_ hb9_ hb10_ hb11_ hb12_ hb13_ hb14_ hb15_ hb16_ hb17_ hb18_ hb19_
     go_wp2_with fail
     go_ret
     exact ⟨rfl, below_then B1.out B1.out.size K5.out.made.bel⟩
end Go.Proofs.YtendgmblgdkiaaaGreat
