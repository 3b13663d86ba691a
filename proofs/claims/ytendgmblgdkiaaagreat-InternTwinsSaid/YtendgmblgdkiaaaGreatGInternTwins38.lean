/- blob.walk and blob.Read, walked. intern.Load of any value, intern.Value of a long text, walked. intern.Value of a long text, walked; what stands for any text. Texts that are kept, each under its sum; plain. intern.keep and Put, with or without room, walked. intern's calls over texts that are kept, a -/
import Derived.Test.YtendgmblgdkiaaaGreatGInternTwins0
import Derived.Test.YtendgmblgdkiaaaGreatGInternTwins37
import Derived.WalkMore
import Derived.Test.YtendgmblgdkiaaaGreatGInternTwins35
namespace Go.Proofs.YtendgmblgdkiaaaGreat
open Go.RowKit
open Go.Proofs.YtendgmblgdkiaaaGreatW
open PrintWords PrintLast PrintMore
set_option linter.unusedVariables false
set_option linter.unusedSimpArgs false

/-- A slice's length. -/
def lenV : Value → Nat
 | .slice _ n _ => n
 | _ => 0
/-- While walk runs: the builder and its bytes, the list of pages. -/
structure WkAt (w : World) (acc : BA) (l : Value) (n : Nat) (wr : World) : Prop where
 b : Lib.IsBuilder 233 5 w.heap.size w.heap.size (Lib.byteCells acc.data.toList) wr
 l : ∃ xs : List Int, xs.length = n ∧ Kd.R (Kd.int .i64) 3 wr w.heap.size (fun _ => True) l xs
 bel : Below w.heap.size w wr
theorem blobP_part (P : List Pg) (hP : ∀ (i : Nat) k s, P[i]? = some (k, s) → s.size ≤ 240) (n : Int) : (blobP P n).1.size ≤ 240 ∧ ((blobP P n).2.2 = 0 → -1 ≤ (blobP P n).2.1 ∧ (blobP P n).2.1 ≤ n) := by
 have hz : (pgSay P n).2.1.size ≤ 240 := by
  unfold pgSay
  split
  ·decide
  ·split
   ·decide
   ·next k s hp => exact hP _ _ _ hp
 unfold blobP
 split
 ·exact ⟨Nat.zero_le 240, fun h => by simp_all⟩
 ·split
  ·exact ⟨Nat.zero_le 240, fun h => by cases h⟩
  ·next x m hh =>
   split
   ·next hc => exact ⟨by rw [ByteArray.size_extract]; omega, fun _ => by simp only; omega⟩
   ·exact ⟨Nat.zero_le 240, fun h => by cases h⟩
theorem WkAt.below {w wr w' : World} {acc : BA} {l : Value} {n : Nat} (H : WkAt w acc l n wr) (k : Below wr.heap.size wr w') : WkAt w acc l n w' := by
 have mv : ∀ p, Lib.BuilderAt 233 5 w.heap.size w.heap.size p (Lib.byteCells acc.data.toList) wr → Lib.BuilderAt 233 5 w.heap.size w.heap.size p (Lib.byteCells acc.data.toList) w' := by
  rintro p ⟨hB, v, hb, ho, hn⟩
  exact ⟨hB, v, (k.block _ (lt_of_heap hb)).trans hb, PrintWords.own_move ho (fun i hi => k.block i (PrintWords.own_lt ho i hi)), hn⟩
 refine ⟨?_, ?_, below_then H.bel H.bel.size k⟩
 ·rcases H.b with h | h
  ·exact .inl (mv _ h)
  ·exact .inr (mv _ h)
 ·obtain ⟨xs, hx, hr⟩ := H.l
  exact ⟨xs, hx, Kd.R_below hr k⟩
set_option maxHeartbeats 2000000 in
set_option maxRecDepth 100000 in
theorem blob_walk (w : World) (b : Nat) (L : Loc) (h : Nat) (D : Dk) (P : List Pg) (S : St w L b h D P) (up : D.down = false) (n : Int) (hn : -9223372036854775808 ≤ n ∧ n ≤ 9223372036854775807) :
  Calls Tryz.prog 167 #[.pointer (some ⟨b, 0, none⟩), .int .i64 n] w fun e w' => (∃ v, e = .returned (.tuple #[.string (blobW P 279 n ⟨#[]⟩).1, v, .int .i64 (blobW P 279 n ⟨#[]⟩).2])) ∧ Below w.heap.size w w' := by
 obtain ⟨R, hR⟩ : ∃ R, R = blobW P 279 n ⟨#[]⟩ := ⟨_, rfl⟩
 rw [← hR]
 have HR := hi_ hR
 have HS := hi_ S
 have HU := hi_ up
 have HN := hi_ hn
 clear hR S up hn
 go_enter Tryz.func167, Tryz.ntmps167
 go_wp2_with fail
 go_step3
 go_wp2_with fail
 have W0 : Hid (WkAt w ⟨#[]⟩ (.slice none 0 0) 0 (w.alloc (.cells #[.pointer none, .slice none 0 0] 233 (0, 0)))) := hi_ ⟨.inl ⟨Nat.le_refl _, .slice none 0 0, blk_new w _, ⟨by simp [Lib.byteCells], .inl ⟨rfl, rfl⟩⟩, by simp [Value.ownBlock]⟩, ⟨[], rfl, Kd.R_nil _ _ _ _ _⟩, below_alloc (Below.refl _ _) _⟩
 generalize w.alloc (.cells #[.pointer none, .slice none 0 0] 233 (0, 0)) = w0 at *
 go_step3
 go_wp2_with fail
 go_loopw [9, 8] (fun x l wr => ∃ (f : Nat) (nv : Int) (acc : BA), f ≤ 279 ∧ x = .int .i64 nv ∧ (-9223372036854775808 ≤ nv ∧ nv ≤ 9223372036854775807) ∧ R = blobW P f nv acc ∧ acc.size ≤ (279 - f) * 240 ∧ Hid (WkAt w acc l (279 - f) wr)) (fun _ l _ => 280 - lenV l)
 case atStart => exact ⟨279, n, ⟨#[]⟩, by omega, rfl, HN.out, HR.out, by decide, W0⟩
 case round =>
  obtain ⟨f, nv, acc, hf, rfl, hnv, hR, hacc, WK⟩ := hrel
  clear W0
  have HF := hi_ hf
  have HRR := hi_ hR
  have CP := hi_ (blob_page wr b L h D P (HS.out.below WK.out.bel) HU.out nv hnv)
  obtain ⟨pg, hpg⟩ : ∃ pg, pg = blobP P nv := ⟨_, rfl⟩
  rw [← hpg] at CP
  have HPG := hi_ hpg
  have HPB := hi_ (show pg.1.size ≤ 240 ∧ (pg.2.2 = 0 → -1 ≤ pg.2.1 ∧ pg.2.1 ≤ nv) from by rw [hpg]; exact blobP_part P (fun i k s hi => (HS.out.holds i k s hi).2.2.1) nv)
  have HACC := hi_ hacc
  have HNV := hi_ hnv
  obtain ⟨part, next, er⟩ := pg
  clear hf hR hpg hacc hnv
  go_wp2_with fail
  refine CP.out.mono ?_
  rintro e w3 ⟨rfl, hb⟩
  have W3 := hi_ (WK.out.below hb)
  clear hb CP WK
  by_cases her : er = 0
  ·subst her
   obtain ⟨xs, hxl, hxr⟩ := W3.out.l
   obtain ⟨A, cA, hl⟩ := Kd.R_slice hxr
   subst hl
   have HXR := hi_ hxr
   have hxn : (xs.length : Int) = 279 - (f : Int) := by have := HF.out; omega
   have hco : costN 65536 = 279 := by decide
   have CC := hi_ (fun W => blob_Cost 65536 om_ W)
   rw [hco] at CC
   have HXL := hi_ hxl
   clear hxl hxr hco
   go_wp2_with fail
   refine (CC.out w3).mono ?_
   rintro e w4 ⟨rfl, rfl⟩
   clear CC
   by_cases hf0 : f = 0
   ·have hR : R = (⟨#[]⟩, 8) := by
     rw [HRR.out, hf0]
     unfold blobW
     rw [← HPG.out]
     rfl
    have h279 : (xs.length : Int) = 279 := by omega
    go_wp2_with fail
    rw [Exit.noGoto_ret]
    go_ret3
    exact ⟨⟨_, by rw [hR]; rfl⟩, W3.out.bel⟩
   ·have hne : ¬ (xs.length : Int) = 279 := by omega
    have hbl : (Lib.byteCells acc.data.toList).length + part.size ≤ 140737488355328 := by
     rw [Lib.byteCells_length]
     have h1 := HACC.out
     have h2 : part.size ≤ 240 := HPB.out.1
     have h3 : acc.data.toList.length = acc.size := rfl
     have h4 : (279 - f) * 240 ≤ 279 * 240 := Nat.mul_le_mul_right _ om_
     omega
    have HBL := hi_ hbl
    clear hbl
    go_wp2_with fail
    refine (bld_WriteString2 w.heap.size w.heap.size (Lib.byteCells acc.data.toList) part w3 W3.out.b HBL.out W3.out.bel.size).mono ?_
    rintro e w5 ⟨rfl, hB, hb, hst⟩
    rw [strCells_app, app_bytes] at hB
    have hbk : ∃ v : Value × Value, w3.heap[w.heap.size]? = some (.cells #[v.1, v.2] 233 (0, 0)) := by
     rcases W3.out.b with ⟨-, v, hb, -⟩ | ⟨-, v, hb, -⟩
     ·exact ⟨(_, v), hb⟩
     ·exact ⟨(_, v), hb⟩
    have R5 : Hid (Kd.R (Kd.int .i64) 3 w5 w.heap.size (fun _ => True) (.slice A xs.length cA) xs) := hi_ (Kd.R_of_own (PrintWords.own_move (Kd.own_of_R HXR.out) (fun k hk => by
     obtain ⟨cells, hc⟩ := PrintWords.own_typed (Kd.own_of_R HXR.out) k hk
     have hne : k ≠ w.heap.size := by
      rintro rfl
      obtain ⟨v, hv⟩ := hbk
      rw [hc] at hv
      simp at hv
     exact (hst.2 k _ hc hne (fun cs fz e => by simp at e)).trans hc.symm)) (fun _ _ => trivial))
    have HB5 := hi_ hB
    have hs5 := hi_ (Nat.le_trans W3.out.bel.size hb.size : w.heap.size ≤ w5.heap.size)
    have HW5 := hi_ (W3.out.bel.trans hb)
    have HLp := hi_ (show (xs.length + 1) * 8 ≤ 140737488355328 by omega)
    clear hB hb hst hbk W3
    by_cases hnx : next < 0
    ·go_wp2_with ((with_reducible refine gate_builtin (b := .append) (xs := #[.tmp 32, .tmp 34]) rfl ?_); at_builtin; refine Kd.R_append (Kd.int .i64) (w0 := w5) w.heap.size rfl (.tmp 32) (.tmp 34) 84 3 (.int .i64 0) 8 rfl Tryz.underlying84 PNd.info3 rfl (by decide) om_ (.slice A xs.length cA) _ nv [.int .i64 nv] (fun _ => True) (fun _ => False) rfl rfl rfl (fun _ hk => hk.elim) (fun _ _ => trivial) R5.out ((Below.refl w5.heap.size w5).mono hs5.out) hs5.out HLp.out ?_; intro y2 w6 ho2 hb2 hg2 hat2; have Q6 := hi_ ho2; have G6 := hi_ hg2; have B6 := hi_ hb2; clear ho2 hb2 hg2 hat2)
     have HBA : Hid (Lib.IsBuilder 233 5 w.heap.size w.heap.size (Lib.byteCells (acc ++ part).data.toList) w6) := hi_ (.inr (by
      obtain ⟨hB, v, hb, ho, hn⟩ := HB5.out
      have hlt5 := lt_of_heap hb
      have t1 : (Value.slice A xs.length cA).ownBlock ≠ some w.heap.size := fun hk => by
       obtain ⟨cells, hc⟩ := PrintWords.own_typed (Kd.own_of_R R5.out) _ hk
       rw [hb] at hc
       simp at hc
      exact ⟨hB, v, (G6.out.block _ hlt5 (fun e => t1 e.symm)).trans hb, PrintWords.own_move ho (fun k hk => G6.out.block k (PrintWords.own_lt ho k hk) (fun e => by
       obtain ⟨cells, hc⟩ := PrintWords.own_typed (Kd.own_of_R R5.out) _ e.symm
       obtain ⟨cells', hc'⟩ := PrintWords.own_typed ho k hk
       rw [hc] at hc'
       simp at hc')), hn⟩))
     have HBL6 : Hid (Below w.heap.size w w6) := hi_ (HW5.out.trans B6.out)
     refine (Tryz.Builder_String_any w.heap.size w.heap.size _ w6 HBA.out HBL6.out.size).mono ?_
     rintro e w7 ⟨rfl, hb⟩
     have hR : R = (acc ++ part, 0) := by
      rw [HRR.out]
      cases f with
      | zero => exact absurd rfl hf0
      | succ f =>
       unfold blobW
       rw [← HPG.out, if_neg (by simp), if_pos hnx]
     have HBL7 := hi_ (HBL6.out.trans hb)
     clear hb
     go_wp2_with fail
     rw [Exit.noGoto_ret]
     go_ret3
     refine ⟨⟨y2, ?_⟩, HBL7.out⟩
     rw [hR]
     have he : (⟨(acc.data.toList ++ part.data.toList).toArray⟩ : BA) = acc ++ part := by apply bytes_ext; rw [bytes_app]
     simp [← he]
    ·go_wp2_with ((with_reducible refine gate_builtin (b := .append) (xs := #[.tmp 32, .tmp 34]) rfl ?_); at_builtin; refine Kd.R_append (Kd.int .i64) (w0 := w5) w.heap.size rfl (.tmp 32) (.tmp 34) 84 3 (.int .i64 0) 8 rfl Tryz.underlying84 PNd.info3 rfl (by decide) om_ (.slice A xs.length cA) _ nv [.int .i64 nv] (fun _ => True) (fun _ => False) rfl rfl rfl (fun _ hk => hk.elim) (fun _ _ => trivial) R5.out ((Below.refl w5.heap.size w5).mono hs5.out) hs5.out HLp.out ?_; intro y2 w6 ho2 hb2 hg2 hat2; have Q6 := hi_ ho2; have G6 := hi_ hg2; have B6 := hi_ hb2; clear ho2 hb2 hg2 hat2)
     have HBA : Hid (Lib.IsBuilder 233 5 w.heap.size w.heap.size (Lib.byteCells (acc ++ part).data.toList) w6) := hi_ (.inr (by
      obtain ⟨hB, v, hb, ho, hn⟩ := HB5.out
      have hlt5 := lt_of_heap hb
      have t1 : (Value.slice A xs.length cA).ownBlock ≠ some w.heap.size := fun hk => by
       obtain ⟨cells, hc⟩ := PrintWords.own_typed (Kd.own_of_R R5.out) _ hk
       rw [hb] at hc
       simp at hc
      exact ⟨hB, v, (G6.out.block _ hlt5 (fun e => t1 e.symm)).trans hb, PrintWords.own_move ho (fun k hk => G6.out.block k (PrintWords.own_lt ho k hk) (fun e => by
       obtain ⟨cells, hc⟩ := PrintWords.own_typed (Kd.own_of_R R5.out) _ e.symm
       obtain ⟨cells', hc'⟩ := PrintWords.own_typed ho k hk
       rw [hc] at hc'
       simp at hc')), hn⟩))
     have hR : R = blobW P (f - 1) next (acc ++ part) := by
      rw [HRR.out]
      cases f with
      | zero => exact absurd rfl hf0
      | succ f =>
       rw [Nat.add_sub_cancel, blobW, ← HPG.out, if_neg (by simp), if_neg (show ¬ next < 0 by omega)]
     have hnb : -1 ≤ next ∧ next ≤ nv := by simpa using HPB.out.2
     have hnv := HNV.out
     have hlen2 : (acc ++ part).size ≤ (279 - (f - 1)) * 240 := by
      have h1 := HACC.out
      have h2 : part.size ≤ 240 := HPB.out.1
      have h3 : (279 - (f - 1)) * 240 = (279 - f) * 240 + 240 := by have := HF.out; rw [show 279 - (f - 1) = 279 - f + 1 from by omega, Nat.add_mul]
      rw [ByteArray.size_append]
      omega
     obtain ⟨A2, cA2, hl2⟩ := Kd.R_slice Q6.out
     refine ⟨⟨f - 1, next, acc ++ part, by have := HF.out; omega, rfl, ?_, hR, hlen2, hi_ ⟨HBA.out, ⟨_, ?_, Q6.out⟩, HW5.out.trans B6.out⟩⟩, ?_⟩
     ·omega
     ·have := HF.out; have := HXL.out; simp; omega
     ·rw [hl2]
      have := HF.out
      have := HXL.out
      simp [lenV]
      omega
  ·have hR : R = (⟨#[]⟩, er) := by
    rw [HRR.out]
    cases f with
    | zero => unfold blobW; rw [← HPG.out, if_pos her]
    | succ f => unfold blobW; rw [← HPG.out, if_pos her]
   go_wp2_with fail
   rw [Exit.noGoto_ret]
   go_ret3
   exact ⟨⟨_, by rw [hR]; rfl⟩, W3.out.bel⟩
/-- What Read says. -/
def blobR (P : List Pg) (n : Int) : BA × Int := blobW P 279 n ⟨#[]⟩
theorem blob_Read (w : World) (b : Nat) (L : Loc) (h : Nat) (D : Dk) (P : List Pg) (S : St w L b h D P) (up : D.down = false) (n : Int) (hn : -9223372036854775808 ≤ n ∧ n ≤ 9223372036854775807) :
  Calls Tryz.prog 124 #[.pointer (some ⟨b, 0, none⟩), .int .i64 n] w fun e w' => e = .returned (.tuple #[.string (blobR P n).1, .int .i64 (blobR P n).2]) ∧ Below w.heap.size w w' := by
 have CW := blob_walk w b L h D P S up n hn
 obtain ⟨R, hR⟩ : ∃ R, R = blobR P n := ⟨_, rfl⟩
 have hR' : blobW P 279 n ⟨#[]⟩ = R := hR.symm
 rw [hR'] at CW
 rw [← hR]
 have CW := hi_ CW
 obtain ⟨s, er⟩ := R
 clear hR hR' S
 go_enter Tryz.func124, Tryz.ntmps124
 go_wp2_with fail
 refine CW.out.mono ?_
 rintro e w1 ⟨⟨v, rfl⟩, hb⟩
 have B1 := hi_ hb
 clear hb CW
 go_wp2_with fail
 go_ret2
 exact ⟨rfl, B1.out⟩
end Go.Proofs.YtendgmblgdkiaaaGreat

namespace Go.Proofs.YtendgmblgdkiaaaGreat
open Go.RowKit
open Go.Proofs.YtendgmblgdkiaaaGreatW
open PrintWords PrintLast PrintMore
set_option linter.unusedVariables false
set_option linter.unusedSimpArgs false

/-- What a blob's value says behind its first byte: its page and its size. -/
def blobL (l : List UInt8) : Option (Nat × Nat) := match hd 0 l with
 | none => none
 | some (x, m) => if x ≤ 2147483647 then (match hd 0 (l.drop m) with
  | none => none
  | some (y, j) => if y ≤ 65536 ∧ m + j = l.length then some (x, y) else none) else none
theorem blob_say (s : BA) (hs : s.size ≤ 1000) : ∃ (a e1 b e2 e3 e4 : Int) (r1 r2 r3 : BA), PNd.varint_In_Num.f 3020 s 0 2147483647 = some (a, r1, e1) ∧ (0 ≤ a ∧ a ≤ 2147483647) ∧ PNd.varint_In_Num.f 3020 r1 e1 65536 = some (b, r2, e2) ∧ (0 ≤ b ∧ b ≤ 65536) ∧ PNd.varint_In_End.f r2 e2 = some (e3, r3, e4) ∧
  ((∃ x y : Nat, blobL s.data.toList = some (x, y) ∧ a = x ∧ b = y ∧ e3 = 0) ∨ (blobL s.data.toList = none ∧ e3 ≠ 0)) := by
 obtain ⟨g1, g2⟩ := in_num_hd s 2147483647 hs
 have hl : s.data.toList.length = s.size := rfl
 cases h : hd 0 s.data.toList with
 | none =>
  obtain ⟨d, hd', h3⟩ := g2 h
  have hd0 : d ≠ 0 := by omega
  exact ⟨0, d, 0, d, d, d, ⟨#[]⟩, ⟨#[]⟩, ⟨#[]⟩, h3, by omega, num_err _ _ _ _ hd0, by omega, end_nil d, .inr ⟨by unfold blobL; rw [h], hd0⟩⟩
 | some p =>
  obtain ⟨x, m⟩ := p
  have h3 := g1 x m h
  have h4 := hd_lt _ 0 x m om_ h
  by_cases hx : x ≤ 2147483647
  ·rw [if_pos hx] at h3
   have hr : (s.extract m s.size).size ≤ 1000 := by
    have := congrArg List.length (cut_list s m)
    have e : (s.extract m s.size).data.toList.length = (s.extract m s.size).size := rfl
    rw [List.length_drop] at this
    omega
   obtain ⟨f1, f2⟩ := in_num_hd (s.extract m s.size) 65536 hr
   rw [cut_list] at f1 f2
   cases h' : hd 0 (s.data.toList.drop m) with
   | none =>
    obtain ⟨d, hd', h5⟩ := f2 h'
    have hd0 : d ≠ 0 := by omega
    exact ⟨x, 0, 0, d, d, d, _, ⟨#[]⟩, ⟨#[]⟩, h3, by omega, h5, by omega, end_nil d, .inr ⟨by unfold blobL; simp only [h, if_pos hx, h'], hd0⟩⟩
   | some p =>
    obtain ⟨y, j⟩ := p
    have h5 := f1 y j h'
    have h6 := hd_lt _ 0 y j om_ h'
    rw [List.length_drop] at h6
    by_cases hy : y ≤ 65536
    ·rw [if_pos hy] at h5
     have he : ((s.extract m s.size).extract j (s.extract m s.size).size).data.toList = (s.data.toList.drop m).drop j := by rw [cut_list, cut_list]
     by_cases hj : m + j = s.data.toList.length
     ·refine ⟨x, 0, y, 0, 0, 0, _, _, ((s.extract m s.size).extract j (s.extract m s.size).size), h3, by omega, h5, by omega, ?_, .inl ⟨x, y, ?_, rfl, rfl, rfl⟩⟩
      ·unfold PNd.varint_In_End.f
       rw [if_pos]
       rw [ByteArray.toList_eq, he, List.drop_drop]
       exact List.drop_eq_nil_of_le om_
      ·unfold blobL
       simp only [h, if_pos hx, h']
       rw [if_pos ⟨hy, hj⟩]
     ·refine ⟨x, 0, y, 0, 3, 0, _, _, ((s.extract m s.size).extract j (s.extract m s.size).size), h3, by omega, h5, by omega, ?_, .inr ⟨?_, by omega⟩⟩
      ·unfold PNd.varint_In_End.f
       rw [if_neg]
       rw [ByteArray.toList_eq, he, List.drop_drop]
       intro hn
       have := congrArg List.length hn
       rw [List.length_drop, List.length_nil] at this
       omega
      ·unfold blobL
       simp only [h, if_pos hx, h']
       rw [if_neg (fun h => hj h.2)]
    ·rw [if_neg hy] at h5
     refine ⟨x, 0, 0, 4, 4, 4, _, ⟨#[]⟩, ⟨#[]⟩, h3, by omega, h5, by omega, end_nil 4, .inr ⟨?_, by omega⟩⟩
     unfold blobL
     simp only [h, if_pos hx, h']
     rw [if_neg (fun h => hy h.1)]
  ·rw [if_neg hx] at h3
   refine ⟨0, 4, 0, 4, 4, 4, ⟨#[]⟩, ⟨#[]⟩, ⟨#[]⟩, h3, by omega, num_err _ _ _ _ om_, by omega, end_nil 4, .inr ⟨?_, by omega⟩⟩
   unfold blobL
   simp only [h, if_neg hx]
theorem blobL_num (p n : Nat) (hp : p ≤ 2147483647) (hn : n ≤ 65536) : blobL (vNum p ++ vNum n).data.toList = some (p, n) := by
 have h2 : (128 : Nat) ^ 10 = 1180591620717411303424 := by decide
 have h1 := hd_num 10 p 0 (vNumL n) om_ om_ om_ om_ om_
 have h3 := hd_num 10 n 0 [] om_ om_ om_ om_ om_
 rw [List.append_nil] at h3
 unfold blobL
 rw [bytes_app, vNum_list, vNum_list, h1]
 simp only [if_pos hp, List.drop_left, h3, List.length_append]
 rw [if_pos ⟨hn, trivial⟩]
/-- What a blob at x of size y says. -/
def loadAt (P : List Pg) (x y : Nat) : BA × Int := if (blobR P x).2 ≠ 0 then (⟨#[]⟩, (blobR P x).2) else if (blobR P x).1.size ≠ y then (⟨#[]⟩, 8) else ((blobR P x).1, 0)
/-- What Load says of a value. -/
def loadB (P : List Pg) (v : BA) : BA × Int := if (cutPre v 105).2 = true then ((cutPre v 105).1, 0) else if (cutPre v 98).2 = true then (match blobL (cutPre v 98).1.data.toList with
 | none => (⟨#[]⟩, 8)
 | some (x, y) => loadAt P x y) else (⟨#[]⟩, 8)
theorem cutPre_le (s : BA) (c : UInt8) : (cutPre s c).1.size ≤ s.size := by
 unfold cutPre
 split
 ·rw [ByteArray.size_extract]; omega
 ·exact Nat.le_refl _
set_option maxRecDepth 100000 in
theorem int_Load (w : World) (b : Nat) (L : Loc) (h : Nat) (D : Dk) (P : List Pg) (S : St w L b h D P) (up : D.down = false) (v : BA) (hv : v.size ≤ 900) :
  Calls Tryz.prog 63 #[.pointer (some ⟨b, 0, none⟩), .string v] w fun e w' => e = .returned (.tuple #[.string (loadB P v).1, .int .i64 (loadB P v).2]) ∧ Below w.heap.size w w' := by
 obtain ⟨R, hR⟩ : ∃ R, R = loadB P v := ⟨_, rfl⟩
 rw [← hR]
 have HR := hi_ hR
 clear hR
 have CI := hi_ (fun W => lib_CutPrefix v 105 W om_)
 have CB := hi_ (fun W => lib_CutPrefix v 98 W om_)
 have hsz := cutPre_le v 98
 unfold loadB at HR
 generalize cutPre v 105 = p0 at *
 generalize cutPre v 98 = p1 at *
 obtain ⟨x0, q0⟩ := p0
 obtain ⟨rest, q⟩ := p1
 have hsz : rest.size ≤ 900 := Nat.le_trans hsz hv
 simp only at HR
 cases q0 with
 | true =>
  clear CB hsz
  go_enter Tryz.func63, Tryz.ntmps63
  go_wp2_with fail
  refine (CI.out w).mono ?_
  rintro e w1 ⟨rfl, rfl⟩
  clear CI
  go_wp2_with fail
  go_ret2
  have e : R = (x0, 0) := by rw [HR.out]; simp
  rw [e]
  exact ⟨rfl, Below.refl _ _⟩
 | false =>
  obtain ⟨a, e1, y, e2, e3, e4, r1, r2, r3, h1, ha, h2, hb, h3, hc⟩ := blob_say rest om_
  have H1 := hi_ h1
  have H2 := hi_ h2
  have H3 := hi_ h3
  have HA := hi_ ha
  have hwa : IntKind.i64.wrap a = a := by rw [IntKind.wrap_i64]; omega
  have hwb : IntKind.i64.wrap y = y := by rw [IntKind.wrap_i64]; omega
  have HC := hi_ hc
  have HS := hi_ S
  have HU := hi_ up
  clear h1 h2 h3 hc ha S up hsz hv
  go_enter Tryz.func63, Tryz.ntmps63
  go_wp2_with fail
  refine (CI.out w).mono ?_
  rintro e w0 ⟨rfl, rfl⟩
  clear CI
  go_wp2_with fail
  refine (CB.out w).mono ?_
  rintro e w0 ⟨rfl, rfl⟩
  clear CB
  go_wp2_with fail
  refine (PNd.varint_Of.calls rest rest 0 w w (Below.refl _ _) rfl).mono ?_
  rintro e w1 ⟨g, rfl, hI, hB, -⟩
  have I1 := hi_ hI
  have B1 := hi_ hB
  clear hI hB
  go_wp2_with fail
  refine (PNd.varint_In_Num.calls 3020 g rest 0 2147483647 a r1 e1 w w1 I1.out B1.out H1.out).mono ?_
  rintro e w2 ⟨rfl, hI, hB, -⟩
  have I2 := hi_ hI
  have B2 := hi_ hB
  clear hI hB I1 B1
  go_wp2_with fail
  refine (PNd.varint_In_Num.calls 3020 g r1 e1 65536 y r2 e2 w w2 I2.out B2.out H2.out).mono ?_
  rintro e w3 ⟨rfl, hI, hB, -⟩
  have I3 := hi_ hI
  have B3 := hi_ hB
  clear hI hB I2 B2
  cases q with
  | false =>
   go_wp2_with fail
   go_ret2
   have e : R = (⟨#[]⟩, 8) := by rw [HR.out]; simp
   rw [e]
   exact ⟨rfl, B3.out⟩
  | true =>
   have HR2 : Hid (R = match blobL rest.data.toList with | none => (⟨#[]⟩, 8) | some (x, y) => loadAt P x y) := hi_ (by rw [HR.out]; simp)
   clear HR
   have HR := HR2
   clear HR2
   go_wp2_with fail
   refine (PNd.varint_In_End.calls g r2 e2 e3 r3 e4 w w3 I3.out B3.out H3.out).mono ?_
   rintro e w4 ⟨rfl, hI, hB, -⟩
   have B4 := hi_ hB
   clear hI hB I3 B3
   rcases HC.out with ⟨x, z, hbl, hax, hyz, he⟩ | ⟨hbl, he⟩
   ·rw [hbl] at HR
    simp only at HR
    subst he
    have HAX := hi_ hax
    have HYZ := hi_ hyz
    have CR := blob_Read w4 b L h D P (HS.out.below B4.out) HU.out a (by have := HA.out; omega)
    rw [hax] at CR
    unfold loadAt at HR
    generalize blobR P (x : Int) = q at *
    obtain ⟨s, er⟩ := q
    simp only at CR HR
    have CR := hi_ CR
    clear hbl hyz HC
    rw [hax]
    clear hax
    rw [HYZ.out]
    go_wp2_with fail
    refine CR.out.mono ?_
    rintro e w5 ⟨rfl, hb⟩
    have B5 := hi_ (B4.out.trans (hb.mono B4.out.size))
    clear hb CR B4
    by_cases her : er = 0
    ·subst her
     by_cases hsz : s.size = z
     ·have hsz' : (s.size : Int) = (z : Int) := by omega
      go_wp2_with fail
      go_ret2
      have e : R = (s, 0) := by rw [HR.out]; simp [hsz]
      rw [e]
      exact ⟨rfl, B5.out⟩
     ·have hsz' : ¬ (s.size : Int) = (z : Int) := by omega
      go_wp2_with fail
      go_ret2
      have e : R = (⟨#[]⟩, 8) := by rw [HR.out]; simp [hsz]
      rw [e]
      exact ⟨rfl, B5.out⟩
    ·go_wp2_with fail
     go_ret2
     have e : R = (⟨#[]⟩, er) := by rw [HR.out]; simp [her]
     rw [e]
     exact ⟨rfl, B5.out⟩
   ·rw [hbl] at HR
    simp only at HR
    go_wp2_with fail
    go_ret2
    have e : R = (⟨#[]⟩, 8) := HR.out
    rw [e]
    exact ⟨rfl, B4.out⟩
end Go.Proofs.YtendgmblgdkiaaaGreat

namespace Go.Proofs.YtendgmblgdkiaaaGreat
open Go.RowKit
open Go.Proofs.YtendgmblgdkiaaaGreatW
open PrintWords PrintLast PrintMore
set_option linter.unusedVariables false
set_option linter.unusedSimpArgs false

theorem St.drewN {w : World} {L : Loc} {b h : Nat} {D : Dk} {P : List Pg} (S : St w L b h D P) (m : Nat) : St (w.drewN m) L b h D P := S.below (below_drewN (Below.refl _ _) m)
theorem ValM.below {m : Nat} {W w' w'' : World} {b : Nat} {L : Loc} {h : Nat} {D : Dk} {P : List Pg} {D' : Dk} {P' : List Pg} (V : ValM m W w' b L h D P D' P') (k : Below w'.heap.size w' w'') : ValM m W w'' b L h D P D' P' :=
 ⟨V.st.below k, V.live, V.app, V.most, V.keep.andThen (Keep.below (F := fun k => L.foot k ∨ k = b) k) (fun _ _ h => h)⟩
set_option maxRecDepth 100000 in
theorem blob_Write_full (w : World) (b : Nat) (L : Loc) (h : Nat) (D : Dk) (P : List Pg) (S : St w L b h D P) (s : BA) (hs : s.size ≤ 65536) (hr : D.room < P.length + costN s.size) :
  Calls Tryz.prog 123 #[.pointer (some ⟨b, 0, none⟩), .string s] w fun e w' => e = .returned (.tuple #[.int .i64 (-1), .int .i64 5]) ∧ Below w.heap.size w w' := by
 have hrl := room_le S.d.ok
 obtain ⟨c, hc⟩ : ∃ c, c = costN s.size := ⟨_, rfl⟩
 have CC := hi_ (fun W => blob_Cost s.size om_ W)
 rw [← hc] at CC hr
 have hs1 : ¬ (65536 : Int) < (s.size : Int) := by omega
 have hpr := S.room
 have CF := pages_Free w b L D h P.length S.p S.d om_
 obtain ⟨fr, hfr⟩ : ∃ fr : Int, fr = ((D.room - P.length : Nat) : Int) := ⟨_, rfl⟩
 rw [← hfr] at CF
 have hfc : fr < (c : Int) := by omega
 have CF := hi_ CF
 clear S hs hc hr hrl hpr hfr
 go_enter Tryz.func123, Tryz.ntmps123
 go_wp2_with fail
 refine (CC.out w).mono ?_
 rintro e w1 ⟨rfl, rfl⟩
 clear CC
 go_wp2_with fail
 refine CF.out.mono ?_
 rintro e w1 ⟨rfl, m, rfl⟩
 clear CF
 go_wp2_with fail
 go_ret2
 exact ⟨rfl, below_drewN (Below.refl _ _) m⟩
theorem besB_size (p n : Nat) (hp : p ≤ 2147483647) (hn : n ≤ 65536) : (besB p n).size ≤ 32 := by
 have z1 := vNum_le (x := p) om_
 have z2 := vNum_le (x := n) om_
 unfold besB
 rw [ByteArray.size_append, ByteArray.size_append]
 have : (⟨#[98]⟩ : BA).size = 1 := rfl
 omega
set_option maxRecDepth 100000 in
theorem int_Value_b (w : World) (b : Nat) (L : Loc) (h : Nat) (D : Dk) (P : List Pg) (S : St w L b h D P) (lv : D.Live) (s : BA) (hs1 : 31 < s.size) (hs : s.size ≤ 65536) (c : Nat) (hc : c = costN s.size) (hr : P.length + c ≤ D.room) :
  Calls Tryz.prog 62 #[.pointer (some ⟨b, 0, none⟩), .string s] w fun e w' => e = .returned (.tuple #[.string (besB (P.length + c - 1) s.size), .int .i64 0]) ∧ ∃ D1, ValM c w w' b L h D P D1 (P ++ pgsB P.length (partB s c) c) := by
 have hrl := room_le S.d.ok
 have CW := hi_ (blob_Write w b L h D P S lv s hs c hc hr)
 have CB := hi_ (fun W => int_Beside (P.length + c - 1) s.size om_ hs W)
 have h0 : ¬ (s.size : Int) ≤ 31 := by omega
 clear S lv hs1 hs hc hr hrl
 go_enter Tryz.func62, Tryz.ntmps62
 go_wp2_with fail
 refine CW.out.mono ?_
 rintro e w1 ⟨rfl, D1, VM⟩
 have V1 := hi_ VM
 clear VM CW
 go_wp2_with fail
 refine (CB.out w1).mono ?_
 rintro e w2 ⟨rfl, hb⟩
 have V2 := hi_ (V1.out.below hb)
 clear hb V1 CB
 go_wp2_with fail
 go_ret2
 exact ⟨rfl, D1, V2.out⟩
set_option maxRecDepth 100000 in
theorem int_Value_full (w : World) (b : Nat) (L : Loc) (h : Nat) (D : Dk) (P : List Pg) (S : St w L b h D P) (s : BA) (hs1 : 31 < s.size) (hs : s.size ≤ 65536) (hr : D.room < P.length + costN s.size) :
  Calls Tryz.prog 62 #[.pointer (some ⟨b, 0, none⟩), .string s] w fun e w' => e = .returned (.tuple #[.string ⟨#[]⟩, .int .i64 5]) ∧ Below w.heap.size w w' := by
 have CW := hi_ (blob_Write_full w b L h D P S s hs hr)
 have h0 : ¬ (s.size : Int) ≤ 31 := by omega
 clear S hs1 hs hr
 go_enter Tryz.func62, Tryz.ntmps62
 go_wp2_with fail
 refine CW.out.mono ?_
 rintro e w1 ⟨rfl, hb⟩
 have B1 := hi_ hb
 clear hb CW
 go_wp2_with fail
 go_ret2
 exact ⟨rfl, B1.out⟩
/-- How many pages a text's value takes. -/
def valC (s : BA) : Nat := if s.size ≤ 31 then 0 else costN s.size
/-- The value of a text behind so many pages. -/
def valOf (n : Nat) (s : BA) : BA := if s.size ≤ 31 then valIn s else besB (n + costN s.size - 1) s.size
/-- What stands for a text. -/
def VLa (P : List Pg) (v s : BA) : Prop := s.size ≤ 65536 ∧ ∃ base, v = valOf base s ∧ base + valC s ≤ 40000 ∧ ∀ i, i < valC s → P[base + i]? = some (blobPg base i (partB s (costN s.size) i))
theorem valOf_ok {n : Nat} {s : BA} (hn : n + valC s ≤ 40000) (hs : s.size ≤ 65536) : valOk (valOf n s) = true := by
 unfold valOf
 unfold valC at hn
 split
 ·next h => exact valIn_ok h
 ·next h => rw [if_neg h] at hn; exact decide_eq_true (besB_size _ _ om_ hs)
theorem cutPre_no {c : UInt8} {s : BA} (h : Lib.hasPrefix s.data.toList [c] = false) : cutPre s c = (s, false) := by
 unfold cutPre
 rw [h]
 rfl
theorem load_in (P : List Pg) (s : BA) : loadB P (valIn s) = (s, 0) := by
 unfold loadB
 have e : cutPre (valIn s) 105 = (s, true) := cutPre_own 105 s
 rw [e]
 rfl
theorem load_b (P : List Pg) (t : BA) {x y : Nat} (h : blobL t.data.toList = some (x, y)) : loadB P ((⟨#[98]⟩ : BA) ++ t) = loadAt P x y := by
 unfold loadB
 have e1 : cutPre ((⟨#[98]⟩ : BA) ++ t) 105 = ((⟨#[98]⟩ : BA) ++ t, false) := cutPre_no (by rw [bytes_app]; rfl)
 have e2 : cutPre ((⟨#[98]⟩ : BA) ++ t) 98 = (t, true) := cutPre_own 98 t
 rw [e1, e2]
 simp only [h]
 rfl
theorem VLa.load {P : List Pg} {v s : BA} (H : VLa P v s) : loadB P v = (s, 0) ∧ v.size ≤ 900 := by
 obtain ⟨hs, base, rfl, hb, hp⟩ := H
 have hk := valOf_ok hb hs
 have hk2 : (valOf base s).size ≤ 32 := of_decide_eq_true hk
 refine ⟨?_, by omega⟩
 unfold valOf
 unfold valC at hb hp
 by_cases h : s.size ≤ 31
 ·rw [if_pos h]
  exact load_in P s
 ·rw [if_neg h] at hb hp ⊢
  obtain ⟨k1, k2, k3⟩ := cost_le s.size
  have hc : costN s.size ≤ 279 := by unfold costN; omega
  have e : besB (base + costN s.size - 1) s.size = (⟨#[98]⟩ : BA) ++ (vNum (base + costN s.size - 1) ++ vNum s.size) := ByteArray.append_assoc
  rw [e, load_b P _ (blobL_num _ _ (by omega) hs)]
  have hr : blobR P ((base + costN s.size - 1 : Nat) : Int) = (s, 0) := by
   unfold blobR
   rw [show base + costN s.size - 1 = base + (costN s.size - 1) from by omega, blobW_chain P base (partB s (costN s.size)) (costN s.size - 1) 279 ⟨#[]⟩ (by omega) (by omega) (fun i hi => hp i (by omega)), catP_all]
   congr 1
  unfold loadAt
  rw [hr]
  simp
theorem VLa.pre {P X : List Pg} {v s : BA} (H : VLa P v s) : VLa (P ++ X) v s := by
 obtain ⟨hs, base, hv, hb, hp⟩ := H
 refine ⟨hs, base, hv, hb, fun i hi => ?_⟩
 have h := hp i hi
 obtain ⟨hl, -⟩ := List.getElem?_eq_some_iff.1 h
 rw [List.getElem?_append_left hl]
 exact h
theorem vals_all (L : Loc) (b h : Nat) : Vals L b h VLa :=
 ⟨fun W D P v s S up hv => by
  obtain ⟨e, hz⟩ := hv.load
  have := int_Load W b L h D P S up v hz
  rw [e] at this
  exact this, fun P X v s h => h.pre⟩
/-- Value where there is room. -/
theorem int_Value (w : World) (b : Nat) (L : Loc) (h : Nat) (D : Dk) (P : List Pg) (S : St w L b h D P) (lv : D.Live) (s : BA) (hs : s.size ≤ 65536) (hr : P.length + valC s ≤ D.room) :
  Calls Tryz.prog 62 #[.pointer (some ⟨b, 0, none⟩), .string s] w fun e w' => e = .returned (.tuple #[.string (valOf P.length s), .int .i64 0]) ∧ ∃ D1 P1, ValM (valC s) w w' b L h D P D1 P1 ∧ VLa P1 (valOf P.length s) s := by
 have hrl := room_le S.d.ok
 by_cases h : s.size ≤ 31
 ·have hc : valC s = 0 := if_pos h
  have ho : valOf P.length s = valIn s := if_pos h
  rw [hc, ho]
  refine (int_Value_in b s w h).mono ?_
  rintro e w' ⟨rfl, rfl⟩
  exact ⟨rfl, D, P, ⟨S, lv, AppOk.refl S.room S.holds, rfl, Keep.below (Below.refl _ _)⟩, hs, P.length, ho.symm, by omega, fun i hi => by omega⟩
 ·have hc : valC s = costN s.size := if_neg h
  have ho : valOf P.length s = besB (P.length + costN s.size - 1) s.size := if_neg h
  rw [hc] at hr
  rw [hc, ho]
  refine (int_Value_b w b L _ D P S lv s om_ hs (costN s.size) rfl hr).mono ?_
  rintro e w' ⟨rfl, D1, V⟩
  refine ⟨rfl, D1, _, V, hs, P.length, ho.symm, by omega, fun i hi => ?_⟩
  rw [List.getElem?_append_right (by omega), Nat.add_sub_cancel_left]
  exact pgsB_at _ _ om_
end Go.Proofs.YtendgmblgdkiaaaGreat

namespace Go.Proofs.YtendgmblgdkiaaaGreat
open Go.RowKit
open Go.Proofs.YtendgmblgdkiaaaGreatW
open PrintWords PrintLast PrintMore
set_option linter.unusedVariables false
set_option linter.unusedSimpArgs false

theorem sumOf_u32 (s : BA) : 0 ≤ sumOf s ∧ sumOf s < 4294967296 := by
 unfold sumOf
 have := (crcOf s.data.toList).isLt
 omega
theorem four_inj2 {a b : Int} (ha : 0 ≤ a ∧ a < 4294967296) (hb : 0 ≤ b ∧ b < 4294967296) (h : four a = four b) : a = b := by
 have h := congrArg (fun x : BA => x.data.toList.map UInt8.toNat) h
 simp only [four, strOfNums_data, List.map_cons, List.map_nil, List.cons.injEq, and_true, UInt8.toNat_ofNat'] at h
 obtain ⟨h1, h2, h3, h4⟩ := h
 omega
/-- The kept texts of one sum. -/
def flt (s : Int) (ks : List BA) : List BA := ks.filter fun y => decide (sumOf y = s)
theorem flt_app (s : Int) (ks : List BA) (x : BA) : flt s (ks ++ [x]) = flt s ks ++ (if sumOf x = s then [x] else []) := by
 unfold flt
 rw [List.filter_append]
 congr 1
 by_cases h : sumOf x = s <;> simp [h]
theorem flt_len (s : Int) (ks : List BA) : (flt s ks).length ≤ ks.length := List.length_filter_le _ _
theorem flt_mem {s : Int} {ks : List BA} {y : BA} (h : y ∈ flt s ks) : y ∈ ks ∧ sumOf y = s := by
 unfold flt at h
 rw [List.mem_filter] at h
 exact ⟨h.1, of_decide_eq_true h.2⟩
/-- Just these texts are kept. -/
def KsIn (P : List Pg) (ks : List BA) (kvs : List KV) : Prop := ∀ s : Int, (0 ≤ s ∧ s < 4294967296) → OneSum VLa P s (fun n => (flt s ks)[n]?) kvs
theorem KsIn.nil (P : List Pg) : KsIn P [] [] := fun s _ => ⟨fun _ _ _ v h => (by cases h), fun n x _ h => (by simp [flt] at h)⟩
theorem KsIn.put {P X : List Pg} {ks : List BA} {kvs : List KV} {v x : BA} (K : KsIn P ks kvs) (hn : ks.length < 256) (hv : VLa (P ++ X) v x) : KsIn (P ++ X) (ks ++ [x]) (ed (keyOf (sumOf x) (flt (sumOf x) ks).length) (some v) kvs) := by
 intro s hs
 have hl := flt_len (sumOf x) ks
 have hkey : ∀ n, n < 256 → keyOf s n = keyOf (sumOf x) (flt (sumOf x) ks).length → s = sumOf x ∧ n = (flt (sumOf x) ks).length := fun n hn h => by
  obtain ⟨h1, h2⟩ := keyOf_inj hn om_ h
  exact ⟨four_inj2 hs (sumOf_u32 x) h1, h2⟩
 constructor
 ·intro n hn hf u hm
  rw [flt_app] at hf
  rcases mem_ed.1 hm with h | ⟨h, -⟩
  ·simp only [Prod.mk.injEq] at h
   obtain ⟨rfl, rfl⟩ := hkey n hn h.1
   rw [if_pos rfl] at hf
   simp at hf
  ·refine (K s hs).no n hn ?_ u h
   rw [List.getElem?_eq_none_iff] at hf ⊢
   rw [List.length_append] at hf
   omega
 ·intro n y hn hf
  rw [flt_app] at hf
  by_cases hk : s = sumOf x ∧ n = (flt (sumOf x) ks).length
  ·obtain ⟨rfl, rfl⟩ := hk
   rw [if_pos rfl] at hf
   simp at hf
   subst hf
   exact ⟨v, mem_ed.2 (.inl rfl), hv⟩
  ·have hf' : (flt s ks)[n]? = some y := by
    by_cases hsx : sumOf x = s
    ·rw [if_pos hsx] at hf
     have hlt := (List.getElem?_eq_some_iff.1 hf).1
     rw [List.length_append, List.length_singleton] at hlt
     subst hsx
     have hn2 : n ≠ (flt (sumOf x) ks).length := fun h => hk ⟨rfl, h⟩
     rwa [List.getElem?_append_left (by omega)] at hf
    ·rw [if_neg hsx, List.append_nil] at hf
     exact hf
   obtain ⟨u, h1, h2⟩ := (K s hs).yes n y hn hf'
   exact ⟨u, mem_ed.2 (.inr ⟨h1, fun h => hk (hkey n hn h)⟩), h2.pre⟩
theorem KsIn.pre {P X : List Pg} {ks : List BA} {kvs : List KV} (K : KsIn P ks kvs) : KsIn (P ++ X) ks kvs := fun s hs => ⟨(K s hs).no, fun n x hn h => by
 obtain ⟨v, h1, h2⟩ := (K s hs).yes n x hn h
 exact ⟨v, h1, h2.pre⟩⟩
/-- The place of the i-th text. -/
def rankK (ks : List BA) (i : Nat) (x : BA) : Nat := (flt (sumOf x) (ks.take i)).length
theorem rank_at {ks : List BA} {i : Nat} {x : BA} (h : ks[i]? = some x) : (flt (sumOf x) ks)[rankK ks i x]? = some x ∧ rankK ks i x < ks.length := by
 obtain ⟨hi, hx⟩ := List.getElem?_eq_some_iff.1 h
 have e : ks = ks.take i ++ (x :: ks.drop (i + 1)) := by
  rw [← hx, ← List.drop_eq_getElem_cons hi, List.take_append_drop]
 have h2 : flt (sumOf x) ks = flt (sumOf x) (ks.take i) ++ (x :: flt (sumOf x) (ks.drop (i + 1))) := by
  conv => lhs; rw [e]
  unfold flt
  rw [List.filter_append]
  simp
 unfold rankK
 refine ⟨by rw [h2]; simp, ?_⟩
 have h3 := flt_len (sumOf x) (ks.take i)
 rw [List.length_take] at h3
 omega
theorem rank_first {ks : List BA} {i : Nat} {x : BA} (hd : ks.Nodup) (h : ks[i]? = some x) {k : Nat} (hk : k < rankK ks i x) : ∃ y, (flt (sumOf x) ks)[k]? = some y ∧ y ≠ x := by
 obtain ⟨hi, hx⟩ := List.getElem?_eq_some_iff.1 h
 have e : ks = ks.take i ++ (x :: ks.drop (i + 1)) := by
  rw [← hx, ← List.drop_eq_getElem_cons hi, List.take_append_drop]
 have h2 : flt (sumOf x) ks = flt (sumOf x) (ks.take i) ++ (x :: flt (sumOf x) (ks.drop (i + 1))) := by
  conv => lhs; rw [e]
  unfold flt
  rw [List.filter_append]
  simp
 unfold rankK at hk
 refine ⟨(flt (sumOf x) (ks.take i))[k], ?_, fun hy => ?_⟩
 ·rw [h2, List.getElem?_append_left hk]
  exact List.getElem?_eq_getElem hk
 ·have hm := (flt_mem (List.getElem_mem hk)).1
  rw [hy] at hm
  rw [e, List.nodup_append] at hd
  exact hd.2.2 x hm x (by simp) rfl
end Go.Proofs.YtendgmblgdkiaaaGreat

namespace Go.Proofs.YtendgmblgdkiaaaGreat
open Go.RowKit
open Go.Proofs.YtendgmblgdkiaaaGreatW
open PrintWords PrintLast PrintMore
set_option linter.unusedVariables false
set_option linter.unusedSimpArgs false

/-- Where there is no room: nothing is otherwise but what lies behind the pages. -/
structure FullM (w w' : World) (t b : Nat) (L : Loc) (h : Nat) (D : Dk) (P : List Pg) (r : Rt) (D' : Dk) : Prop where
 ts : TS w.heap.size w' t b L h D' P r
 live : D'.Live
 room : D'.room = D.room
 keep : Keep (fun k => (L.foot k ∨ k = b) ∨ k = t) w w'
theorem Wr.drop {h : Nat} {D D' : Dk} {P X : List Pg} (H : Wr (fun s => ∃ j, (P ++ X).length ≤ j ∧ s = D.sector h j) D D') : Wr (fun s => ∃ j, P.length ≤ j ∧ s = D.sector h j) D D' := H.mono fun s ⟨j, hj, hs⟩ => ⟨j, by rw [List.length_append] at hj; omega, hs⟩
set_option maxHeartbeats 2000000 in
set_option maxRecDepth 100000 in
theorem int_keep2 (w : World) (t b : Nat) (L : Loc) (h : Nat) (D : Dk) (P : List Pg) (r : Rt) (S : St w L b h D P) (T : TreeAt w t b r) (lv : D.Live) (kvs : List KV) (C : TreeC P r kvs) (hct : kvs.length ≤ 100000000) (s : Int) (n : Nat) (x : BA) (hx : x.size ≤ 65536) :
  Calls Tryz.prog 116 #[.pointer (some ⟨t, 0, none⟩), .pointer (some ⟨b, 0, none⟩), .agg #[.int .u32 s, .int .i64 (n : Int)], .string x] w fun e w' =>
   (e = .returned (.tuple #[.agg #[.int .u32 s, .int .i64 (n : Int)], .bool true, .int .i64 0]) ∧ ∃ D' P' r', DoneM (valC x) w w' t b L h D P r D' P' r' (ed (keyOf s n) (some (valOf P.length x)) kvs) ∧ P.length < P'.length ∧ VLa P' (valOf P.length x) x) ∨
   (e = .returned (.tuple #[.agg #[.int .u32 0, .int .i64 0], .bool false, .int .i64 5]) ∧ D.room < P.length + valC x + 2 * r.height + 1 ∧ ∃ D', FullM w w' t b L h D P r D') := by
 obtain ⟨Q, hQ⟩ : ∃ Q : Ending → World → Prop, Q = fun e w' =>
   (e = .returned (.tuple #[.agg #[.int .u32 s, .int .i64 (n : Int)], .bool true, .int .i64 0]) ∧ ∃ D' P' r', DoneM (valC x) w w' t b L h D P r D' P' r' (ed (keyOf s n) (some (valOf P.length x)) kvs) ∧ P.length < P'.length ∧ VLa P' (valOf P.length x) x) ∨
   (e = .returned (.tuple #[.agg #[.int .u32 0, .int .i64 0], .bool false, .int .i64 5]) ∧ D.room < P.length + valC x + 2 * r.height + 1 ∧ ∃ D', FullM w w' t b L h D P r D') := ⟨_, rfl⟩
 rw [← hQ]
 have HQ := hi_ hQ
 have HS := hi_ S
 have HT := hi_ T
 have HLV := hi_ lv
 have HC := hi_ C
 have HCT := hi_ hct
 have HX := hi_ hx
 have HH := hi_ ((C.low (m := 27) om_).1)
 clear hQ S T lv C hct hx
 go_enter Tryz.func116, Tryz.ntmps116
 go_wp2_with fail
 have X1 := hi_ (blk_alloc (blk_new w (.cells #[.int .u32 s, .int .i64 (n : Int)] 77 (0, 0))) (.cells #[.int .u32 0, .int .i64 0] 77 (0, 0)))
 have Y1 := hi_ (blk_new (w.alloc (.cells #[.int .u32 s, .int .i64 (n : Int)] 77 (0, 0))) (.cells #[.int .u32 0, .int .i64 0] 77 (0, 0)))
 have B1 := hi_ (below_alloc (below_alloc (Below.refl w.heap.size w) (.cells #[.int .u32 s, .int .i64 (n : Int)] 77 (0, 0))) (.cells #[.int .u32 0, .int .i64 0] 77 (0, 0)))
 simp only [World.size_alloc] at Y1
 generalize (w.alloc (.cells #[.int .u32 s, .int .i64 (n : Int)] 77 (0, 0))).alloc (.cells #[.int .u32 0, .int .i64 0] 77 (0, 0)) = w1 at *
 obtain ⟨z, hz⟩ : ∃ z, z = w.heap.size := ⟨_, rfl⟩
 rw [← hz] at X1 Y1 ⊢
 have HZ := hi_ hz
 clear hz
 have LO := hi_ (lo_of HS.out HT.out)
 refine (pages_Next w1 b L h P.length (HS.out.below B1.out).p).mono ?_
 rintro e w1 ⟨rfl, rfl⟩
 go_wp2_with fail
 by_cases hroom : P.length + valC x ≤ D.room
 ·have CV := hi_ (int_Value w1 b L h D P (HS.out.below B1.out) HLV.out x HX.out hroom)
  refine CV.out.mono ?_
  clear CV
  rintro e w2 ⟨rfl, D1, P1, VM, hvl⟩
  have HVL := hi_ hvl
  have HVO : Hid (valOk (valOf P.length x) = true) := hi_ (valOf_ok (by have := room_le HS.out.d.ok; omega) HX.out)
  obtain ⟨v, hv⟩ : ∃ v, v = valOf P.length x := ⟨_, rfl⟩
  rw [← hv] at HVL HVO HQ ⊢
  clear hvl hv
  have hF1 : ∀ k, (L.foot k ∨ k = b) → k < w.heap.size := fun k hk => LO.out.lo k hk
  have K2 := hi_ ((Keep.below (F := fun k => (L.foot k ∨ k = b) ∨ k = t) B1.out).andThen VM.keep (fun i _ hf => .inl hf))
  have X2 := hi_ (VM.keep.heap X1.out (fun hf => by have := hF1 _ hf; have := HZ.out; omega))
  have Y2 := hi_ (VM.keep.heap Y1.out (fun hf => by have := hF1 _ hf; have := HZ.out; omega))
  have T2 := hi_ (show TS w.heap.size w2 t b L h D1 P1 r from ⟨VM.st, (HT.out.below B1.out).keep VM.keep (fun hf => HT.out.foot HS.out hf), LO.out.lo, LO.out.tl⟩)
  have VM := hi_ VM
  have C2 := hi_ (show TreeC P1 r kvs by obtain ⟨Z, hZ⟩ := VM.out.app.pre; rw [hZ]; exact HC.out.pre)
  clear X1 Y1 B1 hF1
  have x0 := blk_cell X2.out 0
  have x1 := blk_cell X2.out 1
  go_wp2_with fail
  refine (ref_Key s n w2).mono ?_
  rintro e w3 ⟨rfl, hb⟩
  have K3 := hi_ (K2.out.andThen (G := fun _ => False) (Keep.below hb) (fun _ _ hf => hf.elim))
  have X3 := hi_ (blk_below X2.out hb)
  have Y3 := hi_ (blk_below Y2.out hb)
  have T3 := hi_ (T2.out.below hb)
  have hsz : Hid (w.heap.size ≤ w3.heap.size) := hi_ (by have := K3.out.size; omega)
  clear hb X2 Y2 K2 T2 x0 x1
  go_wp2_with fail
  refine (tree_Put0 w.heap.size w3 t b L h D1 P1 r (keyOf s n) v kvs hsz.out T3.out VM.out.live.1 C2.out (keyOf_ok s n) HVO.out (C2.out.small HCT.out) HCT.out).mono ?_
  rintro e w4 ⟨D2, P2, r2, T4, KP, hres⟩
  have hF2 : ∀ k, ((L.foot k ∨ k = b) ∨ k = t) → k < w.heap.size := fun k hk => by
   rcases hk with h | rfl
   ·exact LO.out.lo k h
   ·exact LO.out.tl
  have K4 := hi_ (K3.out.andThen KP (fun i _ hf => hf))
  have X4 := hi_ (KP.heap X3.out (fun hf => by have := hF2 _ hf; have := HZ.out; omega))
  have Y4 := hi_ (KP.heap Y3.out (fun hf => by have := hF2 _ hf; have := HZ.out; omega))
  have T4 := hi_ T4
  clear X3 Y3 K3 hF2 KP
  have x0 := blk_cell X4.out 0
  have x1 := blk_cell X4.out 1
  have y0 := blk_cell Y4.out 0
  have y1 := blk_cell Y4.out 1
  have f0 := blk_frozen Y4.out 0
  have f1 := blk_frozen Y4.out 1
  rcases hres with ⟨rfl, ha, hrc, hc, up, hle, hgr⟩ | ⟨er, rfl, rfl, rfl, hw, hres⟩
  ·have HP := hi_ (show TreeC P2 r2 (ed (keyOf s n) (some v) kvs) from ⟨hrc, by rw [hc, C2.out.count, ed_put_len C2.out.good.1], ed_good C2.out.good (keyOf_ok s n) (fun u e => by cases e; exact HVO.out)⟩)
   have HA := hi_ ha
   have HL := hi_ hle
   have HG := hi_ (hgr (by simp [ed]))
   clear ha hrc hc up hle hgr
   go_wp2_with fail
   have Z5 := blk_put (blk_put Y4.out 0 (.int .u32 s) rfl) 1 (.int .i64 (n : Int)) rfl
   have hnb : Keep (fun k => w.heap.size ≤ k) w4 ((w4.setCell ⟨z + 1, 0, none⟩ (.int .u32 s)).setCell ⟨z + 1, 1, none⟩ (.int .i64 (n : Int))) :=
    ((Keep.refl _ w4).setCell (p := ⟨z + 1, 0, none⟩) (.inl (by have := HZ.out; show w.heap.size ≤ z + 1; omega)) _).setCell (p := ⟨z + 1, 1, none⟩) (.inl (by have := HZ.out; show w.heap.size ≤ z + 1; omega)) _
   refine bodyPost_ret (PrintWords.results_list (rs := [.cell 8 77, .tmp 9, .tmp 10]) (vs := [.agg #[.int .u32 s, .int .i64 (n : Int)], .bool true, .int .i64 0]) rfl (by simp) (.cell (z + 1) 77 #[.int .u32 s, .int .i64 (n : Int)] (0, 0) _ rfl Z5 Tryz.underlying77 rfl kr_ (.tmp (.tmp .nil)))) rfl ?_
   have TS4 := TS.hi (B := w.heap.size) T4.out hnb
   obtain ⟨Z, hZ⟩ := HA.out.pre
   rw [HQ.out]
   exact .inl ⟨rfl, D2, P2, r2, ⟨TS4.st, TS4.tr, HP.out, HA.out.wr.live VM.out.live, VM.out.app.trans HA.out, by have := HL.out; have := VM.out.most; omega, K4.out.andThen hnb (fun i hi hf => by omega)⟩, by have := HG.out; have := VM.out.most; omega, by rw [hZ]; exact HVL.out.pre⟩
  ·have hlv := VM.out.live
   rcases hres with ⟨rfl, -, hrm⟩ | ⟨-, -, hno⟩
   rotate_left
   ·exact absurd hlv hno
   have HRM := hi_ (show D.room < P.length + valC x + 2 * r2.height + 1 ∧ D2.room = D.room by have := hw.room; have := VM.out.app.wr.room; have := VM.out.most; omega)
   have HLV2 := hi_ (hw.live hlv)
   clear hw hrm hlv
   go_wp2_with fail
   refine (cut_back (P := P) T4.out VM.out.app.pre).mono ?_
   rintro e w5 ⟨⟨vb, rfl⟩, T5, KC⟩
   have hF2 : ∀ k, (L.foot k ∨ k = b) → k < w.heap.size := fun k hk => LO.out.lo k hk
   have K5 := hi_ (K4.out.andThen KC (fun i _ hf => .inl hf))
   have Y5 := hi_ (KC.heap Y4.out (fun hf => by have := hF2 _ hf; have := HZ.out; omega))
   have T5 := hi_ T5
   clear KC hF2 X4 Y4 K4 x0 x1 y0 y1 f0 f1 T4
   have y0 := blk_cell Y5.out 0
   have y1 := blk_cell Y5.out 1
   have f0 := blk_frozen Y5.out 0
   have f1 := blk_frozen Y5.out 1
   go_wp2_with fail
   have Z6 := blk_put (blk_put Y5.out 0 (.int .u32 0) rfl) 1 (.int .i64 0) rfl
   have hnb : Keep (fun k => w.heap.size ≤ k) w5 ((w5.setCell ⟨z + 1, 0, none⟩ (.int .u32 0)).setCell ⟨z + 1, 1, none⟩ (.int .i64 0)) :=
    ((Keep.refl _ w5).setCell (p := ⟨z + 1, 0, none⟩) (.inl (by have := HZ.out; show w.heap.size ≤ z + 1; omega)) _).setCell (p := ⟨z + 1, 1, none⟩) (.inl (by have := HZ.out; show w.heap.size ≤ z + 1; omega)) _
   refine bodyPost_ret (PrintWords.results_list (rs := [.cell 8 77, .tmp 9, .tmp 10]) (vs := [.agg #[.int .u32 0, .int .i64 0], .bool false, .int .i64 5]) rfl (by simp) (.cell (z + 1) 77 #[.int .u32 0, .int .i64 0] (0, 0) _ rfl Z6 Tryz.underlying77 rfl kr_ (.tmp (.tmp .nil)))) rfl ?_
   rw [HQ.out]
   exact .inr ⟨rfl, HRM.out.1, D2, TS.hi (B := w.heap.size) T5.out hnb, HLV2.out, HRM.out.2, K5.out.andThen hnb (fun i hi hf => by omega)⟩
 ·have hsz : 31 < x.size := by
   rcases Nat.lt_or_ge 31 x.size with h | h
   ·exact h
   ·exfalso
    have := HS.out.room
    unfold valC at hroom
    rw [if_pos h] at hroom
    omega
  have hvc : valC x = costN x.size := if_neg om_
  have CV := hi_ (int_Value_full w1 b L h D P (HS.out.below B1.out) x hsz HX.out om_)
  have HRM := hi_ (show D.room < P.length + valC x + 2 * r.height + 1 by have := HH.out; omega)
  clear hroom hsz hvc
  refine CV.out.mono ?_
  clear CV
  rintro e w2 ⟨rfl, hb⟩
  have B2 := hi_ (below_then B1.out B1.out.size hb)
  have X2 := hi_ (blk_below X1.out hb)
  have Y2 := hi_ (blk_below Y1.out hb)
  have T2 := hi_ (LO.out.below B2.out)
  clear hb X1 Y1 B1
  go_wp2_with fail
  refine (cut_back (P := P) T2.out ⟨[], by simp⟩).mono ?_
  rintro e w5 ⟨⟨vb, rfl⟩, T5, KC⟩
  have hF2 : ∀ k, (L.foot k ∨ k = b) → k < w.heap.size := fun k hk => LO.out.lo k hk
  have K5 := hi_ ((Keep.below (F := fun k => (L.foot k ∨ k = b) ∨ k = t) B2.out).andThen KC (fun i _ hf => .inl hf))
  have Y5 := hi_ (KC.heap Y2.out (fun hf => by have := hF2 _ hf; have := HZ.out; omega))
  have T5 := hi_ T5
  have HLV2 := HLV
  clear KC hF2 X2 Y2 B2 T2
  have y0 := blk_cell Y5.out 0
  have y1 := blk_cell Y5.out 1
  have f0 := blk_frozen Y5.out 0
  have f1 := blk_frozen Y5.out 1
  go_wp2_with fail
  have Z6 := blk_put (blk_put Y5.out 0 (.int .u32 0) rfl) 1 (.int .i64 0) rfl
  have hnb : Keep (fun k => w.heap.size ≤ k) w5 ((w5.setCell ⟨z + 1, 0, none⟩ (.int .u32 0)).setCell ⟨z + 1, 1, none⟩ (.int .i64 0)) :=
   ((Keep.refl _ w5).setCell (p := ⟨z + 1, 0, none⟩) (.inl (by have := HZ.out; show w.heap.size ≤ z + 1; omega)) _).setCell (p := ⟨z + 1, 1, none⟩) (.inl (by have := HZ.out; show w.heap.size ≤ z + 1; omega)) _
  refine bodyPost_ret (PrintWords.results_list (rs := [.cell 8 77, .tmp 9, .tmp 10]) (vs := [.agg #[.int .u32 0, .int .i64 0], .bool false, .int .i64 5]) rfl (by simp) (.cell (z + 1) 77 #[.int .u32 0, .int .i64 0] (0, 0) _ rfl Z6 Tryz.underlying77 rfl kr_ (.tmp (.tmp .nil)))) rfl ?_
  rw [HQ.out]
  exact .inr ⟨rfl, HRM.out, D, TS.hi (B := w.heap.size) T5.out hnb, HLV2.out, rfl, K5.out.andThen hnb (fun i hi hf => by omega)⟩
set_option maxHeartbeats 2000000 in
set_option maxRecDepth 100000 in
theorem int_Put2 (N : Nat) (w : World) (t b : Nat) (L : Loc) (h : Nat) (D : Dk) (P : List Pg) (r : Rt) (S : St w L b h D P) (T : TreeAt w t b r) (lv : D.Live) (kvs : List KV) (C : TreeC P r kvs) (hct : kvs.length ≤ 100000000) (x : BA) (hx : x.size ≤ 65536) (f : Nat → Option BA) (O : OneSum VLa P (sumOf x) f kvs) (hN : N < 256) (hlow : ∀ k, k < N → ∃ y, f k = some y ∧ y ≠ x) (hat : f N = none ∨ f N = some x) :
  Calls Tryz.prog 51 #[.pointer (some ⟨t, 0, none⟩), .pointer (some ⟨b, 0, none⟩), .string x] w fun e w' =>
   (f N = some x ∧ e = .returned (.tuple #[.agg #[.int .u32 (sumOf x), .int .i64 (N : Int)], .bool false, .int .i64 0]) ∧ Below w.heap.size w w') ∨
   (f N = none ∧ e = .returned (.tuple #[.agg #[.int .u32 (sumOf x), .int .i64 (N : Int)], .bool true, .int .i64 0]) ∧ ∃ D' P' r', DoneM (valC x) w w' t b L h D P r D' P' r' (ed (keyOf (sumOf x) N) (some (valOf P.length x)) kvs) ∧ P.length < P'.length ∧ VLa P' (valOf P.length x) x) ∨
   (f N = none ∧ e = .returned (.tuple #[.agg #[.int .u32 0, .int .i64 0], .bool false, .int .i64 5]) ∧ D.room < P.length + valC x + 2 * r.height + 1 ∧ ∃ D', FullM w w' t b L h D P r D') := by
 obtain ⟨Q, hQ⟩ : ∃ Q : Ending → World → Prop, Q = fun e w' =>
   (f N = some x ∧ e = .returned (.tuple #[.agg #[.int .u32 (sumOf x), .int .i64 (N : Int)], .bool false, .int .i64 0]) ∧ Below w.heap.size w w') ∨
   (f N = none ∧ e = .returned (.tuple #[.agg #[.int .u32 (sumOf x), .int .i64 (N : Int)], .bool true, .int .i64 0]) ∧ ∃ D' P' r', DoneM (valC x) w w' t b L h D P r D' P' r' (ed (keyOf (sumOf x) N) (some (valOf P.length x)) kvs) ∧ P.length < P'.length ∧ VLa P' (valOf P.length x) x) ∨
   (f N = none ∧ e = .returned (.tuple #[.agg #[.int .u32 0, .int .i64 0], .bool false, .int .i64 5]) ∧ D.room < P.length + valC x + 2 * r.height + 1 ∧ ∃ D', FullM w w' t b L h D P r D') := ⟨_, rfl⟩
 rw [← hQ]
 have HQ := hi_ hQ
 have HS := hi_ S
 have HT := hi_ T
 have HLV := hi_ lv
 have HC := hi_ C
 have HCT := hi_ hct
 have HO := hi_ O
 have HN := hi_ hN
 have HL := hi_ hlow
 have HA := hi_ hat
 have HXX := hi_ hx
 have HH := hi_ (C.small hct)
 have hx0 : (x.size : Int) ≤ 65536 := by omega
 have HX := hi_ (show x.size ≤ maxLen by unfold maxLen; omega)
 have CK := fun W hc => crc_Of (w.heap.size + 1) x W (by unfold maxLen; omega) hc
 obtain ⟨sm, hsm⟩ : ∃ sm, sm = sumOf x := ⟨_, rfl⟩
 have hsm' : ((crcOf x.data.toList).toNat : Int) = sm := hsm.symm
 rw [hsm'] at CK
 have CK := hi_ CK
 have HSM := hi_ hsm
 clear hQ S T lv C hct O hN hlow hat hx hsm hsm'
 go_enter Tryz.func51, Tryz.ntmps51
 go_wp2_with fail
 have X1 := hi_ (blk_alloc (blk_new w (.cells #[.int .u32 0, .int .i64 0] 77 (0, 0))) (.cells #[.string x] 9 (0, 0)))
 have B1 := hi_ (below_alloc (below_alloc (Below.refl w.heap.size w) (.cells #[.int .u32 0, .int .i64 0] 77 (0, 0))) (.cells #[.string x] 9 (0, 0)))
 have c1 := blk_cell (blk_new (w.alloc (.cells #[.int .u32 0, .int .i64 0] 77 (0, 0))) (.cells #[.string x] 9 (0, 0))) 0
 have s1 : Hid (((w.alloc (.cells #[.int .u32 0, .int .i64 0] 77 (0, 0))).alloc (.cells #[.string x] 9 (0, 0))).heap.size = w.heap.size + 2) := hi_ (by simp)
 simp only [World.size_alloc] at c1
 generalize (w.alloc (.cells #[.int .u32 0, .int .i64 0] 77 (0, 0))).alloc (.cells #[.string x] 9 (0, 0)) = w1 at *
 refine (CK.out w1 c1).mono ?_
 clear c1
 rintro e w1 ⟨rfl, rfl⟩
 go_wp2_with fail
 have X2 := hi_ (blk_alloc X1.out (.cells #[.int .u32 sm, .int .i64 0] 77 (0, 0)))
 have Y2 := hi_ (blk_new w1 (.cells #[.int .u32 sm, .int .i64 0] 77 (0, 0)))
 have B2 := hi_ (below_alloc B1.out (.cells #[.int .u32 sm, .int .i64 0] 77 (0, 0)))
 generalize w1.alloc (.cells #[.int .u32 sm, .int .i64 0] 77 (0, 0)) = w2 at *
 obtain ⟨q, hq⟩ : ∃ q, q = w1.heap.size := ⟨_, rfl⟩
 obtain ⟨z, hz⟩ : ∃ z, z = w.heap.size := ⟨_, rfl⟩
 rw [← hq] at Y2 ⊢
 rw [← hz] at X2 ⊢
 have HZ := hi_ (show z = w.heap.size ∧ z < q ∧ w.heap.size ≤ q by have := s1.out; have := B1.out.size; omega)
 clear hq hz X1 B1 s1
 go_loopw [11] (fun _ wr => ∃ (k : Nat), k ≤ N ∧ Hid (wr.heap[z]? = some (.cells #[.int .u32 0, .int .i64 0] 77 (0, 0))) ∧ Hid (wr.heap[q]? = some (.cells #[.int .u32 sm, .int .i64 (k : Int)] 77 (0, 0))) ∧ Hid (Below w.heap.size w wr)) (fun _ wr => N - boxN q wr)
 case atStart => exact ⟨0, Nat.zero_le _, X2, Y2, B2⟩
 case round =>
  clear X2 Y2 B2
  obtain ⟨k, hk, X2, Y2, B2⟩ := hrel
  have y0 := blk_cell Y2.out 0
  have y1 := blk_cell Y2.out 1
  have hk0 : (0 : Int) ≤ (k : Int) := by omega
  have hk2 : (k : Int) < 256 := by have := HN.out; omega
  have HK := hi_ hk
  by_cases hkN : k < N
  ·obtain ⟨y, hy, hne⟩ := HL.out k hkN
   obtain ⟨v, hv1, hv2⟩ := HO.out.yes k y (by have := HN.out; omega) hy
   have hs := str_ne hne
   have HKN := hi_ hkN
   have CG := hi_ (int_Get_some wr t b L h D P r (HS.out.below B2.out) (HT.out.below B2.out) HLV.out.1 kvs HC.out HH.out (sumOf x) k (by have := HN.out; omega) v y hv1 (fun W hW => (vals_all L b h).load W D P v y ((HS.out.below B2.out).below hW) HLV.out.1 hv2))
   rw [← HSM.out] at CG
   clear hy hne hv1 hv2 hk hkN
   go_wp2_with fail
   refine CG.out.mono ?_
   clear CG
   rintro e w3 ⟨rfl, hb⟩
   have X3 := hi_ (blk_below X2.out hb)
   have Y3 := hi_ (blk_below Y2.out hb)
   have B3 := hi_ (below_then B2.out B2.out.size hb)
   clear hb X2 B2 y0 y1
   have y0 := blk_cell Y3.out 0
   have y1 := blk_cell Y3.out 1
   have f1 := blk_frozen Y3.out 1
   go_wp2_with fail
   have hkc : ((k : Int) + 1) = ((k + 1 : Nat) : Int) := by omega
   rw [hkc]
   have Y4 := hi_ (blk_put Y3.out 1 (.int .i64 ((k + 1 : Nat) : Int)) rfl)
   have X4 := hi_ (blk_far X3.out (p := ⟨q, 1, none⟩) (by have := HZ.out; show z ≠ q; omega) (.int .i64 ((k + 1 : Nat) : Int)))
   have B4 := hi_ (below_set (g := q) (j := 1) (v := .int .i64 ((k + 1 : Nat) : Int)) B3.out HZ.out.2.2)
   exact ⟨⟨k + 1, by have := HKN.out; omega, X4, Y4, B4⟩, by rw [boxN_eq Y4.out, boxN_eq Y2.out]; have := HKN.out; omega⟩
  ·obtain rfl : k = N := by omega
   clear hkN hk
   rcases HA.out with hf | hf
   ·have HF := hi_ hf
    have CG := hi_ (int_Get_none wr t b L h D P r (HS.out.below B2.out) (HT.out.below B2.out) HLV.out.1 kvs HC.out HH.out (sumOf x) k om_ (HO.out.no k om_ hf))
    rw [← HSM.out] at CG
    have CKP := hi_ (fun W (hW : Below w.heap.size w W) => int_keep2 W t b L h D P r (HS.out.below hW) (HT.out.below hW) HLV.out kvs HC.out HCT.out (sumOf x) k x HXX.out)
    rw [← HSM.out] at CKP
    clear hf
    go_wp2_with fail
    refine CG.out.mono ?_
    clear CG
    rintro e w3 ⟨rfl, hb⟩
    have X3 := hi_ (blk_below X2.out hb)
    have Y3 := hi_ (blk_below Y2.out hb)
    have B3 := hi_ (below_then B2.out B2.out.size hb)
    clear hb X2 B2 y0 y1 Y2
    have y0 := blk_cell Y3.out 0
    have y1 := blk_cell Y3.out 1
    go_wp2_with fail
    refine (CKP.out w3 B3.out).mono ?_
    clear CKP
    have LO := hi_ (lo_of HS.out HT.out)
    have hF : Hid (∀ k, ((L.foot k ∨ k = b) ∨ k = t) → k < w.heap.size) := hi_ (fun k hk => by
     rcases hk with h | rfl
     ·exact LO.out.lo k h
     ·exact LO.out.tl)
    rintro e w4 (⟨rfl, D', P', r', DM, hgr, hvl⟩ | ⟨rfl, hroom, D', FM⟩)
    ·have K4 := hi_ ((Keep.below (F := fun k => (L.foot k ∨ k = b) ∨ k = t) B3.out).andThen DM.keep (fun i _ hf => hf))
     have X4 := hi_ (DM.keep.heap X3.out (fun hf => by have := hF.out _ hf; have := HZ.out; omega))
     have DM := hi_ DM
     have HVL := hi_ hvl
     have HGR := hi_ hgr
     clear X3 Y3 hvl hgr y0 y1 B3
     have x0 := blk_cell X4.out 0
     have x1 := blk_cell X4.out 1
     have f0 := blk_frozen X4.out 0
     have f1 := blk_frozen X4.out 1
     go_wp2_with fail
     have Z5 := blk_put (blk_put X4.out 0 (.int .u32 sm) rfl) 1 (.int .i64 (k : Int)) rfl
     have hnb : Keep (fun k => w.heap.size ≤ k) w4 ((w4.setCell ⟨z, 0, none⟩ (.int .u32 sm)).setCell ⟨z, 1, none⟩ (.int .i64 (k : Int))) :=
      ((Keep.refl _ w4).setCell (p := ⟨z, 0, none⟩) (.inl (by have := HZ.out; show w.heap.size ≤ z; omega)) _).setCell (p := ⟨z, 1, none⟩) (.inl (by have := HZ.out; show w.heap.size ≤ z; omega)) _
     refine bodyPost_ret (PrintWords.results_list (rs := [.cell 6 77, .tmp 7, .tmp 8]) (vs := [.agg #[.int .u32 sm, .int .i64 (k : Int)], .bool true, .int .i64 0]) rfl (by simp) (.cell z 77 #[.int .u32 sm, .int .i64 (k : Int)] (0, 0) _ rfl Z5 Tryz.underlying77 rfl kr_ (.tmp (.tmp .nil)))) rfl ?_
     have TS4 := TS.hi (B := w.heap.size) ⟨DM.out.st, DM.out.tr, LO.out.lo, LO.out.tl⟩ hnb
     rw [HQ.out, ← HSM.out]
     exact .inr (.inl ⟨HF.out, rfl, D', P', r', ⟨TS4.st, TS4.tr, DM.out.tc, DM.out.live, DM.out.app, DM.out.most, K4.out.andThen hnb (fun i hi hf => by omega)⟩, HGR.out, HVL.out⟩)
    ·have K4 := hi_ ((Keep.below (F := fun k => (L.foot k ∨ k = b) ∨ k = t) B3.out).andThen FM.keep (fun i _ hf => hf))
     have X4 := hi_ (FM.keep.heap X3.out (fun hf => by have := hF.out _ hf; have := HZ.out; omega))
     have FM := hi_ FM
     have HRM := hi_ hroom
     clear X3 Y3 hroom y0 y1 B3
     have x0 := blk_cell X4.out 0
     have x1 := blk_cell X4.out 1
     have f0 := blk_frozen X4.out 0
     have f1 := blk_frozen X4.out 1
     go_wp2_with fail
     have Z5 := blk_put (blk_put X4.out 0 (.int .u32 0) rfl) 1 (.int .i64 0) rfl
     have hnb : Keep (fun k => w.heap.size ≤ k) w4 ((w4.setCell ⟨z, 0, none⟩ (.int .u32 0)).setCell ⟨z, 1, none⟩ (.int .i64 0)) :=
      ((Keep.refl _ w4).setCell (p := ⟨z, 0, none⟩) (.inl (by have := HZ.out; show w.heap.size ≤ z; omega)) _).setCell (p := ⟨z, 1, none⟩) (.inl (by have := HZ.out; show w.heap.size ≤ z; omega)) _
     refine bodyPost_ret (PrintWords.results_list (rs := [.cell 6 77, .tmp 7, .tmp 8]) (vs := [.agg #[.int .u32 0, .int .i64 0], .bool false, .int .i64 5]) rfl (by simp) (.cell z 77 #[.int .u32 0, .int .i64 0] (0, 0) _ rfl Z5 Tryz.underlying77 rfl kr_ (.tmp (.tmp .nil)))) rfl ?_
     have TS4 := TS.hi (B := w.heap.size) ⟨FM.out.ts.st, FM.out.ts.tr, LO.out.lo, LO.out.tl⟩ hnb
     rw [HQ.out]
     exact .inr (.inr ⟨HF.out, rfl, HRM.out, D', TS4, FM.out.live, FM.out.room, K4.out.andThen hnb (fun i hi hf => by omega)⟩)
   ·obtain ⟨v, hv1, hv2⟩ := HO.out.yes k x om_ hf
    have HF := hi_ hf
    have CG := hi_ (int_Get_some wr t b L h D P r (HS.out.below B2.out) (HT.out.below B2.out) HLV.out.1 kvs HC.out HH.out (sumOf x) k om_ v x hv1 (fun W hW => (vals_all L b h).load W D P v x ((HS.out.below B2.out).below hW) HLV.out.1 hv2))
    rw [← HSM.out] at CG
    clear hf hv1 hv2
    go_wp2_with fail
    refine CG.out.mono ?_
    clear CG
    rintro e w3 ⟨rfl, hb⟩
    have X3 := hi_ (blk_below X2.out hb)
    have Y3 := hi_ (blk_below Y2.out hb)
    have B3 := hi_ (below_then B2.out B2.out.size hb)
    clear hb X2 B2 y0 y1 Y2
    have y0 := blk_cell Y3.out 0
    have y1 := blk_cell Y3.out 1
    have x0 := blk_cell X3.out 0
    have x1 := blk_cell X3.out 1
    have f0 := blk_frozen X3.out 0
    have f1 := blk_frozen X3.out 1
    go_wp2_with fail
    have Z5 := blk_put (blk_put X3.out 0 (.int .u32 sm) rfl) 1 (.int .i64 (k : Int)) rfl
    refine bodyPost_ret (PrintWords.results_list (rs := [.cell 6 77, .tmp 7, .tmp 8]) (vs := [.agg #[.int .u32 sm, .int .i64 (k : Int)], .bool false, .int .i64 0]) rfl (by simp) (.cell z 77 #[.int .u32 sm, .int .i64 (k : Int)] (0, 0) _ rfl Z5 Tryz.underlying77 rfl kr_ (.tmp (.tmp .nil)))) rfl ?_
    rw [HQ.out]
    exact .inl ⟨HF.out, by rw [HSM.out], below_set (below_set B3.out (by have := HZ.out; omega)) (by have := HZ.out; omega)⟩
end Go.Proofs.YtendgmblgdkiaaaGreat

namespace Go.Proofs.YtendgmblgdkiaaaGreat
open Go.RowKit
open Go.Proofs.YtendgmblgdkiaaaGreatW
open PrintWords PrintLast PrintMore
set_option linter.unusedVariables false
set_option linter.unusedSimpArgs false

/-- A tree over pages where just these texts are kept. -/
structure Kept14 (w0 : World) (L : Loc) (b t : Nat) (ks : List BA) (D : Dk) (P : List Pg) (r : Rt) (kvs : List KV) (w : World) : Prop where
 made : Made w0 w L b t D P r kvs
 kin : KsIn P ks kvs
 len : kvs.length ≤ ks.length
namespace Kept14
variable {w0 w w' : World} {L : Loc} {b t : Nat} {ks : List BA} {D : Dk} {P : List Pg} {r : Rt} {kvs : List KV}
theorem below (H : Kept14 w0 L b t ks D P r kvs w) (hb : Below w.heap.size w w') : Kept14 w0 L b t ks D P r kvs w' := ⟨H.made.below hb, H.kin, H.len⟩
theorem lo (H : Kept14 w0 L b t ks D P r kvs w) : ∀ k, ((L.foot k ∨ k = b) ∨ k = t) → k < w.heap.size := fun k hk => by
 have LO := lo_of H.made.pg.st H.made.tr
 rcases hk with h | rfl
 ·exact LO.lo k h
 ·exact LO.tl
end Kept14
/-- What a Put of a text that isn't kept leaves. -/
def PutNew (w0 : World) (L : Loc) (b t : Nat) (ks : List BA) (D : Dk) (P : List Pg) (r : Rt) (x : BA) (w : World) (e : Ending) (w' : World) : Prop :=
 Keep (fun k => (L.foot k ∨ k = b) ∨ k = t) w w' ∧
 ((e = .returned (.tuple #[.agg #[.int .u32 (sumOf x), .int .i64 ((flt (sumOf x) ks).length : Int)], .bool true, .int .i64 0]) ∧ ∃ D' P' r' kvs', Kept14 w0 L b t (ks ++ [x]) D' P' r' kvs' w' ∧ D'.room = D.room ∧ P.length < P'.length ∧ (P'.length : Int) ≤ P.length + valC x + 2 * r.height + 1) ∨
  (e = .returned (.tuple #[.agg #[.int .u32 0, .int .i64 0], .bool false, .int .i64 5]) ∧ D.room < P.length + valC x + 2 * r.height + 1 ∧ ∃ D' kvs', Kept14 w0 L b t ks D' P r kvs' w' ∧ D'.room = D.room))
theorem kept_new (w0 w : World) (L : Loc) (b t : Nat) (ks : List BA) (D : Dk) (P : List Pg) (r : Rt) (kvs : List KV) (H : Kept14 w0 L b t ks D P r kvs w) (hn : ks.length < 256) (x : BA) (hx : x.size ≤ 65536) (hno : x ∉ ks) :
  Calls Tryz.prog 51 #[.pointer (some ⟨t, 0, none⟩), .pointer (some ⟨b, 0, none⟩), .string x] w (PutNew w0 L b t ks D P r x w) := by
 have hl := flt_len (sumOf x) ks
 have hk := H.len
 refine (int_Put2 (flt (sumOf x) ks).length w t b L 0 D P r H.made.pg.st H.made.tr H.made.pg.live kvs H.made.tc om_ x hx (fun n => (flt (sumOf x) ks)[n]?) (H.kin _ (sumOf_u32 x)) om_ (fun k hk => ⟨_, List.getElem?_eq_getElem hk, fun e => hno (by
  have := (flt_mem (List.getElem_mem hk)).1
  rw [e] at this
  exact this)⟩) (.inl (List.getElem?_eq_none_iff.2 (Nat.le_refl _)))).mono ?_
 rintro e w' (⟨h, -, -⟩ | ⟨-, rfl, D', P', r', DM, hgr, hvl⟩ | ⟨-, rfl, hroom, D', FM⟩)
 ·simp at h
 ·obtain ⟨X, hX⟩ := DM.app.pre
  refine ⟨DM.keep, .inl ⟨rfl, D', P', r', _, ⟨H.made.done DM, ?_, ?_⟩, DM.app.wr.room, hgr, DM.most⟩⟩
  ·rw [hX] at hvl ⊢
   exact H.kin.put hn hvl
  ·rw [List.length_append]
   exact Nat.le_trans (ed_len _ _ _) (by simpa using hk)
 ·exact ⟨FM.keep, .inr ⟨rfl, hroom, D', kvs, ⟨⟨⟨FM.ts.st, FM.live⟩, FM.ts.tr, H.made.tc, ((Keep.below (F := fun _ => False) H.made.bel).andThen FM.keep (fun i hi hf => by have := H.made.hi i hf; omega)).toBelow, H.made.hi⟩, H.kin, H.len⟩, FM.room⟩⟩
theorem kept_old (w0 w : World) (L : Loc) (b t : Nat) (ks : List BA) (D : Dk) (P : List Pg) (r : Rt) (kvs : List KV) (H : Kept14 w0 L b t ks D P r kvs w) (hn : ks.length < 256) (hd : ks.Nodup) (x : BA) (hx : x.size ≤ 65536) (i : Nat) (hi : ks[i]? = some x) :
  Calls Tryz.prog 51 #[.pointer (some ⟨t, 0, none⟩), .pointer (some ⟨b, 0, none⟩), .string x] w fun e w' => e = .returned (.tuple #[.agg #[.int .u32 (sumOf x), .int .i64 (rankK ks i x : Int)], .bool false, .int .i64 0]) ∧ Below w.heap.size w w' := by
 obtain ⟨h1, h2⟩ := rank_at hi
 have hk := H.len
 refine (int_Put2 (rankK ks i x) w t b L 0 D P r H.made.pg.st H.made.tr H.made.pg.live kvs H.made.tc om_ x hx (fun n => (flt (sumOf x) ks)[n]?) (H.kin _ (sumOf_u32 x)) om_ (fun k hk => rank_first hd hi hk) (.inr h1)).mono ?_
 rintro e w' (⟨-, rfl, hb⟩ | ⟨h, -⟩ | ⟨h, -⟩)
 ·exact ⟨rfl, hb⟩
 ·rw [h] at h1; cases h1
 ·rw [h] at h1; cases h1
theorem kept_get (w0 w : World) (L : Loc) (b t : Nat) (ks : List BA) (D : Dk) (P : List Pg) (r : Rt) (kvs : List KV) (H : Kept14 w0 L b t ks D P r kvs w) (hn : ks.length < 256) (x : BA) (i : Nat) (hi : ks[i]? = some x) :
  Calls Tryz.prog 53 #[.pointer (some ⟨t, 0, none⟩), .pointer (some ⟨b, 0, none⟩), .agg #[.int .u32 (sumOf x), .int .i64 (rankK ks i x : Int)]] w fun e w' => e = .returned (.tuple #[.string x, .int .i64 0]) ∧ Below w.heap.size w w' := by
 obtain ⟨h1, h2⟩ := rank_at hi
 have hk := H.len
 obtain ⟨v, hv, hvl⟩ := (H.kin _ (sumOf_u32 x)).yes (rankK ks i x) x om_ h1
 exact int_Get_some w t b L 0 D P r H.made.pg.st H.made.tr H.made.pg.live.1 kvs H.made.tc (H.made.tc.small om_) (sumOf x) (rankK ks i x) om_ v x hv (fun W hW => (vals_all L b 0).load W D P v x (H.made.pg.st.below hW) H.made.pg.live.1 hvl)
theorem kept_made {w0 w : World} {L : Loc} {b t : Nat} {D : Dk} (M : Made w0 w L b t D [] ⟨-1, 0, 0⟩ []) : Kept14 w0 L b t [] D [] ⟨-1, 0, 0⟩ [] w := ⟨M, KsIn.nil [], Nat.le_refl _⟩
end Go.Proofs.YtendgmblgdkiaaaGreat

namespace Go.Proofs.YtendgmblgdkiaaaGreat
open Go.RowKit
open Go.Proofs.YtendgmblgdkiaaaGreatW
open PrintWords PrintLast PrintMore
set_option linter.unusedVariables false
set_option linter.unusedSimpArgs false

theorem law_Twin (x : BA) (n : Nat) (w : World) (h8 : 8 ≤ x.size ∧ x.size ≤ 1000000) (hn : n < 4294967296) :
  Calls Tryz.prog 50 #[.string x, .int .u32 (n : Int)] w fun e w' => e = .returned (.string (twinB x n)) ∧ Below w.heap.size w w' := by
 by_cases h0 : n = 0
 ·have e : twinB x n = x := if_pos (.inr h0)
  rw [e]
  exact law_Twin0 x n w (.inr h0)
 ·exact law_Twin1 x n w h8 ⟨by omega, hn⟩
theorem str_bne {a b : BA} (h : a ≠ b) : (a.toList != b.toList) = true := by
 have := str_ne h
 simp only [bne, this]
 rfl
attribute [local go_sem] max2_mx max_two
set_option maxHeartbeats 4000000 in
set_option maxRecDepth 100000 in
theorem twins_walk (w : World) (s : BA) (n : Nat) (hn : n < 4294967296) :
  Calls Tryz.prog 9 #[.string s, .int .u32 (n : Int)] w fun e w' => e = .returned (.bool true) ∧ Below w.heap.size w w' := by
 have HN := hi_ hn
 clear hn
 go_enter Tryz.func9, Tryz.ntmps9
 go_wp2_with fail
 refine (awake14 w).mono ?_
 rintro e w1 ⟨rfl, hb⟩
 have B1 := hi_ hb
 clear hb
 go_wp2_with fail
 refine (law_made w1 60 om_).mono ?_
 rintro e w2 ⟨L, b, t, D, rfl, M, hr⟩
 have K2 := hi_ (kept_made M)
 have R2 := hi_ hr
 clear M hr
 go_wp2_with fail
 refine (law_Cut s 60 w2).mono ?_
 rintro e w3 ⟨rfl, hb⟩
 have K3 := hi_ (K2.out.below hb)
 clear hb K2
 go_wp2_with fail
 refine (law_Cut s 60 w3).mono ?_
 rintro e w4 ⟨rfl, hb⟩
 have K4 := hi_ (K3.out.below hb)
 clear hb K3
 have hks := cutB_size s 60
 obtain ⟨c, hc8, hc60, hce⟩ : ∃ c : Nat, 8 ≤ c ∧ c ≤ 60 ∧ mx 8 ((cutB s 60).size : Int) = (c : Int) := ⟨max 8 (cutB s 60).size, by omega, by omega, by unfold mx; split <;> omega⟩
 have HC := hi_ (And.intro hc8 hc60)
 clear hc8 hc60
 go_wp2_with fail
 refine (law_Long (cutB s 60) (c : Int) w4 om_).mono ?_
 rintro e w5 ⟨x, rfl, hx, hb⟩
 have K5 := hi_ (K4.out.below hb)
 have hxz : x.size = c := by
  have := HC.out
  unfold mx mn at hx
  split at hx <;> split at hx <;> omega
 have HXZ := hi_ (show 8 ≤ x.size ∧ x.size ≤ 60 by rw [hxz]; exact HC.out)
 clear hb K4 hce hx hks hxz
 go_wp2_with fail
 refine (law_Twin x n w5 (by have := HXZ.out; omega) HN.out).mono ?_
 rintro e w6 ⟨rfl, hb⟩
 have K6 := hi_ (K5.out.below hb)
 clear hb K5
 obtain ⟨hu1, hu2, hu3⟩ := twin_facts x n HXZ.out.1 HN.out
 obtain ⟨u, hu⟩ : ∃ u, u = twinB x n := ⟨_, rfl⟩
 rw [← hu] at hu1 hu2 hu3 ⊢
 clear hu
 have HU1 := hi_ hu1
 have HU2 := hi_ hu2
 have HU3 := hi_ hu3
 clear hu1 hu2 hu3
 have hvc : valC x ≤ 1 := by have := HXZ.out; unfold valC costN; split <;> omega
 have HVC := hi_ hvc
 clear hvc
 go_wp2_with fail
 refine (kept_new w1 w6 L b t [] D [] ⟨-1, 0, 0⟩ [] K6.out (by simp) x (by have := HXZ.out; omega) (by simp)).mono ?_
 rintro e w7 ⟨hk, ⟨rfl, D1, P1, r1, kv1, hK, hR, -, hmost⟩ | ⟨-, hroom, -⟩⟩
 rotate_left
 ·exfalso
  have := R2.out
  have := HVC.out
  simp at hroom
  omega
 have K7 := hi_ (show Kept14 w1 L b t [x] D1 P1 r1 kv1 w7 from hK)
 have HM := hi_ (show D1.room = 60 ∧ (P1.length : Int) ≤ 2 from ⟨hR.trans R2.out, by have := HVC.out; simp at hmost; omega⟩)
 have hlo := hK.made.tc.low (m := 1) (Nat.lt_of_le_of_lt hK.len (by simp))
 have HLO := hi_ hlo
 have B0 := B1
 clear hk hK hR hmost hlo K6 B1
 rw [show (flt (sumOf x) ([] : List BA)).length = 0 from rfl, show ((0 : Nat) : Int) = 0 from rfl]
 obtain ⟨sx, hsx⟩ : ∃ sx, sx = sumOf x := ⟨_, rfl⟩
 rw [← hsx]
 have HSX := hi_ hsx
 clear hsx
 go_wp2_with fail
 have X8 := hi_ (blk_new w7 (.cells #[.int .u32 sx, .int .i64 0] 77 (0, 0)))
 have K8 := hi_ (K7.out.below (below_alloc (Below.refl w7.heap.size w7) (.cells #[.int .u32 sx, .int .i64 0] 77 (0, 0))))
 generalize w7.alloc (.cells #[.int .u32 sx, .int .i64 0] 77 (0, 0)) = w8 at *
 obtain ⟨g, hg⟩ : ∃ g, g = w7.heap.size := ⟨_, rfl⟩
 rw [← hg] at X8 ⊢
 have HG := hi_ (fun k hk => (K7.out.lo k hk : k < w7.heap.size))
 rw [← hg] at HG
 clear hg K7
 have C0 := hi_ (fun W => ref02_Of x W (by have := HXZ.out; unfold maxLen; omega))
 have C1 := hi_ (fun W => ref02_Of u W (by have := HXZ.out; have := HU1.out; unfold maxLen; omega))
 have hs0 : ((crcOf x.data.toList).toNat : Int) = sx := HSX.out.symm
 have hs1 : ((crcOf u.data.toList).toNat : Int) = sx := HU2.out.trans HSX.out.symm
 rw [hs0] at C0
 rw [hs1] at C1
 clear hs0 hs1
 by_cases hn0 : n = 0
 ·have hux : u = x := HU3.out.2 hn0
  subst hux
  have hnz : ((n : Int) != 0) = false := by simp [hn0]
  refine (kept_old w1 w8 L b t [u] D1 P1 r1 kv1 K8.out (by simp) (by simp) u (by have := HXZ.out; omega) 0 rfl).mono ?_
  rintro e w9 ⟨rfl, hb⟩
  have K9 := hi_ (K8.out.below hb)
  have X9 := hi_ (blk_below X8.out hb)
  clear hb K8 X8
  rw [show rankK [u] 0 u = 0 from rfl, ← HSX.out, show ((0 : Nat) : Int) = 0 from rfl]
  go_wp2_with fail
  have X10 := hi_ (blk_alloc X9.out (.cells #[.int .u32 sx, .int .i64 0] 77 (0, 0)))
  have Y10 := hi_ (blk_new w9 (.cells #[.int .u32 sx, .int .i64 0] 77 (0, 0)))
  have K10 := hi_ (K9.out.below (below_alloc (Below.refl w9.heap.size w9) (.cells #[.int .u32 sx, .int .i64 0] 77 (0, 0))))
  generalize w9.alloc (.cells #[.int .u32 sx, .int .i64 0] 77 (0, 0)) = w10 at *
  obtain ⟨h, hh⟩ : ∃ h, h = w9.heap.size := ⟨_, rfl⟩
  rw [← hh] at Y10 ⊢
  clear hh X9 K9
  refine (C1.out w10).mono ?_
  rintro e w10 ⟨rfl, rfl⟩
  have x0 := blk_cell X10.out 0
  have x1 := blk_cell X10.out 1
  have y0 := blk_cell Y10.out 0
  have y1 := blk_cell Y10.out 1
  go_wp2_with fail
  refine (C0.out w10).mono ?_
  rintro e w10 ⟨rfl, rfl⟩
  go_wp2_with fail
  clear x0 x1 y0 y1
  have CA := kept_get w1 w10 L b t _ _ _ _ _ K10.out (by simp) u 0 rfl
  rw [show rankK [u] 0 u = 0 from rfl, ← HSX.out, show ((0 : Nat) : Int) = 0 from rfl] at CA
  refine CA.mono ?_
  clear CA
  rintro e w11 ⟨rfl, hb⟩
  have K11 := hi_ (K10.out.below hb)
  have X11 := hi_ (blk_below X10.out hb)
  have Y11 := hi_ (blk_below Y10.out hb)
  clear hb K10 X10 Y10
  have y0 := blk_cell Y11.out 0
  have y1 := blk_cell Y11.out 1
  go_wp2_with fail
  clear y0 y1
  have CB := kept_get w1 w11 L b t _ _ _ _ _ K11.out (by simp) u 0 rfl
  rw [show rankK [u] 0 u = 0 from rfl, ← HSX.out, show ((0 : Nat) : Int) = 0 from rfl] at CB
  refine CB.mono ?_
  clear CB
  rintro e w12 ⟨rfl, hb⟩
  have K12 := hi_ (K11.out.below hb)
  have X12 := hi_ (blk_below X11.out hb)
  have Y12 := hi_ (blk_below Y11.out hb)
  have B12 := hi_ (below_then B0.out B0.out.size K12.out.made.bel)
  clear hb K11 X11 Y11
  have x0 := blk_cell X12.out 0
  have x1 := blk_cell X12.out 1
  have y0 := blk_cell Y12.out 0
  have y1 := blk_cell Y12.out 1
  go_wp2_with fail
  go_ret
  exact ⟨rfl, B12.out⟩
 ·have hux : u ≠ x := fun h => hn0 (HU3.out.1 h)
  have hne := str_bne hux
  have hne2 : (u.toList == x.toList) = false := str_ne hux
  have hnz : ((n : Int) != 0) = true := by rw [bne_iff_ne]; omega
  refine (kept_new w1 w8 L b t [x] D1 P1 r1 kv1 K8.out (by simp) u (by have := HXZ.out; have := HU1.out; omega) (by simpa using hux)).mono ?_
  rintro e w9 ⟨hk, ⟨rfl, D2, P2, r2, kv2, hK, hR, -, hmost⟩ | ⟨-, hroom, -⟩⟩
  rotate_left
  ·exfalso
   have := HM.out
   have := HLO.out
   have hvu : valC u ≤ 1 := by have := HXZ.out; have := HU1.out; unfold valC costN; split <;> omega
   omega
  have K9 := hi_ (show Kept14 w1 L b t [x, u] D2 P2 r2 kv2 w9 from hK)
  have X9 := hi_ (hk.heap X8.out (fun hf => Nat.lt_irrefl _ (HG.out _ hf)))
  have hfl : (flt (sumOf u) [x]).length = 1 := by unfold flt; simp [HU2.out]
  rw [hfl, HU2.out, ← HSX.out, show ((1 : Nat) : Int) = 1 from rfl]
  clear hk hK hR hmost K8 X8 hfl
  have hsz : (u.size : Int) = (x.size : Int) := by have := HU1.out; omega
  go_wp2_with fail
  have X10 := hi_ (blk_alloc X9.out (.cells #[.int .u32 sx, .int .i64 1] 77 (0, 0)))
  have Y10 := hi_ (blk_new w9 (.cells #[.int .u32 sx, .int .i64 1] 77 (0, 0)))
  have K10 := hi_ (K9.out.below (below_alloc (Below.refl w9.heap.size w9) (.cells #[.int .u32 sx, .int .i64 1] 77 (0, 0))))
  generalize w9.alloc (.cells #[.int .u32 sx, .int .i64 1] 77 (0, 0)) = w10 at *
  obtain ⟨h, hh⟩ : ∃ h, h = w9.heap.size := ⟨_, rfl⟩
  rw [← hh] at Y10 ⊢
  clear hh X9 K9
  refine (C1.out w10).mono ?_
  rintro e w10 ⟨rfl, rfl⟩
  have x0 := blk_cell X10.out 0
  have x1 := blk_cell X10.out 1
  have y0 := blk_cell Y10.out 0
  have y1 := blk_cell Y10.out 1
  go_wp2_with fail
  refine (C0.out w10).mono ?_
  rintro e w10 ⟨rfl, rfl⟩
  go_wp2_with fail
  clear x0 x1 y0 y1
  have CA := kept_get w1 w10 L b t _ _ _ _ _ K10.out (by simp) x 0 rfl
  rw [show rankK [x, u] 0 x = 0 from rfl, ← HSX.out, show ((0 : Nat) : Int) = 0 from rfl] at CA
  refine CA.mono ?_
  clear CA
  rintro e w11 ⟨rfl, hb⟩
  have K11 := hi_ (K10.out.below hb)
  have X11 := hi_ (blk_below X10.out hb)
  have Y11 := hi_ (blk_below Y10.out hb)
  clear hb K10 X10 Y10
  have y0 := blk_cell Y11.out 0
  have y1 := blk_cell Y11.out 1
  go_wp2_with fail
  clear y0 y1
  have hrk : rankK [x, u] 1 u = 1 := by unfold rankK flt; simp [HU2.out]
  have CB := kept_get w1 w11 L b t _ _ _ _ _ K11.out (by simp) u 1 rfl
  rw [show rankK [x, u] 1 u = 1 from hrk, HU2.out, ← HSX.out, show ((1 : Nat) : Int) = 1 from rfl] at CB
  refine CB.mono ?_
  clear CB
  rintro e w12 ⟨rfl, hb⟩
  have K12 := hi_ (K11.out.below hb)
  have X12 := hi_ (blk_below X11.out hb)
  have Y12 := hi_ (blk_below Y11.out hb)
  have B12 := hi_ (below_then B0.out B0.out.size K12.out.made.bel)
  clear hb K11 X11 Y11
  have x0 := blk_cell X12.out 0
  have x1 := blk_cell X12.out 1
  have y0 := blk_cell Y12.out 0
  have y1 := blk_cell Y12.out 1
  go_wp2_with fail
  go_ret
  exact ⟨rfl, B12.out⟩
end Go.Proofs.YtendgmblgdkiaaaGreat
