/- blob.walk and blob.Read, walked. intern.Load of any value, intern.Value of a long text, walked. intern.Value of a long text, walked; what stands for any text. dowserlaw14.says, walked: it says what Load says. intern.Move and Cost, walked. dowserlaw14.InternValues, walked. -/
import Derived.Test.YtendgmblgdkiaaaGreatGInternValues0
import Derived.Test.YtendgmblgdkiaaaGreatGInternValues36
import Derived.WalkMore
import Derived.Test.YtendgmblgdkiaaaGreatGInternValues34
namespace Go.Proofs.YtendgmblgdkiaaaGreat
open Go.RowKit
open Go.Proofs.YtendgmblgdkiaaaGreatW
open PrintWords PrintLast PrintMore
set_option linter.unusedVariables false
set_option linter.unusedSimpArgs false

/-- A slice's length. -/
def lenV : Value → Nat
 | .slice _ n _ => n
 | _ => 0
/-- While walk runs: the builder and its bytes, the list of pages. -/
structure WkAt (w : World) (acc : BA) (l : Value) (n : Nat) (wr : World) : Prop where
 b : Lib.IsBuilder 233 5 w.heap.size w.heap.size (Lib.byteCells acc.data.toList) wr
 l : ∃ xs : List Int, xs.length = n ∧ Kd.R (Kd.int .i64) 3 wr w.heap.size (fun _ => True) l xs
 bel : Below w.heap.size w wr
theorem blobP_part (P : List Pg) (hP : ∀ (i : Nat) k s, P[i]? = some (k, s) → s.size ≤ 240) (n : Int) : (blobP P n).1.size ≤ 240 ∧ ((blobP P n).2.2 = 0 → -1 ≤ (blobP P n).2.1 ∧ (blobP P n).2.1 ≤ n) := by
 have hz : (pgSay P n).2.1.size ≤ 240 := by
  unfold pgSay
  split
  ·decide
  ·split
   ·decide
   ·next k s hp => exact hP _ _ _ hp
 unfold blobP
 split
 ·exact ⟨Nat.zero_le 240, fun h => by simp_all⟩
 ·split
  ·exact ⟨Nat.zero_le 240, fun h => by cases h⟩
  ·next x m hh =>
   split
   ·next hc => exact ⟨by rw [ByteArray.size_extract]; omega, fun _ => by simp only; omega⟩
   ·exact ⟨Nat.zero_le 240, fun h => by cases h⟩
theorem WkAt.below {w wr w' : World} {acc : BA} {l : Value} {n : Nat} (H : WkAt w acc l n wr) (k : Below wr.heap.size wr w') : WkAt w acc l n w' := by
 have mv : ∀ p, Lib.BuilderAt 233 5 w.heap.size w.heap.size p (Lib.byteCells acc.data.toList) wr → Lib.BuilderAt 233 5 w.heap.size w.heap.size p (Lib.byteCells acc.data.toList) w' := by
  rintro p ⟨hB, v, hb, ho, hn⟩
  exact ⟨hB, v, (k.block _ (lt_of_heap hb)).trans hb, PrintWords.own_move ho (fun i hi => k.block i (PrintWords.own_lt ho i hi)), hn⟩
 refine ⟨?_, ?_, below_then H.bel H.bel.size k⟩
 ·rcases H.b with h | h
  ·exact .inl (mv _ h)
  ·exact .inr (mv _ h)
 ·obtain ⟨xs, hx, hr⟩ := H.l
  exact ⟨xs, hx, Kd.R_below hr k⟩
set_option maxHeartbeats 2000000 in
set_option maxRecDepth 100000 in
theorem blob_walk (w : World) (b : Nat) (L : Loc) (h : Nat) (D : Dk) (P : List Pg) (S : St w L b h D P) (up : D.down = false) (n : Int) (hn : -9223372036854775808 ≤ n ∧ n ≤ 9223372036854775807) :
  Calls Tryz.prog 167 #[.pointer (some ⟨b, 0, none⟩), .int .i64 n] w fun e w' => (∃ v, e = .returned (.tuple #[.string (blobW P 279 n ⟨#[]⟩).1, v, .int .i64 (blobW P 279 n ⟨#[]⟩).2])) ∧ Below w.heap.size w w' := by
 obtain ⟨R, hR⟩ : ∃ R, R = blobW P 279 n ⟨#[]⟩ := ⟨_, rfl⟩
 rw [← hR]
 have HR := hi_ hR
 have HS := hi_ S
 have HU := hi_ up
 have HN := hi_ hn
 clear hR S up hn
 go_enter Tryz.func167, Tryz.ntmps167
 go_wp2_with fail
 go_step3
 go_wp2_with fail
 have W0 : Hid (WkAt w ⟨#[]⟩ (.slice none 0 0) 0 (w.alloc (.cells #[.pointer none, .slice none 0 0] 233 (0, 0)))) := hi_ ⟨.inl ⟨Nat.le_refl _, .slice none 0 0, blk_new w _, ⟨by simp [Lib.byteCells], .inl ⟨rfl, rfl⟩⟩, by simp [Value.ownBlock]⟩, ⟨[], rfl, Kd.R_nil _ _ _ _ _⟩, below_alloc (Below.refl _ _) _⟩
 generalize w.alloc (.cells #[.pointer none, .slice none 0 0] 233 (0, 0)) = w0 at *
 go_step3
 go_wp2_with fail
 go_loopw [9, 8] (fun x l wr => ∃ (f : Nat) (nv : Int) (acc : BA), f ≤ 279 ∧ x = .int .i64 nv ∧ (-9223372036854775808 ≤ nv ∧ nv ≤ 9223372036854775807) ∧ R = blobW P f nv acc ∧ acc.size ≤ (279 - f) * 240 ∧ Hid (WkAt w acc l (279 - f) wr)) (fun _ l _ => 280 - lenV l)
 case atStart => exact ⟨279, n, ⟨#[]⟩, by omega, rfl, HN.out, HR.out, by decide, W0⟩
 case round =>
  obtain ⟨f, nv, acc, hf, rfl, hnv, hR, hacc, WK⟩ := hrel
  clear W0
  have HF := hi_ hf
  have HRR := hi_ hR
  have CP := hi_ (blob_page wr b L h D P (HS.out.below WK.out.bel) HU.out nv hnv)
  obtain ⟨pg, hpg⟩ : ∃ pg, pg = blobP P nv := ⟨_, rfl⟩
  rw [← hpg] at CP
  have HPG := hi_ hpg
  have HPB := hi_ (show pg.1.size ≤ 240 ∧ (pg.2.2 = 0 → -1 ≤ pg.2.1 ∧ pg.2.1 ≤ nv) from by rw [hpg]; exact blobP_part P (fun i k s hi => (HS.out.holds i k s hi).2.2.1) nv)
  have HACC := hi_ hacc
  have HNV := hi_ hnv
  obtain ⟨part, next, er⟩ := pg
  clear hf hR hpg hacc hnv
  go_wp2_with fail
  refine CP.out.mono ?_
  rintro e w3 ⟨rfl, hb⟩
  have W3 := hi_ (WK.out.below hb)
  clear hb CP WK
  by_cases her : er = 0
  ·subst her
   obtain ⟨xs, hxl, hxr⟩ := W3.out.l
   obtain ⟨A, cA, hl⟩ := Kd.R_slice hxr
   subst hl
   have HXR := hi_ hxr
   have hxn : (xs.length : Int) = 279 - (f : Int) := by have := HF.out; omega
   have hco : costN 65536 = 279 := by decide
   have CC := hi_ (fun W => blob_Cost 65536 om_ W)
   rw [hco] at CC
   have HXL := hi_ hxl
   clear hxl hxr hco
   go_wp2_with fail
   refine (CC.out w3).mono ?_
   rintro e w4 ⟨rfl, rfl⟩
   clear CC
   by_cases hf0 : f = 0
   ·have hR : R = (⟨#[]⟩, 8) := by
     rw [HRR.out, hf0]
     unfold blobW
     rw [← HPG.out]
     rfl
    have h279 : (xs.length : Int) = 279 := by omega
    go_wp2_with fail
    rw [Exit.noGoto_ret]
    go_ret3
    exact ⟨⟨_, by rw [hR]; rfl⟩, W3.out.bel⟩
   ·have hne : ¬ (xs.length : Int) = 279 := by omega
    have hbl : (Lib.byteCells acc.data.toList).length + part.size ≤ 140737488355328 := by
     rw [Lib.byteCells_length]
     have h1 := HACC.out
     have h2 : part.size ≤ 240 := HPB.out.1
     have h3 : acc.data.toList.length = acc.size := rfl
     have h4 : (279 - f) * 240 ≤ 279 * 240 := Nat.mul_le_mul_right _ om_
     omega
    have HBL := hi_ hbl
    clear hbl
    go_wp2_with fail
    refine (bld_WriteString2 w.heap.size w.heap.size (Lib.byteCells acc.data.toList) part w3 W3.out.b HBL.out W3.out.bel.size).mono ?_
    rintro e w5 ⟨rfl, hB, hb, hst⟩
    rw [strCells_app, app_bytes] at hB
    have hbk : ∃ v : Value × Value, w3.heap[w.heap.size]? = some (.cells #[v.1, v.2] 233 (0, 0)) := by
     rcases W3.out.b with ⟨-, v, hb, -⟩ | ⟨-, v, hb, -⟩
     ·exact ⟨(_, v), hb⟩
     ·exact ⟨(_, v), hb⟩
    have R5 : Hid (Kd.R (Kd.int .i64) 3 w5 w.heap.size (fun _ => True) (.slice A xs.length cA) xs) := hi_ (Kd.R_of_own (PrintWords.own_move (Kd.own_of_R HXR.out) (fun k hk => by
     obtain ⟨cells, hc⟩ := PrintWords.own_typed (Kd.own_of_R HXR.out) k hk
     have hne : k ≠ w.heap.size := by
      rintro rfl
      obtain ⟨v, hv⟩ := hbk
      rw [hc] at hv
      simp at hv
     exact (hst.2 k _ hc hne (fun cs fz e => by simp at e)).trans hc.symm)) (fun _ _ => trivial))
    have HB5 := hi_ hB
    have hs5 := hi_ (Nat.le_trans W3.out.bel.size hb.size : w.heap.size ≤ w5.heap.size)
    have HW5 := hi_ (W3.out.bel.trans hb)
    have HLp := hi_ (show (xs.length + 1) * 8 ≤ 140737488355328 by omega)
    clear hB hb hst hbk W3
    by_cases hnx : next < 0
    ·go_wp2_with ((with_reducible refine gate_builtin (b := .append) (xs := #[.tmp 32, .tmp 34]) rfl ?_); at_builtin; refine Kd.R_append (Kd.int .i64) (w0 := w5) w.heap.size rfl (.tmp 32) (.tmp 34) 84 3 (.int .i64 0) 8 rfl Tryz.underlying84 PNd.info3 rfl (by decide) om_ (.slice A xs.length cA) _ nv [.int .i64 nv] (fun _ => True) (fun _ => False) rfl rfl rfl (fun _ hk => hk.elim) (fun _ _ => trivial) R5.out ((Below.refl w5.heap.size w5).mono hs5.out) hs5.out HLp.out ?_; intro y2 w6 ho2 hb2 hg2 hat2; have Q6 := hi_ ho2; have G6 := hi_ hg2; have B6 := hi_ hb2; clear ho2 hb2 hg2 hat2)
     have HBA : Hid (Lib.IsBuilder 233 5 w.heap.size w.heap.size (Lib.byteCells (acc ++ part).data.toList) w6) := hi_ (.inr (by
      obtain ⟨hB, v, hb, ho, hn⟩ := HB5.out
      have hlt5 := lt_of_heap hb
      have t1 : (Value.slice A xs.length cA).ownBlock ≠ some w.heap.size := fun hk => by
       obtain ⟨cells, hc⟩ := PrintWords.own_typed (Kd.own_of_R R5.out) _ hk
       rw [hb] at hc
       simp at hc
      exact ⟨hB, v, (G6.out.block _ hlt5 (fun e => t1 e.symm)).trans hb, PrintWords.own_move ho (fun k hk => G6.out.block k (PrintWords.own_lt ho k hk) (fun e => by
       obtain ⟨cells, hc⟩ := PrintWords.own_typed (Kd.own_of_R R5.out) _ e.symm
       obtain ⟨cells', hc'⟩ := PrintWords.own_typed ho k hk
       rw [hc] at hc'
       simp at hc')), hn⟩))
     have HBL6 : Hid (Below w.heap.size w w6) := hi_ (HW5.out.trans B6.out)
     refine (Tryz.Builder_String_any w.heap.size w.heap.size _ w6 HBA.out HBL6.out.size).mono ?_
     rintro e w7 ⟨rfl, hb⟩
     have hR : R = (acc ++ part, 0) := by
      rw [HRR.out]
      cases f with
      | zero => exact absurd rfl hf0
      | succ f =>
       unfold blobW
       rw [← HPG.out, if_neg (by simp), if_pos hnx]
     have HBL7 := hi_ (HBL6.out.trans hb)
     clear hb
     go_wp2_with fail
     rw [Exit.noGoto_ret]
     go_ret3
     refine ⟨⟨y2, ?_⟩, HBL7.out⟩
     rw [hR]
     have he : (⟨(acc.data.toList ++ part.data.toList).toArray⟩ : BA) = acc ++ part := by apply bytes_ext; rw [bytes_app]
     simp [← he]
    ·go_wp2_with ((with_reducible refine gate_builtin (b := .append) (xs := #[.tmp 32, .tmp 34]) rfl ?_); at_builtin; refine Kd.R_append (Kd.int .i64) (w0 := w5) w.heap.size rfl (.tmp 32) (.tmp 34) 84 3 (.int .i64 0) 8 rfl Tryz.underlying84 PNd.info3 rfl (by decide) om_ (.slice A xs.length cA) _ nv [.int .i64 nv] (fun _ => True) (fun _ => False) rfl rfl rfl (fun _ hk => hk.elim) (fun _ _ => trivial) R5.out ((Below.refl w5.heap.size w5).mono hs5.out) hs5.out HLp.out ?_; intro y2 w6 ho2 hb2 hg2 hat2; have Q6 := hi_ ho2; have G6 := hi_ hg2; have B6 := hi_ hb2; clear ho2 hb2 hg2 hat2)
     have HBA : Hid (Lib.IsBuilder 233 5 w.heap.size w.heap.size (Lib.byteCells (acc ++ part).data.toList) w6) := hi_ (.inr (by
      obtain ⟨hB, v, hb, ho, hn⟩ := HB5.out
      have hlt5 := lt_of_heap hb
      have t1 : (Value.slice A xs.length cA).ownBlock ≠ some w.heap.size := fun hk => by
       obtain ⟨cells, hc⟩ := PrintWords.own_typed (Kd.own_of_R R5.out) _ hk
       rw [hb] at hc
       simp at hc
      exact ⟨hB, v, (G6.out.block _ hlt5 (fun e => t1 e.symm)).trans hb, PrintWords.own_move ho (fun k hk => G6.out.block k (PrintWords.own_lt ho k hk) (fun e => by
       obtain ⟨cells, hc⟩ := PrintWords.own_typed (Kd.own_of_R R5.out) _ e.symm
       obtain ⟨cells', hc'⟩ := PrintWords.own_typed ho k hk
       rw [hc] at hc'
       simp at hc')), hn⟩))
     have hR : R = blobW P (f - 1) next (acc ++ part) := by
      rw [HRR.out]
      cases f with
      | zero => exact absurd rfl hf0
      | succ f =>
       rw [Nat.add_sub_cancel, blobW, ← HPG.out, if_neg (by simp), if_neg (show ¬ next < 0 by omega)]
     have hnb : -1 ≤ next ∧ next ≤ nv := by simpa using HPB.out.2
     have hnv := HNV.out
     have hlen2 : (acc ++ part).size ≤ (279 - (f - 1)) * 240 := by
      have h1 := HACC.out
      have h2 : part.size ≤ 240 := HPB.out.1
      have h3 : (279 - (f - 1)) * 240 = (279 - f) * 240 + 240 := by have := HF.out; rw [show 279 - (f - 1) = 279 - f + 1 from by omega, Nat.add_mul]
      rw [ByteArray.size_append]
      omega
     obtain ⟨A2, cA2, hl2⟩ := Kd.R_slice Q6.out
     refine ⟨⟨f - 1, next, acc ++ part, by have := HF.out; omega, rfl, ?_, hR, hlen2, hi_ ⟨HBA.out, ⟨_, ?_, Q6.out⟩, HW5.out.trans B6.out⟩⟩, ?_⟩
     ·omega
     ·have := HF.out; have := HXL.out; simp; omega
     ·rw [hl2]
      have := HF.out
      have := HXL.out
      simp [lenV]
      omega
  ·have hR : R = (⟨#[]⟩, er) := by
    rw [HRR.out]
    cases f with
    | zero => unfold blobW; rw [← HPG.out, if_pos her]
    | succ f => unfold blobW; rw [← HPG.out, if_pos her]
   go_wp2_with fail
   rw [Exit.noGoto_ret]
   go_ret3
   exact ⟨⟨_, by rw [hR]; rfl⟩, W3.out.bel⟩
/-- What Read says. -/
def blobR (P : List Pg) (n : Int) : BA × Int := blobW P 279 n ⟨#[]⟩
theorem blob_Read (w : World) (b : Nat) (L : Loc) (h : Nat) (D : Dk) (P : List Pg) (S : St w L b h D P) (up : D.down = false) (n : Int) (hn : -9223372036854775808 ≤ n ∧ n ≤ 9223372036854775807) :
  Calls Tryz.prog 124 #[.pointer (some ⟨b, 0, none⟩), .int .i64 n] w fun e w' => e = .returned (.tuple #[.string (blobR P n).1, .int .i64 (blobR P n).2]) ∧ Below w.heap.size w w' := by
 have CW := blob_walk w b L h D P S up n hn
 obtain ⟨R, hR⟩ : ∃ R, R = blobR P n := ⟨_, rfl⟩
 have hR' : blobW P 279 n ⟨#[]⟩ = R := hR.symm
 rw [hR'] at CW
 rw [← hR]
 have CW := hi_ CW
 obtain ⟨s, er⟩ := R
 clear hR hR' S
 go_enter Tryz.func124, Tryz.ntmps124
 go_wp2_with fail
 refine CW.out.mono ?_
 rintro e w1 ⟨⟨v, rfl⟩, hb⟩
 have B1 := hi_ hb
 clear hb CW
 go_wp2_with fail
 go_ret2
 exact ⟨rfl, B1.out⟩
end Go.Proofs.YtendgmblgdkiaaaGreat

namespace Go.Proofs.YtendgmblgdkiaaaGreat
open Go.RowKit
open Go.Proofs.YtendgmblgdkiaaaGreatW
open PrintWords PrintLast PrintMore
set_option linter.unusedVariables false
set_option linter.unusedSimpArgs false

/-- What a blob's value says behind its first byte: its page and its size. -/
def blobL (l : List UInt8) : Option (Nat × Nat) := match hd 0 l with
 | none => none
 | some (x, m) => if x ≤ 2147483647 then (match hd 0 (l.drop m) with
  | none => none
  | some (y, j) => if y ≤ 65536 ∧ m + j = l.length then some (x, y) else none) else none
theorem blob_say (s : BA) (hs : s.size ≤ 1000) : ∃ (a e1 b e2 e3 e4 : Int) (r1 r2 r3 : BA), PNd.varint_In_Num.f 3020 s 0 2147483647 = some (a, r1, e1) ∧ (0 ≤ a ∧ a ≤ 2147483647) ∧ PNd.varint_In_Num.f 3020 r1 e1 65536 = some (b, r2, e2) ∧ (0 ≤ b ∧ b ≤ 65536) ∧ PNd.varint_In_End.f r2 e2 = some (e3, r3, e4) ∧
  ((∃ x y : Nat, blobL s.data.toList = some (x, y) ∧ a = x ∧ b = y ∧ e3 = 0) ∨ (blobL s.data.toList = none ∧ e3 ≠ 0)) := by
 obtain ⟨g1, g2⟩ := in_num_hd s 2147483647 hs
 have hl : s.data.toList.length = s.size := rfl
 cases h : hd 0 s.data.toList with
 | none =>
  obtain ⟨d, hd', h3⟩ := g2 h
  have hd0 : d ≠ 0 := by omega
  exact ⟨0, d, 0, d, d, d, ⟨#[]⟩, ⟨#[]⟩, ⟨#[]⟩, h3, by omega, num_err _ _ _ _ hd0, by omega, end_nil d, .inr ⟨by unfold blobL; rw [h], hd0⟩⟩
 | some p =>
  obtain ⟨x, m⟩ := p
  have h3 := g1 x m h
  have h4 := hd_lt _ 0 x m om_ h
  by_cases hx : x ≤ 2147483647
  ·rw [if_pos hx] at h3
   have hr : (s.extract m s.size).size ≤ 1000 := by
    have := congrArg List.length (cut_list s m)
    have e : (s.extract m s.size).data.toList.length = (s.extract m s.size).size := rfl
    rw [List.length_drop] at this
    omega
   obtain ⟨f1, f2⟩ := in_num_hd (s.extract m s.size) 65536 hr
   rw [cut_list] at f1 f2
   cases h' : hd 0 (s.data.toList.drop m) with
   | none =>
    obtain ⟨d, hd', h5⟩ := f2 h'
    have hd0 : d ≠ 0 := by omega
    exact ⟨x, 0, 0, d, d, d, _, ⟨#[]⟩, ⟨#[]⟩, h3, by omega, h5, by omega, end_nil d, .inr ⟨by unfold blobL; simp only [h, if_pos hx, h'], hd0⟩⟩
   | some p =>
    obtain ⟨y, j⟩ := p
    have h5 := f1 y j h'
    have h6 := hd_lt _ 0 y j om_ h'
    rw [List.length_drop] at h6
    by_cases hy : y ≤ 65536
    ·rw [if_pos hy] at h5
     have he : ((s.extract m s.size).extract j (s.extract m s.size).size).data.toList = (s.data.toList.drop m).drop j := by rw [cut_list, cut_list]
     by_cases hj : m + j = s.data.toList.length
     ·refine ⟨x, 0, y, 0, 0, 0, _, _, ((s.extract m s.size).extract j (s.extract m s.size).size), h3, by omega, h5, by omega, ?_, .inl ⟨x, y, ?_, rfl, rfl, rfl⟩⟩
      ·unfold PNd.varint_In_End.f
       rw [if_pos]
       rw [ByteArray.toList_eq, he, List.drop_drop]
       exact List.drop_eq_nil_of_le om_
      ·unfold blobL
       simp only [h, if_pos hx, h']
       rw [if_pos ⟨hy, hj⟩]
     ·refine ⟨x, 0, y, 0, 3, 0, _, _, ((s.extract m s.size).extract j (s.extract m s.size).size), h3, by omega, h5, by omega, ?_, .inr ⟨?_, by omega⟩⟩
      ·unfold PNd.varint_In_End.f
       rw [if_neg]
       rw [ByteArray.toList_eq, he, List.drop_drop]
       intro hn
       have := congrArg List.length hn
       rw [List.length_drop, List.length_nil] at this
       omega
      ·unfold blobL
       simp only [h, if_pos hx, h']
       rw [if_neg (fun h => hj h.2)]
    ·rw [if_neg hy] at h5
     refine ⟨x, 0, 0, 4, 4, 4, _, ⟨#[]⟩, ⟨#[]⟩, h3, by omega, h5, by omega, end_nil 4, .inr ⟨?_, by omega⟩⟩
     unfold blobL
     simp only [h, if_pos hx, h']
     rw [if_neg (fun h => hy h.1)]
  ·rw [if_neg hx] at h3
   refine ⟨0, 4, 0, 4, 4, 4, ⟨#[]⟩, ⟨#[]⟩, ⟨#[]⟩, h3, by omega, num_err _ _ _ _ om_, by omega, end_nil 4, .inr ⟨?_, by omega⟩⟩
   unfold blobL
   simp only [h, if_neg hx]
theorem blobL_num (p n : Nat) (hp : p ≤ 2147483647) (hn : n ≤ 65536) : blobL (vNum p ++ vNum n).data.toList = some (p, n) := by
 have h2 : (128 : Nat) ^ 10 = 1180591620717411303424 := by decide
 have h1 := hd_num 10 p 0 (vNumL n) om_ om_ om_ om_ om_
 have h3 := hd_num 10 n 0 [] om_ om_ om_ om_ om_
 rw [List.append_nil] at h3
 unfold blobL
 rw [bytes_app, vNum_list, vNum_list, h1]
 simp only [if_pos hp, List.drop_left, h3, List.length_append]
 rw [if_pos ⟨hn, trivial⟩]
/-- What a blob at x of size y says. -/
def loadAt (P : List Pg) (x y : Nat) : BA × Int := if (blobR P x).2 ≠ 0 then (⟨#[]⟩, (blobR P x).2) else if (blobR P x).1.size ≠ y then (⟨#[]⟩, 8) else ((blobR P x).1, 0)
/-- What Load says of a value. -/
def loadB (P : List Pg) (v : BA) : BA × Int := if (cutPre v 105).2 = true then ((cutPre v 105).1, 0) else if (cutPre v 98).2 = true then (match blobL (cutPre v 98).1.data.toList with
 | none => (⟨#[]⟩, 8)
 | some (x, y) => loadAt P x y) else (⟨#[]⟩, 8)
theorem cutPre_le (s : BA) (c : UInt8) : (cutPre s c).1.size ≤ s.size := by
 unfold cutPre
 split
 ·rw [ByteArray.size_extract]; omega
 ·exact Nat.le_refl _
set_option maxRecDepth 100000 in
theorem int_Load (w : World) (b : Nat) (L : Loc) (h : Nat) (D : Dk) (P : List Pg) (S : St w L b h D P) (up : D.down = false) (v : BA) (hv : v.size ≤ 900) :
  Calls Tryz.prog 63 #[.pointer (some ⟨b, 0, none⟩), .string v] w fun e w' => e = .returned (.tuple #[.string (loadB P v).1, .int .i64 (loadB P v).2]) ∧ Below w.heap.size w w' := by
 obtain ⟨R, hR⟩ : ∃ R, R = loadB P v := ⟨_, rfl⟩
 rw [← hR]
 have HR := hi_ hR
 clear hR
 have CI := hi_ (fun W => lib_CutPrefix v 105 W om_)
 have CB := hi_ (fun W => lib_CutPrefix v 98 W om_)
 have hsz := cutPre_le v 98
 unfold loadB at HR
 generalize cutPre v 105 = p0 at *
 generalize cutPre v 98 = p1 at *
 obtain ⟨x0, q0⟩ := p0
 obtain ⟨rest, q⟩ := p1
 have hsz : rest.size ≤ 900 := Nat.le_trans hsz hv
 simp only at HR
 cases q0 with
 | true =>
  clear CB hsz
  go_enter Tryz.func63, Tryz.ntmps63
  go_wp2_with fail
  refine (CI.out w).mono ?_
  rintro e w1 ⟨rfl, rfl⟩
  clear CI
  go_wp2_with fail
  go_ret2
  have e : R = (x0, 0) := by rw [HR.out]; simp
  rw [e]
  exact ⟨rfl, Below.refl _ _⟩
 | false =>
  obtain ⟨a, e1, y, e2, e3, e4, r1, r2, r3, h1, ha, h2, hb, h3, hc⟩ := blob_say rest om_
  have H1 := hi_ h1
  have H2 := hi_ h2
  have H3 := hi_ h3
  have HA := hi_ ha
  have hwa : IntKind.i64.wrap a = a := by rw [IntKind.wrap_i64]; omega
  have hwb : IntKind.i64.wrap y = y := by rw [IntKind.wrap_i64]; omega
  have HC := hi_ hc
  have HS := hi_ S
  have HU := hi_ up
  clear h1 h2 h3 hc ha S up hsz hv
  go_enter Tryz.func63, Tryz.ntmps63
  go_wp2_with fail
  refine (CI.out w).mono ?_
  rintro e w0 ⟨rfl, rfl⟩
  clear CI
  go_wp2_with fail
  refine (CB.out w).mono ?_
  rintro e w0 ⟨rfl, rfl⟩
  clear CB
  go_wp2_with fail
  refine (PNd.varint_Of.calls rest rest 0 w w (Below.refl _ _) rfl).mono ?_
  rintro e w1 ⟨g, rfl, hI, hB, -⟩
  have I1 := hi_ hI
  have B1 := hi_ hB
  clear hI hB
  go_wp2_with fail
  refine (PNd.varint_In_Num.calls 3020 g rest 0 2147483647 a r1 e1 w w1 I1.out B1.out H1.out).mono ?_
  rintro e w2 ⟨rfl, hI, hB, -⟩
  have I2 := hi_ hI
  have B2 := hi_ hB
  clear hI hB I1 B1
  go_wp2_with fail
  refine (PNd.varint_In_Num.calls 3020 g r1 e1 65536 y r2 e2 w w2 I2.out B2.out H2.out).mono ?_
  rintro e w3 ⟨rfl, hI, hB, -⟩
  have I3 := hi_ hI
  have B3 := hi_ hB
  clear hI hB I2 B2
  cases q with
  | false =>
   go_wp2_with fail
   go_ret2
   have e : R = (⟨#[]⟩, 8) := by rw [HR.out]; simp
   rw [e]
   exact ⟨rfl, B3.out⟩
  | true =>
   have HR2 : Hid (R = match blobL rest.data.toList with | none => (⟨#[]⟩, 8) | some (x, y) => loadAt P x y) := hi_ (by rw [HR.out]; simp)
   clear HR
   have HR := HR2
   clear HR2
   go_wp2_with fail
   refine (PNd.varint_In_End.calls g r2 e2 e3 r3 e4 w w3 I3.out B3.out H3.out).mono ?_
   rintro e w4 ⟨rfl, hI, hB, -⟩
   have B4 := hi_ hB
   clear hI hB I3 B3
   rcases HC.out with ⟨x, z, hbl, hax, hyz, he⟩ | ⟨hbl, he⟩
   ·rw [hbl] at HR
    simp only at HR
    subst he
    have HAX := hi_ hax
    have HYZ := hi_ hyz
    have CR := blob_Read w4 b L h D P (HS.out.below B4.out) HU.out a (by have := HA.out; omega)
    rw [hax] at CR
    unfold loadAt at HR
    generalize blobR P (x : Int) = q at *
    obtain ⟨s, er⟩ := q
    simp only at CR HR
    have CR := hi_ CR
    clear hbl hyz HC
    rw [hax]
    clear hax
    rw [HYZ.out]
    go_wp2_with fail
    refine CR.out.mono ?_
    rintro e w5 ⟨rfl, hb⟩
    have B5 := hi_ (B4.out.trans (hb.mono B4.out.size))
    clear hb CR B4
    by_cases her : er = 0
    ·subst her
     by_cases hsz : s.size = z
     ·have hsz' : (s.size : Int) = (z : Int) := by omega
      go_wp2_with fail
      go_ret2
      have e : R = (s, 0) := by rw [HR.out]; simp [hsz]
      rw [e]
      exact ⟨rfl, B5.out⟩
     ·have hsz' : ¬ (s.size : Int) = (z : Int) := by omega
      go_wp2_with fail
      go_ret2
      have e : R = (⟨#[]⟩, 8) := by rw [HR.out]; simp [hsz]
      rw [e]
      exact ⟨rfl, B5.out⟩
    ·go_wp2_with fail
     go_ret2
     have e : R = (⟨#[]⟩, er) := by rw [HR.out]; simp [her]
     rw [e]
     exact ⟨rfl, B5.out⟩
   ·rw [hbl] at HR
    simp only at HR
    go_wp2_with fail
    go_ret2
    have e : R = (⟨#[]⟩, 8) := HR.out
    rw [e]
    exact ⟨rfl, B4.out⟩
end Go.Proofs.YtendgmblgdkiaaaGreat

namespace Go.Proofs.YtendgmblgdkiaaaGreat
open Go.RowKit
open Go.Proofs.YtendgmblgdkiaaaGreatW
open PrintWords PrintLast PrintMore
set_option linter.unusedVariables false
set_option linter.unusedSimpArgs false

theorem St.drewN {w : World} {L : Loc} {b h : Nat} {D : Dk} {P : List Pg} (S : St w L b h D P) (m : Nat) : St (w.drewN m) L b h D P := S.below (below_drewN (Below.refl _ _) m)
theorem ValM.below {m : Nat} {W w' w'' : World} {b : Nat} {L : Loc} {h : Nat} {D : Dk} {P : List Pg} {D' : Dk} {P' : List Pg} (V : ValM m W w' b L h D P D' P') (k : Below w'.heap.size w' w'') : ValM m W w'' b L h D P D' P' :=
 ⟨V.st.below k, V.live, V.app, V.most, V.keep.andThen (Keep.below (F := fun k => L.foot k ∨ k = b) k) (fun _ _ h => h)⟩
theorem besB_size (p n : Nat) (hp : p ≤ 2147483647) (hn : n ≤ 65536) : (besB p n).size ≤ 32 := by
 have z1 := vNum_le (x := p) om_
 have z2 := vNum_le (x := n) om_
 unfold besB
 rw [ByteArray.size_append, ByteArray.size_append]
 have : (⟨#[98]⟩ : BA).size = 1 := rfl
 omega
set_option maxRecDepth 100000 in
theorem int_Value_b (w : World) (b : Nat) (L : Loc) (h : Nat) (D : Dk) (P : List Pg) (S : St w L b h D P) (lv : D.Live) (s : BA) (hs1 : 31 < s.size) (hs : s.size ≤ 65536) (c : Nat) (hc : c = costN s.size) (hr : P.length + c ≤ D.room) :
  Calls Tryz.prog 62 #[.pointer (some ⟨b, 0, none⟩), .string s] w fun e w' => e = .returned (.tuple #[.string (besB (P.length + c - 1) s.size), .int .i64 0]) ∧ ∃ D1, ValM c w w' b L h D P D1 (P ++ pgsB P.length (partB s c) c) := by
 have hrl := room_le S.d.ok
 have CW := hi_ (blob_Write w b L h D P S lv s hs c hc hr)
 have CB := hi_ (fun W => int_Beside (P.length + c - 1) s.size om_ hs W)
 have h0 : ¬ (s.size : Int) ≤ 31 := by omega
 clear S lv hs1 hs hc hr hrl
 go_enter Tryz.func62, Tryz.ntmps62
 go_wp2_with fail
 refine CW.out.mono ?_
 rintro e w1 ⟨rfl, D1, VM⟩
 have V1 := hi_ VM
 clear VM CW
 go_wp2_with fail
 refine (CB.out w1).mono ?_
 rintro e w2 ⟨rfl, hb⟩
 have V2 := hi_ (V1.out.below hb)
 clear hb V1 CB
 go_wp2_with fail
 go_ret2
 exact ⟨rfl, D1, V2.out⟩
/-- How many pages a text's value takes. -/
def valC (s : BA) : Nat := if s.size ≤ 31 then 0 else costN s.size
/-- The value of a text behind so many pages. -/
def valOf (n : Nat) (s : BA) : BA := if s.size ≤ 31 then valIn s else besB (n + costN s.size - 1) s.size
/-- What stands for a text. -/
def VLa (P : List Pg) (v s : BA) : Prop := s.size ≤ 65536 ∧ ∃ base, v = valOf base s ∧ base + valC s ≤ 40000 ∧ ∀ i, i < valC s → P[base + i]? = some (blobPg base i (partB s (costN s.size) i))
theorem valOf_ok {n : Nat} {s : BA} (hn : n + valC s ≤ 40000) (hs : s.size ≤ 65536) : valOk (valOf n s) = true := by
 unfold valOf
 unfold valC at hn
 split
 ·next h => exact valIn_ok h
 ·next h => rw [if_neg h] at hn; exact decide_eq_true (besB_size _ _ om_ hs)
theorem cutPre_no {c : UInt8} {s : BA} (h : Lib.hasPrefix s.data.toList [c] = false) : cutPre s c = (s, false) := by
 unfold cutPre
 rw [h]
 rfl
theorem load_in (P : List Pg) (s : BA) : loadB P (valIn s) = (s, 0) := by
 unfold loadB
 have e : cutPre (valIn s) 105 = (s, true) := cutPre_own 105 s
 rw [e]
 rfl
theorem load_b (P : List Pg) (t : BA) {x y : Nat} (h : blobL t.data.toList = some (x, y)) : loadB P ((⟨#[98]⟩ : BA) ++ t) = loadAt P x y := by
 unfold loadB
 have e1 : cutPre ((⟨#[98]⟩ : BA) ++ t) 105 = ((⟨#[98]⟩ : BA) ++ t, false) := cutPre_no (by rw [bytes_app]; rfl)
 have e2 : cutPre ((⟨#[98]⟩ : BA) ++ t) 98 = (t, true) := cutPre_own 98 t
 rw [e1, e2]
 simp only [h]
 rfl
theorem VLa.load {P : List Pg} {v s : BA} (H : VLa P v s) : loadB P v = (s, 0) ∧ v.size ≤ 900 := by
 obtain ⟨hs, base, rfl, hb, hp⟩ := H
 have hk := valOf_ok hb hs
 have hk2 : (valOf base s).size ≤ 32 := of_decide_eq_true hk
 refine ⟨?_, by omega⟩
 unfold valOf
 unfold valC at hb hp
 by_cases h : s.size ≤ 31
 ·rw [if_pos h]
  exact load_in P s
 ·rw [if_neg h] at hb hp ⊢
  obtain ⟨k1, k2, k3⟩ := cost_le s.size
  have hc : costN s.size ≤ 279 := by unfold costN; omega
  have e : besB (base + costN s.size - 1) s.size = (⟨#[98]⟩ : BA) ++ (vNum (base + costN s.size - 1) ++ vNum s.size) := ByteArray.append_assoc
  rw [e, load_b P _ (blobL_num _ _ (by omega) hs)]
  have hr : blobR P ((base + costN s.size - 1 : Nat) : Int) = (s, 0) := by
   unfold blobR
   rw [show base + costN s.size - 1 = base + (costN s.size - 1) from by omega, blobW_chain P base (partB s (costN s.size)) (costN s.size - 1) 279 ⟨#[]⟩ (by omega) (by omega) (fun i hi => hp i (by omega)), catP_all]
   congr 1
  unfold loadAt
  rw [hr]
  simp
theorem VLa.pre {P X : List Pg} {v s : BA} (H : VLa P v s) : VLa (P ++ X) v s := by
 obtain ⟨hs, base, hv, hb, hp⟩ := H
 refine ⟨hs, base, hv, hb, fun i hi => ?_⟩
 have h := hp i hi
 obtain ⟨hl, -⟩ := List.getElem?_eq_some_iff.1 h
 rw [List.getElem?_append_left hl]
 exact h
/-- Value where there is room. -/
theorem int_Value (w : World) (b : Nat) (L : Loc) (h : Nat) (D : Dk) (P : List Pg) (S : St w L b h D P) (lv : D.Live) (s : BA) (hs : s.size ≤ 65536) (hr : P.length + valC s ≤ D.room) :
  Calls Tryz.prog 62 #[.pointer (some ⟨b, 0, none⟩), .string s] w fun e w' => e = .returned (.tuple #[.string (valOf P.length s), .int .i64 0]) ∧ ∃ D1 P1, ValM (valC s) w w' b L h D P D1 P1 ∧ VLa P1 (valOf P.length s) s := by
 have hrl := room_le S.d.ok
 by_cases h : s.size ≤ 31
 ·have hc : valC s = 0 := if_pos h
  have ho : valOf P.length s = valIn s := if_pos h
  rw [hc, ho]
  refine (int_Value_in b s w h).mono ?_
  rintro e w' ⟨rfl, rfl⟩
  exact ⟨rfl, D, P, ⟨S, lv, AppOk.refl S.room S.holds, rfl, Keep.below (Below.refl _ _)⟩, hs, P.length, ho.symm, by omega, fun i hi => by omega⟩
 ·have hc : valC s = costN s.size := if_neg h
  have ho : valOf P.length s = besB (P.length + costN s.size - 1) s.size := if_neg h
  rw [hc] at hr
  rw [hc, ho]
  refine (int_Value_b w b L _ D P S lv s om_ hs (costN s.size) rfl hr).mono ?_
  rintro e w' ⟨rfl, D1, V⟩
  refine ⟨rfl, D1, _, V, hs, P.length, ho.symm, by omega, fun i hi => ?_⟩
  rw [List.getElem?_append_right (by omega), Nat.add_sub_cancel_left]
  exact pgsB_at _ _ om_
end Go.Proofs.YtendgmblgdkiaaaGreat

namespace Go.Proofs.YtendgmblgdkiaaaGreat
open Go.RowKit
open Go.Proofs.YtendgmblgdkiaaaGreatW
open PrintWords PrintLast PrintMore
set_option linter.unusedVariables false
set_option linter.unusedSimpArgs false

theorem blobP_ok {P : List Pg} (hP : ∀ (i : Nat) k s, P[i]? = some (k, s) → s.size ≤ 240) {n : Int} (h : (blobP P n).2.2 = 0) : 0 ≤ n ∧ n < P.length ∧ (blobP P n).2.1 ≤ n - 1 ∧ (blobP P n).1.size ≤ 240 := by
 have hz := (blobP_part P hP n).1
 have hs : (pgSay P n).2.2 = 0 := by
  by_cases h0 : (pgSay P n).2.2 = 0
  ·exact h0
  ·unfold blobP at h
   rw [if_pos h0] at h
   exact absurd h h0
 have hn : 0 ≤ n ∧ n < P.length := by
  unfold pgSay at hs
  by_cases h0 : n < 0
  ·rw [if_pos h0] at hs
   cases hs
  ·rw [if_neg h0] at hs
   cases hp : P[n.toNat]? with
   | none => rw [hp] at hs; cases hs
   | some q =>
    have := (List.getElem?_eq_some_iff.1 hp).1
    omega
 refine ⟨hn.1, hn.2, ?_, hz⟩
 unfold blobP at h ⊢
 rw [if_neg (by simp [hs])] at h ⊢
 split
 ·next hh => rw [hh] at h; cases h
 ·next x m hh =>
  rw [hh] at h
  simp only at h
  split
  ·next hc => simp only; omega
  ·next hc => rw [if_neg hc] at h; cases h
theorem blobW_size {P : List Pg} (hP : ∀ (i : Nat) k s, P[i]? = some (k, s) → s.size ≤ 240) : ∀ (f : Nat) (n : Int) (acc : BA), (blobW P f n acc).2 = 0 → 0 ≤ n ∧ n < P.length ∧ (blobW P f n acc).1.size ≤ acc.size + (n.toNat + 1) * 240
 | 0, n, acc, h => by
  unfold blobW at h
  split at h
  ·next he => exact absurd h he
  ·cases h
 | f + 1, n, acc, h => by
  unfold blobW at h ⊢
  by_cases he : (blobP P n).2.2 ≠ 0
  ·rw [if_pos he] at h
   exact absurd h he
  ·rw [if_neg he] at h ⊢
   obtain ⟨h1, h2, h3, h4⟩ := blobP_ok hP (n := n) om_
   refine ⟨h1, h2, ?_⟩
   by_cases hn : (blobP P n).2.1 < 0
   ·rw [if_pos hn]
    simp only [ByteArray.size_append]
    omega
   ·rw [if_neg hn] at h ⊢
    have ih := (blobW_size hP f _ _ h).2.2
    rw [ByteArray.size_append] at ih
    have h5 : ((blobP P n).2.1.toNat + 1) * 240 ≤ n.toNat * 240 := Nat.mul_le_mul_right _ om_
    omega
theorem blobR_small {P : List Pg} (hP : ∀ (i : Nat) k s, P[i]? = some (k, s) → s.size ≤ 240) (hl : P.length ≤ 200) {n : Int} (h : (blobR P n).2 = 0) : (blobR P n).1.size ≤ 65536 := by
 obtain ⟨h1, h2, h3⟩ := blobW_size hP 279 n ⟨#[]⟩ h
 have e : (⟨#[]⟩ : BA).size = 0 := rfl
 have h5 : (n.toNat + 1) * 240 ≤ 200 * 240 := Nat.mul_le_mul_right _ om_
 unfold blobR
 omega
theorem first_of (K : BA) : K = ⟨#[]⟩ ∨ ∃ (c : UInt8) (t : BA), K = (⟨#[c]⟩ : BA) ++ t := by
 obtain ⟨⟨l⟩⟩ := K
 rcases l with _ | ⟨c, r⟩
 ·exact .inl rfl
 ·exact .inr ⟨c, ⟨⟨r⟩⟩, by apply bytes_ext; rw [bytes_app]; rfl⟩
theorem first_get {c : UInt8} {t K : BA} (h : K = (⟨#[c]⟩ : BA) ++ t) (hz : 0 < K.size) : K[0]'hz = c := by
 have h1 := head_get hz
 have hl : K.data.toList = c :: t.data.toList := by rw [h, bytes_app]; rfl
 rw [hl] at h1
 exact (Option.some.inj h1).symm
theorem pre_first (c d : UInt8) (t : BA) : Lib.hasPrefix ((⟨#[c]⟩ : BA) ++ t).data.toList [d] = (c == d) := by
 rw [bytes_app]
 show ([d].isPrefixOf (c :: t.data.toList)) = _
 simp only [List.isPrefixOf, Bool.and_true]
 exact Bool.beq_comm
theorem load_other (P : List Pg) {c : UInt8} (t : BA) (h1 : c ≠ 105) (h2 : c ≠ 98) : loadB P ((⟨#[c]⟩ : BA) ++ t) = (⟨#[]⟩, 8) := by
 unfold loadB
 rw [cutPre_no (by rw [pre_first]; simpa using h1), cutPre_no (by rw [pre_first]; simpa using h2)]
 rfl
theorem load_nil (P : List Pg) : loadB P ⟨#[]⟩ = (⟨#[]⟩, 8) := by
 unfold loadB
 rw [cutPre_no (by rfl), cutPre_no (by rfl)]
 rfl
theorem load_bno (P : List Pg) (t : BA) (h : blobL t.data.toList = none) : loadB P ((⟨#[98]⟩ : BA) ++ t) = (⟨#[]⟩, 8) := by
 unfold loadB
 have e1 : cutPre ((⟨#[98]⟩ : BA) ++ t) 105 = ((⟨#[98]⟩ : BA) ++ t, false) := cutPre_no (by rw [pre_first]; rfl)
 have e2 : cutPre ((⟨#[98]⟩ : BA) ++ t) 98 = (t, true) := cutPre_own 98 t
 rw [e1, e2]
 simp only [h]
 rfl
theorem ne_nil_app (c : UInt8) (t : BA) : (((⟨#[c]⟩ : BA) ++ t).toList == []) = false := by
 rw [beq_eq_false_iff_ne, ByteArray.toList_eq, bytes_app]
 simp
set_option maxHeartbeats 1000000 in
set_option maxRecDepth 100000 in
theorem law_says (w : World) (b : Nat) (L : Loc) (h : Nat) (D : Dk) (P : List Pg) (S : St w L b h D P) (up : D.down = false) (hl : P.length ≤ 200) (K : BA) (hK : K.size ≤ 900) :
  Calls Tryz.prog 67 #[.pointer (some ⟨b, 0, none⟩), .string K] w fun e w' => e = .returned (.tuple #[.string (loadB P K).1, .bool (decide ((loadB P K).2 = 0))]) ∧ Below w.heap.size w w' := by
 have HP : Hid (∀ (i : Nat) k s, P[i]? = some (k, s) → s.size ≤ 240) := hi_ (fun i k s hi => (S.holds i k s hi).2.2.1)
 have HS := hi_ S
 have HU := hi_ up
 have HL := hi_ hl
 obtain ⟨R, hR⟩ : ∃ R, R = loadB P K := ⟨_, rfl⟩
 rw [← hR]
 have HR := hi_ hR
 clear hR S up hl
 rcases first_of K with rfl | ⟨c, t, hKt⟩
 ·rw [load_nil] at HR
  go_enter Tryz.func67, Tryz.ntmps67
  go_wp2_with fail
  go_ret2
  rw [HR.out]
  exact ⟨rfl, Below.refl _ _⟩
 ·have hz : K.size = 1 + t.size := by rw [hKt, ByteArray.size_append]; rfl
  have hz1 : (1 : Int) ≤ (K.size : Int) := by omega
  have hk0 : (K[0]'om_) = c := first_get hKt om_
  have hne : (K.toList == []) = false := by rw [hKt]; exact ne_nil_app c t
  have hex : K.extract 1 (1 + t.size) = t := by rw [← hz, hKt]; exact cut_app_r (⟨#[c]⟩ : BA) t
  rw [hKt] at HR
  clear hKt
  by_cases h1 : c = 105
  ·subst h1
   have e : loadB P ((⟨#[105]⟩ : BA) ++ t) = (t, 0) := load_in P t
   rw [e] at HR
   go_enter Tryz.func67, Tryz.ntmps67
   go_wp2_with fail
   go_ret2
   rw [HR.out]
   exact ⟨rfl, Below.refl _ _⟩
  ·by_cases h2 : c = 98
   ·subst h2
    have ht1 : t.size ≤ 1000 := by omega
    cases hh : hd 0 t.data.toList with
    | none =>
     have CH := hi_ (fun W => head_none t ht1 hh W)
     rw [load_bno P t (by unfold blobL; rw [hh])] at HR
     clear hh
     go_enter Tryz.func67, Tryz.ntmps67
     go_wp2_with fail
     refine (CH.out _).mono ?_
     rintro e w1 ⟨d, hd', rfl, hb⟩
     have B1 := hi_ hb
     have hd0 : d ≠ 0 := by omega
     clear hb CH hd'
     go_wp2_with fail
     go_ret2
     rw [HR.out]
     exact ⟨rfl, B1.out⟩
    | some p =>
     obtain ⟨x, m⟩ := p
     have CH := hi_ (fun W => head_some t ht1 hh W)
     have hm := hd_lt _ 0 x m om_ hh
     have hlen : t.data.toList.length = t.size := rfl
     by_cases hx : x ≤ 2147483647
     ·have hx1 : ¬ (2147483647 : Int) < (x : Int) := by omega
      obtain ⟨u, hu⟩ : ∃ u, u = t.extract m t.size := ⟨_, rfl⟩
      have hul : u.data.toList = t.data.toList.drop m := by rw [hu, cut_list]
      have huz : u.size + m = t.size := by
       have := congrArg List.length hul
       have e : u.data.toList.length = u.size := rfl
       rw [List.length_drop] at this
       omega
      have hm1 : (m : Int) ≤ 10 := by omega
      have hm0 : (0 : Int) ≤ (m : Int) := by omega
      have hm4 : (m : Int) ≤ (t.size : Int) := by omega
      have hexm : t.extract m t.size = u := hu.symm
      cases hh2 : hd 0 u.data.toList with
      | none =>
       have CU := hi_ (fun W => head_none u om_ hh2 W)
       rw [load_bno P t (by unfold blobL; rw [hul] at hh2; simp only [hh, if_pos hx, hh2])] at HR
       clear hh hh2 hul huz hlen hm hu
       go_enter Tryz.func67, Tryz.ntmps67
       go_wp2_with fail
       refine (CH.out _).mono ?_
       rintro e w1 ⟨rfl, hb⟩
       have B1 := hi_ hb
       clear hb CH
       go_wp2_with fail
       refine (CU.out _).mono ?_
       rintro e w2 ⟨d, hd', rfl, hb⟩
       have B2 := hi_ (B1.out.trans (hb.mono B1.out.size))
       have hd0 : ¬ d = 0 := by omega
       clear hb CU B1 hd'
       go_wp2_with fail
       go_ret2
       rw [HR.out]
       exact ⟨rfl, B2.out⟩
      | some p =>
       obtain ⟨y, j⟩ := p
       have CU := hi_ (fun W => head_some u om_ hh2 W)
       have hlt2 := hd_lt _ 0 y j om_ hh2
       have hj1 : (j : Int) ≤ 10 := by omega
       have hj0 : (0 : Int) ≤ (j : Int) := by omega
       by_cases hj : m + j = t.size
       ·have hj3 : (m : Int) + (j : Int) = (t.size : Int) := by omega
        have hwx : IntKind.i64.wrap (x : Int) = (x : Int) := by rw [IntKind.wrap_i64]; omega
        have CR := hi_ (fun W (hW : Below w.heap.size w W) => blob_Read W b L h D P (HS.out.below hW) HU.out (x : Int) om_)
        have hsm := hi_ (fun hc => blobR_small HP.out HL.out (n := (x : Int)) hc)
        have HR3 : Hid ((blobR P x).2 = 0 → (blobR P x).1.size = y → R = ((blobR P x).1, 0)) := hi_ (fun h1 h2 => by
         have hb : blobL t.data.toList = some (x, y) := by
          unfold blobL; rw [hul] at hh2; simp only [hh, if_pos hx, hh2]
          rw [if_pos ⟨by have := hsm.out h1; omega, by omega⟩]
         rw [HR.out, load_b P t hb]
         unfold loadAt
         rw [if_neg (by simp [h1]), if_neg (by simp [h2])])
        have HR4 : Hid (¬ ((blobR P x).2 = 0 ∧ (blobR P x).1.size = y) → R.1 = ⟨#[]⟩ ∧ R.2 ≠ 0) := hi_ (fun h1 => by
         rw [HR.out]
         cases hb : blobL t.data.toList with
         | none => rw [load_bno P t hb]; exact ⟨rfl, by decide⟩
         | some q =>
          obtain ⟨x', y'⟩ := q
          unfold blobL at hb
          rw [hul] at hh2
          simp only [hh, if_pos hx, hh2] at hb
          split at hb
          ·simp only [Option.some.injEq, Prod.mk.injEq] at hb
           obtain ⟨rfl, rfl⟩ := hb
           rw [load_b P t (by unfold blobL; simp only [hh, if_pos hx, hh2]; rw [if_pos (by assumption)])]
           unfold loadAt
           by_cases h3 : (blobR P x).2 = 0
           ·rw [if_neg (by simp [h3]), if_pos (fun h => h1 ⟨h3, h⟩)]
            exact ⟨rfl, by decide⟩
           ·rw [if_pos h3]
            exact ⟨rfl, h3⟩
          ·cases hb)
        obtain ⟨q, hq⟩ : ∃ q, q = blobR P (x : Int) := ⟨_, rfl⟩
        rw [← hq] at CR HR3 HR4 hsm
        obtain ⟨s, er⟩ := q
        simp only at CR HR3 HR4 hsm
        clear hh hh2 hul huz hlen hm hu hq hlt2 HR
        go_enter Tryz.func67, Tryz.ntmps67
        go_wp2_with fail
        refine (CH.out _).mono ?_
        rintro e w1 ⟨rfl, hb⟩
        have B1 := hi_ hb
        clear hb CH
        go_wp2_with fail
        refine (CU.out _).mono ?_
        rintro e w2 ⟨rfl, hb⟩
        have B2 := hi_ (B1.out.trans (hb.mono B1.out.size))
        clear hb CU B1
        go_wp2_with fail
        refine (CR.out w2 B2.out).mono ?_
        rintro e w3 ⟨rfl, hb⟩
        have B3 := hi_ (B2.out.trans (hb.mono B2.out.size))
        clear hb CR B2
        by_cases her : er = 0
        ·subst her
         have hsz := hsm.out (by simp)
         have hws : IntKind.u64.wrap (s.size : Int) = (s.size : Int) := by rw [IntKind.wrap_u64]; omega
         by_cases hy : s.size = y
         ·have hy' : (s.size : Int) = (y : Int) := by omega
          go_wp2_with fail
          go_ret2
          rw [HR3.out (by simp) hy]
          exact ⟨rfl, B3.out⟩
         ·have hy' : ¬ (s.size : Int) = (y : Int) := by omega
          go_wp2_with fail
          go_ret2
          obtain ⟨h3, h4⟩ := HR4.out (fun h => hy h.2)
          rw [h3, decide_eq_false h4]
          exact ⟨rfl, B3.out⟩
        ·go_wp2_with fail
         go_ret2
         obtain ⟨h3, h4⟩ := HR4.out (fun h => her h.1)
         rw [h3, decide_eq_false h4]
         exact ⟨rfl, B3.out⟩
       ·have hj3 : ¬ (m : Int) + (j : Int) = (t.size : Int) := by omega
        rw [load_bno P t (by unfold blobL; rw [hul] at hh2; simp only [hh, if_pos hx, hh2]; rw [if_neg (fun h => hj (by omega))])] at HR
        clear hh hh2 hul huz hlen hm hu hlt2
        go_enter Tryz.func67, Tryz.ntmps67
        go_wp2_with fail
        refine (CH.out _).mono ?_
        rintro e w1 ⟨rfl, hb⟩
        have B1 := hi_ hb
        clear hb CH
        go_wp2_with fail
        refine (CU.out _).mono ?_
        rintro e w2 ⟨rfl, hb⟩
        have B2 := hi_ (B1.out.trans (hb.mono B1.out.size))
        clear hb CU B1
        go_wp2_with fail
        go_ret2
        rw [HR.out]
        exact ⟨rfl, B2.out⟩
     ·have hx2 : (2147483647 : Int) < (x : Int) := by omega
      rw [load_bno P t (by unfold blobL; simp only [hh, if_neg hx])] at HR
      clear hh hm hlen
      go_enter Tryz.func67, Tryz.ntmps67
      go_wp2_with fail
      refine (CH.out _).mono ?_
      rintro e w1 ⟨rfl, hb⟩
      have B1 := hi_ hb
      clear hb CH
      go_wp2_with fail
      go_ret2
      rw [HR.out]
      exact ⟨rfl, B1.out⟩
   ·rw [load_other P t h1 h2] at HR
    have n1 : ((c.toNat : Int) != 105) = true := bne_iff_ne.2 (fun h => h1 (UInt8.toNat_inj.1 (show c.toNat = 105 by omega)))
    have n2 : ((c.toNat : Int) != 98) = true := bne_iff_ne.2 (fun h => h2 (UInt8.toNat_inj.1 (show c.toNat = 98 by omega)))
    go_enter Tryz.func67, Tryz.ntmps67
    go_wp2_with fail
    go_ret2
    rw [HR.out]
    exact ⟨rfl, Below.refl _ _⟩
end Go.Proofs.YtendgmblgdkiaaaGreat

namespace Go.Proofs.YtendgmblgdkiaaaGreat
open Go.RowKit
open Go.Proofs.YtendgmblgdkiaaaGreatW
open PrintWords PrintLast PrintMore
set_option linter.unusedVariables false
set_option linter.unusedSimpArgs false

theorem int_Cost (x : BA) (hx : x.size ≤ 65536) (w : World) :
  Calls Tryz.prog 64 #[.int .i64 (x.size : Int)] w fun e w' => e = .returned (.int .i64 (valC x : Int)) ∧ w = w' := by
 by_cases h : x.size ≤ 31
 ·have h0 : (x.size : Int) ≤ 31 := by omega
  have hc : valC x = 0 := if_pos h
  rw [hc]
  go_enter Tryz.func64, Tryz.ntmps64
  go_wp2_with fail
  go_ret
  exact ⟨rfl, rfl⟩
 ·have h0 : ¬ (x.size : Int) ≤ 31 := by omega
  have hc : valC x = costN x.size := if_neg h
  rw [hc]
  have CC := hi_ (fun W => blob_Cost x.size om_ W)
  clear hc
  go_enter Tryz.func64, Tryz.ntmps64
  go_wp2_with fail
  refine (CC.out w).mono ?_
  rintro e w1 ⟨rfl, rfl⟩
  go_wp2_with fail
  go_ret
  exact ⟨rfl, rfl⟩
set_option maxRecDepth 100000 in
theorem int_Move (w : World) (b : Nat) (L : Loc) (h : Nat) (D : Dk) (P : List Pg) (S : St w L b h D P) (up : D.down = false) (b' : Nat) (L' : Loc) (h' : Nat) (D' : Dk) (Q : List Pg) (S' : St w L' b' h' D' Q) (lv : D'.Live) (v x : BA) (hV : VLa P v x) (hr : Q.length + valC x ≤ D'.room) :
  Calls Tryz.prog 66 #[.pointer (some ⟨b, 0, none⟩), .pointer (some ⟨b', 0, none⟩), .string v] w fun e w' => e = .returned (.tuple #[.string (valOf Q.length x), .int .i64 0]) ∧ ∃ D1 Q1, ValM (valC x) w w' b' L' h' D' Q D1 Q1 ∧ VLa Q1 (valOf Q.length x) x := by
 obtain ⟨e, hz⟩ := hV.load
 have CL := int_Load w b L h D P S up v hz
 rw [e] at CL
 have CL := hi_ CL
 have CV := hi_ (fun W (hW : Below w.heap.size w W) => int_Value W b' L' h' D' Q (S'.below hW) lv x hV.1 hr)
 clear e hz S S' hV
 go_enter Tryz.func66, Tryz.ntmps66
 go_wp2_with fail
 refine CL.out.mono ?_
 rintro e w1 ⟨rfl, hb⟩
 have B1 := hi_ hb
 clear hb CL
 go_wp2_with fail
 refine (CV.out w1 B1.out).mono ?_
 rintro e w2 ⟨rfl, D1, Q1, V, hvl⟩
 have V2 := hi_ V
 have HVL := hi_ hvl
 clear V hvl CV
 go_wp2_with fail
 go_ret2
 exact ⟨rfl, D1, Q1, ⟨V2.out.st, V2.out.live, V2.out.app, V2.out.most, (Keep.below (F := fun k => L'.foot k ∨ k = b') B1.out).andThen V2.out.keep (fun _ _ h => h)⟩, HVL.out⟩
end Go.Proofs.YtendgmblgdkiaaaGreat

namespace Go.Proofs.YtendgmblgdkiaaaGreat
open Go.RowKit
open Go.Proofs.YtendgmblgdkiaaaGreatW
open PrintWords PrintLast PrintMore
set_option linter.unusedVariables false
set_option linter.unusedSimpArgs false

theorem St.keepF {W W' : World} {L : Loc} {b h : Nat} {D : Dk} {P : List Pg} {F : Nat → Prop} (S : St W L b h D P) (k : Keep F W W') (hF : ∀ i, L.foot i ∨ i = b → ¬ F i) : St W' L b h D P :=
 ⟨S.d.keep k (fun i hi hf => hF i (.inl hi) hf), S.p.keep k (fun hf => hF b (.inr rfl) hf), S.hh, S.room, S.holds⟩
/-- Two disks' pages, beside one another. -/
structure PQ (w0 : World) (B : Nat) (L : Loc) (b : Nat) (D : Dk) (P : List Pg) (L' : Loc) (b' : Nat) (D' : Dk) (Q : List Pg) (W : World) : Prop where
 p : Pgs W L b 0 D P
 q : Pgs W L' b' 0 D' Q
 lo : ∀ k, L.foot k ∨ k = b → w0.heap.size ≤ k ∧ k < B
 hi : ∀ k, L'.foot k ∨ k = b' → B ≤ k
 hB : w0.heap.size ≤ B
 bel : Below w0.heap.size w0 W
namespace PQ
variable {w0 W W' : World} {B b b' m : Nat} {L L' : Loc} {D D' D1 : Dk} {P Q P1 : List Pg}
theorem below (H : PQ w0 B L b D P L' b' D' Q W) (hb : Below W.heap.size W W') : PQ w0 B L b D P L' b' D' Q W' := ⟨H.p.below hb, H.q.below hb, H.lo, H.hi, H.hB, below_then H.bel H.bel.size hb⟩
theorem valP (H : PQ w0 B L b D P L' b' D' Q W) (V : ValM m W W' b L 0 D P D1 P1) : PQ w0 B L b D1 P1 L' b' D' Q W' :=
 ⟨⟨V.st, V.live⟩, ⟨H.q.st.keepF V.keep (fun i hi hf => by have := H.hi i hi; have := (H.lo i hf).2; omega), H.q.live⟩, H.lo, H.hi, H.hB, ((Keep.below (F := fun _ => False) H.bel).andThen V.keep (fun i hi hf => by have := (H.lo i hf).1; omega)).toBelow⟩
theorem valQ (H : PQ w0 B L b D P L' b' D' Q W) (V : ValM m W W' b' L' 0 D' Q D1 P1) : PQ w0 B L b D P L' b' D1 P1 W' :=
 ⟨⟨H.p.st.keepF V.keep (fun i hi hf => by have := H.hi i hf; have := (H.lo i hi).2; omega), H.p.live⟩, ⟨V.st, V.live⟩, H.lo, H.hi, H.hB, ((Keep.below (F := fun _ => False) H.bel).andThen V.keep (fun i hi hf => by have := H.hi i hf; have := H.hB; omega)).toBelow⟩
end PQ
theorem page_app (w : World) (b : Nat) (L : Loc) (h : Nat) (D : Dk) (P : List Pg) (S : St w L b h D P) (lv : D.Live) (k : Int) (s : BA) (h0 : 0 ≤ k) (h1 : k ≤ 255) (hs : s.size ≤ 240) (hr : P.length < D.room) :
  Calls Tryz.prog 65 #[.pointer (some ⟨b, 0, none⟩), .int .i64 k, .string s] w fun e w' => e = .returned (.tuple #[.int .i64 (P.length : Int), .int .i64 0]) ∧ ∃ D1, ValM 1 w w' b L h D P D1 (P ++ [(k, s)]) := by
 have CA := pages_Append w b L D h _ k s S.p S.d S.hh S.room
 rcases append_step S.d.ok lv.1 S.hh S.room S.holds k s h0 h1 hs with ⟨-, D2, ea, hup, ha⟩ | ⟨hr', -⟩ | ⟨D2, -, -, hlv, -⟩
 ·rw [ea] at CA
  refine CA.mono ?_
  rintro e w4 ⟨rfl, hd, hp, hkp⟩
  have hl : (P ++ [(k, s)]).length = P.length + 1 := by rw [List.length_append]; rfl
  exact ⟨rfl, D2, ⟨hd, by rw [hl]; exact hp, S.hh, ha.room, ha.holds⟩, ha.wr.live lv, ha, hl, hkp⟩
 ·omega
 ·exact absurd lv hlv
theorem valC_le {x : BA} (h : x.size ≤ 900) : valC x ≤ 4 := by
 unfold valC costN
 split <;> omega
attribute [local go_sem] max2_mx min2_mn max_two min_two
set_option maxHeartbeats 4000000 in
set_option maxRecDepth 100000 in
theorem values_walk (w : World) (s : BA) (n : Int) (value : BA) :
  Calls Tryz.prog 14 #[.string s, .int .i64 n, .string value] w fun e w' => e = .returned (.bool true) ∧ Below w.heap.size w w' := by
 go_enter Tryz.func14, Tryz.ntmps14
 go_wp2_with fail
 refine (awake14 w).mono ?_
 rintro e w1 ⟨rfl, hb⟩
 have B1 := hi_ hb
 clear hb
 go_wp2_with fail
 refine (law_made w1 12 om_).mono ?_
 rintro e w2 ⟨L, b, t, D, rfl, M, hr⟩
 have M2 := hi_ M
 have R2 := hi_ hr
 clear M hr
 go_wp2_with fail
 refine (law_made w2 12 om_).mono ?_
 rintro e w3 ⟨L', b', t', D', rfl, M, hr⟩
 have Q3 : Hid (PQ w w2.heap.size L b D [] L' b' D' [] w3) := hi_ ⟨M2.out.pg.below M.bel, M.pg, fun k hk => ⟨Nat.le_trans B1.out.size (M2.out.hi k (.inl hk)), (lo_of M2.out.pg.st M2.out.tr).lo k hk⟩, fun k hk => M.hi k (.inl hk), Nat.le_trans B1.out.size M2.out.bel.size, below_then (below_then B1.out B1.out.size M2.out.bel) (Nat.le_trans B1.out.size M2.out.bel.size) M.bel⟩
 have R3 := hi_ hr
 clear M hr M2 B1
 obtain ⟨B, hB⟩ : ∃ B, B = w2.heap.size := ⟨_, rfl⟩
 rw [← hB] at Q3
 clear hB
 go_wp2_with fail
 refine (law_Cut s 60 w3).mono ?_
 rintro e w4 ⟨rfl, hb⟩
 have Q4 := hi_ (Q3.out.below hb)
 clear hb Q3
 obtain ⟨c, hc, hce⟩ := clamp n 900
 rw [show ((900 : Nat) : Int) = 900 from rfl] at hce
 have HC := hi_ hc
 clear hc
 have hks := cutB_size s 60
 go_wp2_with fail
 refine (law_Long (cutB s 60) (c : Int) w4 om_).mono ?_
 rintro e w5 ⟨x, rfl, hx, hb⟩
 have Q5 := hi_ (Q4.out.below hb)
 have hxz : x.size ≤ 900 := by
  have := HC.out
  unfold mx mn at hx
  split at hx <;> split at hx <;> omega
 have HXZ := hi_ hxz
 have HVC := hi_ (valC_le hxz)
 have HV0 := hi_ (valOf_ok (n := 0) (s := x) (by have := HVC.out; omega) om_)
 clear hb Q4 hce hx hks hxz
 have CV := int_Value w5 b L 0 D [] Q5.out.p.st Q5.out.p.live x (by have := HXZ.out; omega) (by have := R2.out; have := HVC.out; simp; omega)
 obtain ⟨v, hv⟩ : ∃ v, v = valOf ([] : List Pg).length x := ⟨_, rfl⟩
 rw [← hv] at CV
 have CV := hi_ CV
 have HV := hi_ hv
 have hv32 : (v.size : Int) ≤ 32 := by have := of_decide_eq_true HV0.out; rw [hv]; exact Int.ofNat_le.2 this
 have HV32 := hi_ hv32
 clear hv hv32
 go_wp2_with fail
 refine CV.out.mono ?_
 rintro e w6 ⟨rfl, D1, P1, V, hvl⟩
 have Q6 := hi_ (Q5.out.valP V)
 have hP1 := hi_ (show P1.length = valC x from by rw [V.most]; simp)
 have HVL := hi_ hvl
 clear V hvl Q5 CV
 have CL := (HVL.out).load
 have CLD := hi_ (fun W (hS : St W L b 0 D1 P1) => int_Load W b L 0 D1 P1 hS Q6.out.p.live.1 v CL.2)
 rw [CL.1] at CLD
 clear CL
 have hx0 : (x.size : Int) ≤ 900 := by have := HXZ.out; omega
 obtain ⟨vc, hvc⟩ : ∃ vc, vc = valC x := ⟨_, rfl⟩
 have CST := fun W => int_Cost x (by have := HXZ.out; omega) W
 rw [← hvc] at hP1 HVC CST
 have CST := hi_ CST
 have HVC2 := hi_ hvc
 clear hvc
 by_cases h31 : x.size ≤ 31
 ·have h31i : (x.size : Int) ≤ 31 := by omega
  have hvc0 : vc = 0 := by rw [HVC2.out]; exact if_pos h31
  have hwant : (⟨#[105]⟩ : BA) ++ x = v := by rw [HV.out]; exact (if_pos h31).symm
  have HW := hi_ hwant
  go_wp2_with fail
  clear hwant h31
  have hvc1 : ((vc : Nat) : Int) = 0 := by omega
  have hv32 := HV32.out
  refine (CLD.out w6 Q6.out.p.st).mono ?_
  rintro e w7 ⟨rfl, hb⟩
  have Q7 := hi_ (Q6.out.below hb)
  clear hb Q6
  go_wp2_with fail
  refine (pages_Next w7 b L 0 P1.length Q7.out.p.st.p).mono ?_
  rintro e w7 ⟨rfl, rfl⟩
  rw [hP1.out]
  go_wp2_with fail
  refine (CST.out w7).mono ?_
  rintro e w7 ⟨rfl, rfl⟩
  go_wp2_with fail
  clear hv32
  refine (page_app w7 b' L' 0 D' [] Q7.out.q.st Q7.out.q.live 9 ⟨#[]⟩ om_ om_ (by decide) (by have := R3.out; simp; omega)).mono ?_
  rintro e w8 ⟨rfl, D2, V⟩
  have hD2 := hi_ (V.app.wr.room.trans R3.out)
  have Q8 := hi_ (Q7.out.valQ V)
  clear V Q7
  go_wp2_with fail
  have CM := int_Move w8 b L 0 D1 P1 Q8.out.p.st Q8.out.p.live.1 b' L' 0 D2 _ Q8.out.q.st Q8.out.q.live v x HVL.out (by have := hD2.out; have := HVC.out; have := HVC2.out; simp; omega)
  rw [← HVC2.out] at CM
  refine CM.mono ?_
  clear CM
  rintro e w9 ⟨rfl, D3, Q3, V, hvl⟩
  have hQ3 := hi_ (show (Q3.length : Int) = 1 + (vc : Int) from by rw [V.most]; simp)
  have Q9 := hi_ (Q8.out.valQ V)
  have CL2 := VLa.load hvl
  clear V Q8 hvl
  obtain ⟨v2, hv2⟩ : ∃ v2, v2 = valOf ([] ++ [((9 : Int), (⟨#[]⟩ : BA))] : List Pg).length x := ⟨_, rfl⟩
  rw [← hv2] at CL2 ⊢
  clear hv2
  have CLE := int_Load w9 b' L' 0 D3 Q3 Q9.out.q.st Q9.out.q.live.1 v2 CL2.2
  rw [CL2.1] at CLE
  have CLE := hi_ CLE
  clear CL2
  go_wp2_with fail
  refine CLE.out.mono ?_
  rintro e w10 ⟨rfl, hb⟩
  have Q10 := hi_ (Q9.out.below hb)
  clear hb Q9 CLE
  have hq3 := hQ3.out
  have hvb : (vc : Int) ≤ 4 := by have := HVC.out; omega
  go_wp2_with fail
  refine (pages_Next w10 b' L' 0 Q3.length Q10.out.q.st.p).mono ?_
  rintro e w10 ⟨rfl, rfl⟩
  go_wp2_with fail
  clear hq3 hvb
  refine (law_Cut value 40 w10).mono ?_
  rintro e w11 ⟨rfl, hb⟩
  have Q11 := hi_ (Q10.out.below hb)
  clear hb Q10
  have hks := cutB_size value 40
  obtain ⟨K, hK⟩ : ∃ K, K = cutB value 40 := ⟨_, rfl⟩
  rw [← hK] at hks ⊢
  clear hK
  have HK := hi_ hks
  clear hks
  have C5 := hi_ (int_Load w11 b L 0 D1 P1 Q11.out.p.st Q11.out.p.live.1 K (by have := HK.out; omega))
  have C6 := hi_ (fun W (hS : St W L b 0 D1 P1) => law_says W b L 0 D1 P1 hS Q11.out.p.live.1 (by have := hP1.out; have := HVC.out; omega) K (by have := HK.out; omega))
  generalize loadB P1 K = q5 at *
  obtain ⟨x5, e5⟩ := q5
  simp only at C5 C6
  go_wp2_with fail
  refine C5.out.mono ?_
  rintro e w12 ⟨rfl, hb⟩
  have Q12 := hi_ (Q11.out.below hb)
  clear hb Q11 C5
  go_wp2_with fail
  refine (C6.out w12 Q12.out.p.st).mono ?_
  rintro e w13 ⟨rfl, hb⟩
  have Q13 := hi_ (Q12.out.below hb)
  clear hb Q12 C6
  by_cases h5 : e5 = 0
  ·subst h5
   go_wp2_with fail
   go_ret
   exact ⟨rfl, Q13.out.bel⟩
  ·have h5b : (e5 == 0) = false := beq_eq_false_iff_ne.2 h5
   go_wp2_with fail
   go_ret
   exact ⟨rfl, Q13.out.bel⟩
 ·have h31i : ¬ (x.size : Int) ≤ 31 := by omega
  have hcc : vc = costN x.size := by rw [HVC2.out]; exact if_neg h31
  have hcd : vc = (x.size + 234) / 235 := by rw [hcc]; unfold costN; omega
  have hc1 : 1 ≤ vc := by omega
  have e1 : IntKind.i64.wrap ((x.size : Int) + 234) = (x.size : Int) + 234 := by rw [IntKind.wrap_i64]; omega
  have e2 : Int.tdiv ((x.size : Int) + 234) 235 = (vc : Int) := by rw [Int.tdiv_eq_ediv_of_nonneg (by omega)]; omega
  have e3 : ((x.size : Int) + 234) / 235 = (vc : Int) := by omega
  have e4 : IntKind.i64.wrap ((vc : Int) - 1) = ((vc - 1 : Nat) : Int) := by rw [IntKind.wrap_i64]; omega
  have e4' : (vc : Int) - 1 = ((vc - 1 : Nat) : Int) := by omega
  have e5 : IntKind.u64.wrap ((vc - 1 : Nat) : Int) = ((vc - 1 : Nat) : Int) := by rw [IntKind.wrap_u64]; omega
  have e6 : IntKind.u64.wrap (x.size : Int) = (x.size : Int) := by rw [IntKind.wrap_u64]; omega
  have C1 := hi_ (fun W => ref_Num (vc - 1) (by have := HVC.out; omega) W)
  have C2 := hi_ (fun W => ref_Num x.size (by have := HXZ.out; omega) W)
  have z1 := vNum_le (x := vc - 1) (by have := HVC.out; omega)
  have z2 := vNum_le (x := x.size) (by have := HXZ.out; omega)
  have z3 : ((⟨#[98]⟩ : BA) ++ vNum (vc - 1)).size = 1 + (vNum (vc - 1)).size := by rw [ByteArray.size_append]; rfl
  have hwant : ((⟨#[98]⟩ : BA) ++ vNum (vc - 1)) ++ vNum x.size = v := by
   rw [HV.out]
   unfold valOf
   rw [if_neg h31, hcc, List.length_nil, Nat.zero_add]
   rfl
  have HW := hi_ hwant
  clear h31 hcc hcd
  go_wp2_with fail
  refine (C1.out _).mono ?_
  rintro e w60 ⟨rfl, hb⟩
  have Q60 := hi_ (Q6.out.below hb)
  clear hb Q6
  go_wp2_with fail
  refine (C2.out _).mono ?_
  rintro e w61 ⟨rfl, hb⟩
  have Q6 := hi_ (Q60.out.below hb)
  clear hb Q60
  go_wp2_with fail
  clear hwant e1 e2 e3 e4 e4' e5 e6 z1 z2 z3 C1 C2
  generalize w61 = w6 at *
  have hv32 := HV32.out
  refine (CLD.out w6 Q6.out.p.st).mono ?_
  rintro e w7 ⟨rfl, hb⟩
  have Q7 := hi_ (Q6.out.below hb)
  clear hb Q6
  go_wp2_with fail
  refine (pages_Next w7 b L 0 P1.length Q7.out.p.st.p).mono ?_
  rintro e w7 ⟨rfl, rfl⟩
  rw [hP1.out]
  go_wp2_with fail
  refine (CST.out w7).mono ?_
  rintro e w7 ⟨rfl, rfl⟩
  go_wp2_with fail
  clear hv32
  refine (page_app w7 b' L' 0 D' [] Q7.out.q.st Q7.out.q.live 9 ⟨#[]⟩ om_ om_ (by decide) (by have := R3.out; simp; omega)).mono ?_
  rintro e w8 ⟨rfl, D2, V⟩
  have hD2 := hi_ (V.app.wr.room.trans R3.out)
  have Q8 := hi_ (Q7.out.valQ V)
  clear V Q7
  go_wp2_with fail
  have CM := int_Move w8 b L 0 D1 P1 Q8.out.p.st Q8.out.p.live.1 b' L' 0 D2 _ Q8.out.q.st Q8.out.q.live v x HVL.out (by have := hD2.out; have := HVC.out; have := HVC2.out; simp; omega)
  rw [← HVC2.out] at CM
  refine CM.mono ?_
  clear CM
  rintro e w9 ⟨rfl, D3, Q3, V, hvl⟩
  have hQ3 := hi_ (show (Q3.length : Int) = 1 + (vc : Int) from by rw [V.most]; simp)
  have Q9 := hi_ (Q8.out.valQ V)
  have CL2 := VLa.load hvl
  clear V Q8 hvl
  obtain ⟨v2, hv2⟩ : ∃ v2, v2 = valOf ([] ++ [((9 : Int), (⟨#[]⟩ : BA))] : List Pg).length x := ⟨_, rfl⟩
  rw [← hv2] at CL2 ⊢
  clear hv2
  have CLE := int_Load w9 b' L' 0 D3 Q3 Q9.out.q.st Q9.out.q.live.1 v2 CL2.2
  rw [CL2.1] at CLE
  have CLE := hi_ CLE
  clear CL2
  go_wp2_with fail
  refine CLE.out.mono ?_
  rintro e w10 ⟨rfl, hb⟩
  have Q10 := hi_ (Q9.out.below hb)
  clear hb Q9 CLE
  have hq3 := hQ3.out
  have hvb : (vc : Int) ≤ 4 := by have := HVC.out; omega
  go_wp2_with fail
  refine (pages_Next w10 b' L' 0 Q3.length Q10.out.q.st.p).mono ?_
  rintro e w10 ⟨rfl, rfl⟩
  go_wp2_with fail
  clear hq3 hvb
  refine (law_Cut value 40 w10).mono ?_
  rintro e w11 ⟨rfl, hb⟩
  have Q11 := hi_ (Q10.out.below hb)
  clear hb Q10
  have hks := cutB_size value 40
  obtain ⟨K, hK⟩ : ∃ K, K = cutB value 40 := ⟨_, rfl⟩
  rw [← hK] at hks ⊢
  clear hK
  have HK := hi_ hks
  clear hks
  have C5 := hi_ (int_Load w11 b L 0 D1 P1 Q11.out.p.st Q11.out.p.live.1 K (by have := HK.out; omega))
  have C6 := hi_ (fun W (hS : St W L b 0 D1 P1) => law_says W b L 0 D1 P1 hS Q11.out.p.live.1 (by have := hP1.out; have := HVC.out; omega) K (by have := HK.out; omega))
  generalize loadB P1 K = q5 at *
  obtain ⟨x5, e5⟩ := q5
  simp only at C5 C6
  go_wp2_with fail
  refine C5.out.mono ?_
  rintro e w12 ⟨rfl, hb⟩
  have Q12 := hi_ (Q11.out.below hb)
  clear hb Q11 C5
  go_wp2_with fail
  refine (C6.out w12 Q12.out.p.st).mono ?_
  rintro e w13 ⟨rfl, hb⟩
  have Q13 := hi_ (Q12.out.below hb)
  clear hb Q12 C6
  by_cases h5 : e5 = 0
  ·subst h5
   go_wp2_with fail
   go_ret
   exact ⟨rfl, Q13.out.bel⟩
  ·have h5b : (e5 == 0) = false := beq_eq_false_iff_ne.2 h5
   go_wp2_with fail
   go_ret
   exact ⟨rfl, Q13.out.bel⟩
end Go.Proofs.YtendgmblgdkiaaaGreat
