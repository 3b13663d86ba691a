/- (*tree.Tree).change at a branch, walked. (*tree.Tree).change, for Put at any level, for Delete at a leaf; and lift. (*tree.Tree).lift, walked. (*tree.Tree).apply, walked. (*tree.Tree).Get, walked. (*tree.Tree).Put, walked. Delete, Open, Root, Clone, walked; the calls as the laws use them: disks that -/
import Derived.Test.YtendgmblgdkiaaaGreatGInternBeside0
import Derived.Test.YtendgmblgdkiaaaGreatGInternBeside34
import Derived.Test.YtendgmblgdkiaaaGreatGInternBeside27
import Derived.Test.YtendgmblgdkiaaaGreatGInternBeside18
import Derived.Test.YtendgmblgdkiaaaGreatGInternBeside7
import Derived.Test.YtendgmblgdkiaaaGreatGInternBeside31
import Derived.Test.YtendgmblgdkiaaaGreatGInternBeside32
import Derived.Test.YtendgmblgdkiaaaGreatGInternBeside10
namespace Go.Proofs.YtendgmblgdkiaaaGreat
open Go.RowKit
open Go.Proofs.YtendgmblgdkiaaaGreatW
open PrintWords PrintLast PrintMore
attribute [local go_sem] max2_int
set_option linter.unusedVariables false
set_option linter.unusedSimpArgs false

theorem Bad.of {D D4 D5 : Dk} {P : List Pg} {er : Int} (h : Bad D4 D5 P er) (hl : D.Live → D4.Live) : Bad D D5 P er := by
 rcases h with h | ⟨h1, h2, h3⟩
 ·exact .inl h
 ·exact .inr ⟨h1, h2, fun l => h3 (hl l)⟩
set_option maxHeartbeats 1500000 in
set_option maxRecDepth 100000 in
theorem change_branch (B : Nat) (t b : Nat) (L : Loc) (h : Nat) (r : Rt) (key : BA) (ov : Option BA) (p1 p2 : Addr) (l : Nat)
  (IH : ∀ (w : World) (D : Dk) (P : List Pg) (page : Nat) (n : Nd) (kvs : List KV), ChPre B w t b L h D P r key ov p1 p2 (l + 1) page n kvs →
   Calls Tryz.prog 151 #[.pointer (some ⟨t, 0, none⟩), .int .i64 page, .int .i64 ((l + 1 : Nat) : Int), .string key, cloV ov p1 p2] w (ChPost B w t b L h D P r key ov (l + 1) n kvs))
  (w : World) (D : Dk) (P : List Pg) (page : Nat) (n : Nd) (kvs : List KV) (H : ChPre B w t b L h D P r key ov p1 p2 (l + 2) page n kvs) :
  Calls Tryz.prog 151 #[.pointer (some ⟨t, 0, none⟩), .int .i64 page, .int .i64 ((l + 2 : Nat) : Int), .string key, cloV ov p1 p2] w (ChPost B w t b L h D P r key ov (l + 2) n kvs) := by
 have HH := hi_ H
 obtain ⟨ps, hn, hkv, hps0, hon⟩ := cn_branch.1 H.cn
 subst hn
 subst hkv
 have hPs : Ps P (l + 1) ps := ⟨H.good, hon⟩
 have hroom := H.ts.st.room
 have hmost := room_le H.ts.st.d.ok
 have hlen : (branchOf ps).keys.length = ps.length := by simp [branchOf]
 have hlp : (branchOf ps).keys.length ≤ (branchOf ps).pack.size := le_packOf 2 (branchOf ps).keys (branchOf ps).vals (branchOf ps).kids
 have hok := branch_ok hPs om_ hps0 (by have := H.fit.size; omega)
 have hff := fit_few hok H.fit.size
 rw [hlen] at hff
 obtain ⟨pA, pt, pC, hsp, hAl, hed, hkey⟩ := child_split hPs hps0 key ov
 have hlow := H.low
 obtain ⟨lv, hlv⟩ : ∃ lv : Int, lv = ((l + 2 : Nat) : Int) := ⟨_, rfl⟩
 have hl1 : (lv == 1) = false := by simp; omega
 have hl2 : IntKind.i64.wrap (lv - 1) = ((l + 1 : Nat) : Int) := by rw [IntWalk.i64_in _ (by omega)]; omega
 have CR := tree_read w t b L h D P r H.ts.st H.ts.tr H.up page lv 2 (branchOf ps).keys (branchOf ps).vals (branchOf ps).kids H.pg hok.ok (H.fit.some) (by simp; omega)
 have hcf := child_f 2 (branchOf ps).keys (branchOf ps).vals (branchOf ps).kids key (rising_of (Ps.rise hPs.good hPs.on)) om_ 2000 om_
 have hci : childAt key (branchOf ps).keys = pA.length := hAl.symm
 rw [hci] at hcf
 have HCF := hi_ hcf
 have HSP := hi_ hsp
 have HED := hi_ hed
 have HKEY := hi_ hkey
 have HOK := hi_ hok
 have HF := hi_ hff
 have HPS := hi_ hPs
 have HLV := hi_ hlv
 rw [← hlv]
 clear H hon hps0 hPs hroom hmost hlen hlp hok hff hAl hed hkey hlow hci hcf hsp hlv
 go_enter Tryz.func151, Tryz.ntmps151
 go_wp2_with fail
 refine CR.mono ?_
 clear CR
 rintro e w1 ⟨v1, v2, v3, rfl, g1, g2, g3, hb⟩
 have NV := hi_ (show NodeV w.heap.size w1 (.agg #[.int .i64 2, v1, v2, v3]) (branchOf ps) from ⟨v1, v2, v3, rfl, g1, g2, g3⟩)
 obtain ⟨A1, c1, rfl⟩ := Kd.R_slice g1
 obtain ⟨A2, c2, rfl⟩ := Kd.R_slice g2
 obtain ⟨A3, c3, rfl⟩ := Kd.R_slice g3
 have hB1 := hi_ hb
 clear g1 g2 g3 hb
 go_upto_region 6 with fail
 have M2 : Hid (Mid B w t b L h r key ov p1 p2 (branchOf ps) A1 c1 A2 c2 A3 c3 w1.heap.size D P (w1.alloc (.cells #[.int .i64 2, .slice A1 (branchOf ps).keys.length c1, .slice A2 (branchOf ps).vals.length c2, .slice A3 (branchOf ps).kids.length c3] 149 (0, 0)))) := by
  have hb2 := below_alloc hB1.out (.cells #[.int .i64 2, .slice A1 (branchOf ps).keys.length c1, .slice A2 (branchOf ps).vals.length c2, .slice A3 (branchOf ps).kids.length c3] 149 (0, 0))
  exact hi_ ⟨HH.out.ts.below hb2, Keep.below hb2, (NV.out.lower HH.out.base).below (below_alloc (Below.refl w1.heap.size w1) _), heap_alloc_self w1 _, Nat.le_trans HH.out.base hB1.out.size, HH.out.cap.keep (Keep.below hb2)⟩
 generalize w1.alloc (.cells #[.int .i64 2, .slice A1 (branchOf ps).keys.length c1, .slice A2 (branchOf ps).vals.length c2, .slice A3 (branchOf ps).kids.length c3] 149 (0, 0)) = w2 at *
 obtain ⟨g, hg⟩ : ∃ g, g = w1.heap.size := ⟨_, rfl⟩
 rw [← hg] at M2 ⊢
 clear NV hB1 hg
 have x0 := blk_cell M2.out.bx 0
 have x1 := blk_cell M2.out.bx 1
 have x2 := blk_cell M2.out.bx 2
 have x3 := blk_cell M2.out.bx 3
 go_wp2_with fail
 obtain ⟨C1, k1, C2, k2, C3, k3⟩ := M2.out.nv.outs
 refine (PNd.tree_child.calls 2000 2 A1 c1 (branchOf ps).keys A2 c2 (branchOf ps).vals A3 c3 (branchOf ps).kids key _ w2 C1 k1 C2 k2 C3 k3 HCF.out).mono ?_
 clear C1 k1 C2 k2 C3 k3 x0 x1 x2 x3
 rintro e w3 ⟨rfl, hb⟩
 have M3 := hi_ (M2.out.below hb)
 clear M2 hb
 have x3 := blk_cell M3.out.bx 3
 have hidx : (pA.length : Int) < ((branchOf ps).kids.length : Int) := by rw [HSP.out]; simp [branchOf]; omega
 have hkd : (branchOf ps).kids.getD pA.length 0 = (pt.c : Int) := by
  rw [HSP.out]
  simp [branchOf, List.getD_eq_getElem?_getD]
 obtain ⟨ad, c, rfl, hcl, hcK, hcc⟩ := Kd.C_get M3.out.nv.outs.2.2.2.2.1 0 (pA.length : Int) om_ hidx
 have hK : c = [.int .i64 (pt.c : Int)] := by
  simp only [Kd.int, Kd.scalar, Int.toNat_natCast, hkd] at hcK
  exact hcK
 have z0 : w3.cell? (ad.add pA.length) = some (.int .i64 (pt.c : Int)) := by
  have := hcc 0 (.int .i64 (pt.c : Int)) (by rw [hK]; rfl)
  simpa [Kd.int, Kd.scalar] using this
 have k3 := M3.out.nv.outs.2.2.2.2.2
 clear hcc hcK hcl hkd hK
 go_wp2_with fail
 obtain ⟨o1, o2, m, hm1, hm2, hm3, hm4⟩ := HPS.out.on pt (by rw [HSP.out]; simp)
 have hgood := HPS.out.good
 have hkvs : kvsOf ps = kvsOf pA ++ (pt.kv ++ kvsOf pC) := by rw [HSP.out, kvsOf_app, kvsOf_cons]
 have hgp : Good pt.kv := by rw [hkvs] at hgood; exact (good_app (good_app hgood).2.1).1
 refine (IH w3 D P pt.c m pt.kv ⟨Nat.le_trans HH.out.base M3.out.kp.size, M3.out.ts, HH.out.up, M3.out.cap, hm1, hm2, hm4, hgp, HH.out.kok, HH.out.vok, fun e => by
  obtain ⟨v, hv⟩ := HH.out.del e
  exact ⟨v, HKEY.out v hv⟩, by have := HH.out.low; omega, fun _ => hm3⟩).mono ?_
 have HM := hi_ hm3
 clear o1 o2 hm1 hm2 hm3 hm4 hgood hkvs hgp z0 k3 x3 hidx
 rintro e w4 ⟨D4, P4, T4, A4, K4, hres⟩
 have M4 := hi_ (M3.out.step T4 K4)
 have A4 := hi_ A4
 clear T4 K4 M3
 rcases hres with ⟨v4, l4, n4, rfl, NL4, hpo4, hs4, hc4, up4, hle4, hmore4, hne4⟩ | ⟨er, rfl, hbad, hlt⟩
 ·have NL4 := hi_ NL4
  have hpo4 := hi_ hpo4
  have hs4 := hi_ hs4
  have hc4 := hi_ hc4
  have up4 := hi_ up4
  have hle4 := hi_ hle4
  have HMO := hi_ (show ∀ v, ov = some v → 2 ≤ n4.keys.length from fun v hv => by have := hmore4 v hv; have := HM.out; omega)
  clear hmore4 hne4
  go_upto_region 11 with fail
  obtain ⟨wx, hwx⟩ : ∃ wx, wx = w4 := ⟨_, rfl⟩
  rw [← hwx] at M4 NL4 ⊢
  have MX := M4
  have NLX := NL4
  clear M4 hwx
  rcases NL4.out with ⟨a, y, gr, hl, hv, -, -, -⟩ | ⟨a, b', y, z, gr, hl, hv, -, -, -, -⟩
  ·obtain ⟨nn, B1, d1, B2, d2, B3, d3, hn0, y0, y1, y2, y3, NY⟩ := NodesV.at (by rw [hv] at NLX; exact NLX.out) (show 0 < 1 by omega)
   have hnn : Hid (nn = n4) := hi_ (by
    rw [hl] at hn0
    have h1 : nn = a := by simpa using hn0.symm
    rcases hpo4.out with ⟨-, e⟩ | ⟨c, -, -, -, -, e⟩
    ·rw [e] at hl
     have h2 : n4 = a := by simpa using hl
     exact h1.trans h2.symm
    ·rw [e] at hl; simp at hl)
   have HL4 : Hid (l4 = [nn]) := hi_ (by rw [hl] at hn0 ⊢; have h1 : nn = a := (by simpa using hn0.symm); rw [h1])
   subst hv
   have NY := hi_ NY
   clear hl hn0
   by_cases hshort : (nn.keys.length : Int) < 2
   ·as_aux_lemma =>
    have hnone : ov = none := by
     cases ov with
     | none => rfl
     | some v => have h1 := HMO.out v rfl; have h2 := hnn.out; subst h2; omega
    have HNO := hi_ hnone
    have hn1 : nn.keys.length ≤ 1 := by omega
    have HN1 := hi_ hn1
    have hlen2 : (1 : Int) < ((branchOf ps).keys.length : Int) := by have := HH.out.two om_; omega
    have HLB : Hid ((branchOf ps).keys.length = ps.length) := hi_ (List.length_map _)
    obtain ⟨iz, hiz⟩ : ∃ iz : Int, iz = (pA.length : Int) := ⟨_, rfl⟩
    rw [← hiz]
    have hiz0 : 0 ≤ iz := by omega
    have hiz1 : iz ≤ 100000 := by have := HF.out; have e := congrArg List.length HSP.out; rw [List.length_append] at e; omega
    have HIZ := hi_ hiz
    clear hnone hn1 hiz
    go_wp2_with fail
    obtain ⟨C1, k1, C2, k2, C3, k3⟩ := NY.out.outs
    refine (PNd.node_Node_Len.calls nn.kind B1 d1 nn.keys B2 d2 nn.vals B3 d3 nn.kids (nn.keys.length : Int) wx C1 k1 C2 k2 C3 k3 rfl).mono ?_
    clear C1 k1 C2 k2 C3 k3 y0 y1 y2 y3
    rintro e wy ⟨rfl, hb⟩
    replace MX := hi_ (MX.out.below hb)
    replace NLX := hi_ (NLX.out.below hb)
    clear hb NY NL4
    obtain ⟨wx, hwx⟩ : ∃ wx, wx = wy := ⟨_, rfl⟩
    rw [← hwx] at MX NLX ⊢
    clear hwx
    have x0 := blk_cell MX.out.bx 0
    have x1 := blk_cell MX.out.bx 1
    have x2 := blk_cell MX.out.bx 2
    have x3 := blk_cell MX.out.bx 3
    go_wp2_with fail
    obtain ⟨C1, k1, C2, k2, C3, k3⟩ := MX.out.nv.outs
    refine (PNd.node_Node_Len.calls 2 A1 c1 (branchOf ps).keys A2 c2 (branchOf ps).vals (some ad) c3 (branchOf ps).kids ((branchOf ps).keys.length : Int) wx C1 k1 C2 k2 C3 k3 rfl).mono ?_
    clear C1 k1 C2 k2 C3 k3 x0 x1 x2 x3
    rintro e wy ⟨rfl, hb⟩
    replace MX := hi_ (MX.out.below hb)
    replace NLX := hi_ (NLX.out.below hb)
    clear hb
    obtain ⟨wx, hwx⟩ : ∃ wx, wx = wy := ⟨_, rfl⟩
    rw [← hwx] at MX NLX ⊢
    clear hwx
    have HBX : Hid (B ≤ wx.heap.size) := hi_ (Nat.le_trans HH.out.base MX.out.kp.size)
    rcases Int.lt_or_eq_of_le hiz0 with hi0 | hi0
    ·as_aux_lemma =>
     obtain ⟨q, rfl⟩ : ∃ q : Nat, iz = (q : Int) + 1 := ⟨(iz - 1).toNat, by omega⟩
     obtain ⟨pA', po, hpa⟩ : ∃ pA' po, pA = pA' ++ [po] := by
      rcases List.eq_nil_or_concat pA with h | ⟨x, y, h⟩
      ·exfalso; have e := HIZ.out; rw [h] at e; simp at e; omega
      ·exact ⟨x, y, by simpa using h⟩
     have hq : pA'.length = q := by have e := HIZ.out; rw [hpa] at e; simp at e; omega
     have HSPJ : Hid (ps = pA' ++ [po, pt] ++ pC) := hi_ (by rw [HSP.out, hpa]; simp)
     have HEDJ : Hid (ed key ov (kvsOf ps) = kvsOf pA' ++ (po.kv ++ ed key ov pt.kv) ++ kvsOf pC) := hi_ (by rw [HED.out, hpa, kvsOf_app]; simp [kvsOf_cons, kvsOf, List.append_assoc])
     have hkid : ps[q]? = some po := by rw [HSPJ.out, ← hq]; simp
     obtain ⟨pA, hpA2⟩ : ∃ x, x = pA' := ⟨_, rfl⟩
     rw [← hpA2] at HSPJ HEDJ hq
     have HFR : Hid ((q : Int) = (pA.length : Int)) := hi_ (by rw [hq])
     have HTO : Hid ((q : Int) + 2 = ((pA.length + [po, pt].length : Nat) : Int)) := hi_ (by rw [hq]; simp)
     have hi2 : max (q : Int) 0 = (q : Int) := by omega
     have hi3 : ((q : Int) == (q : Int) + 1) = false := by simp; omega
     have hb1 : (q : Int) < ((branchOf ps).kids.length : Int) := by have e : (branchOf ps).kids.length = ps.length := List.length_map _; have h2 := (List.getElem?_eq_some_iff.1 hkid).1; omega
     have hb2 : (q : Int) < (q : Int) + 1 := by omega
     obtain ⟨o1, o2, m, hm1, hm2, hm3, hm4⟩ := HPS.out.on po (List.mem_of_getElem? hkid)
     have hgw : Good (ed key ov (kvsOf ps)) := ed_good HH.out.good HH.out.kok HH.out.vok
     rw [HEDJ.out] at hgw
     have hgJ := (good_app (good_app hgw).1).2.1
     have gpo : Good po.kv := (good_app hgJ).1
     have hmost := room_le MX.out.ts.st.d.ok
     have hroom := MX.out.ts.st.room
     have hm1' : P4[po.c]? = some m.page := by
      obtain ⟨X, hX⟩ := A4.out.pre
      rw [hX, List.getElem?_append_left (List.getElem?_eq_some_iff.1 hm1).1]; exact hm1
     have hm4' : Cn P4 (l + 1) m po.kv := by
      obtain ⟨X, hX⟩ := A4.out.pre
      rw [hX]; exact hm4.pre
     have hlp : m.keys.length ≤ m.pack.size := le_packOf m.kind m.keys m.vals m.kids
     have hmok := cn_ok hm4' gpo om_ (by have := hm2.size; omega)
     have hmf := fit_few hmok hm2.size
     have CR := hi_ (tree_read wx t b L h D4 P4 r MX.out.ts.st MX.out.ts.tr up4.out po.c ((l + 1 : Nat) : Int) m.kind m.keys m.vals m.kids hm1' hmok.ok hm2.some (by rw [(cn_kind hm4').1]; simp; omega))
     have hcn : Cn P4 (l + 1) nn (ed key ov pt.kv) := by rw [hnn.out]; exact hc4.out
     have hsn : nn.Short := by rw [hnn.out]; exact hs4.out
     have HJ := hi_ (join_ok hm4' hcn hgJ om_ (by have h1 := short_one hsn HN1.out; omega) (by have := HN1.out; omega))
     have HGJ := hi_ hgJ
     have LM := hi_ (lens_ok hmok (show m.keys.length ≤ 1000 by omega))
     have LN := hi_ (shape_lens hsn.shape (show nn.keys.length ≤ 1000 by have := HN1.out; omega))
     have H2J : Hid (2 ≤ (m.join nn).keys.length) := hi_ (by simp only [Nd.join, List.length_append]; omega)
     have z0 := kid_cell MX.out.nv.outs.2.2.2.2.1 hkid
     have k3 := MX.out.nv.outs.2.2.2.2.2
     have x3 := blk_cell MX.out.bx 3
     clear hcn hsn hkid hm1 hm2 hm3 hm4 hgw hgJ gpo hmost hroom hm1' hm4' hlp hmok hmf o1 o2 hpA2 hpa hq
     go_wp2_with fail
     refine CR.out.mono ?_
     clear CR
     rintro e wy ⟨v1, v2, v3, rfl, g1, g2, g3, hb⟩
     have NM := hi_ (show NodeV wx.heap.size wy (.agg #[.int .i64 m.kind, v1, v2, v3]) m from ⟨v1, v2, v3, rfl, g1, g2, g3⟩)
     obtain ⟨E1, e1, rfl⟩ := Kd.R_slice g1
     obtain ⟨E2, e2, rfl⟩ := Kd.R_slice g2
     obtain ⟨E3, e3, rfl⟩ := Kd.R_slice g3
     replace MX := hi_ (MX.out.below hb)
     replace NLX := hi_ (NLX.out.below hb)
     have BX := hi_ HBX.out
     clear g1 g2 g3 hb z0 x3 k3 HBX
     go_upto_region 22 with fail
     have XM := hi_ (blk_new wy (.cells #[.int .i64 m.kind, .slice E1 m.keys.length e1, .slice E2 m.vals.length e2, .slice E3 m.kids.length e3] 149 (0, 0)))
     replace NM := hi_ ((NM.out.lower BX.out).below (below_alloc (Below.refl wy.heap.size wy) (.cells #[.int .i64 m.kind, .slice E1 m.keys.length e1, .slice E2 m.vals.length e2, .slice E3 m.kids.length e3] 149 (0, 0))))
     replace MX := hi_ (MX.out.below (below_alloc (Below.refl wy.heap.size wy) (.cells #[.int .i64 m.kind, .slice E1 m.keys.length e1, .slice E2 m.vals.length e2, .slice E3 m.kids.length e3] 149 (0, 0))))
     replace NLX := hi_ (NLX.out.below (below_alloc (Below.refl wy.heap.size wy) (.cells #[.int .i64 m.kind, .slice E1 m.keys.length e1, .slice E2 m.vals.length e2, .slice E3 m.kids.length e3] 149 (0, 0))))
     generalize wy.alloc (.cells #[.int .i64 m.kind, .slice E1 m.keys.length e1, .slice E2 m.vals.length e2, .slice E3 m.kids.length e3] 149 (0, 0)) = wz at *
     obtain ⟨gm, hgm⟩ : ∃ gm, gm = wy.heap.size := ⟨_, rfl⟩
     rw [← hgm] at XM ⊢
     clear hgm
     skip
     obtain ⟨nn', B1, d1, B2, d2, B3, d3, hn0, y0, y1, y2, y3, NY⟩ := NLX.out.at (show 0 < 1 by omega)
     obtain rfl : nn = nn' := by rw [HL4.out] at hn0; simpa using hn0
     simp only [Nat.zero_mul, Nat.zero_add] at y0 y1 y2 y3
     have F0 := hi_ (show Jac gm gr (.int .i64 m.kind) (.slice E1 m.keys.length e1) (.slice E2 m.vals.length e2) (.slice E3 m.kids.length e3) (.int .i64 nn.kind) (.slice B1 nn.keys.length d1) (.slice B2 nn.vals.length d2) (.slice B3 nn.kids.length d3) wz from ⟨blk_cell XM.out 0, blk_cell XM.out 1, blk_cell XM.out 2, blk_cell XM.out 3, y0, y1, y2, y3⟩)
     have BW := hi_ (show B ≤ wz.heap.size from Nat.le_trans HH.out.base MX.out.kp.size)
     have CJ := hi_ (fun W (hW : Below wz.heap.size wz W) => (node_Join W B (.agg #[.int .i64 m.kind, .slice E1 m.keys.length e1, .slice E2 m.vals.length e2, .slice E3 m.kids.length e3]) (.agg #[.int .i64 nn.kind, .slice B1 nn.keys.length d1, .slice B2 nn.vals.length d2, .slice B3 nn.kids.length d3]) m nn (Nat.le_trans BW.out hW.size) (NM.out.below hW) (NY.below hW) LM.out LN.out).mono (fun (e : Ending) (w' : World) ⟨v, he, hN, hb⟩ => (⟨v, he, hN, hW.trans (hb.mono hW.size), F0.out.below (hW.trans (hb.mono hW.size))⟩ : ∃ v, e = Ending.returned v ∧ NodeV B w' v (m.join nn) ∧ Below wz.heap.size wz w' ∧ Jac gm gr (.int .i64 m.kind) (.slice E1 m.keys.length e1) (.slice E2 m.vals.length e2) (.slice E3 m.kids.length e3) (.int .i64 nn.kind) (.slice B1 nn.keys.length d1) (.slice B2 nn.vals.length d2) (.slice B3 nn.kids.length d3) w')))
     have CPt := hi_ (fun W v (hW : Below wz.heap.size wz W) (hN : NodeV B W v (m.join nn)) => (tree_parts W B v _ (Nat.le_trans BW.out hW.size) hN HJ.out.2).mono (fun (e : Ending) (w' : World) ⟨v', l', he, hp, hN', hb⟩ => (⟨v', l', he, hp, hN', hW.trans (hb.mono hW.size), F0.out.below (hW.trans (hb.mono hW.size))⟩ : ∃ v' l', e = Ending.returned v' ∧ PartsOf (m.join nn) l' ∧ NodesV B w' v' l' ∧ Below wz.heap.size wz w' ∧ Jac gm gr (.int .i64 m.kind) (.slice E1 m.keys.length e1) (.slice E2 m.vals.length e2) (.slice E3 m.kids.length e3) (.int .i64 nn.kind) (.slice B1 nn.keys.length d1) (.slice B2 nn.vals.length d2) (.slice B3 nn.kids.length d3) w')))
     have HB0 := hi_ (Below.refl wz.heap.size wz)
     clear y0 y1 y2 y3 NY hn0
     go_region_held3 (fun w' => w'.cell? ⟨gm, 0, none⟩ = some (.int .i64 m.kind) ∧ w'.cell? ⟨gm, 1, none⟩ = some (.slice E1 m.keys.length e1) ∧ w'.cell? ⟨gm, 2, none⟩ = some (.slice E2 m.vals.length e2) ∧ w'.cell? ⟨gm, 3, none⟩ = some (.slice E3 m.kids.length e3) ∧ w'.cell? ⟨gr, 0, none⟩ = some (.int .i64 nn.kind) ∧ w'.cell? ⟨gr, 1, none⟩ = some (.slice B1 nn.keys.length d1) ∧ w'.cell? ⟨gr, 2, none⟩ = some (.slice B2 nn.vals.length d2) ∧ w'.cell? ⟨gr, 3, none⟩ = some (.slice B3 nn.kids.length d3))
      (first | exact F0.out | (with_reducible assumption) | (show Jac _ _ _ _ _ _ _ _ _ _ _; repeat (first | (with_reducible assumption) | exact F0.out | refine Jac.drewN ?_ _ | refine Jac.drew ?_)))
      (first
       | (go_at_call 191; (with_reducible refine (CJ.out _ ?_).mono ?_); (repeat (first | (with_reducible assumption) | exact HB0.out | refine bel_drewN ?_ _ | refine bel_drew ?_)); rintro e w1 ⟨vj, rfl, nj, b1, f1⟩)
       | (go_at_call 190; (with_reducible refine (CPt.out _ _ ?_ nj).mono ?_); (repeat (first | (with_reducible assumption) | exact HB0.out | refine bel_drewN ?_ _ | refine bel_drew ?_)); rintro e w2 ⟨vp, lJ, rfl, hpJ, nlJ, b2, f2⟩))
     replace MX := hi_ (MX.out.below b2)
     replace NLX := hi_ nlJ
     have hpo4 := hi_ hpJ
     have hgX := HGJ
     have hc4 := hi_ HJ.out.1
     have hs4 := hi_ HJ.out.2
     have HML : Hid (∀ v, ov = some v → ([po, pt]).length = 1) := hi_ (fun v hv => by have := HNO.out; rw [this] at hv; cases hv)
     have HM1 : Hid (0 < ([po, pt]).length) := hi_ (by simp)
     have HSPL := HSPJ
     have HEDX := HEDJ
     obtain ⟨n4, hn4⟩ : ∃ x, x = m.join nn := ⟨_, rfl⟩
     rw [← hn4] at hpo4 hc4 hs4 H2J
     obtain ⟨l4, hl4⟩ : ∃ x, x = lJ := ⟨_, rfl⟩
     rw [← hl4] at hpo4 NLX
     obtain ⟨pM, hpM⟩ : ∃ x, x = [po, pt] := ⟨_, rfl⟩
     rw [← hpM] at HML HM1 HSPL HTO
     obtain ⟨pD, hpD⟩ : ∃ x, x = pC := ⟨_, rfl⟩
     rw [← hpD] at HSPL HEDX
     have h24 : Hid (l4 = [n4] → 2 ≤ n4.keys.length) := hi_ (fun _ => H2J.out)
     obtain ⟨v4, hv4⟩ : ∃ x, x = vp := ⟨_, rfl⟩
     rw [← hv4] at NLX ⊢
     obtain ⟨wx, hwx⟩ : ∃ x, x = w2 := ⟨_, rfl⟩
     rw [← hwx] at MX NLX ⊢
     clear hn4 hl4 hpM hpD hv4 hwx hpJ nlJ f1 f2 b1 b2 nj HSPJ HEDJ HGJ HJ H2J
     go_upto_region 23 with fail
     (try clear hi0); (try clear hi2); (try clear hi3); (try clear hb2); (try clear hm0); (try clear hb1); (try clear hshort); (try clear hlen2); (try clear hiz0); (try clear hiz1)
     -- the nodes are written, and take the place of what was
     obtain ⟨HFit, qs, hq1, hq2, hq3, hq4, hq5, hq6, hq7⟩ := new_pts hc4.out hgX.out (by have := MX.out.ts.st.room; have := room_le MX.out.ts.st.d.ok; omega) hs4.out hpo4.out h24.out
     have HQ1 := hi_ hq1
     have HQ2 := hi_ hq2
     have HQ3 := hi_ hq3
     have HQ4 := hi_ hq4
     have HQ6 := hi_ hq6
     have HQ7 := hi_ hq7
     have HL2 : Hid (l4.length ≤ 2) := hi_ om_
     have CW := hi_ (tree_write wx B t b L h D4 P4 r _ l4 (Nat.le_trans HH.out.base MX.out.kp.size) MX.out.ts up4.out NLX.out HFit)
     clear hq1 hq2 hq3 hq4 hq5 hq6 hq7 HFit
     go_wp2_with fail
     refine CW.out.mono ?_
     clear CW
     rintro e w5 ⟨D5, P5, T5, A5, K5, hres⟩
     have M5 := hi_ (MX.out.step T5 K5)
     have A5 := hi_ (A4.out.trans A5)
     clear T5
     rcases hres with ⟨u1, u2, rfl, r1, r2, hP5, up5⟩ | ⟨er, rfl, hbad, hlt⟩
     ·obtain ⟨ks, hks⟩ : ∃ ks, ks = l4.map Nd.least := ⟨_, rfl⟩
      obtain ⟨cs, hcs⟩ : ∃ cs, cs = pagesFrom P4.length l4.length := ⟨_, rfl⟩
      rw [← hks] at r1
      rw [← hcs] at r2
      have HKS := hi_ hks
      have HCS := hi_ hcs
      clear hks hcs
      have hR1 := hi_ r1
      have hR2 := hi_ r2
      obtain ⟨U1, d1, rfl⟩ := Kd.R_slice r1
      obtain ⟨U2, d2, rfl⟩ := Kd.R_slice r2
      have HP5 := hi_ hP5
      have up5 := hi_ up5
      clear r1 r2 hP5 K5 MX NLX
      have x0 := blk_cell M5.out.bx 0
      have x1 := blk_cell M5.out.bx 1
      have x2 := blk_cell M5.out.bx 2
      have x3 := blk_cell M5.out.bx 3
      go_wp2_with fail
      obtain ⟨C1, k1, C2, k2, C3, k3⟩ := M5.out.nv.outs
      obtain ⟨-, e1', E1⟩ := Kd.R_reads' hR1.out
      obtain ⟨-, e2', E2⟩ := Kd.R_reads' hR2.out
      have hS5 := swap_ok (P := P) (P' := P5) (l := l + 1) (A := pA) (B := pM) (C := pD) (qs := qs) (by rw [← HSPL.out]; exact HPS.out) HM1.out (by rw [← HSPL.out]; exact HH.out.fit) A5.out.pre (by have := M5.out.ts.st.room; have := room_le M5.out.ts.st.d.ok; omega) (by rw [HP5.out]; exact HQ7.out) HQ4.out HQ6.out (by rw [HQ3.out, ← HEDX.out]; exact ed_good HH.out.good HH.out.kok HH.out.vok)
      obtain ⟨s1, s2, s3, s4⟩ := hS5
      rw [← HSPL.out, HQ1.out, HQ2.out, ← HKS.out, ← HCS.out] at s1
      have f1 : pA.length + pM.length ≤ (branchOf ps).keys.length := by have e : (branchOf ps).keys.length = ps.length := List.length_map _
                                                                        rw [e, HSPL.out]; simp only [List.length_append]; omega
      have f2 : (branchOf ps).kids.length = (branchOf ps).keys.length := by simp [branchOf]
      have f3 : 0 < ks.length := by rw [HKS.out, ← HQ1.out, List.length_map]; exact List.length_pos_iff.2 HQ4.out
      have f4 : cs.length = ks.length := by rw [HKS.out, HCS.out, pagesFrom_length, List.length_map]
      have f5 : (branchOf ps).keys.length + ks.length ≤ 100000 := by
       have e : (branchOf ps).keys.length = ps.length := List.length_map _
       have h1 := HF.out.2
       have h2 := HL2.out
       rw [e, HKS.out, List.length_map]
       omega
      have hsf := swap_f 2 (branchOf ps).keys (branchOf ps).vals (branchOf ps).kids pA.length (pA.length + pM.length) ks cs om_ f1 f2 f3 f4 f5
      clear f1 f2 f3 f4 f5
      rw [← HTO.out, ← HFR.out] at hsf
      refine (PNd.tree_swap.calls 2 A1 c1 (branchOf ps).keys A2 c2 (branchOf ps).vals (some ad) c3 (branchOf ps).kids _ _ U1 d1 _ U2 d2 _ _ _ _ _ w5 C1 k1 C2 k2 C3 k3 E1 e1' E2 e2' hsf).mono ?_
      clear C1 k1 C2 k2 C3 k3 E1 E2 e1' e2' hsf x0 x1 x2 x3
      rintro e w6 ⟨v1, v2, v3, rfl, g1, g2, g3, hb⟩
      have N6 := hi_ (show NodeV B w6 (.agg #[.int .i64 2, v1, v2, v3]) (branchOf (pA ++ qs ++ pD)) from by
       rw [s1]
       exact ⟨v1, v2, v3, rfl, Kd.R_lower (Kd.R_mono g1 (fun _ _ => trivial)) (Nat.le_trans HH.out.base M5.out.kp.size), Kd.R_lower (Kd.R_mono g2 (fun _ _ => trivial)) (Nat.le_trans HH.out.base M5.out.kp.size), Kd.R_lower (Kd.R_mono g3 (fun _ _ => trivial)) (Nat.le_trans HH.out.base M5.out.kp.size)⟩)
      have M6 := hi_ (M5.out.below hb)
      have HS2 := hi_ s2
      have HS3 := hi_ s3
      have HS4 := hi_ s4
      clear g1 g2 g3 hb s1 s2 s3 s4 M5
      go_wp2_with fail
      refine (tree_parts w6 B _ _ (Nat.le_trans HH.out.base M6.out.kp.size) N6.out HS2.out).mono ?_
      rintro e w7 ⟨v7, l7, rfl, hpo, NL, hb⟩
      have NL := hi_ NL
      have hpo := hi_ hpo
      have M7 := hi_ (M6.out.below hb)
      clear hb M6
      go_wp2_with fail
      go_ret2
      refine ⟨D5, P5, M7.out.ts, A5.out, M7.out.kp, .inl ⟨_, l7, _, rfl, NL.out, hpo.out, HS2.out, ?_, up5.out, ?_, ?_, ?_⟩⟩
      ·refine ⟨_, rfl, ?_, ?_, HS3.out.on⟩
       ·rw [HS4.out, HQ3.out, HEDX.out]
       ·intro e
        have := congrArg List.length e
        have := List.length_pos_iff.2 HQ4.out
        simp only [List.length_append, List.length_nil] at *
        omega
      ·rw [HP5.out, List.length_append, List.length_map]
       have := hle4.out
       have := HL2.out
       omega
      ·intro x e
       have e1 : (branchOf ps).keys.length = ps.length := List.length_map _
       have e2 : (branchOf (pA ++ qs ++ pD)).keys.length = (pA ++ qs ++ pD).length := List.length_map _
       rw [e1, e2, HSPL.out]
       have := List.length_pos_iff.2 HQ4.out
       have := HML.out x e
       simp only [List.length_append]
       omega
      ·intro _
       have := List.length_pos_iff.2 HQ4.out
       refine ⟨by simp [branchOf]; omega, ?_⟩
       obtain ⟨X, hX⟩ := A4.out.pre
       have h1 := congrArg List.length HQ1.out
       rw [List.length_map, List.length_map] at h1
       rw [HP5.out, hX, List.length_append, List.length_append, List.length_map]
       omega
     ·have hbad := hi_ hbad
      have hlt := hi_ hlt
      have her : (er == 0) = false := by have := hbad.out; unfold Bad at this; simp; omega
      go_wp2_with fail
      go_ret2
      exact ⟨D5, P5, M5.out.ts, A5.out, M5.out.kp, .inr ⟨er, rfl, Bad.of hbad.out A4.out.wr.live, by have := hlt.out; have := hle4.out; have := HL2.out; omega⟩⟩
    ·as_aux_lemma =>
     have hi0 := hi0.symm
     subst hi0
     have hm0 : max (-1 : Int) 0 = 0 := rfl
     have hid1 : (1 : Int).toNat = 1 := rfl
     have hpA : pA = [] := List.eq_nil_of_length_eq_zero (by have := HIZ.out; omega)
     obtain ⟨po, pC', hpc⟩ : ∃ po pC', pC = po :: pC' := by
      cases hC : pC with
      | nil => exfalso; have e := congrArg List.length HSP.out; rw [hpA, hC] at e; have h2 := HLB.out; simp at e; omega
      | cons a b => exact ⟨a, b, rfl⟩
     have HSPJ : Hid (ps = pA ++ [pt, po] ++ pC') := hi_ (by rw [HSP.out, hpc]; simp)
     have HEDJ : Hid (ed key ov (kvsOf ps) = kvsOf pA ++ (ed key ov pt.kv ++ po.kv) ++ kvsOf pC') := hi_ (by rw [HED.out, hpc, kvsOf_cons]; simp only [List.append_assoc])
     have hkid : ps[1]? = some po := by rw [HSPJ.out, hpA]; rfl
     obtain ⟨pA, hpA2⟩ : ∃ x, x = pA := ⟨_, rfl⟩
     rw [← hpA2] at HSPJ HEDJ
     have HFR : Hid ((0 : Int) = (pA.length : Int)) := hi_ (by rw [hpA2, hpA]; rfl)
     have HTO : Hid ((2 : Int) = ((pA.length + [pt, po].length : Nat) : Int)) := hi_ (by rw [hpA2, hpA]; rfl)
     have hb1 : (1 : Int) < ((branchOf ps).kids.length : Int) := by have e : (branchOf ps).kids.length = ps.length := List.length_map _; have h2 := HLB.out; omega
     obtain ⟨o1, o2, m, hm1, hm2, hm3, hm4⟩ := HPS.out.on po (List.mem_of_getElem? hkid)
     have hgw : Good (ed key ov (kvsOf ps)) := ed_good HH.out.good HH.out.kok HH.out.vok
     rw [HEDJ.out] at hgw
     have hgJ := (good_app (good_app hgw).1).2.1
     have gpo : Good po.kv := (good_app hgJ).2.1
     have hmost := room_le MX.out.ts.st.d.ok
     have hroom := MX.out.ts.st.room
     have hm1' : P4[po.c]? = some m.page := by
      obtain ⟨X, hX⟩ := A4.out.pre
      rw [hX, List.getElem?_append_left (List.getElem?_eq_some_iff.1 hm1).1]; exact hm1
     have hm4' : Cn P4 (l + 1) m po.kv := by
      obtain ⟨X, hX⟩ := A4.out.pre
      rw [hX]; exact hm4.pre
     have hlp : m.keys.length ≤ m.pack.size := le_packOf m.kind m.keys m.vals m.kids
     have hmok := cn_ok hm4' gpo om_ (by have := hm2.size; omega)
     have hmf := fit_few hmok hm2.size
     have CR := hi_ (tree_read wx t b L h D4 P4 r MX.out.ts.st MX.out.ts.tr up4.out po.c ((l + 1 : Nat) : Int) m.kind m.keys m.vals m.kids hm1' hmok.ok hm2.some (by rw [(cn_kind hm4').1]; simp; omega))
     have hcn : Cn P4 (l + 1) nn (ed key ov pt.kv) := by rw [hnn.out]; exact hc4.out
     have hsn : nn.Short := by rw [hnn.out]; exact hs4.out
     have HJ := hi_ (join_ok hcn hm4' hgJ om_ (by have h1 := short_one hsn HN1.out; omega) (by have := HN1.out; omega))
     have HGJ := hi_ hgJ
     have LM := hi_ (lens_ok hmok (show m.keys.length ≤ 1000 by omega))
     have LN := hi_ (shape_lens hsn.shape (show nn.keys.length ≤ 1000 by have := HN1.out; omega))
     have H2J : Hid (2 ≤ (nn.join m).keys.length) := hi_ (by simp only [Nd.join, List.length_append]; omega)
     have z0 : wx.cell? ⟨ad.block, ad.off + 1, none⟩ = some (.int .i64 (po.c : Int)) := by have := kid_cell MX.out.nv.outs.2.2.2.2.1 hkid; simpa [Addr.add] using this
     have k3 := MX.out.nv.outs.2.2.2.2.2
     have x3 := blk_cell MX.out.bx 3
     clear hcn hsn hkid hm1 hm2 hm3 hm4 hgw hgJ gpo hmost hroom hm1' hm4' hlp hmok hmf o1 o2 hpA2 hpA hpc
     go_wp2_with fail
     refine CR.out.mono ?_
     clear CR
     rintro e wy ⟨v1, v2, v3, rfl, g1, g2, g3, hb⟩
     have NM := hi_ (show NodeV wx.heap.size wy (.agg #[.int .i64 m.kind, v1, v2, v3]) m from ⟨v1, v2, v3, rfl, g1, g2, g3⟩)
     obtain ⟨E1, e1, rfl⟩ := Kd.R_slice g1
     obtain ⟨E2, e2, rfl⟩ := Kd.R_slice g2
     obtain ⟨E3, e3, rfl⟩ := Kd.R_slice g3
     replace MX := hi_ (MX.out.below hb)
     replace NLX := hi_ (NLX.out.below hb)
     have BX := hi_ HBX.out
     clear g1 g2 g3 hb z0 x3 k3 HBX
     go_upto_region 18 with fail
     have XM := hi_ (blk_new wy (.cells #[.int .i64 m.kind, .slice E1 m.keys.length e1, .slice E2 m.vals.length e2, .slice E3 m.kids.length e3] 149 (0, 0)))
     replace NM := hi_ ((NM.out.lower BX.out).below (below_alloc (Below.refl wy.heap.size wy) (.cells #[.int .i64 m.kind, .slice E1 m.keys.length e1, .slice E2 m.vals.length e2, .slice E3 m.kids.length e3] 149 (0, 0))))
     replace MX := hi_ (MX.out.below (below_alloc (Below.refl wy.heap.size wy) (.cells #[.int .i64 m.kind, .slice E1 m.keys.length e1, .slice E2 m.vals.length e2, .slice E3 m.kids.length e3] 149 (0, 0))))
     replace NLX := hi_ (NLX.out.below (below_alloc (Below.refl wy.heap.size wy) (.cells #[.int .i64 m.kind, .slice E1 m.keys.length e1, .slice E2 m.vals.length e2, .slice E3 m.kids.length e3] 149 (0, 0))))
     generalize wy.alloc (.cells #[.int .i64 m.kind, .slice E1 m.keys.length e1, .slice E2 m.vals.length e2, .slice E3 m.kids.length e3] 149 (0, 0)) = wz at *
     obtain ⟨gm, hgm⟩ : ∃ gm, gm = wy.heap.size := ⟨_, rfl⟩
     rw [← hgm] at XM ⊢
     clear hgm
     skip
     obtain ⟨nn', B1, d1, B2, d2, B3, d3, hn0, y0, y1, y2, y3, NY⟩ := NLX.out.at (show 0 < 1 by omega)
     obtain rfl : nn = nn' := by rw [HL4.out] at hn0; simpa using hn0
     simp only [Nat.zero_mul, Nat.zero_add] at y0 y1 y2 y3
     have F0 := hi_ (show Jac gm gr (.int .i64 m.kind) (.slice E1 m.keys.length e1) (.slice E2 m.vals.length e2) (.slice E3 m.kids.length e3) (.int .i64 nn.kind) (.slice B1 nn.keys.length d1) (.slice B2 nn.vals.length d2) (.slice B3 nn.kids.length d3) wz from ⟨blk_cell XM.out 0, blk_cell XM.out 1, blk_cell XM.out 2, blk_cell XM.out 3, y0, y1, y2, y3⟩)
     have BW := hi_ (show B ≤ wz.heap.size from Nat.le_trans HH.out.base MX.out.kp.size)
     have CJ := hi_ (fun W (hW : Below wz.heap.size wz W) => (node_Join W B (.agg #[.int .i64 nn.kind, .slice B1 nn.keys.length d1, .slice B2 nn.vals.length d2, .slice B3 nn.kids.length d3]) (.agg #[.int .i64 m.kind, .slice E1 m.keys.length e1, .slice E2 m.vals.length e2, .slice E3 m.kids.length e3]) nn m (Nat.le_trans BW.out hW.size) (NY.below hW) (NM.out.below hW) LN.out LM.out).mono (fun (e : Ending) (w' : World) ⟨v, he, hN, hb⟩ => (⟨v, he, hN, hW.trans (hb.mono hW.size), F0.out.below (hW.trans (hb.mono hW.size))⟩ : ∃ v, e = Ending.returned v ∧ NodeV B w' v (nn.join m) ∧ Below wz.heap.size wz w' ∧ Jac gm gr (.int .i64 m.kind) (.slice E1 m.keys.length e1) (.slice E2 m.vals.length e2) (.slice E3 m.kids.length e3) (.int .i64 nn.kind) (.slice B1 nn.keys.length d1) (.slice B2 nn.vals.length d2) (.slice B3 nn.kids.length d3) w')))
     have CPt := hi_ (fun W v (hW : Below wz.heap.size wz W) (hN : NodeV B W v (nn.join m)) => (tree_parts W B v _ (Nat.le_trans BW.out hW.size) hN HJ.out.2).mono (fun (e : Ending) (w' : World) ⟨v', l', he, hp, hN', hb⟩ => (⟨v', l', he, hp, hN', hW.trans (hb.mono hW.size), F0.out.below (hW.trans (hb.mono hW.size))⟩ : ∃ v' l', e = Ending.returned v' ∧ PartsOf (nn.join m) l' ∧ NodesV B w' v' l' ∧ Below wz.heap.size wz w' ∧ Jac gm gr (.int .i64 m.kind) (.slice E1 m.keys.length e1) (.slice E2 m.vals.length e2) (.slice E3 m.kids.length e3) (.int .i64 nn.kind) (.slice B1 nn.keys.length d1) (.slice B2 nn.vals.length d2) (.slice B3 nn.kids.length d3) w')))
     have HB0 := hi_ (Below.refl wz.heap.size wz)
     clear y0 y1 y2 y3 NY hn0
     go_region_held3 (fun w' => w'.cell? ⟨gm, 0, none⟩ = some (.int .i64 m.kind) ∧ w'.cell? ⟨gm, 1, none⟩ = some (.slice E1 m.keys.length e1) ∧ w'.cell? ⟨gm, 2, none⟩ = some (.slice E2 m.vals.length e2) ∧ w'.cell? ⟨gm, 3, none⟩ = some (.slice E3 m.kids.length e3) ∧ w'.cell? ⟨gr, 0, none⟩ = some (.int .i64 nn.kind) ∧ w'.cell? ⟨gr, 1, none⟩ = some (.slice B1 nn.keys.length d1) ∧ w'.cell? ⟨gr, 2, none⟩ = some (.slice B2 nn.vals.length d2) ∧ w'.cell? ⟨gr, 3, none⟩ = some (.slice B3 nn.kids.length d3))
      (first | exact F0.out | (with_reducible assumption) | (show Jac _ _ _ _ _ _ _ _ _ _ _; repeat (first | (with_reducible assumption) | exact F0.out | refine Jac.drewN ?_ _ | refine Jac.drew ?_)))
      (first
       | (go_at_call 191; (with_reducible refine (CJ.out _ ?_).mono ?_); (repeat (first | (with_reducible assumption) | exact HB0.out | refine bel_drewN ?_ _ | refine bel_drew ?_)); rintro e w1 ⟨vj, rfl, nj, b1, f1⟩)
       | (go_at_call 190; (with_reducible refine (CPt.out _ _ ?_ nj).mono ?_); (repeat (first | (with_reducible assumption) | exact HB0.out | refine bel_drewN ?_ _ | refine bel_drew ?_)); rintro e w2 ⟨vp, lJ, rfl, hpJ, nlJ, b2, f2⟩))
     replace MX := hi_ (MX.out.below b2)
     replace NLX := hi_ nlJ
     have hpo4 := hi_ hpJ
     have hgX := HGJ
     have hc4 := hi_ HJ.out.1
     have hs4 := hi_ HJ.out.2
     have HML : Hid (∀ v, ov = some v → ([pt, po]).length = 1) := hi_ (fun v hv => by have := HNO.out; rw [this] at hv; cases hv)
     have HM1 : Hid (0 < ([pt, po]).length) := hi_ (by simp)
     have HSPL := HSPJ
     have HEDX := HEDJ
     obtain ⟨n4, hn4⟩ : ∃ x, x = nn.join m := ⟨_, rfl⟩
     rw [← hn4] at hpo4 hc4 hs4 H2J
     obtain ⟨l4, hl4⟩ : ∃ x, x = lJ := ⟨_, rfl⟩
     rw [← hl4] at hpo4 NLX
     obtain ⟨pM, hpM⟩ : ∃ x, x = [pt, po] := ⟨_, rfl⟩
     rw [← hpM] at HML HM1 HSPL HTO
     obtain ⟨pD, hpD⟩ : ∃ x, x = pC' := ⟨_, rfl⟩
     rw [← hpD] at HSPL HEDX
     have h24 : Hid (l4 = [n4] → 2 ≤ n4.keys.length) := hi_ (fun _ => H2J.out)
     obtain ⟨v4, hv4⟩ : ∃ x, x = vp := ⟨_, rfl⟩
     rw [← hv4] at NLX ⊢
     obtain ⟨wx, hwx⟩ : ∃ x, x = w2 := ⟨_, rfl⟩
     rw [← hwx] at MX NLX ⊢
     clear hn4 hl4 hpM hpD hv4 hwx hpJ nlJ f1 f2 b1 b2 nj HSPJ HEDJ HGJ HJ H2J
     go_upto_region 23 with fail
     (try clear hi0); (try clear hi2); (try clear hi3); (try clear hb2); (try clear hm0); (try clear hb1); (try clear hshort); (try clear hlen2); (try clear hiz0); (try clear hiz1)
     -- the nodes are written, and take the place of what was
     obtain ⟨HFit, qs, hq1, hq2, hq3, hq4, hq5, hq6, hq7⟩ := new_pts hc4.out hgX.out (by have := MX.out.ts.st.room; have := room_le MX.out.ts.st.d.ok; omega) hs4.out hpo4.out h24.out
     have HQ1 := hi_ hq1
     have HQ2 := hi_ hq2
     have HQ3 := hi_ hq3
     have HQ4 := hi_ hq4
     have HQ6 := hi_ hq6
     have HQ7 := hi_ hq7
     have HL2 : Hid (l4.length ≤ 2) := hi_ om_
     have CW := hi_ (tree_write wx B t b L h D4 P4 r _ l4 (Nat.le_trans HH.out.base MX.out.kp.size) MX.out.ts up4.out NLX.out HFit)
     clear hq1 hq2 hq3 hq4 hq5 hq6 hq7 HFit
     go_wp2_with fail
     refine CW.out.mono ?_
     clear CW
     rintro e w5 ⟨D5, P5, T5, A5, K5, hres⟩
     have M5 := hi_ (MX.out.step T5 K5)
     have A5 := hi_ (A4.out.trans A5)
     clear T5
     rcases hres with ⟨u1, u2, rfl, r1, r2, hP5, up5⟩ | ⟨er, rfl, hbad, hlt⟩
     ·obtain ⟨ks, hks⟩ : ∃ ks, ks = l4.map Nd.least := ⟨_, rfl⟩
      obtain ⟨cs, hcs⟩ : ∃ cs, cs = pagesFrom P4.length l4.length := ⟨_, rfl⟩
      rw [← hks] at r1
      rw [← hcs] at r2
      have HKS := hi_ hks
      have HCS := hi_ hcs
      clear hks hcs
      have hR1 := hi_ r1
      have hR2 := hi_ r2
      obtain ⟨U1, d1, rfl⟩ := Kd.R_slice r1
      obtain ⟨U2, d2, rfl⟩ := Kd.R_slice r2
      have HP5 := hi_ hP5
      have up5 := hi_ up5
      clear r1 r2 hP5 K5 MX NLX
      have x0 := blk_cell M5.out.bx 0
      have x1 := blk_cell M5.out.bx 1
      have x2 := blk_cell M5.out.bx 2
      have x3 := blk_cell M5.out.bx 3
      go_wp2_with fail
      obtain ⟨C1, k1, C2, k2, C3, k3⟩ := M5.out.nv.outs
      obtain ⟨-, e1', E1⟩ := Kd.R_reads' hR1.out
      obtain ⟨-, e2', E2⟩ := Kd.R_reads' hR2.out
      have hS5 := swap_ok (P := P) (P' := P5) (l := l + 1) (A := pA) (B := pM) (C := pD) (qs := qs) (by rw [← HSPL.out]; exact HPS.out) HM1.out (by rw [← HSPL.out]; exact HH.out.fit) A5.out.pre (by have := M5.out.ts.st.room; have := room_le M5.out.ts.st.d.ok; omega) (by rw [HP5.out]; exact HQ7.out) HQ4.out HQ6.out (by rw [HQ3.out, ← HEDX.out]; exact ed_good HH.out.good HH.out.kok HH.out.vok)
      obtain ⟨s1, s2, s3, s4⟩ := hS5
      rw [← HSPL.out, HQ1.out, HQ2.out, ← HKS.out, ← HCS.out] at s1
      have f1 : pA.length + pM.length ≤ (branchOf ps).keys.length := by have e : (branchOf ps).keys.length = ps.length := List.length_map _
                                                                        rw [e, HSPL.out]; simp only [List.length_append]; omega
      have f2 : (branchOf ps).kids.length = (branchOf ps).keys.length := by simp [branchOf]
      have f3 : 0 < ks.length := by rw [HKS.out, ← HQ1.out, List.length_map]; exact List.length_pos_iff.2 HQ4.out
      have f4 : cs.length = ks.length := by rw [HKS.out, HCS.out, pagesFrom_length, List.length_map]
      have f5 : (branchOf ps).keys.length + ks.length ≤ 100000 := by
       have e : (branchOf ps).keys.length = ps.length := List.length_map _
       have h1 := HF.out.2
       have h2 := HL2.out
       rw [e, HKS.out, List.length_map]
       omega
      have hsf := swap_f 2 (branchOf ps).keys (branchOf ps).vals (branchOf ps).kids pA.length (pA.length + pM.length) ks cs om_ f1 f2 f3 f4 f5
      clear f1 f2 f3 f4 f5
      rw [← HTO.out, ← HFR.out] at hsf
      refine (PNd.tree_swap.calls 2 A1 c1 (branchOf ps).keys A2 c2 (branchOf ps).vals (some ad) c3 (branchOf ps).kids _ _ U1 d1 _ U2 d2 _ _ _ _ _ w5 C1 k1 C2 k2 C3 k3 E1 e1' E2 e2' hsf).mono ?_
      clear C1 k1 C2 k2 C3 k3 E1 E2 e1' e2' hsf x0 x1 x2 x3
      rintro e w6 ⟨v1, v2, v3, rfl, g1, g2, g3, hb⟩
      have N6 := hi_ (show NodeV B w6 (.agg #[.int .i64 2, v1, v2, v3]) (branchOf (pA ++ qs ++ pD)) from by
       rw [s1]
       exact ⟨v1, v2, v3, rfl, Kd.R_lower (Kd.R_mono g1 (fun _ _ => trivial)) (Nat.le_trans HH.out.base M5.out.kp.size), Kd.R_lower (Kd.R_mono g2 (fun _ _ => trivial)) (Nat.le_trans HH.out.base M5.out.kp.size), Kd.R_lower (Kd.R_mono g3 (fun _ _ => trivial)) (Nat.le_trans HH.out.base M5.out.kp.size)⟩)
      have M6 := hi_ (M5.out.below hb)
      have HS2 := hi_ s2
      have HS3 := hi_ s3
      have HS4 := hi_ s4
      clear g1 g2 g3 hb s1 s2 s3 s4 M5
      go_wp2_with fail
      refine (tree_parts w6 B _ _ (Nat.le_trans HH.out.base M6.out.kp.size) N6.out HS2.out).mono ?_
      rintro e w7 ⟨v7, l7, rfl, hpo, NL, hb⟩
      have NL := hi_ NL
      have hpo := hi_ hpo
      have M7 := hi_ (M6.out.below hb)
      clear hb M6
      go_wp2_with fail
      go_ret2
      refine ⟨D5, P5, M7.out.ts, A5.out, M7.out.kp, .inl ⟨_, l7, _, rfl, NL.out, hpo.out, HS2.out, ?_, up5.out, ?_, ?_, ?_⟩⟩
      ·refine ⟨_, rfl, ?_, ?_, HS3.out.on⟩
       ·rw [HS4.out, HQ3.out, HEDX.out]
       ·intro e
        have := congrArg List.length e
        have := List.length_pos_iff.2 HQ4.out
        simp only [List.length_append, List.length_nil] at *
        omega
      ·rw [HP5.out, List.length_append, List.length_map]
       have := hle4.out
       have := HL2.out
       omega
      ·intro x e
       have e1 : (branchOf ps).keys.length = ps.length := List.length_map _
       have e2 : (branchOf (pA ++ qs ++ pD)).keys.length = (pA ++ qs ++ pD).length := List.length_map _
       rw [e1, e2, HSPL.out]
       have := List.length_pos_iff.2 HQ4.out
       have := HML.out x e
       simp only [List.length_append]
       omega
      ·intro _
       have := List.length_pos_iff.2 HQ4.out
       refine ⟨by simp [branchOf]; omega, ?_⟩
       obtain ⟨X, hX⟩ := A4.out.pre
       have h1 := congrArg List.length HQ1.out
       rw [List.length_map, List.length_map] at h1
       rw [HP5.out, hX, List.length_append, List.length_append, List.length_map]
       omega
     ·have hbad := hi_ hbad
      have hlt := hi_ hlt
      have her : (er == 0) = false := by have := hbad.out; unfold Bad at this; simp; omega
      go_wp2_with fail
      go_ret2
      exact ⟨D5, P5, M5.out.ts, A5.out, M5.out.kp, .inr ⟨er, rfl, Bad.of hbad.out A4.out.wr.live, by have := hlt.out; have := hle4.out; have := HL2.out; omega⟩⟩
   ·as_aux_lemma =>
    have h24 : Hid (l4 = [n4] → 2 ≤ n4.keys.length) := hi_ (fun _ => by have h1 := hnn.out; subst h1; omega)
    obtain ⟨pM, hpM⟩ : ∃ pM, pM = [pt] := ⟨_, rfl⟩
    obtain ⟨pD, hpD⟩ : ∃ pD, pD = pC := ⟨_, rfl⟩
    have HSPL : Hid (ps = pA ++ pM ++ pD) := hi_ (by rw [hpM, hpD, HSP.out]; simp)
    have HM1 : Hid (0 < pM.length) := hi_ (by rw [hpM]; simp)
    have HML1 : Hid (pM.length = 1) := hi_ (by rw [hpM]; rfl)
    have HML : Hid (∀ v, ov = some v → pM.length = 1) := hi_ (fun _ _ => HML1.out)
    have HEDX : Hid (ed key ov (kvsOf ps) = kvsOf pA ++ ed key ov pt.kv ++ kvsOf pD) := hi_ (by rw [hpD]; exact HED.out)
    have hgX : Hid (Good (ed key ov pt.kv)) := hi_ (by
     have hgood := HPS.out.good
     have hkvs : kvsOf ps = kvsOf pA ++ (pt.kv ++ kvsOf pC) := by rw [HSP.out, kvsOf_app, kvsOf_cons]
     rw [hkvs] at hgood
     exact ed_good (good_app (good_app hgood).2.1).1 HH.out.kok HH.out.vok)
    clear hpM hpD
    obtain ⟨tz, hto⟩ : ∃ tz : Int, tz = ((pA.length + pM.length : Nat) : Int) := ⟨_, rfl⟩
    have hw : wrap64 ((pA.length : Int) + 1) = tz := by rw [hto, HML1.out]; have := HF.out; have e : ps.length = pA.length + pM.length + pD.length := by rw [HSPL.out]; simp only [List.length_append]
                                                        unfold wrap64; omega
    have HTO := hi_ hto
    obtain ⟨fz, hfz⟩ : ∃ fz : Int, fz = (pA.length : Int) := ⟨_, rfl⟩
    have HFR := hi_ hfz
    clear hto
    rw [hw, ← hfz]
    clear hw hfz
    go_wp2_with fail
    obtain ⟨C1, k1, C2, k2, C3, k3⟩ := NY.out.outs
    refine (PNd.node_Node_Len.calls nn.kind B1 d1 nn.keys B2 d2 nn.vals B3 d3 nn.kids (nn.keys.length : Int) wx C1 k1 C2 k2 C3 k3 rfl).mono ?_
    clear C1 k1 C2 k2 C3 k3 y0 y1 y2 y3
    rintro e wy ⟨rfl, hb⟩
    replace MX := hi_ (MX.out.below hb)
    replace NLX := hi_ (NLX.out.below hb)
    clear hb NY NL4
    obtain ⟨wx, hwx⟩ : ∃ wx, wx = wy := ⟨_, rfl⟩
    rw [← hwx] at MX NLX ⊢
    clear hwx
    go_upto_region 23 with fail
    clear hshort
    -- the nodes are written, and take the place of what was
    obtain ⟨HFit, qs, hq1, hq2, hq3, hq4, hq5, hq6, hq7⟩ := new_pts hc4.out hgX.out (by have := MX.out.ts.st.room; have := room_le MX.out.ts.st.d.ok; omega) hs4.out hpo4.out h24.out
    have HQ1 := hi_ hq1
    have HQ2 := hi_ hq2
    have HQ3 := hi_ hq3
    have HQ4 := hi_ hq4
    have HQ6 := hi_ hq6
    have HQ7 := hi_ hq7
    have HL2 : Hid (l4.length ≤ 2) := hi_ om_
    have CW := hi_ (tree_write wx B t b L h D4 P4 r _ l4 (Nat.le_trans HH.out.base MX.out.kp.size) MX.out.ts up4.out NLX.out HFit)
    clear hq1 hq2 hq3 hq4 hq5 hq6 hq7 HFit
    go_wp2_with fail
    refine CW.out.mono ?_
    clear CW
    rintro e w5 ⟨D5, P5, T5, A5, K5, hres⟩
    have M5 := hi_ (MX.out.step T5 K5)
    have A5 := hi_ (A4.out.trans A5)
    clear T5
    rcases hres with ⟨u1, u2, rfl, r1, r2, hP5, up5⟩ | ⟨er, rfl, hbad, hlt⟩
    ·obtain ⟨ks, hks⟩ : ∃ ks, ks = l4.map Nd.least := ⟨_, rfl⟩
     obtain ⟨cs, hcs⟩ : ∃ cs, cs = pagesFrom P4.length l4.length := ⟨_, rfl⟩
     rw [← hks] at r1
     rw [← hcs] at r2
     have HKS := hi_ hks
     have HCS := hi_ hcs
     clear hks hcs
     have hR1 := hi_ r1
     have hR2 := hi_ r2
     obtain ⟨U1, d1, rfl⟩ := Kd.R_slice r1
     obtain ⟨U2, d2, rfl⟩ := Kd.R_slice r2
     have HP5 := hi_ hP5
     have up5 := hi_ up5
     clear r1 r2 hP5 K5 MX NLX
     have x0 := blk_cell M5.out.bx 0
     have x1 := blk_cell M5.out.bx 1
     have x2 := blk_cell M5.out.bx 2
     have x3 := blk_cell M5.out.bx 3
     go_wp2_with fail
     obtain ⟨C1, k1, C2, k2, C3, k3⟩ := M5.out.nv.outs
     obtain ⟨-, e1', E1⟩ := Kd.R_reads' hR1.out
     obtain ⟨-, e2', E2⟩ := Kd.R_reads' hR2.out
     have hS5 := swap_ok (P := P) (P' := P5) (l := l + 1) (A := pA) (B := pM) (C := pD) (qs := qs) (by rw [← HSPL.out]; exact HPS.out) HM1.out (by rw [← HSPL.out]; exact HH.out.fit) A5.out.pre (by have := M5.out.ts.st.room; have := room_le M5.out.ts.st.d.ok; omega) (by rw [HP5.out]; exact HQ7.out) HQ4.out HQ6.out (by rw [HQ3.out, ← HEDX.out]; exact ed_good HH.out.good HH.out.kok HH.out.vok)
     obtain ⟨s1, s2, s3, s4⟩ := hS5
     rw [← HSPL.out, HQ1.out, HQ2.out, ← HKS.out, ← HCS.out] at s1
     have f1 : pA.length + pM.length ≤ (branchOf ps).keys.length := by have e : (branchOf ps).keys.length = ps.length := List.length_map _
                                                                       rw [e, HSPL.out]; simp only [List.length_append]; omega
     have f2 : (branchOf ps).kids.length = (branchOf ps).keys.length := by simp [branchOf]
     have f3 : 0 < ks.length := by rw [HKS.out, ← HQ1.out, List.length_map]; exact List.length_pos_iff.2 HQ4.out
     have f4 : cs.length = ks.length := by rw [HKS.out, HCS.out, pagesFrom_length, List.length_map]
     have f5 : (branchOf ps).keys.length + ks.length ≤ 100000 := by
      have e : (branchOf ps).keys.length = ps.length := List.length_map _
      have h1 := HF.out.2
      have h2 := HL2.out
      rw [e, HKS.out, List.length_map]
      omega
     have hsf := swap_f 2 (branchOf ps).keys (branchOf ps).vals (branchOf ps).kids pA.length (pA.length + pM.length) ks cs om_ f1 f2 f3 f4 f5
     clear f1 f2 f3 f4 f5
     rw [← HTO.out, ← HFR.out] at hsf
     refine (PNd.tree_swap.calls 2 A1 c1 (branchOf ps).keys A2 c2 (branchOf ps).vals (some ad) c3 (branchOf ps).kids _ _ U1 d1 _ U2 d2 _ _ _ _ _ w5 C1 k1 C2 k2 C3 k3 E1 e1' E2 e2' hsf).mono ?_
     clear C1 k1 C2 k2 C3 k3 E1 E2 e1' e2' hsf x0 x1 x2 x3
     rintro e w6 ⟨v1, v2, v3, rfl, g1, g2, g3, hb⟩
     have N6 := hi_ (show NodeV B w6 (.agg #[.int .i64 2, v1, v2, v3]) (branchOf (pA ++ qs ++ pD)) from by
      rw [s1]
      exact ⟨v1, v2, v3, rfl, Kd.R_lower (Kd.R_mono g1 (fun _ _ => trivial)) (Nat.le_trans HH.out.base M5.out.kp.size), Kd.R_lower (Kd.R_mono g2 (fun _ _ => trivial)) (Nat.le_trans HH.out.base M5.out.kp.size), Kd.R_lower (Kd.R_mono g3 (fun _ _ => trivial)) (Nat.le_trans HH.out.base M5.out.kp.size)⟩)
     have M6 := hi_ (M5.out.below hb)
     have HS2 := hi_ s2
     have HS3 := hi_ s3
     have HS4 := hi_ s4
     clear g1 g2 g3 hb s1 s2 s3 s4 M5
     go_wp2_with fail
     refine (tree_parts w6 B _ _ (Nat.le_trans HH.out.base M6.out.kp.size) N6.out HS2.out).mono ?_
     rintro e w7 ⟨v7, l7, rfl, hpo, NL, hb⟩
     have NL := hi_ NL
     have hpo := hi_ hpo
     have M7 := hi_ (M6.out.below hb)
     clear hb M6
     go_wp2_with fail
     go_ret2
     refine ⟨D5, P5, M7.out.ts, A5.out, M7.out.kp, .inl ⟨_, l7, _, rfl, NL.out, hpo.out, HS2.out, ?_, up5.out, ?_, ?_, ?_⟩⟩
     ·refine ⟨_, rfl, ?_, ?_, HS3.out.on⟩
      ·rw [HS4.out, HQ3.out, HEDX.out]
      ·intro e
       have := congrArg List.length e
       have := List.length_pos_iff.2 HQ4.out
       simp only [List.length_append, List.length_nil] at *
       omega
     ·rw [HP5.out, List.length_append, List.length_map]
      have := hle4.out
      have := HL2.out
      omega
     ·intro x e
      have e1 : (branchOf ps).keys.length = ps.length := List.length_map _
      have e2 : (branchOf (pA ++ qs ++ pD)).keys.length = (pA ++ qs ++ pD).length := List.length_map _
      rw [e1, e2, HSPL.out]
      have := List.length_pos_iff.2 HQ4.out
      have := HML.out x e
      simp only [List.length_append]
      omega
     ·intro _
      have := List.length_pos_iff.2 HQ4.out
      refine ⟨by simp [branchOf]; omega, ?_⟩
      obtain ⟨X, hX⟩ := A4.out.pre
      have h1 := congrArg List.length HQ1.out
      rw [List.length_map, List.length_map] at h1
      rw [HP5.out, hX, List.length_append, List.length_append, List.length_map]
      omega
    ·have hbad := hi_ hbad
     have hlt := hi_ hlt
     have her : (er == 0) = false := by have := hbad.out; unfold Bad at this; simp; omega
     go_wp2_with fail
     go_ret2
     exact ⟨D5, P5, M5.out.ts, A5.out, M5.out.kp, .inr ⟨er, rfl, Bad.of hbad.out A4.out.wr.live, by have := hlt.out; have := hle4.out; have := HL2.out; omega⟩⟩
  ·as_aux_lemma =>
   subst hv
   have h24 : Hid (l4 = [n4] → 2 ≤ n4.keys.length) := hi_ (fun e => by rw [e] at hl; simp at hl)
   have hgo := hi_ hl
   clear hl
   obtain ⟨pM, hpM⟩ : ∃ pM, pM = [pt] := ⟨_, rfl⟩
   obtain ⟨pD, hpD⟩ : ∃ pD, pD = pC := ⟨_, rfl⟩
   have HSPL : Hid (ps = pA ++ pM ++ pD) := hi_ (by rw [hpM, hpD, HSP.out]; simp)
   have HM1 : Hid (0 < pM.length) := hi_ (by rw [hpM]; simp)
   have HML1 : Hid (pM.length = 1) := hi_ (by rw [hpM]; rfl)
   have HML : Hid (∀ v, ov = some v → pM.length = 1) := hi_ (fun _ _ => HML1.out)
   have HEDX : Hid (ed key ov (kvsOf ps) = kvsOf pA ++ ed key ov pt.kv ++ kvsOf pD) := hi_ (by rw [hpD]; exact HED.out)
   have hgX : Hid (Good (ed key ov pt.kv)) := hi_ (by
    have hgood := HPS.out.good
    have hkvs : kvsOf ps = kvsOf pA ++ (pt.kv ++ kvsOf pC) := by rw [HSP.out, kvsOf_app, kvsOf_cons]
    rw [hkvs] at hgood
    exact ed_good (good_app (good_app hgood).2.1).1 HH.out.kok HH.out.vok)
   clear hpM hpD
   obtain ⟨tz, hto⟩ : ∃ tz : Int, tz = ((pA.length + pM.length : Nat) : Int) := ⟨_, rfl⟩
   have hw : wrap64 ((pA.length : Int) + 1) = tz := by rw [hto, HML1.out]; have := HF.out; have e : ps.length = pA.length + pM.length + pD.length := by rw [HSPL.out]; simp only [List.length_append]
                                                       unfold wrap64; omega
   have HTO := hi_ hto
   obtain ⟨fz, hfz⟩ : ∃ fz : Int, fz = (pA.length : Int) := ⟨_, rfl⟩
   have HFR := hi_ hfz
   clear hto
   rw [hw, ← hfz]
   clear hw hfz
   go_upto_region 23 with fail
   -- the nodes are written, and take the place of what was
   obtain ⟨HFit, qs, hq1, hq2, hq3, hq4, hq5, hq6, hq7⟩ := new_pts hc4.out hgX.out (by have := MX.out.ts.st.room; have := room_le MX.out.ts.st.d.ok; omega) hs4.out hpo4.out h24.out
   have HQ1 := hi_ hq1
   have HQ2 := hi_ hq2
   have HQ3 := hi_ hq3
   have HQ4 := hi_ hq4
   have HQ6 := hi_ hq6
   have HQ7 := hi_ hq7
   have HL2 : Hid (l4.length ≤ 2) := hi_ om_
   have CW := hi_ (tree_write wx B t b L h D4 P4 r _ l4 (Nat.le_trans HH.out.base MX.out.kp.size) MX.out.ts up4.out NLX.out HFit)
   clear hq1 hq2 hq3 hq4 hq5 hq6 hq7 HFit
   go_wp2_with fail
   refine CW.out.mono ?_
   clear CW
   rintro e w5 ⟨D5, P5, T5, A5, K5, hres⟩
   have M5 := hi_ (MX.out.step T5 K5)
   have A5 := hi_ (A4.out.trans A5)
   clear T5
   rcases hres with ⟨u1, u2, rfl, r1, r2, hP5, up5⟩ | ⟨er, rfl, hbad, hlt⟩
   ·obtain ⟨ks, hks⟩ : ∃ ks, ks = l4.map Nd.least := ⟨_, rfl⟩
    obtain ⟨cs, hcs⟩ : ∃ cs, cs = pagesFrom P4.length l4.length := ⟨_, rfl⟩
    rw [← hks] at r1
    rw [← hcs] at r2
    have HKS := hi_ hks
    have HCS := hi_ hcs
    clear hks hcs
    have hR1 := hi_ r1
    have hR2 := hi_ r2
    obtain ⟨U1, d1, rfl⟩ := Kd.R_slice r1
    obtain ⟨U2, d2, rfl⟩ := Kd.R_slice r2
    have HP5 := hi_ hP5
    have up5 := hi_ up5
    clear r1 r2 hP5 K5 MX NLX
    have x0 := blk_cell M5.out.bx 0
    have x1 := blk_cell M5.out.bx 1
    have x2 := blk_cell M5.out.bx 2
    have x3 := blk_cell M5.out.bx 3
    go_wp2_with fail
    obtain ⟨C1, k1, C2, k2, C3, k3⟩ := M5.out.nv.outs
    obtain ⟨-, e1', E1⟩ := Kd.R_reads' hR1.out
    obtain ⟨-, e2', E2⟩ := Kd.R_reads' hR2.out
    have hS5 := swap_ok (P := P) (P' := P5) (l := l + 1) (A := pA) (B := pM) (C := pD) (qs := qs) (by rw [← HSPL.out]; exact HPS.out) HM1.out (by rw [← HSPL.out]; exact HH.out.fit) A5.out.pre (by have := M5.out.ts.st.room; have := room_le M5.out.ts.st.d.ok; omega) (by rw [HP5.out]; exact HQ7.out) HQ4.out HQ6.out (by rw [HQ3.out, ← HEDX.out]; exact ed_good HH.out.good HH.out.kok HH.out.vok)
    obtain ⟨s1, s2, s3, s4⟩ := hS5
    rw [← HSPL.out, HQ1.out, HQ2.out, ← HKS.out, ← HCS.out] at s1
    have f1 : pA.length + pM.length ≤ (branchOf ps).keys.length := by have e : (branchOf ps).keys.length = ps.length := List.length_map _
                                                                      rw [e, HSPL.out]; simp only [List.length_append]; omega
    have f2 : (branchOf ps).kids.length = (branchOf ps).keys.length := by simp [branchOf]
    have f3 : 0 < ks.length := by rw [HKS.out, ← HQ1.out, List.length_map]; exact List.length_pos_iff.2 HQ4.out
    have f4 : cs.length = ks.length := by rw [HKS.out, HCS.out, pagesFrom_length, List.length_map]
    have f5 : (branchOf ps).keys.length + ks.length ≤ 100000 := by
     have e : (branchOf ps).keys.length = ps.length := List.length_map _
     have h1 := HF.out.2
     have h2 := HL2.out
     rw [e, HKS.out, List.length_map]
     omega
    have hsf := swap_f 2 (branchOf ps).keys (branchOf ps).vals (branchOf ps).kids pA.length (pA.length + pM.length) ks cs om_ f1 f2 f3 f4 f5
    clear f1 f2 f3 f4 f5
    rw [← HTO.out, ← HFR.out] at hsf
    refine (PNd.tree_swap.calls 2 A1 c1 (branchOf ps).keys A2 c2 (branchOf ps).vals (some ad) c3 (branchOf ps).kids _ _ U1 d1 _ U2 d2 _ _ _ _ _ w5 C1 k1 C2 k2 C3 k3 E1 e1' E2 e2' hsf).mono ?_
    clear C1 k1 C2 k2 C3 k3 E1 E2 e1' e2' hsf x0 x1 x2 x3
    rintro e w6 ⟨v1, v2, v3, rfl, g1, g2, g3, hb⟩
    have N6 := hi_ (show NodeV B w6 (.agg #[.int .i64 2, v1, v2, v3]) (branchOf (pA ++ qs ++ pD)) from by
     rw [s1]
     exact ⟨v1, v2, v3, rfl, Kd.R_lower (Kd.R_mono g1 (fun _ _ => trivial)) (Nat.le_trans HH.out.base M5.out.kp.size), Kd.R_lower (Kd.R_mono g2 (fun _ _ => trivial)) (Nat.le_trans HH.out.base M5.out.kp.size), Kd.R_lower (Kd.R_mono g3 (fun _ _ => trivial)) (Nat.le_trans HH.out.base M5.out.kp.size)⟩)
    have M6 := hi_ (M5.out.below hb)
    have HS2 := hi_ s2
    have HS3 := hi_ s3
    have HS4 := hi_ s4
    clear g1 g2 g3 hb s1 s2 s3 s4 M5
    go_wp2_with fail
    refine (tree_parts w6 B _ _ (Nat.le_trans HH.out.base M6.out.kp.size) N6.out HS2.out).mono ?_
    rintro e w7 ⟨v7, l7, rfl, hpo, NL, hb⟩
    have NL := hi_ NL
    have hpo := hi_ hpo
    have M7 := hi_ (M6.out.below hb)
    clear hb M6
    go_wp2_with fail
    go_ret2
    refine ⟨D5, P5, M7.out.ts, A5.out, M7.out.kp, .inl ⟨_, l7, _, rfl, NL.out, hpo.out, HS2.out, ?_, up5.out, ?_, ?_, ?_⟩⟩
    ·refine ⟨_, rfl, ?_, ?_, HS3.out.on⟩
     ·rw [HS4.out, HQ3.out, HEDX.out]
     ·intro e
      have := congrArg List.length e
      have := List.length_pos_iff.2 HQ4.out
      simp only [List.length_append, List.length_nil] at *
      omega
    ·rw [HP5.out, List.length_append, List.length_map]
     have := hle4.out
     have := HL2.out
     omega
    ·intro x e
     have e1 : (branchOf ps).keys.length = ps.length := List.length_map _
     have e2 : (branchOf (pA ++ qs ++ pD)).keys.length = (pA ++ qs ++ pD).length := List.length_map _
     rw [e1, e2, HSPL.out]
     have := List.length_pos_iff.2 HQ4.out
     have := HML.out x e
     simp only [List.length_append]
     omega
    ·intro _
     have := List.length_pos_iff.2 HQ4.out
     refine ⟨by simp [branchOf]; omega, ?_⟩
     obtain ⟨X, hX⟩ := A4.out.pre
     have h1 := congrArg List.length HQ1.out
     rw [List.length_map, List.length_map] at h1
     rw [HP5.out, hX, List.length_append, List.length_append, List.length_map]
     omega
   ·have hbad := hi_ hbad
    have hlt := hi_ hlt
    have her : (er == 0) = false := by have := hbad.out; unfold Bad at this; simp; omega
    go_wp2_with fail
    go_ret2
    exact ⟨D5, P5, M5.out.ts, A5.out, M5.out.kp, .inr ⟨er, rfl, Bad.of hbad.out A4.out.wr.live, by have := hlt.out; have := hle4.out; have := HL2.out; omega⟩⟩
 ·have hbad := hi_ hbad
  have hlt := hi_ hlt
  have her : (er == 0) = false := by have := hbad.out; unfold Bad at this; simp; omega
  go_wp2_with fail
  go_ret2
  exact ⟨D4, P4, M4.out.ts, A4.out, M4.out.kp, .inr ⟨er, rfl, hbad.out, by have := hlt.out; omega⟩⟩
end Go.Proofs.YtendgmblgdkiaaaGreat

namespace Go.Proofs.YtendgmblgdkiaaaGreat
open Go.RowKit
open Go.Proofs.YtendgmblgdkiaaaGreatW
open PrintWords PrintLast PrintMore
set_option linter.unusedVariables false
set_option linter.unusedSimpArgs false

theorem tree_change (B : Nat) (t b : Nat) (L : Loc) (h : Nat) (r : Rt) (key : BA) (ov : Option BA) (p1 p2 : Addr) : ∀ (lv : Nat) (w : World) (D : Dk) (P : List Pg) (page : Nat) (n : Nd) (kvs : List KV), ChPre B w t b L h D P r key ov p1 p2 lv page n kvs →
  Calls Tryz.prog 151 #[.pointer (some ⟨t, 0, none⟩), .int .i64 page, .int .i64 (lv : Int), .string key, cloV ov p1 p2] w (ChPost B w t b L h D P r key ov lv n kvs)
 | 0, _, _, _, _, _, _, H => H.cn.elim
 | 1, w, D, P, page, n, kvs, H => change_leaf B w t b L h D P r key ov p1 p2 page n kvs H
 | l + 2, w, D, P, page, n, kvs, H => change_branch B t b L h r key ov p1 p2 l (fun w D P page n kvs H => tree_change B t b L h r key ov p1 p2 (l + 1) w D P page n kvs H) w D P page n kvs H

def rootV (r : Rt) : Value := .agg #[.int .i64 r.page, .int .i64 r.count, .int .i64 r.height]
/-- A tree's root, as it is to be. -/
def RootC (P : List Pg) (page height : Int) (kvs : List KV) : Prop :=
 (height = 0 ∧ page = -1 ∧ kvs = []) ∨ (∃ (hn q : Nat) (n : Nd), height = hn ∧ page = q ∧ P[q]? = some n.page ∧ n.Fit ∧ Cn P hn n kvs ∧ (2 ≤ hn → 2 ≤ n.keys.length))
/-- What lift comes to. -/
def LiPost (B : Nat) (w : World) (t b : Nat) (L : Loc) (h : Nat) (D : Dk) (P : List Pg) (r : Rt) (kvs : List KV) (m lv : Nat) (e : Ending) (w' : World) : Prop :=
 ∃ D' P', TS B w' t b L h D' P' r ∧ AppOk h D P D' P' ∧ Keep (fun k => L.foot k ∨ k = b) w w' ∧
  ((∃ page height : Int, e = .returned (.tuple #[.agg #[.int .i64 page, .int .i64 0, .int .i64 height], .int .i64 0]) ∧ RootC P' page height kvs ∧ D'.down = false ∧ P'.length ≤ P.length + m ∧ (kvs ≠ [] → lv = 1 → P.length < P'.length)) ∨
   (∃ er, e = .returned (.tuple #[.agg #[.int .i64 0, .int .i64 0, .int .i64 0], .int .i64 er]) ∧ Bad D D' P' er ∧ P'.length < P.length + m))

set_option maxRecDepth 100000 in
theorem tree_Empty (w : World) : Calls Tryz.prog 23 #[] w fun e w' => e = .returned (.agg #[.int .i64 (-1), .int .i64 0, .int .i64 0]) ∧ Below w.heap.size w w' := by
 go_enter Tryz.func23, Tryz.ntmps23
 go_wp2_with fail
 refine bodyPost_ret (results_single rfl (.cell w.heap.size 31 _ (0, 0) _ rfl (blk_new w _) rfl rfl rfl .nil)) rfl ?_
 exact ⟨rfl, below_alloc (Below.refl _ _) _⟩
theorem cn_none {P : List Pg} {l : Nat} {n : Nd} {kvs : List KV} (h : Cn P l n kvs) (h0 : n.keys.length = 0) : kvs = [] := by
 match l, h with
 | 1, h =>
  have h : n = leafOf kvs := h
  subst h
  simpa [leafOf] using h0
 | l + 2, h =>
  obtain ⟨ps, rfl, rfl, h3, h4⟩ := h
  have := List.length_pos_iff.2 h3
  have h0 : (ps.map Pt.k).length = 0 := h0
  rw [List.length_map] at h0
  omega
theorem cn_two {P : List Pg} {lv : Nat} {n : Nd} {kvs : List KV} (h : Cn P lv n kvs) (h2 : n.kind = 2) : ∃ l ps, lv = l + 2 ∧ n = branchOf ps ∧ kvs = kvsOf ps ∧ ∀ p ∈ ps, On P (l + 1) p := by
 match lv, h with
 | 1, h =>
  have h : n = leafOf kvs := h
  subst h
  simp [leafOf] at h2
 | l + 2, h =>
  obtain ⟨ps, h3, h4, h5, h6⟩ := h
  exact ⟨l, ps, rfl, h3, h4, h6⟩
/-- What lift carries along. -/
structure LM (B : Nat) (w : World) (t b : Nat) (L : Loc) (h : Nat) (r : Rt) (g : Nat) (n : Nd) (A1 : Option Addr) (c1 : Nat) (A2 : Option Addr) (c2 : Nat) (A3 : Option Addr) (c3 g0 g1 : Nat) (D : Dk) (P : List Pg) (wx : World) : Prop where
 ts : TS B wx t b L h D P r
 kp : Keep (fun k => L.foot k ∨ k = b) w wx
 nvs : NodesV B wx (.slice (some ⟨g, 0, none⟩) 1 1) [n]
 nv : NodeV B wx (.agg #[.int .i64 n.kind, .slice A1 n.keys.length c1, .slice A2 n.vals.length c2, .slice A3 n.kids.length c3]) n
 rb : wx.heap[g0]? = some (.cells #[.int .i64 0, .int .i64 0, .int .i64 0] 31 (0, 0))
 nb : wx.heap[g1]? = some (.cells #[.int .i64 n.kind, .slice A1 n.keys.length c1, .slice A2 n.vals.length c2, .slice A3 n.kids.length c3] 149 (0, 0))
 l0 : w.heap.size ≤ g0
 l1 : w.heap.size ≤ g1
 lB : B ≤ w.heap.size
theorem LM.step {B : Nat} {w : World} {t b : Nat} {L : Loc} {h : Nat} {r : Rt} {g : Nat} {n : Nd} {A1 : Option Addr} {c1 : Nat} {A2 : Option Addr} {c2 : Nat} {A3 : Option Addr} {c3 g0 g1 : Nat} {D D' : Dk} {P P' : List Pg} {wx wy : World} (M : LM B w t b L h r g n A1 c1 A2 c2 A3 c3 g0 g1 D P wx)
  (T : TS B wy t b L h D' P' r) (k : Keep (fun k => L.foot k ∨ k = b) wx wy) : LM B w t b L h r g n A1 c1 A2 c2 A3 c3 g0 g1 D' P' wy :=
 have hf : ∀ i, w.heap.size ≤ i → ¬ (L.foot i ∨ i = b) := fun i hi hf => by have := M.ts.lo i hf; have := M.lB; omega
 ⟨T, M.kp.trans k, M.nvs.keep k M.ts.lo, M.nv.keep k M.ts.lo, k.heap M.rb (hf _ M.l0), k.heap M.nb (hf _ M.l1), M.l0, M.l1, M.lB⟩
theorem LM.below {B : Nat} {w : World} {t b : Nat} {L : Loc} {h : Nat} {r : Rt} {g : Nat} {n : Nd} {A1 : Option Addr} {c1 : Nat} {A2 : Option Addr} {c2 : Nat} {A3 : Option Addr} {c3 g0 g1 : Nat} {D : Dk} {P : List Pg} {wx wy : World} (M : LM B w t b L h r g n A1 c1 A2 c2 A3 c3 g0 g1 D P wx)
  (hb : Below wx.heap.size wx wy) : LM B w t b L h r g n A1 c1 A2 c2 A3 c3 g0 g1 D P wy := M.step (M.ts.below hb) (Keep.below hb)

theorem LM.fin {B : Nat} {w : World} {t b : Nat} {L : Loc} {h : Nat} {r : Rt} {g : Nat} {n : Nd} {A1 : Option Addr} {c1 : Nat} {A2 : Option Addr} {c2 : Nat} {A3 : Option Addr} {c3 g0 g1 : Nat} {D : Dk} {P : List Pg} {wx : World} (M : LM B w t b L h r g n A1 c1 A2 c2 A3 c3 g0 g1 D P wx)
  (x y z : Value) : TS B (((wx.setCell ⟨g0, 0, none⟩ x).setCell ⟨g0, 1, none⟩ y).setCell ⟨g0, 2, none⟩ z) t b L h D P r ∧ Keep (fun k => L.foot k ∨ k = b) w (((wx.setCell ⟨g0, 0, none⟩ x).setCell ⟨g0, 1, none⟩ y).setCell ⟨g0, 2, none⟩ z) := by
 have hB : B ≤ g0 := Nat.le_trans M.lB M.l0
 exact ⟨M.ts.hi ((((Keep.refl (fun k => B ≤ k) wx).setCell (p := ⟨g0, 0, none⟩) (.inl hB) x).setCell (p := ⟨g0, 1, none⟩) (.inl hB) y).setCell (p := ⟨g0, 2, none⟩) (.inl hB) z),
  ((M.kp.setCell (p := ⟨g0, 0, none⟩) (.inr M.l0) x).setCell (p := ⟨g0, 1, none⟩) (.inr M.l0) y).setCell (p := ⟨g0, 2, none⟩) (.inr M.l0) z⟩

set_option maxHeartbeats 2000000 in
set_option maxRecDepth 100000 in
/-- One node. -/
theorem lift_one (w : World) (B : Nat) (t b : Nat) (L : Loc) (h : Nat) (D : Dk) (P : List Pg) (r : Rt) (v : Value) (n : Nd) (kvs : List KV) (lv : Nat) (hB : B ≤ w.heap.size) (T : TS B w t b L h D P r) (up : D.down = false) (N : NodesV B w v [n]) (hn : n.Short) (hC : Cn P lv n kvs) (hG : Good kvs) (hsz : n.pack.size ≤ 240) (hlv : lv ≤ 1000) :
  Calls Tryz.prog 152 #[.pointer (some ⟨t, 0, none⟩), v, .int .i64 (lv : Int)] w (LiPost B w t b L h D P r kvs 1 lv) := by
 obtain ⟨g, hv⟩ : ∃ g, v = .slice (some ⟨g, 0, none⟩) 1 1 := by
  rcases N with ⟨a, x, g, -, rfl, -, -, -⟩ | ⟨a, b, x, y, g, e, rfl, -, -, -, -⟩
  ·exact ⟨g, rfl⟩
  ·simp at e
 subst hv
 have HC := hi_ hC
 have HG := hi_ hG
 have HS := hi_ hn
 have HK := hi_ (cn_kind hC)
 have HZ := hi_ hsz
 have HU := hi_ up
 have HB := hi_ hB
 have HN := hi_ N
 have HT := hi_ T
 clear hC hG hn hsz up hB N T
 go_enter Tryz.func152, Tryz.ntmps152
 go_upto_region 6 with fail
 have X0 := hi_ (blk_new w (.cells #[.int .i64 0, .int .i64 0, .int .i64 0] 31 (0, 0)))
 have B0 := hi_ (below_alloc (Below.refl w.heap.size w) (.cells #[.int .i64 0, .int .i64 0, .int .i64 0] 31 (0, 0)))
 obtain ⟨g0, hg0⟩ : ∃ g0, g0 = w.heap.size := ⟨_, rfl⟩
 rw [← hg0] at X0 ⊢
 have G0 := hi_ (Nat.le_of_eq hg0.symm)
 clear hg0
 generalize w.alloc (.cells #[.int .i64 0, .int .i64 0, .int .i64 0] 31 (0, 0)) = w0 at *
 obtain ⟨nn, A1, c1, A2, c2, A3, c3, hn0, y0, y1, y2, y3, NY⟩ := (HN.out.below B0.out).at (show 0 < 1 by omega)
 obtain rfl : nn = n := by simpa using hn0.symm
 simp only [Nat.zero_mul, Nat.zero_add] at y0 y1 y2 y3
 have NY := hi_ NY
 clear hn0
 go_upto_region 7 with fail
 have M1 : Hid (LM B w t b L h r g nn A1 c1 A2 c2 A3 c3 g0 w0.heap.size D P (w0.alloc (.cells #[.int .i64 nn.kind, .slice A1 nn.keys.length c1, .slice A2 nn.vals.length c2, .slice A3 nn.kids.length c3] 149 (0, 0)))) := by
  have hb := below_alloc (Below.refl w0.heap.size w0) (.cells #[.int .i64 nn.kind, .slice A1 nn.keys.length c1, .slice A2 nn.vals.length c2, .slice A3 nn.kids.length c3] 149 (0, 0))
  have hb0 := below_alloc B0.out (.cells #[.int .i64 nn.kind, .slice A1 nn.keys.length c1, .slice A2 nn.vals.length c2, .slice A3 nn.kids.length c3] 149 (0, 0))
  exact hi_ ⟨HT.out.below hb0, Keep.below hb0, HN.out.below hb0, NY.out.below hb, blk_below X0.out hb, heap_alloc_self w0 _, G0.out, B0.out.size, HB.out⟩
 generalize w0.alloc (.cells #[.int .i64 nn.kind, .slice A1 nn.keys.length c1, .slice A2 nn.vals.length c2, .slice A3 nn.kids.length c3] 149 (0, 0)) = w1 at *
 obtain ⟨g1, hg1⟩ : ∃ g1, g1 = w0.heap.size := ⟨_, rfl⟩
 rw [← hg1] at M1 ⊢
 clear hg1 y0 y1 y2 y3 X0 B0 G0 NY HN HT
 have x0 := blk_cell M1.out.nb 0
 have x1 := blk_cell M1.out.nb 1
 have x2 := blk_cell M1.out.nb 2
 have x3 := blk_cell M1.out.nb 3
 go_wp2_with fail
 obtain ⟨C1, k1, C2, k2, C3, k3⟩ := M1.out.nv.outs
 obtain ⟨kn, hkn⟩ : ∃ kn : Int, kn = (nn.keys.length : Int) := ⟨_, rfl⟩
 refine (PNd.node_Node_Len.calls nn.kind A1 c1 nn.keys A2 c2 nn.vals A3 c3 nn.kids kn w1 C1 k1 C2 k2 C3 k3 (by rw [hkn]; rfl)).mono ?_
 have HKN := hi_ hkn
 clear C1 k1 C2 k2 C3 k3 x0 x1 x2 x3 hkn
 rintro e w2 ⟨rfl, hb⟩
 have M2 := hi_ (M1.out.below hb)
 clear hb M1
 have x0 := blk_cell M2.out.nb 0
 have x1 := blk_cell M2.out.nb 1
 have x2 := blk_cell M2.out.nb 2
 have x3 := blk_cell M2.out.nb 3
 by_cases hk0 : kn = 0
 ·-- no keys are left
  subst hk0
  go_wp2_with fail
  refine (tree_Empty w2).mono ?_
  rintro e w3 ⟨rfl, hb⟩
  have M3 := hi_ (M2.out.below hb)
  clear hb M2 x0 x1 x2 x3
  have q0 := blk_cell M3.out.rb 0
  have q1 := blk_cell M3.out.rb 1
  have q2 := blk_cell M3.out.rb 2
  have f0 := blk_frozen M3.out.rb 0
  have f1 := blk_frozen M3.out.rb 1
  have f2 := blk_frozen M3.out.rb 2
  go_wp2_with fail
  refine bodyPost_ret (results_ct rfl _ _ g0 31 #[.int .i64 (-1), .int .i64 0, .int .i64 0] (0, 0) _ rfl (blk_put (blk_put (blk_put M3.out.rb 0 _ rfl) 1 _ rfl) 2 _ rfl) rfl rfl rfl) rfl ?_
  have hfin := M3.out.fin (.int .i64 (-1)) (.int .i64 0) (.int .i64 0)
  refine ⟨D, P, hfin.1, AppOk.refl M3.out.ts.st.room M3.out.ts.st.holds, hfin.2, .inl ⟨_, _, rfl, .inl ⟨rfl, rfl, ?_⟩, HU.out, by omega, fun h0 => absurd (cn_none HC.out (by have := HKN.out; omega)) h0⟩⟩
  exact cn_none HC.out (by have := HKN.out; omega)
 ·have hk0' : (kn == 0) = false := by simpa using hk0
  have HFit : Hid (∀ m ∈ [nn], m.Fit) := hi_ (fun m hm => by
   obtain rfl := List.mem_singleton.1 hm
   exact ⟨HS.out.fine, HK.out.2.1, by have := HKN.out; omega, HZ.out⟩)
  clear hk0
  by_cases hkd : nn.kind = 2
  ·have hkd' : (nn.kind == 2) = true := by simpa using hkd
   have HKD := hi_ hkd
   clear hkd
   go_wp2_with fail
   obtain ⟨C1, k1, C2, k2, C3, k3⟩ := M2.out.nv.outs
   refine (PNd.node_Node_Len.calls nn.kind A1 c1 nn.keys A2 c2 nn.vals A3 c3 nn.kids kn w2 C1 k1 C2 k2 C3 k3 (by rw [HKN.out]; rfl)).mono ?_
   clear C1 k1 C2 k2 C3 k3 x0 x1 x2 x3
   rintro e w3 ⟨rfl, hb⟩
   replace M2 := hi_ (M2.out.below hb)
   clear hb
   obtain ⟨w2, hw2⟩ : ∃ w2, w2 = w3 := ⟨_, rfl⟩
   rw [← hw2] at M2 ⊢
   clear hw2
   have x0 := blk_cell M2.out.nb 0
   have x1 := blk_cell M2.out.nb 1
   have x2 := blk_cell M2.out.nb 2
   have x3 := blk_cell M2.out.nb 3
   by_cases hk1 : kn = 1
   ·-- one child alone
    subst hk1
    obtain ⟨l, ps, hlv, hps, hkv, hpo⟩ := cn_two HC.out HKD.out
    obtain ⟨p, rfl⟩ : ∃ p, ps = [p] := by
     have hl : ps.length = 1 := by have := HKN.out; rw [hps] at this; simp [branchOf] at this; omega
     exact List.length_eq_one_iff.1 hl
    obtain ⟨ad, c, rfl, hcl, hcK, hcc⟩ := Kd.C_get M2.out.nv.outs.2.2.2.2.1 0 0 om_ (by rw [hps]; simp [branchOf])
    have hK : c = [.int .i64 ((p.c : Nat) : Int)] := by
     simp only [Kd.int, Kd.scalar, hps, branchOf] at hcK
     exact hcK
    have z0 : w2.cell? ad = some (.int .i64 ((p.c : Nat) : Int)) := by
     have := hcc 0 (.int .i64 ((p.c : Nat) : Int)) (by rw [hK]; rfl)
     simpa [Kd.int, Kd.scalar, Addr.add] using this
    have hki : 0 < nn.kids.length := by rw [hps]; simp [branchOf]
    have hlw : IntKind.i64.wrap ((lv : Int) - 1) = ((l + 1 : Nat) : Int) := by rw [IntWalk.i64_in _ (by omega)]; omega
    have M3 := M2
    have HPS := hi_ hps
    have HLV := hi_ hlv
    have HKVS := hi_ hkv
    have HPO := hi_ hpo
    clear hcc hcK hcl hK M2 hps hlv hkv hpo
    have q0 := blk_cell M3.out.rb 0
    have q1 := blk_cell M3.out.rb 1
    have q2 := blk_cell M3.out.rb 2
    have f0 := blk_frozen M3.out.rb 0
    have f1 := blk_frozen M3.out.rb 1
    have f2 := blk_frozen M3.out.rb 2
    go_wp2_with fail
    refine bodyPost_ret (results_ct rfl _ _ g0 31 #[.int .i64 ((p.c : Nat) : Int), .int .i64 0, .int .i64 ((l : Int) + 1)] (0, 0) _ rfl (blk_put (blk_put (blk_put M3.out.rb 0 _ rfl) 1 _ rfl) 2 _ rfl) rfl rfl rfl) rfl ?_
    have hfin := M3.out.fin (.int .i64 ((p.c : Nat) : Int)) (.int .i64 0) (.int .i64 ((l : Int) + 1))
    obtain ⟨-, -, m, q1, q2, q3, q4⟩ := HPO.out p List.mem_cons_self
    refine ⟨D, P, hfin.1, AppOk.refl M3.out.ts.st.room M3.out.ts.st.holds, hfin.2, .inl ⟨_, _, rfl, .inr ⟨l + 1, p.c, m, by omega, rfl, q1, q2, ?_, fun _ => q3⟩, HU.out, by omega, fun _ h1 => by have := HLV.out; omega⟩⟩
    have e : kvs = p.kv := by rw [HKVS.out]; simp [kvsOf]
    rw [e]
    exact q4
   ·have hk1' : (kn == 1) = false := by simpa using hk1
    have HK1 := hi_ hk1
    clear hk1
    go_wp2_with fail
    refine (tree_write w2 B t b L h D P r _ [nn] (Nat.le_trans HB.out M2.out.kp.size) M2.out.ts HU.out M2.out.nvs HFit.out).mono ?_
    clear x0 x1 x2 x3
    rintro e w3 ⟨D3, P3, T3, A3', K3, hres⟩
    have M3 := hi_ (M2.out.step T3 K3)
    have A3' := hi_ A3'
    clear T3 K3 M2
    rcases hres with ⟨u1, u2, rfl, r1, r2, hP3, up3⟩ | ⟨er, rfl, hbad, hlt⟩
    ·have hR1 := hi_ r1
     rw [show pagesFrom P.length [nn].length = [((P.length : Nat) : Int)] from rfl] at r2
     have hR2 := hi_ r2
     obtain ⟨U1, d1, rfl⟩ := Kd.R_slice r1
     obtain ⟨U2, d2, rfl⟩ := Kd.R_slice r2
     have HP3 := hi_ hP3
     have up3 := hi_ up3
     clear r1 r2 hP3
     obtain ⟨-, e2', E2⟩ := Kd.R_reads' hR2.out
     obtain ⟨ad, c, rfl, hcl, hcK, hcc⟩ := Kd.C_get E2 0 0 om_ (by simp)
     have hK : c = [.int .i64 ((P.length : Nat) : Int)] := by
      simp only [Kd.int, Kd.scalar] at hcK
      exact hcK
     have z0 : w3.cell? ad = some (.int .i64 ((P.length : Nat) : Int)) := by
      have := hcc 0 (.int .i64 ((P.length : Nat) : Int)) (by rw [hK]; rfl)
      simpa [Kd.int, Kd.scalar, Addr.add] using this
     clear hcc hcK hcl hK e2' E2
     have q0 := blk_cell M3.out.rb 0
     have q1 := blk_cell M3.out.rb 1
     have q2 := blk_cell M3.out.rb 2
     have f0 := blk_frozen M3.out.rb 0
     have f1 := blk_frozen M3.out.rb 1
     have f2 := blk_frozen M3.out.rb 2
     go_wp2_with fail
     refine bodyPost_ret (results_ct rfl _ _ g0 31 #[.int .i64 ((P.length : Nat) : Int), .int .i64 0, .int .i64 lv] (0, 0) _ rfl (blk_put (blk_put (blk_put M3.out.rb 0 _ rfl) 1 _ rfl) 2 _ rfl) rfl rfl rfl) rfl ?_
     have hfin := M3.out.fin (.int .i64 ((P.length : Nat) : Int)) (.int .i64 0) (.int .i64 (lv : Int))
     refine ⟨D3, P3, hfin.1, A3'.out, hfin.2, .inl ⟨_, _, rfl, .inr ⟨lv, P.length, nn, rfl, rfl, by rw [HP3.out]; simp, HFit.out nn List.mem_cons_self, by rw [HP3.out]; exact HC.out.pre, fun _ => by have := HKN.out; have := HK1.out; have := (HFit.out nn List.mem_cons_self).some; omega⟩, up3.out, by rw [HP3.out]; simp, fun _ _ => by rw [HP3.out]; simp⟩⟩
    ·have hbad := hi_ hbad
     have hlt := hi_ hlt
     have her : (er == 0) = false := by have := hbad.out; unfold Bad at this; simp; omega
     have q0 := blk_cell M3.out.rb 0
     have q1 := blk_cell M3.out.rb 1
     have q2 := blk_cell M3.out.rb 2
     have f0 := blk_frozen M3.out.rb 0
     have f1 := blk_frozen M3.out.rb 1
     have f2 := blk_frozen M3.out.rb 2
     go_wp2_with fail
     refine bodyPost_ret (results_ct rfl _ _ g0 31 #[.int .i64 0, .int .i64 0, .int .i64 0] (0, 0) _ rfl (blk_put (blk_put (blk_put M3.out.rb 0 _ rfl) 1 _ rfl) 2 _ rfl) rfl rfl rfl) rfl ?_
     have hfin := M3.out.fin (.int .i64 0) (.int .i64 0) (.int .i64 0)
     exact ⟨D3, P3, hfin.1, A3'.out, hfin.2, .inr ⟨er, rfl, hbad.out, hlt.out⟩⟩
  ·have hkd' : (nn.kind == 2) = false := by simpa using hkd
   have HKD := hi_ hkd
   clear hkd
   go_wp2_with fail
   refine (tree_write w2 B t b L h D P r _ [nn] (Nat.le_trans HB.out M2.out.kp.size) M2.out.ts HU.out M2.out.nvs HFit.out).mono ?_
   clear x0 x1 x2 x3
   rintro e w3 ⟨D3, P3, T3, A3', K3, hres⟩
   have M3 := hi_ (M2.out.step T3 K3)
   have A3' := hi_ A3'
   clear T3 K3 M2
   rcases hres with ⟨u1, u2, rfl, r1, r2, hP3, up3⟩ | ⟨er, rfl, hbad, hlt⟩
   ·have hR1 := hi_ r1
    rw [show pagesFrom P.length [nn].length = [((P.length : Nat) : Int)] from rfl] at r2
    have hR2 := hi_ r2
    obtain ⟨U1, d1, rfl⟩ := Kd.R_slice r1
    obtain ⟨U2, d2, rfl⟩ := Kd.R_slice r2
    have HP3 := hi_ hP3
    have up3 := hi_ up3
    clear r1 r2 hP3
    obtain ⟨-, e2', E2⟩ := Kd.R_reads' hR2.out
    obtain ⟨ad, c, rfl, hcl, hcK, hcc⟩ := Kd.C_get E2 0 0 om_ (by simp)
    have hK : c = [.int .i64 ((P.length : Nat) : Int)] := by
     simp only [Kd.int, Kd.scalar] at hcK
     exact hcK
    have z0 : w3.cell? ad = some (.int .i64 ((P.length : Nat) : Int)) := by
     have := hcc 0 (.int .i64 ((P.length : Nat) : Int)) (by rw [hK]; rfl)
     simpa [Kd.int, Kd.scalar, Addr.add] using this
    clear hcc hcK hcl hK e2' E2
    have q0 := blk_cell M3.out.rb 0
    have q1 := blk_cell M3.out.rb 1
    have q2 := blk_cell M3.out.rb 2
    have f0 := blk_frozen M3.out.rb 0
    have f1 := blk_frozen M3.out.rb 1
    have f2 := blk_frozen M3.out.rb 2
    go_wp2_with fail
    refine bodyPost_ret (results_ct rfl _ _ g0 31 #[.int .i64 ((P.length : Nat) : Int), .int .i64 0, .int .i64 lv] (0, 0) _ rfl (blk_put (blk_put (blk_put M3.out.rb 0 _ rfl) 1 _ rfl) 2 _ rfl) rfl rfl rfl) rfl ?_
    have hfin := M3.out.fin (.int .i64 ((P.length : Nat) : Int)) (.int .i64 0) (.int .i64 (lv : Int))
    refine ⟨D3, P3, hfin.1, A3'.out, hfin.2, .inl ⟨_, _, rfl, .inr ⟨lv, P.length, nn, rfl, rfl, by rw [HP3.out]; simp, HFit.out nn List.mem_cons_self, by rw [HP3.out]; exact HC.out.pre, fun h2 => absurd (HK.out.2.1.resolve_right HKD.out) (by rw [HK.out.1]; omega)⟩, up3.out, by rw [HP3.out]; simp, fun _ _ => by rw [HP3.out]; simp⟩⟩
   ·have hbad := hi_ hbad
    have hlt := hi_ hlt
    have her : (er == 0) = false := by have := hbad.out; unfold Bad at this; simp; omega
    have q0 := blk_cell M3.out.rb 0
    have q1 := blk_cell M3.out.rb 1
    have q2 := blk_cell M3.out.rb 2
    have f0 := blk_frozen M3.out.rb 0
    have f1 := blk_frozen M3.out.rb 1
    have f2 := blk_frozen M3.out.rb 2
    go_wp2_with fail
    refine bodyPost_ret (results_ct rfl _ _ g0 31 #[.int .i64 0, .int .i64 0, .int .i64 0] (0, 0) _ rfl (blk_put (blk_put (blk_put M3.out.rb 0 _ rfl) 1 _ rfl) 2 _ rfl) rfl rfl rfl) rfl ?_
    have hfin := M3.out.fin (.int .i64 0) (.int .i64 0) (.int .i64 0)
    exact ⟨D3, P3, hfin.1, A3'.out, hfin.2, .inr ⟨er, rfl, hbad.out, hlt.out⟩⟩
end Go.Proofs.YtendgmblgdkiaaaGreat

namespace Go.Proofs.YtendgmblgdkiaaaGreat
open Go.RowKit
open Go.Proofs.YtendgmblgdkiaaaGreatW
open PrintWords PrintLast PrintMore
set_option linter.unusedVariables false
set_option linter.unusedSimpArgs false
attribute [-go_sem] Instr.buildSlice
attribute [local go_sem] nodes1

theorem fin3 {B : Nat} {w wx : World} {t b : Nat} {L : Loc} {h : Nat} {r : Rt} {g0 : Nat} {D : Dk} {P : List Pg} (T : TS B wx t b L h D P r) (k : Keep (fun k => L.foot k ∨ k = b) w wx) (hB : B ≤ w.heap.size) (hg : w.heap.size ≤ g0)
  (x y z : Value) : TS B (((wx.setCell ⟨g0, 0, none⟩ x).setCell ⟨g0, 1, none⟩ y).setCell ⟨g0, 2, none⟩ z) t b L h D P r ∧ Keep (fun k => L.foot k ∨ k = b) w (((wx.setCell ⟨g0, 0, none⟩ x).setCell ⟨g0, 1, none⟩ y).setCell ⟨g0, 2, none⟩ z) := by
 have hB : B ≤ g0 := Nat.le_trans hB hg
 exact ⟨T.hi ((((Keep.refl (fun k => B ≤ k) wx).setCell (p := ⟨g0, 0, none⟩) (.inl hB) x).setCell (p := ⟨g0, 1, none⟩) (.inl hB) y).setCell (p := ⟨g0, 2, none⟩) (.inl hB) z),
  ((k.setCell (p := ⟨g0, 0, none⟩) (.inr hg) x).setCell (p := ⟨g0, 1, none⟩) (.inr hg) y).setCell (p := ⟨g0, 2, none⟩) (.inr hg) z⟩
theorem branch_two {P : List Pg} {l : Nat} {qs : List Pt} (h : Ps P l qs) (h2 : qs.length = 2) (hP : P.length ≤ 90000) : (branchOf qs).Short ∧ (branchOf qs).pack.size ≤ 240 := by
 have h0 : qs ≠ [] := by intro e; rw [e] at h2; simp at h2
 have ho := branch_ok h om_ h0 om_
 have hl : (branchOf qs).keys.length = qs.length := List.length_map _
 have hs := branch_S qs qs.length (Nat.le_refl _)
 rw [List.take_length] at hs
 have hle : (qs.map e2).sum ≤ 22 * qs.length := sum_le fun p hp => (e2_le (h.key hp) (by have := h.page hp; omega)).2
 refine ⟨⟨ho.fine, ho.shape, ho.ent, by rw [hl]; omega, by rw [hl]; omega⟩, ?_⟩
 rw [Nd.pack_size, hl, vNum_one (by omega), hs]
 omega

set_option maxHeartbeats 2000000 in
set_option maxRecDepth 100000 in
theorem tree_lift (w : World) (B : Nat) (t b : Nat) (L : Loc) (h : Nat) (D : Dk) (P : List Pg) (r : Rt) (v : Value) (l : List Nd) (n : Nd) (kvs : List KV) (lv : Nat) (hB : B ≤ w.heap.size) (T : TS B w t b L h D P r) (up : D.down = false) (N : NodesV B w v l) (hp : PartsOf n l) (hn : n.Short) (hC : Cn P lv n kvs) (hG : Good kvs) (hlv : lv ≤ 900) :
  Calls Tryz.prog 152 #[.pointer (some ⟨t, 0, none⟩), v, .int .i64 (lv : Int)] w (LiPost B w t b L h D P r kvs (2 * l.length - 1) lv) := by
 rcases hp with ⟨hsz, rfl⟩ | hp
 ·exact lift_one w B t b L h D P r v n kvs lv hB T up N hn hC hG hsz om_
 ·have hl2 : l.length = 2 := by obtain ⟨c, -, -, -, -, rfl⟩ := hp; rfl
  rw [show 2 * l.length - 1 = 3 by rw [hl2]]
  have hroom := T.st.room
  have hmost := room_le T.st.d.ok
  obtain ⟨HFit, qs, hq1, hq2, hq3, hq4, hq5, hq6, hq7⟩ := new_pts hC hG om_ hn (.inr hp) (by intro e; rw [e] at hl2; simp at hl2)
  have CW := hi_ (fun W (hW : Below w.heap.size w W) => tree_write W B t b L h D P r v l (Nat.le_trans hB hW.size) (T.below hW) up (N.below hW) HFit)
  obtain ⟨g, hv⟩ : ∃ g, v = .slice (some ⟨g, 0, none⟩) 2 2 := by
   rcases N with ⟨a, x, g, rfl, -, -, -, -⟩ | ⟨a, b, x, y, g, rfl, rfl, -, -, -, -⟩
   ·simp at hl2
   ·exact ⟨g, rfl⟩
  subst hv
  have HL := hi_ hl2
  have HQ1 := hi_ hq1
  have HQ2 := hi_ hq2
  have HQ3 := hi_ hq3
  have HQ5 := hi_ hq5
  have HQ7 := hi_ hq7
  have HG := hi_ hG
  have HB := hi_ hB
  have HT := hi_ T
  have HLV := hi_ hlv
  have hlw : IntKind.i64.wrap ((lv : Int) + 1) = ((lv + 1 : Nat) : Int) := by rw [IntWalk.i64_in _ (by omega)]; omega
  have hk := (cn_kind hC).2.2
  have HK := hi_ hk
  clear hl2 hroom hmost hq1 hq2 hq3 hq4 hq5 hq6 hq7 HFit N hp hn hC hG hlv T up hB hk
  go_enter Tryz.func152, Tryz.ntmps152
  go_upto_region 2 with fail
  have X0 := hi_ (blk_new w (.cells #[.int .i64 0, .int .i64 0, .int .i64 0] 31 (0, 0)))
  have B0 := hi_ (below_alloc (Below.refl w.heap.size w) (.cells #[.int .i64 0, .int .i64 0, .int .i64 0] 31 (0, 0)))
  obtain ⟨g0, hg0⟩ : ∃ g0, g0 = w.heap.size := ⟨_, rfl⟩
  rw [← hg0] at X0 ⊢
  have G0 := hi_ (Nat.le_of_eq hg0.symm)
  clear hg0
  generalize w.alloc (.cells #[.int .i64 0, .int .i64 0, .int .i64 0] 31 (0, 0)) = w0 at *
  go_wp2_with fail
  refine (CW.out w0 B0.out).mono ?_
  clear CW
  rintro e w3 ⟨D3, P3, T3, A3, K3, hres⟩
  have hng : ∀ i, w.heap.size ≤ i → ¬ (L.foot i ∨ i = b) := fun i hi hf => by have := T3.lo i hf; have := HB.out; omega
  have X3 := hi_ (K3.heap X0.out (hng _ G0.out))
  have T3 := hi_ T3
  have A3 := hi_ A3
  have KP := hi_ ((Keep.below B0.out).trans K3)
  have HNG := hi_ hng
  clear K3 X0 hng
  rcases hres with ⟨u1, u2, rfl, r1, r2, hP3, up3⟩ | ⟨er, rfl, hbad, hlt⟩
  ·obtain ⟨ks, hks⟩ : ∃ ks, ks = l.map Nd.least := ⟨_, rfl⟩
   obtain ⟨cs, hcs⟩ : ∃ cs, cs = pagesFrom P.length l.length := ⟨_, rfl⟩
   rw [← hks] at r1
   rw [← hcs] at r2
   have HKS := hi_ hks
   have HCS := hi_ hcs
   clear hks hcs
   have hR1 := hi_ (Kd.R_lower r1 B0.out.size)
   have hR2 := hi_ (Kd.R_lower r2 B0.out.size)
   obtain ⟨U1, d1, rfl⟩ := Kd.R_slice r1
   obtain ⟨U2, d2, rfl⟩ := Kd.R_slice r2
   have HP3 := hi_ hP3
   have up3 := hi_ up3
   clear r1 r2 hP3
   go_wp2_with fail
   have hba := below_alloc (Below.refl w3.heap.size w3) (.cells #[.int .i64 2, .slice U1 ks.length d1, .slice none 0 0, .slice U2 cs.length d2] 149 (0, 0))
   have hk1 : (branchOf qs).keys = ks := by rw [HKS.out]; exact HQ1.out
   have hk2 : (branchOf qs).kids = cs := by rw [HCS.out]; exact HQ2.out
   have NN : NodesV B (w3.alloc (.cells #[.int .i64 2, .slice U1 ks.length d1, .slice none 0 0, .slice U2 cs.length d2] 149 (0, 0))) (.slice (some ⟨w3.heap.size, 0, none⟩) 1 1) [branchOf qs] :=
    .inl ⟨branchOf qs, .agg #[.int .i64 2, .slice U1 ks.length d1, .slice none 0 0, .slice U2 cs.length d2], w3.heap.size, rfl, rfl, Nat.le_trans HB.out KP.out.size, heap_alloc_self w3 _, _, _, _, rfl, by rw [hk1]; exact Kd.R_below (Kd.R_lower hR1.out HB.out) hba, Kd.R_nil _ _ _ _ _, by rw [hk2]; exact Kd.R_below (Kd.R_lower hR2.out HB.out) hba⟩
   obtain ⟨l', hl'⟩ : ∃ l', lv = l' + 1 := ⟨lv - 1, by have := HK.out; omega⟩
   have hPs : Ps P3 lv qs := ⟨by rw [HQ3.out]; exact HG.out, by rw [HP3.out]; exact HQ7.out⟩
   have hm3 := room_le T3.out.st.d.ok
   have hr3 := T3.out.st.room
   have h2 := branch_two hPs (by rw [HQ5.out]; exact HL.out) om_
   have hC3 : Cn P3 (lv + 1) (branchOf qs) kvs := by
    rw [hl']
    exact ⟨qs, rfl, HQ3.out.symm, by intro e; have := HQ5.out; rw [e, HL.out] at this; simp at this, fun p hp => by have := hPs.on p hp; rw [hl'] at this; exact this⟩
   have CL := lift_one _ B t b L h D3 P3 r _ (branchOf qs) kvs (lv + 1) (Nat.le_trans HB.out (Nat.le_trans KP.out.size hba.size)) (T3.out.below hba) up3.out NN h2.1 hC3 HG.out h2.2 (by have := HLV.out; omega)
   rw [show ((lv + 1 : Nat) : Int) = (lv : Int) + 1 by omega] at CL
   refine CL.mono ?_
   clear CL NN hk1 hk2 hl' hPs hm3 hr3 h2 hC3
   rintro e w5 ⟨D5, P5, T5, A5, K5, hres⟩
   have K4 := (Keep.below (F := fun k => L.foot k ∨ k = b) hba).trans K5
   have X5 := hi_ (K4.heap X3.out (HNG.out _ G0.out))
   have KQ := hi_ (KP.out.trans K4)
   have T5 := hi_ T5
   have HP5 := hi_ (show P3.length ≤ P5.length by obtain ⟨X, hX⟩ := A5.pre; rw [hX, List.length_append]; omega)
   have A5 := hi_ (A3.out.trans A5)
   clear K4 K5 hba
   rcases hres with ⟨pg, hg, rfl, hRC, up5, hle, -⟩ | ⟨er, rfl, hbad, hlt⟩
   ·have hRC := hi_ hRC
    have up5 := hi_ up5
    have hle := hi_ hle
    have q0 := blk_cell X5.out 0
    have q1 := blk_cell X5.out 1
    have q2 := blk_cell X5.out 2
    have f0 := blk_frozen X5.out 0
    have f1 := blk_frozen X5.out 1
    have f2 := blk_frozen X5.out 2
    go_wp2_with fail
    refine bodyPost_ret (results_ct rfl _ _ g0 31 #[.int .i64 pg, .int .i64 0, .int .i64 hg] (0, 0) _ rfl (blk_put (blk_put (blk_put X5.out 0 _ rfl) 1 _ rfl) 2 _ rfl) rfl rfl rfl) rfl ?_
    have hfin := fin3 (g0 := g0) T5.out KQ.out HB.out G0.out (.int .i64 pg) (.int .i64 0) (.int .i64 hg)
    exact ⟨D5, P5, hfin.1, A5.out, hfin.2, .inl ⟨_, _, rfl, hRC.out, up5.out, by have h1 := hle.out; rw [HP3.out, List.length_append, List.length_map, HL.out] at h1; omega, fun _ _ => by have h1 := HP5.out; rw [HP3.out, List.length_append, List.length_map, HL.out] at h1; omega⟩⟩
   ·have hbad := hi_ hbad
    have hlt := hi_ hlt
    have q0 := blk_cell X5.out 0
    have q1 := blk_cell X5.out 1
    have q2 := blk_cell X5.out 2
    have f0 := blk_frozen X5.out 0
    have f1 := blk_frozen X5.out 1
    have f2 := blk_frozen X5.out 2
    go_wp2_with fail
    refine bodyPost_ret (results_ct rfl _ _ g0 31 #[.int .i64 0, .int .i64 0, .int .i64 0] (0, 0) _ rfl (blk_put (blk_put (blk_put X5.out 0 _ rfl) 1 _ rfl) 2 _ rfl) rfl rfl rfl) rfl ?_
    have hfin := fin3 (g0 := g0) T5.out KQ.out HB.out G0.out (.int .i64 0) (.int .i64 0) (.int .i64 0)
    exact ⟨D5, P5, hfin.1, A5.out, hfin.2, .inr ⟨er, rfl, Bad.of hbad.out A3.out.wr.live, by have h1 := hlt.out; rw [HP3.out, List.length_append, List.length_map, HL.out] at h1; omega⟩⟩
  ·have hbad := hi_ hbad
   have hlt := hi_ hlt
   have her : (er == 0) = false := by have := hbad.out; unfold Bad at this; simp; omega
   have q0 := blk_cell X3.out 0
   have q1 := blk_cell X3.out 1
   have q2 := blk_cell X3.out 2
   have f0 := blk_frozen X3.out 0
   have f1 := blk_frozen X3.out 1
   have f2 := blk_frozen X3.out 2
   go_wp2_with fail
   refine bodyPost_ret (results_ct rfl _ _ g0 31 #[.int .i64 0, .int .i64 0, .int .i64 0] (0, 0) _ rfl (blk_put (blk_put (blk_put X3.out 0 _ rfl) 1 _ rfl) 2 _ rfl) rfl rfl rfl) rfl ?_
   have hfin := fin3 (g0 := g0) T3.out KP.out HB.out G0.out (.int .i64 0) (.int .i64 0) (.int .i64 0)
   exact ⟨D3, P3, hfin.1, A3.out, hfin.2, .inr ⟨er, rfl, hbad.out, by have := hlt.out; have := HL.out; omega⟩⟩
end Go.Proofs.YtendgmblgdkiaaaGreat

namespace Go.Proofs.YtendgmblgdkiaaaGreat
open Go.RowKit
open Go.Proofs.YtendgmblgdkiaaaGreatW
open PrintWords PrintLast PrintMore
set_option linter.unusedVariables false
set_option linter.unusedSimpArgs false
attribute [-go_sem] Instr.buildSlice
attribute [local go_sem] nodes1 max2_int

/-- A tree with a content. -/
structure TreeC (P : List Pg) (r : Rt) (kvs : List KV) : Prop where
 root : RootC P r.page r.height kvs
 count : r.count = kvs.length
 good : Good kvs
/-- What change comes to, the results told apart by the error. -/
def ChRes (B : Nat) (w : World) (t b : Nat) (L : Loc) (h : Nat) (D : Dk) (P : List Pg) (r : Rt) (key : BA) (ov : Option BA) (lv : Nat) (kvs : List KV) (mx : Nat) (v : Value) (er : Int) (w' : World) : Prop :=
 ∃ D' P', TS B w' t b L h D' P' r ∧ AppOk h D P D' P' ∧ Keep (fun k => L.foot k ∨ k = b) w w' ∧
  ((er = 0 ∧ ∃ l n', NodesV B w' v l ∧ PartsOf n' l ∧ n'.Short ∧ Cn P' lv n' (ed key ov kvs) ∧ D'.down = false ∧ P'.length + (2 * l.length - 1) ≤ P.length + mx ∧ (2 ≤ lv → P.length < P'.length)) ∨
   (er ≠ 0 ∧ Bad D D' P' er ∧ P'.length < P.length + mx))
theorem ChPost.res {B : Nat} {w : World} {t b : Nat} {L : Loc} {h : Nat} {D : Dk} {P : List Pg} {r : Rt} {key : BA} {ov : Option BA} {lv : Nat} {n : Nd} {kvs : List KV} {e : Ending} {w' : World} (H : ChPost B w t b L h D P r key ov lv n kvs e w') (hlv : 1 ≤ lv) :
  ∃ v er, e = .returned (.tuple #[v, .int .i64 er]) ∧ ChRes B w t b L h D P r key ov lv kvs (2 * lv + 1) v er w' := by
 obtain ⟨D', P', h1, h2, h3, h4⟩ := H
 rcases h4 with ⟨v, l, n', rfl, a, b, c, d, e, f, -, g⟩ | ⟨er, rfl, a, b⟩
 ·have hl : l.length ≤ 2 := by rcases b with ⟨-, rfl⟩ | ⟨c, -, -, -, -, rfl⟩ <;> simp
  exact ⟨v, 0, rfl, D', P', h1, h2, h3, .inl ⟨rfl, l, n', a, b, c, d, e, by omega, fun h => (g h).2⟩⟩
 ·exact ⟨_, er, rfl, D', P', h1, h2, h3, .inr ⟨by unfold Bad at a; omega, a, by omega⟩⟩

theorem ChRes.base {B : Nat} {w W : World} {t b : Nat} {L : Loc} {h : Nat} {D : Dk} {P : List Pg} {r : Rt} {key : BA} {ov : Option BA} {lv : Nat} {kvs : List KV} {mx : Nat} {v : Value} {er : Int} {w' : World} (H : ChRes B W t b L h D P r key ov lv kvs mx v er w') (hW : Below w.heap.size w W) : ChRes B w t b L h D P r key ov lv kvs mx v er w' := by
 obtain ⟨D', P', a, b', c, d⟩ := H
 exact ⟨D', P', a, b', (Keep.below hW).trans c, d⟩
theorem fin_tree {B : Nat} {w wx : World} {t b : Nat} {L : Loc} {h : Nat} {r : Rt} {D : Dk} {P : List Pg} (T : TS B wx t b L h D P r) (k : Keep (fun k => L.foot k ∨ k = b) w wx) (x y z : Int) :
  TS B (((wx.setCell ⟨t, 1, none⟩ (.int .i64 x)).setCell ⟨t, 2, none⟩ (.int .i64 y)).setCell ⟨t, 3, none⟩ (.int .i64 z)) t b L h D P ⟨x, y, z⟩ ∧ Keep (fun k => (L.foot k ∨ k = b) ∨ k = t) w (((wx.setCell ⟨t, 1, none⟩ (.int .i64 x)).setCell ⟨t, 2, none⟩ (.int .i64 y)).setCell ⟨t, 3, none⟩ (.int .i64 z)) := by
 have hk := (((Keep.refl (fun k => k = t) wx).setCell (p := ⟨t, 1, none⟩) (.inl rfl) (.int .i64 x)).setCell (p := ⟨t, 2, none⟩) (.inl rfl) (.int .i64 y)).setCell (p := ⟨t, 3, none⟩) (.inl rfl) (.int .i64 z)
 refine ⟨⟨⟨T.st.d.keep hk (fun i hi e => T.not (.inl (e ▸ hi))), T.st.p.keep hk (fun e => T.not (.inr e.symm)), T.st.hh, T.st.room, T.st.holds⟩, blk_put (blk_put (blk_put T.tr 1 _ rfl) 2 _ rfl) 3 _ rfl, T.lo, T.tl⟩, ?_⟩
 exact (k.mono (G := fun k => (L.foot k ∨ k = b) ∨ k = t) (fun i _ hi => .inl hi)).trans (hk.mono (fun i _ hi => .inr hi))
theorem cut_back {B : Nat} {wx : World} {t b : Nat} {L : Loc} {h : Nat} {r : Rt} {D : Dk} {P P' : List Pg} (T : TS B wx t b L h D P' r) (hp : ∃ X, P' = P ++ X) :
  Calls Tryz.prog 133 #[.pointer (some ⟨b, 0, none⟩), .int .i64 (P.length : Int)] wx fun e w' => (∃ v : Bool, e = .returned (.bool v)) ∧ TS B w' t b L h D P r ∧ Keep (fun k => L.foot k ∨ k = b) wx w' := by
 obtain ⟨X, rfl⟩ := hp
 refine (pages_Cut wx b L h _ (P.length : Int) T.st.p).mono ?_
 rintro e w' ⟨he, hpg, hk⟩
 have hr := T.st.room
 rw [List.length_append] at hr
 rw [if_pos ⟨by omega, by rw [List.length_append]; omega⟩, Int.toNat_natCast] at hpg
 exact ⟨⟨_, he⟩, ⟨⟨T.st.d.keep hk (fun i hi e => T.st.p.foot T.st.d (e ▸ hi)), hpg, T.st.hh, by omega, T.st.holds.pre⟩, T.tr.keep hk (fun e => T.not (.inr e)), T.lo, T.tl⟩, hk.mono (fun i _ hi => .inr hi)⟩
/-- What apply comes to. -/
def ApPost (B : Nat) (w : World) (t b : Nat) (L : Loc) (h : Nat) (D : Dk) (P : List Pg) (r : Rt) (more : Int) (kvs' : List KV) (e : Ending) (w' : World) : Prop :=
 ∃ D' P' r', TS B w' t b L h D' P' r' ∧ Keep (fun k => (L.foot k ∨ k = b) ∨ k = t) w w' ∧
  ((e = .returned (.int .i64 0) ∧ AppOk h D P D' P' ∧ RootC P' r'.page r'.height kvs' ∧ r'.count = r.count + more ∧ D'.down = false ∧ (P'.length : Int) ≤ P.length + 2 * r.height + 1 ∧ (kvs' ≠ [] → P.length < P'.length)) ∨
   (∃ er, e = .returned (.int .i64 er) ∧ r' = r ∧ P' = P ∧ Wr (fun s => ∃ j, P.length ≤ j ∧ s = D.sector h j) D D' ∧ ((er = 5 ∧ D'.down = false ∧ (D'.room : Int) < P.length + 2 * r.height + 1) ∨ (er = 6 ∧ D'.down = true ∧ ¬ D.Live))))

set_option maxHeartbeats 2000000 in
set_option maxRecDepth 100000 in
theorem tree_apply (B : Nat) (w : World) (t b : Nat) (L : Loc) (h : Nat) (D : Dk) (P : List Pg) (r : Rt) (key : BA) (ov : Option BA) (p1 p2 : Addr) (kvs : List KV) (more : Int) (hB : B ≤ w.heap.size) (T : TS B w t b L h D P r) (up : D.down = false) (hc : Caps (fun k => L.foot k ∨ k = b) ov key p1 p2 w)
  (C : TreeC P r kvs) (hk : keyOk key = true) (hv : ∀ v, ov = some v → valOk v = true) (hdel : ov = none → ∃ v, (key, v) ∈ kvs) (hh : r.height ≤ 900) (hm : -1 ≤ more ∧ more ≤ 1) (hct : kvs.length ≤ 100000000) :
  Calls Tryz.prog 99 #[.pointer (some ⟨t, 0, none⟩), .string key, cloV ov p1 p2, .int .i64 more] w (ApPost B w t b L h D P r more (ed key ov kvs)) := by
 have CN := hi_ (pages_Next w b L h P.length T.st.p)
 have HT := hi_ T
 have HU := hi_ up
 have HC := hi_ hc
 have HR := hi_ C
 have HB := hi_ hB
 have c0 := T.tr.c0
 have c1 := T.tr.c1
 have c2 := T.tr.c2
 have c3 := T.tr.c3
 go_enter Tryz.func99, Tryz.ntmps99
 go_wp2_with fail
 refine CN.out.mono ?_
 rintro e w1 ⟨rfl, rfl⟩
 clear CN
 have hdel' := hi_ hdel
 have hG := hi_ C.good
 rcases C.root with ⟨h0, hpg, hkv⟩ | ⟨hn, q, n, hhn, hq, hP, hF, hC, h2⟩
 ·-- the empty tree
  obtain ⟨x, rfl⟩ : ∃ x, ov = some x := by
   cases ov with
   | some x => exact ⟨x, rfl⟩
   | none => obtain ⟨v, hv⟩ := hdel rfl; rw [hkv] at hv; cases hv
  rw [h0] at c3
  subst hkv
  clear hdel C T up hc
  unfold cloV
  go_wp2_with fail
  refine (do_put (fun k => L.foot k ∨ k = b) w B _ [] key x p1 p2 hB ⟨_, _, _, rfl, Kd.R_nil _ _ _ _ _, Kd.R_nil _ _ _ _ _, Kd.R_nil _ _ _ _ _⟩ List.Pairwise.nil (by simp) HC.out).mono ?_
  rintro e w3 ⟨v', rfl, NV, hb⟩
  obtain ⟨v1, v2, v3, rfl, g1, g2, g3⟩ := NV
  go_upto_region 8 with fail
  have hpk : (leafOf (ed key (some x) [])).Short ∧ (leafOf (ed key (some x) [])).pack.size ≤ 240 := by
   have h1 := ed_short (kvs := []) (ov := some x) ⟨List.Pairwise.nil, by simp⟩ hk hv (by simp)
   refine ⟨h1.1, ?_⟩
   have e : ed key (some x) [] = [(key, x)] := by simp [ed]
   have h2 := (e1_le (p := (key, x)) ⟨hk, hv x rfl⟩).2
   have h3 := leaf_S [(key, x)] 1 (by simp)
   have h4 : (leafOf [(key, x)]).keys.length = 1 := rfl
   rw [e, Nd.pack_size, h4, vNum_one (by omega), h3]
   simp only [List.take_succ_cons, List.take_zero, List.map_cons, List.map_nil, List.sum_cons, List.sum_nil]
   omega
  have hbx := below_then (Below.refl w.heap.size w) (Nat.le_refl _) hb
  have hby := below_alloc hbx (.cells #[.int .i64 (leafOf (ed key (some x) [])).kind, v1, v2, v3] 149 (0, 0))
  have HRES := hi_ (show ChRes B w t b L h D P r key (some x) 1 [] 1 (.slice (some ⟨w3.heap.size, 0, none⟩) 1 1) 0 (w3.alloc (.cells #[.int .i64 (leafOf (ed key (some x) [])).kind, v1, v2, v3] 149 (0, 0))) from
   ⟨D, P, HT.out.below hby, AppOk.refl HT.out.st.room HT.out.st.holds, Keep.below hby, .inl ⟨rfl, _, _, .inl ⟨leafOf (ed key (some x) []), .agg #[.int .i64 (leafOf (ed key (some x) [])).kind, v1, v2, v3], w3.heap.size, rfl, rfl, Nat.le_trans hB hbx.size, heap_alloc_self w3 _, (show NodeV B w3 _ _ from ⟨v1, v2, v3, rfl, g1, g2, g3⟩).below (below_alloc (Below.refl w3.heap.size w3) _)⟩, .inl ⟨hpk.2, rfl⟩, hpk.1, rfl, HU.out, by simp, fun h => by omega⟩⟩)
  obtain ⟨wx, hwx⟩ : ∃ wx, wx = w3.alloc (.cells #[.int .i64 (leafOf (ed key (some x) [])).kind, v1, v2, v3] 149 (0, 0)) := ⟨_, rfl⟩
  rw [← hwx] at HRES ⊢
  obtain ⟨vv, hvv⟩ : ∃ vv : Value, vv = .slice (some ⟨w3.heap.size, 0, none⟩) 1 1 := ⟨_, rfl⟩
  rw [← hvv] at HRES ⊢
  obtain ⟨er, her'⟩ : ∃ er : Int, er = 0 := ⟨_, rfl⟩
  obtain ⟨HN, hHN⟩ : ∃ HN : Nat, HN = 1 := ⟨_, rfl⟩
  rw [show max (0 : Int) 1 = ((1 : Nat) : Int) from rfl]
  rw [← hHN] at HRES ⊢
  have HKO := hi_ hk
  have HVO := hi_ hv
  have HLO : Hid (HN ≤ 900) := hi_ om_
  have HMX : Hid ((HN : Int) = 2 * r.height + 1) := hi_ om_
  have HCT : Hid (wrap64 (r.count + more) = r.count + more) := hi_ (by have := HR.out.count; unfold wrap64; omega)
  have HHR : Hid (r.height = 0) := hi_ h0
  have HH1 := hi_ hHN
  have HLV1 : Hid (1 ≤ HN) := hi_ om_
  clear hwx hvv g1 g2 g3 hb hpk hbx hby hHN her' hk hv c0 c1 c2 c3 hdel' h0 hpg hB
  obtain ⟨D4, P4, T4, A4, K4, hres⟩ := HRES.out
  rcases hres with ⟨-, l, n', NL, hpo, hsh, hcn, up4, hle, hgr⟩ | ⟨hne, hbad, hlt⟩
  ·have T4 := hi_ T4
   have A4 := hi_ A4
   have K4 := hi_ K4
   have NL := hi_ NL
   have hpo := hi_ hpo
   have hsh := hi_ hsh
   have hcn := hi_ hcn
   have up4 := hi_ up4
   have hle := hi_ hle
   have hgr := hi_ hgr
   clear HRES
   go_upto_region 10 with fail
   have X0 := hi_ (blk_new wx (.cells #[.int .i64 0, .int .i64 0, .int .i64 0] 31 (0, 0)))
   have B0 := hi_ (below_alloc (Below.refl wx.heap.size wx) (.cells #[.int .i64 0, .int .i64 0, .int .i64 0] 31 (0, 0)))
   obtain ⟨g0, hg0⟩ : ∃ g0, g0 = wx.heap.size := ⟨_, rfl⟩
   rw [← hg0] at X0 ⊢
   have G0 := hi_ (show w.heap.size ≤ g0 from hg0 ▸ K4.out.size)
   clear hg0
   generalize wx.alloc (.cells #[.int .i64 0, .int .i64 0, .int .i64 0] 31 (0, 0)) = w5 at *
   go_wp2_with fail
   refine (tree_lift w5 B t b L h D4 P4 r _ l n' _ HN (Nat.le_trans HB.out (Nat.le_trans K4.out.size B0.out.size)) (T4.out.below B0.out) up4.out (NL.out.below B0.out) hpo.out hsh.out hcn.out (ed_good hG.out HKO.out HVO.out) HLO.out).mono ?_
   rintro e w6 ⟨D6, P6, T6, A6, K6, hres⟩
   have hng : ∀ i, w.heap.size ≤ i → ¬ (L.foot i ∨ i = b) := fun i hi hf => by have := T6.lo i hf; have := HB.out; omega
   have X6 := hi_ (K6.heap X0.out (hng _ G0.out))
   have T6 := hi_ T6
   have HP6 := hi_ (show P4.length ≤ P6.length by obtain ⟨X, hX⟩ := A6.pre; rw [hX, List.length_append]; omega)
   have HP4 := hi_ (show P.length ≤ P4.length by obtain ⟨X, hX⟩ := A4.out.pre; rw [hX, List.length_append]; omega)
   have A6 := hi_ (A4.out.trans A6)
   have K6 := hi_ ((K4.out.trans (Keep.below B0.out)).trans K6)
   have HNG := hi_ hng
   clear hng X0 NL hpo hsh hcn
   have q0 := blk_cell X6.out 0
   have q1 := blk_cell X6.out 1
   have q2 := blk_cell X6.out 2
   have f0 := blk_frozen X6.out 0
   have f1 := blk_frozen X6.out 1
   have f2 := blk_frozen X6.out 2
   have tb : g0 ≠ t := fun e => by have := G0.out; have := HB.out; have := T6.out.tl; omega
   have tb' : t ≠ g0 := fun e => tb e.symm
   have t0 := T6.out.tr.c0
   have t1 := T6.out.tr.c1
   have t2 := T6.out.tr.c2
   have t3 := T6.out.tr.c3
   have h1 := T6.out.tr.frz 1
   have h2 := T6.out.tr.frz 2
   have h3 := T6.out.tr.frz 3
   rcases hres with ⟨pg, hg, rfl, hRC, up6, hle6, hgr6⟩ | ⟨er, rfl, hbad6, hlt6⟩
   ·have hRC := hi_ hRC
    have up6 := hi_ up6
    have hle6 := hi_ hle6
    have hgr6 := hi_ hgr6
    go_upto_region 14 with fail
    have hfin := fin3 (g0 := g0) T6.out K6.out HB.out G0.out (.int .i64 pg) (.int .i64 0) (.int .i64 hg)
    have T7 := hi_ hfin.1
    have K7 := hi_ hfin.2
    have X7 := hi_ (show (((w6.setCell ⟨g0, 0, none⟩ (.int .i64 pg)).setCell ⟨g0, 1, none⟩ (.int .i64 0)).setCell ⟨g0, 2, none⟩ (.int .i64 hg)).heap[g0]? = some (.cells #[.int .i64 pg, .int .i64 0, .int .i64 hg] 31 (0, 0)) from blk_put (blk_put (blk_put X6.out 0 _ rfl) 1 _ rfl) 2 _ rfl)
    generalize ((w6.setCell ⟨g0, 0, none⟩ (.int .i64 pg)).setCell ⟨g0, 1, none⟩ (.int .i64 0)).setCell ⟨g0, 2, none⟩ (.int .i64 hg) = w7 at *
    clear hfin q0 q1 q2 f0 f1 f2 t0 t1 t2 t3 h1 h2 h3 X6 T6 K6
    have t2 := T7.out.tr.c2
    have q1 := blk_cell X7.out 1
    have f1 := blk_frozen X7.out 1
    go_upto_region 15 with fail
    obtain ⟨cn, hcn⟩ : ∃ cn, cn = wrap64 (r.count + more) := ⟨_, rfl⟩
    rw [← hcn]
    have HCN := hi_ hcn
    have X8 := hi_ (show (w7.setCell ⟨g0, 1, none⟩ (.int .i64 cn)).heap[g0]? = some (.cells #[.int .i64 pg, .int .i64 cn, .int .i64 hg] 31 (0, 0)) from blk_put X7.out 1 _ rfl)
    have hBg : B ≤ g0 := Nat.le_trans HB.out G0.out
    have T8 := hi_ (T7.out.hi ((Keep.refl (fun k => B ≤ k) w7).setCell (p := ⟨g0, 1, none⟩) (.inl hBg) (.int .i64 cn)))
    have K8 := hi_ (K7.out.setCell (p := ⟨g0, 1, none⟩) (.inr G0.out) (.int .i64 cn))
    generalize w7.setCell ⟨g0, 1, none⟩ (.int .i64 cn) = w8 at *
    clear hcn q1 f1 t2 X7 T7 K7 hBg
    have q0 := blk_cell X8.out 0
    have q1 := blk_cell X8.out 1
    have q2 := blk_cell X8.out 2
    have t1 := T8.out.tr.c1
    have t2 := T8.out.tr.c2
    have t3 := T8.out.tr.c3
    have h1 := T8.out.tr.frz 1
    have h2 := T8.out.tr.frz 2
    have h3 := T8.out.tr.frz 3
    go_wp2_with fail
    go_ret
    have hf := fin_tree T8.out K8.out pg cn hg
    refine ⟨D6, P6, ⟨pg, cn, hg⟩, hf.1, hf.2, .inl ⟨rfl, A6.out, hRC.out, ?_, up6.out, ?_, ?_⟩⟩
    ·show cn = _
     rw [HCN.out]; exact HCT.out
    ·have h1 := hle6.out; have h2 := hle.out; have h3 := HMX.out; omega
    ·intro hk; have h1 := hgr.out; have h2 := hgr6.out hk; have h3 := HP4.out; have h4 := HP6.out; have h5 := HLV1.out; omega
   ·have hbad6 := hi_ hbad6
    have hlt6 := hi_ hlt6
    have her : (er == 0) = false := by have := hbad6.out; unfold Bad at this; simp; omega
    have hbad6 := hbad6
    have hfin := fin3 (g0 := g0) T6.out K6.out HB.out G0.out (.int .i64 0) (.int .i64 0) (.int .i64 0)
    have T7 := hi_ hfin.1
    have K7 := hi_ hfin.2
    clear hfin
    go_wp2_with fail
    generalize ((w6.setCell ⟨g0, 0, none⟩ (.int .i64 0)).setCell ⟨g0, 1, none⟩ (.int .i64 0)).setCell ⟨g0, 2, none⟩ (.int .i64 0) = w7 at *
    refine (cut_back T7.out A6.out.pre).mono ?_
    rintro e w8 ⟨⟨vb, rfl⟩, T8, K8⟩
    have T8 := hi_ T8
    have K8 := hi_ (K7.out.trans K8)
    go_wp2_with fail
    go_ret
    refine ⟨D6, P, r, T8.out, K8.out.mono (fun i _ hi => Or.inl hi), .inr ⟨er, rfl, rfl, rfl, A6.out.wr, ?_⟩⟩
    rcases Bad.of hbad6.out A4.out.wr.live with ⟨a, b', c⟩ | c
    ·exact .inl ⟨a, b', by have h1 := hlt6.out; have h2 := hle.out; have h3 := HMX.out; omega⟩
    ·exact .inr c
  ·exact absurd rfl hne
 ·rw [hhn] at c3
  rw [hq] at c1
  have hn1 := (cn_kind hC).2.2
  have hpos : (0 : Int) < (hn : Int) := by omega
  have CC := hi_ (fun W (hW : Below w.heap.size w W) => (tree_change B t b L h r key ov p1 p2 hn W D P q n kvs ⟨Nat.le_trans hB hW.size, T.below hW, up, hc.keep (Keep.below hW), hP, hF, hC, C.good, hk, hv, hdel, by omega, h2⟩).mono (fun e w' H => (H.res hn1).imp fun v => Exists.imp fun er => And.imp_right (fun H => H.base hW)))
  go_upto_region 6 with fail
  have HB0 := hi_ (Below.refl w.heap.size w)
  have hlow := hi_ (show hn ≤ 900 by omega)
  have HN1 := hi_ hn1
  have HHN := hi_ hhn
  have HQQ := hi_ hq
  clear hdel C T up hc hP hF hC h2 hn1 hhn hq
  go_region_held3 (fun w' => w'.cell? ⟨t, 1, none⟩ = some (.int .i64 (q : Int)) ∧ w'.cell? ⟨t, 3, none⟩ = some (.int .i64 (hn : Int)))
   (first | exact ⟨c1, c3⟩ | (with_reducible assumption))
   (first
    | (go_at_call 151; (with_reducible refine (CC.out _ ?_).mono ?_); (repeat (first | (with_reducible assumption) | exact HB0.out | refine bel_drewN ?_ _ | refine bel_drew ?_)); rintro e w2 ⟨v, er, rfl, hres⟩; have f2 : w2.cell? ⟨t, 1, none⟩ = some (.int .i64 (q : Int)) ∧ w2.cell? ⟨t, 3, none⟩ = some (.int .i64 (hn : Int)) := (by obtain ⟨D4, P4, T4, -⟩ := hres; rw [← HHN.out, ← HQQ.out]; exact ⟨T4.tr.c1, T4.tr.c3⟩)))
  have HRES := hi_ hres
  have hmx : max (hn : Int) 1 = (hn : Int) := by have := HN1.out; omega
  rw [hmx]
  obtain ⟨wx, hwx⟩ : ∃ wx, wx = w2 := ⟨_, rfl⟩
  rw [← hwx] at HRES ⊢
  obtain ⟨HN, hHN⟩ : ∃ HN, HN = hn := ⟨_, rfl⟩
  rw [← hHN] at HRES hlow HHN ⊢
  have HKO := hi_ hk
  have HVO := hi_ hv
  have HLO := hlow
  have HLV1 : Hid (1 ≤ HN) := hi_ (by rw [hHN]; exact HN1.out)
  have HMX : Hid (((2 * HN + 1 : Nat) : Int) = 2 * r.height + 1) := hi_ (by have := HHN.out; omega)
  have HCT : Hid (wrap64 (r.count + more) = r.count + more) := hi_ (by have := HR.out.count; unfold wrap64; omega)
  clear hres f2 hwx hmx hk hv c0 c1 c2 c3 hdel' hB hpos CC hHN
  obtain ⟨D4, P4, T4, A4, K4, hres⟩ := HRES.out
  rcases hres with ⟨rfl, l, n', NL, hpo, hsh, hcn, up4, hle, hgr⟩ | ⟨hne, hbad, hlt⟩
  ·have T4 := hi_ T4
   have A4 := hi_ A4
   have K4 := hi_ K4
   have NL := hi_ NL
   have hpo := hi_ hpo
   have hsh := hi_ hsh
   have hcn := hi_ hcn
   have up4 := hi_ up4
   have hle := hi_ hle
   have hgr := hi_ hgr
   clear HRES
   go_upto_region 10 with fail
   have X0 := hi_ (blk_new wx (.cells #[.int .i64 0, .int .i64 0, .int .i64 0] 31 (0, 0)))
   have B0 := hi_ (below_alloc (Below.refl wx.heap.size wx) (.cells #[.int .i64 0, .int .i64 0, .int .i64 0] 31 (0, 0)))
   obtain ⟨g0, hg0⟩ : ∃ g0, g0 = wx.heap.size := ⟨_, rfl⟩
   rw [← hg0] at X0 ⊢
   have G0 := hi_ (show w.heap.size ≤ g0 from hg0 ▸ K4.out.size)
   clear hg0
   generalize wx.alloc (.cells #[.int .i64 0, .int .i64 0, .int .i64 0] 31 (0, 0)) = w5 at *
   go_wp2_with fail
   refine (tree_lift w5 B t b L h D4 P4 r _ l n' _ HN (Nat.le_trans HB.out (Nat.le_trans K4.out.size B0.out.size)) (T4.out.below B0.out) up4.out (NL.out.below B0.out) hpo.out hsh.out hcn.out (ed_good hG.out HKO.out HVO.out) HLO.out).mono ?_
   rintro e w6 ⟨D6, P6, T6, A6, K6, hres⟩
   have hng : ∀ i, w.heap.size ≤ i → ¬ (L.foot i ∨ i = b) := fun i hi hf => by have := T6.lo i hf; have := HB.out; omega
   have X6 := hi_ (K6.heap X0.out (hng _ G0.out))
   have T6 := hi_ T6
   have HP6 := hi_ (show P4.length ≤ P6.length by obtain ⟨X, hX⟩ := A6.pre; rw [hX, List.length_append]; omega)
   have HP4 := hi_ (show P.length ≤ P4.length by obtain ⟨X, hX⟩ := A4.out.pre; rw [hX, List.length_append]; omega)
   have A6 := hi_ (A4.out.trans A6)
   have K6 := hi_ ((K4.out.trans (Keep.below B0.out)).trans K6)
   have HNG := hi_ hng
   clear hng X0 NL hpo hsh hcn
   have q0 := blk_cell X6.out 0
   have q1 := blk_cell X6.out 1
   have q2 := blk_cell X6.out 2
   have f0 := blk_frozen X6.out 0
   have f1 := blk_frozen X6.out 1
   have f2 := blk_frozen X6.out 2
   have tb : g0 ≠ t := fun e => by have := G0.out; have := HB.out; have := T6.out.tl; omega
   have tb' : t ≠ g0 := fun e => tb e.symm
   have t0 := T6.out.tr.c0
   have t1 := T6.out.tr.c1
   have t2 := T6.out.tr.c2
   have t3 := T6.out.tr.c3
   have h1 := T6.out.tr.frz 1
   have h2 := T6.out.tr.frz 2
   have h3 := T6.out.tr.frz 3
   rcases hres with ⟨pg, hg, rfl, hRC, up6, hle6, hgr6⟩ | ⟨er, rfl, hbad6, hlt6⟩
   ·have hRC := hi_ hRC
    have up6 := hi_ up6
    have hle6 := hi_ hle6
    have hgr6 := hi_ hgr6
    go_upto_region 14 with fail
    have hfin := fin3 (g0 := g0) T6.out K6.out HB.out G0.out (.int .i64 pg) (.int .i64 0) (.int .i64 hg)
    have T7 := hi_ hfin.1
    have K7 := hi_ hfin.2
    have X7 := hi_ (show (((w6.setCell ⟨g0, 0, none⟩ (.int .i64 pg)).setCell ⟨g0, 1, none⟩ (.int .i64 0)).setCell ⟨g0, 2, none⟩ (.int .i64 hg)).heap[g0]? = some (.cells #[.int .i64 pg, .int .i64 0, .int .i64 hg] 31 (0, 0)) from blk_put (blk_put (blk_put X6.out 0 _ rfl) 1 _ rfl) 2 _ rfl)
    generalize ((w6.setCell ⟨g0, 0, none⟩ (.int .i64 pg)).setCell ⟨g0, 1, none⟩ (.int .i64 0)).setCell ⟨g0, 2, none⟩ (.int .i64 hg) = w7 at *
    clear hfin q0 q1 q2 f0 f1 f2 t0 t1 t2 t3 h1 h2 h3 X6 T6 K6
    have t2 := T7.out.tr.c2
    have q1 := blk_cell X7.out 1
    have f1 := blk_frozen X7.out 1
    go_upto_region 15 with fail
    obtain ⟨cn, hcn⟩ : ∃ cn, cn = wrap64 (r.count + more) := ⟨_, rfl⟩
    rw [← hcn]
    have HCN := hi_ hcn
    have X8 := hi_ (show (w7.setCell ⟨g0, 1, none⟩ (.int .i64 cn)).heap[g0]? = some (.cells #[.int .i64 pg, .int .i64 cn, .int .i64 hg] 31 (0, 0)) from blk_put X7.out 1 _ rfl)
    have hBg : B ≤ g0 := Nat.le_trans HB.out G0.out
    have T8 := hi_ (T7.out.hi ((Keep.refl (fun k => B ≤ k) w7).setCell (p := ⟨g0, 1, none⟩) (.inl hBg) (.int .i64 cn)))
    have K8 := hi_ (K7.out.setCell (p := ⟨g0, 1, none⟩) (.inr G0.out) (.int .i64 cn))
    generalize w7.setCell ⟨g0, 1, none⟩ (.int .i64 cn) = w8 at *
    clear hcn q1 f1 t2 X7 T7 K7 hBg
    have q0 := blk_cell X8.out 0
    have q1 := blk_cell X8.out 1
    have q2 := blk_cell X8.out 2
    have t1 := T8.out.tr.c1
    have t2 := T8.out.tr.c2
    have t3 := T8.out.tr.c3
    have h1 := T8.out.tr.frz 1
    have h2 := T8.out.tr.frz 2
    have h3 := T8.out.tr.frz 3
    go_wp2_with fail
    go_ret
    have hf := fin_tree T8.out K8.out pg cn hg
    refine ⟨D6, P6, ⟨pg, cn, hg⟩, hf.1, hf.2, .inl ⟨rfl, A6.out, hRC.out, ?_, up6.out, ?_, ?_⟩⟩
    ·show cn = _
     rw [HCN.out]; exact HCT.out
    ·have h1 := hle6.out; have h2 := hle.out; have h3 := HMX.out; omega
    ·intro hk; have h1 := hgr.out; have h2 := hgr6.out hk; have h3 := HP4.out; have h4 := HP6.out; have h5 := HLV1.out; omega
   ·have hbad6 := hi_ hbad6
    have hlt6 := hi_ hlt6
    have her : (er == 0) = false := by have := hbad6.out; unfold Bad at this; simp; omega
    have hbad6 := hbad6
    have hfin := fin3 (g0 := g0) T6.out K6.out HB.out G0.out (.int .i64 0) (.int .i64 0) (.int .i64 0)
    have T7 := hi_ hfin.1
    have K7 := hi_ hfin.2
    clear hfin
    go_wp2_with fail
    generalize ((w6.setCell ⟨g0, 0, none⟩ (.int .i64 0)).setCell ⟨g0, 1, none⟩ (.int .i64 0)).setCell ⟨g0, 2, none⟩ (.int .i64 0) = w7 at *
    refine (cut_back T7.out A6.out.pre).mono ?_
    rintro e w8 ⟨⟨vb, rfl⟩, T8, K8⟩
    have T8 := hi_ T8
    have K8 := hi_ (K7.out.trans K8)
    go_wp2_with fail
    go_ret
    refine ⟨D6, P, r, T8.out, K8.out.mono (fun i _ hi => Or.inl hi), .inr ⟨er, rfl, rfl, rfl, A6.out.wr, ?_⟩⟩
    rcases Bad.of hbad6.out A4.out.wr.live with ⟨a, b', c⟩ | c
    ·exact .inl ⟨a, b', by have h1 := hlt6.out; have h2 := hle.out; have h3 := HMX.out; omega⟩
    ·exact .inr c
  ·have T4 := hi_ T4
   have A4 := hi_ A4
   have K4 := hi_ K4
   have hbad := hi_ hbad
   have hlt := hi_ hlt
   have her : (er == 0) = false := by simpa using hne
   clear hne HRES
   go_upto_region 9 with fail
   have B0 := hi_ (below_alloc (Below.refl wx.heap.size wx) (.cells #[.int .i64 0, .int .i64 0, .int .i64 0] 31 (0, 0)))
   generalize wx.alloc (.cells #[.int .i64 0, .int .i64 0, .int .i64 0] 31 (0, 0)) = w5 at *
   replace T4 := hi_ (T4.out.below B0.out)
   replace K4 := hi_ (K4.out.trans (Keep.below B0.out))
   clear B0
   have t0 := T4.out.tr.c0
   go_wp2_with fail
   refine (cut_back T4.out A4.out.pre).mono ?_
   rintro e w8 ⟨⟨vb, rfl⟩, T8, K8⟩
   have T8 := hi_ T8
   have K8 := hi_ (K4.out.trans K8)
   go_wp2_with fail
   go_ret
   refine ⟨D4, P, r, T8.out, K8.out.mono (fun i _ hi => Or.inl hi), .inr ⟨er, rfl, rfl, rfl, A4.out.wr, ?_⟩⟩
   rcases hbad.out with ⟨a, b', c⟩ | c
   ·exact .inl ⟨a, b', by have h1 := hlt.out; have h3 := HMX.out; omega⟩
   ·exact .inr c
end Go.Proofs.YtendgmblgdkiaaaGreat

namespace Go.Proofs.YtendgmblgdkiaaaGreat
open Go.RowKit
open Go.Proofs.YtendgmblgdkiaaaGreatW
open PrintWords PrintLast PrintMore
set_option linter.unusedVariables false
set_option linter.unusedSimpArgs false

/-- The cells that the way down reads. -/
def Gac (g : Nat) (x0 x1 x2 x3 : Value) (p : Addr) (c : Value) (W : World) : Prop :=
 W.cell? ⟨g, 0, none⟩ = some x0 ∧ W.cell? ⟨g, 1, none⟩ = some x1 ∧ W.cell? ⟨g, 2, none⟩ = some x2 ∧ W.cell? ⟨g, 3, none⟩ = some x3 ∧ W.cell? p = some c
theorem Gac.below {g : Nat} {x0 x1 x2 x3 c : Value} {p : Addr} {W W' : World} (h : Gac g x0 x1 x2 x3 p c W) (hb : Below W.heap.size W W') : Gac g x0 x1 x2 x3 p c W' := by
 have hc : ∀ {p : Addr} {v : Value}, W.cell? p = some v → W'.cell? p = some v := fun {p v} hp => by
  rw [World.cell?_of_block (w := W) (hb.block p.block (World.block_lt_of_cell? W p hp))]; exact hp
 exact ⟨hc h.1, hc h.2.1, hc h.2.2.1, hc h.2.2.2.1, hc h.2.2.2.2⟩
/-- A key's value is asked for on a page. -/
structure GetAt (P : List Pg) (key : BA) (kvs : List KV) (q lv : Nat) (n : Nd) (kv : List KV) : Prop where
 pg : P[q]? = some n.page
 fit : n.Fit
 cn : Cn P lv n kv
 good : Good kv
 low : lv ≤ 1000
 same : ∀ v, (key, v) ∈ kvs ↔ (key, v) ∈ kv
set_option maxHeartbeats 2000000 in
set_option maxRecDepth 100000 in
theorem tree_Get (w : World) (t b : Nat) (L : Loc) (h : Nat) (D : Dk) (P : List Pg) (r : Rt) (S : St w L b h D P) (T : TreeAt w t b r) (up : D.down = false) (key : BA) (kvs : List KV) (C : TreeC P r kvs) (hh : r.height ≤ 900) :
  Calls Tryz.prog 37 #[.pointer (some ⟨t, 0, none⟩), .string key] w fun e w' => ∃ (s : BA) (is : Bool), e = .returned (.tuple #[.string s, .bool is, .int .i64 0]) ∧ Below w.heap.size w w' ∧ (is = true → (key, s) ∈ kvs) ∧ (is = false → s = ByteArray.empty ∧ ∀ v, (key, v) ∉ kvs) := by
 have HS := hi_ S
 have HT := hi_ T
 have HC := hi_ C
 have HU := hi_ up
 have c1 := T.c1
 have c3 := T.c3
 rcases C.root with ⟨h0, hpg, hkv⟩ | ⟨hn, q, n, hhn, hq, hP, hF, hC, h2⟩
 ·rw [h0] at c3
  rw [hpg] at c1
  clear S T C up
  go_enter Tryz.func37, Tryz.ntmps37
  go_wp2_with fail
  go_loopw [8] (fun y wr => y = .int .i64 0 ∧ wr = w) (fun _ _ => 0)
  case atStart => exact ⟨rfl, rfl⟩
  case round =>
   obtain ⟨rfl, rfl⟩ := hrel
   go_wp2_with fail
   go_ret3
   exact ⟨ByteArray.empty, false, rfl, Below.refl _ _, (fun e => by cases e), fun _ => ⟨rfl, fun v hv => by rw [hkv] at hv; cases hv⟩⟩
 ·rw [hhn] at c3
  rw [hq] at c1
  have G0 := hi_ (show GetAt P key kvs q hn n kvs from ⟨hP, hF, hC, C.good, by omega, fun v => Iff.rfl⟩)
  clear S T C up hP hF hC h2 hhn hq
  go_enter Tryz.func37, Tryz.ntmps37
  go_wp2_with fail
  go_loopw [7, 8] (fun x y wr => ∃ (q lv : Nat), x = .int .i64 (q : Int) ∧ y = .int .i64 (lv : Int) ∧ Hid ((lv = 0 ∧ ∀ v, (key, v) ∉ kvs) ∨ ∃ n kv, GetAt P key kvs q lv n kv) ∧ Hid (Below w.heap.size w wr)) (fun _ y _ => (intOf y).toNat)
  case atStart => exact ⟨q, hn, rfl, rfl, hi_ (.inr ⟨n, kvs, G0.out⟩), hi_ (Below.refl _ _)⟩
  case round =>
   obtain ⟨q', lv, rfl, rfl, GS, B1⟩ := hrel
   rcases GS.out with ⟨rfl, hno⟩ | ⟨m, kv, G1⟩
   ·clear c1 c3 G0
    have HNO := hi_ hno
    clear hno GS
    go_wp2_with fail
    go_ret3
    exact ⟨ByteArray.empty, false, rfl, B1.out, (fun e => by cases e), fun _ => ⟨rfl, HNO.out⟩⟩
   replace G1 := hi_ G1
   clear GS
   clear c1 c3 G0
   have hlv : (0 : Int) < (lv : Int) := by have := (cn_kind G1.out.cn).2.2; omega
   have hP := HS.out.room
   have hM := room_le HS.out.d.ok
   have hlp : m.keys.length ≤ m.pack.size := le_packOf m.kind m.keys m.vals m.kids
   have hok := cn_ok G1.out.cn G1.out.good om_ (by have := G1.out.fit.size; omega)
   have HOK := hi_ hok
   have CR := hi_ (tree_read wr t b L h D P r (HS.out.below B1.out) (HT.out.below B1.out) HU.out q' lv m.kind m.keys m.vals m.kids G1.out.pg hok.ok G1.out.fit.some (by rw [(cn_kind G1.out.cn).1]; simp; omega))
   clear hok hlp hM hP
   go_wp2_with fail
   refine CR.out.mono ?_
   clear CR
   rintro e w2 ⟨v1, v2, v3, rfl, g1, g2, g3, hb⟩
   have NV := hi_ (show NodeV wr.heap.size w2 (.agg #[.int .i64 m.kind, v1, v2, v3]) m from ⟨v1, v2, v3, rfl, g1, g2, g3⟩)
   obtain ⟨A1, a1, rfl⟩ := Kd.R_slice g1
   obtain ⟨A2, a2, rfl⟩ := Kd.R_slice g2
   obtain ⟨A3, a3, rfl⟩ := Kd.R_slice g3
   have B2 := hi_ (B1.out.trans (hb.mono B1.out.size))
   clear g1 g2 g3 hb
   by_cases h1 : (1 : Int) < (lv : Int)
   ·obtain ⟨l', rfl⟩ : ∃ l', lv = l' + 2 := ⟨lv - 2, by omega⟩
    obtain ⟨ps, hm, hkv, hps0, hon⟩ := cn_branch.1 G1.out.cn
    subst hm
    subst hkv
    have hPs : Ps P (l' + 1) ps := ⟨G1.out.good, hon⟩
    obtain ⟨pA, pt, pC, hsp, hAl, -, hkey⟩ := child_split hPs hps0 key none
    have hfw := (fit_few HOK.out G1.out.fit.size).2
    have hcf := child_f (branchOf ps).kind (branchOf ps).keys (branchOf ps).vals (branchOf ps).kids key (rising_of (Ps.rise hPs.good hPs.on)) om_ 2000 om_
    have hci : childAt key (branchOf ps).keys = pA.length := hAl.symm
    rw [hci] at hcf
    have HCF := hi_ hcf
    have hpt : pt ∈ ps := by rw [hsp]; simp
    obtain ⟨o1, o2, m', m1, m2, m3, m4⟩ := hon pt hpt
    have G2 : Hid (GetAt P key kvs pt.c (l' + 1) m' pt.kv) := hi_ ⟨m1, m2, m4, by
     have hg := G1.out.good
     have hkvs : kvsOf ps = kvsOf pA ++ (pt.kv ++ kvsOf pC) := by rw [hsp, kvsOf_app, kvsOf_cons]
     rw [hkvs] at hg
     exact (good_app (good_app hg).2.1).1, by have := G1.out.low; omega, fun v => ⟨fun hv => hkey v ((G1.out.same v).1 hv), fun hv => (G1.out.same v).2 (kvsOf_mem hpt hv)⟩⟩
    have hkd : (branchOf ps).kids.getD pA.length 0 = (pt.c : Int) := by
     rw [hsp]
     simp [branchOf, List.getD_eq_getElem?_getD]
    have hidx : (pA.length : Int) < ((branchOf ps).kids.length : Int) := by rw [hsp]; simp [branchOf]; omega
    clear hcf hci hpt o1 o2 m1 m2 m3 m4 hon hPs hps0 hAl hkey hfw hsp
    go_upto_region 9 with fail
    have X3 := hi_ (blk_new w2 (.cells #[.int .i64 (branchOf ps).kind, .slice A1 (branchOf ps).keys.length a1, .slice A2 (branchOf ps).vals.length a2, .slice A3 (branchOf ps).kids.length a3] 149 (0, 0)))
    have N3 := hi_ (NV.out.below (below_alloc (Below.refl w2.heap.size w2) (.cells #[.int .i64 (branchOf ps).kind, .slice A1 (branchOf ps).keys.length a1, .slice A2 (branchOf ps).vals.length a2, .slice A3 (branchOf ps).kids.length a3] 149 (0, 0))))
    have B3 := hi_ (below_alloc B2.out (.cells #[.int .i64 (branchOf ps).kind, .slice A1 (branchOf ps).keys.length a1, .slice A2 (branchOf ps).vals.length a2, .slice A3 (branchOf ps).kids.length a3] 149 (0, 0)))
    obtain ⟨g, hg⟩ : ∃ g, g = w2.heap.size := ⟨_, rfl⟩
    rw [← hg] at X3 ⊢
    clear hg NV B2
    generalize w2.alloc (.cells #[.int .i64 (branchOf ps).kind, .slice A1 (branchOf ps).keys.length a1, .slice A2 (branchOf ps).vals.length a2, .slice A3 (branchOf ps).kids.length a3] 149 (0, 0)) = w3 at *
    obtain ⟨ad, c, rfl, hcl, hcK, hcc⟩ := Kd.C_get N3.out.outs.2.2.2.2.1 0 (pA.length : Int) om_ hidx
    have hK : c = [.int .i64 (pt.c : Int)] := by
     simp only [Kd.int, Kd.scalar, Int.toNat_natCast, hkd] at hcK
     exact hcK
    have z0 : w3.cell? (ad.add pA.length) = some (.int .i64 (pt.c : Int)) := by
     have := hcc 0 (.int .i64 (pt.c : Int)) (by rw [hK]; rfl)
     simpa [Kd.int, Kd.scalar] using this
    clear hcc hcK hcl hK hkd
    have F3 := hi_ (show Gac g (.int .i64 (branchOf ps).kind) (.slice A1 (branchOf ps).keys.length a1) (.slice A2 (branchOf ps).vals.length a2) (.slice (some ad) (branchOf ps).kids.length a3) (ad.add pA.length) (.int .i64 (pt.c : Int)) w3 from ⟨blk_cell X3.out 0, blk_cell X3.out 1, blk_cell X3.out 2, blk_cell X3.out 3, z0⟩)
    have CF := hi_ (fun W (hW : Below w3.heap.size w3 W) => (PNd.tree_child.calls 2000 (branchOf ps).kind A1 a1 (branchOf ps).keys A2 a2 (branchOf ps).vals (some ad) a3 (branchOf ps).kids key _ W (N3.out.below hW).outs.1 (N3.out.below hW).outs.2.1 (N3.out.below hW).outs.2.2.1 (N3.out.below hW).outs.2.2.2.1 (N3.out.below hW).outs.2.2.2.2.1 (N3.out.below hW).outs.2.2.2.2.2 HCF.out).mono (fun e w' H => (⟨H.1, hW.trans (H.2.mono hW.size), F3.out.below (hW.trans (H.2.mono hW.size))⟩ : e = .returned (.int .i64 (pA.length : Int)) ∧ Below w3.heap.size w3 w' ∧ Gac g (.int .i64 (branchOf ps).kind) (.slice A1 (branchOf ps).keys.length a1) (.slice A2 (branchOf ps).vals.length a2) (.slice (some ad) (branchOf ps).kids.length a3) (ad.add pA.length) (.int .i64 (pt.c : Int)) w')))
    have HB0 := hi_ (Below.refl w3.heap.size w3)
    clear z0
    go_region_held3 (fun w' => w'.cell? ⟨g, 0, none⟩ = some (.int .i64 (branchOf ps).kind) ∧ w'.cell? ⟨g, 1, none⟩ = some (.slice A1 (branchOf ps).keys.length a1) ∧ w'.cell? ⟨g, 2, none⟩ = some (.slice A2 (branchOf ps).vals.length a2) ∧ w'.cell? ⟨g, 3, none⟩ = some (.slice (some ad) (branchOf ps).kids.length a3) ∧ w'.cell? (ad.add pA.length) = some (.int .i64 (pt.c : Int)))
     (first | exact F3.out | (with_reducible assumption) | (show Gac _ _ _ _ _ _ _ _; (with_reducible assumption)))
     (first
      | (go_at_call 110; (with_reducible refine (CF.out _ ?_).mono ?_); (repeat (first | (with_reducible assumption) | exact HB0.out | refine bel_drewN ?_ _ | refine bel_drew ?_)); rintro e w4 ⟨rfl, b4, f4⟩))
    have B4 := hi_ (B3.out.trans (b4.mono B3.out.size))
    have hlo := G1.out.low
    have hw1 : wrap64 ((l' : Int) + 2 - 1) = ((l' + 1 : Nat) : Int) := by unfold wrap64; omega
    have HW1 := hi_ hw1
    clear b4 f4 hw1
    go_wp2_with fail
    exact ⟨⟨pt.c, l' + 1, rfl, by congr 1; omega, hi_ (.inr ⟨m', pt.kv, G2.out⟩), B4⟩, by simp only [intOf]; omega⟩
   ·have hl1 : lv = 1 := by omega
    subst hl1
    have hm : m = leafOf kv := G1.out.cn
    subst hm
    go_upto_region 10 with fail
    have X3 := hi_ (blk_new w2 (.cells #[.int .i64 (leafOf kv).kind, .slice A1 (leafOf kv).keys.length a1, .slice A2 (leafOf kv).vals.length a2, .slice A3 (leafOf kv).kids.length a3] 149 (0, 0)))
    have N3 := hi_ (NV.out.below (below_alloc (Below.refl w2.heap.size w2) (.cells #[.int .i64 (leafOf kv).kind, .slice A1 (leafOf kv).keys.length a1, .slice A2 (leafOf kv).vals.length a2, .slice A3 (leafOf kv).kids.length a3] 149 (0, 0))))
    have B3 := hi_ (below_alloc B2.out (.cells #[.int .i64 (leafOf kv).kind, .slice A1 (leafOf kv).keys.length a1, .slice A2 (leafOf kv).vals.length a2, .slice A3 (leafOf kv).kids.length a3] 149 (0, 0)))
    obtain ⟨g, hg⟩ : ∃ g, g = w2.heap.size := ⟨_, rfl⟩
    rw [← hg] at X3 ⊢
    clear hg NV B2
    generalize w2.alloc (.cells #[.int .i64 (leafOf kv).kind, .slice A1 (leafOf kv).keys.length a1, .slice A2 (leafOf kv).vals.length a2, .slice A3 (leafOf kv).kids.length a3] 149 (0, 0)) = w3 at *
    have x0 := blk_cell X3.out 0
    have x1 := blk_cell X3.out 1
    have x2 := blk_cell X3.out 2
    have x3 := blk_cell X3.out 3
    go_wp2_with fail
    have hrs : rising (leafOf kv).keys = true := rising_of (List.pairwise_map.2 G1.out.good.1)
    have hfw := (fit_few HOK.out G1.out.fit.size).2
    have hf := find_f (leafOf kv).kind (leafOf kv).keys (leafOf kv).vals (leafOf kv).kids key hrs om_ 2000 om_
    obtain ⟨C1, k1, C2, k2, C3, k3⟩ := N3.out.outs
    refine (PNd.node_Node_Find.calls 2000 (leafOf kv).kind A1 a1 (leafOf kv).keys A2 a2 (leafOf kv).vals A3 a3 (leafOf kv).kids key _ _ w3 C1 k1 C2 k2 C3 k3 hf).mono ?_
    clear C1 k1 C2 k2 C3 k3 x0 x1 x2 x3 hf hrs
    rintro e w4 ⟨rfl, hb⟩
    have X4 := hi_ (blk_below X3.out hb)
    have N4 := hi_ (N3.out.below hb)
    have B4 := hi_ (B3.out.trans (hb.mono B3.out.size))
    clear hb X3 N3 B3
    have HFW := hi_ hfw
    clear hfw
    cases hat : isAt key (leafOf kv).keys
    ·have hno : Hid (∀ v, (key, v) ∉ kvs) := hi_ (fun v hv => by
      have := isAt_mem G1.out.good.1 ((G1.out.same v).1 hv)
      have h2 : isAt key (kv.map (·.1)) = false := hat
      rw [h2] at this; cases this)
     clear hat
     go_wp2_with fail
     go_roundw
     case rel => exact ⟨q', 0, rfl, rfl, hi_ (.inl ⟨rfl, hno.out⟩), B4⟩
     case measure => simp [intOf]
    ·have hlt := (isAt_lt hat).1
     have heq := (isAt_lt hat).2
     obtain ⟨i, hi⟩ : ∃ i, i = lb key (leafOf kv).keys := ⟨_, rfl⟩
     rw [← hi] at hlt heq ⊢
     have hlt' : i < kv.length := by rw [show (leafOf kv).keys.length = kv.length from List.length_map _] at hlt; exact hlt
     have hkey : kv[i].1 = key := by
      have h2 : ((kv.map (·.1)).getD i ByteArray.empty) = key := heq
      simpa [List.getD_eq_getElem?_getD, List.getElem?_eq_getElem hlt'] using h2
     have hmem : Hid ((key, kv[i].2) ∈ kvs) := hi_ ((G1.out.same _).2 (by rw [← hkey]; exact List.getElem_mem hlt'))
     have hvl : (leafOf kv).vals.length = kv.length := List.length_map _
     have hgd : (leafOf kv).vals.getD i ByteArray.empty = kv[i].2 := by
      show (kv.map (·.2)).getD i ByteArray.empty = _
      simp [List.getD_eq_getElem?_getD, List.getElem?_eq_getElem hlt']
     obtain ⟨vv, hvv⟩ : ∃ vv, vv = kv[i].2 := ⟨_, rfl⟩
     rw [← hvv] at hmem hgd
     have hidx : (i : Int) < ((leafOf kv).vals.length : Int) := by omega
     obtain ⟨ad, c, rfl, hcl, hcK, hcc⟩ := Kd.C_get N4.out.outs.2.2.1 ByteArray.empty (i : Int) om_ hidx
     have hK : c = [.string vv] := by
      simp only [Kd.string, Kd.scalar, Int.toNat_natCast, hgd] at hcK
      exact hcK
     have z0 : w4.cell? (ad.add i) = some (.string vv) := by
      have := hcc 0 (.string vv) (by rw [hK]; rfl)
      simpa [Kd.string, Kd.scalar] using this
     clear hcc hcK hcl hK hvv hgd hkey hlt hlt' heq hi hat hvl
     have x2 := blk_cell X4.out 2
     go_wp2_with fail
     go_ret3
     exact ⟨vv, true, rfl, B4.out, fun _ => hmem.out, fun e => by cases e⟩
end Go.Proofs.YtendgmblgdkiaaaGreat

namespace Go.Proofs.YtendgmblgdkiaaaGreat
open Go.RowKit
open Go.Proofs.YtendgmblgdkiaaaGreatW
open PrintWords PrintLast PrintMore
set_option linter.unusedVariables false
set_option linter.unusedSimpArgs false

theorem R_blkS {w : World} {g : Nat} (xs : List BA) (hx : w.heap[g]? = some (.cells (encs Value.string xs).toArray 9 (0, 0))) (hn : xs.length ≤ 1000000) : Kd.R Kd.string 9 w 0 (fun _ => True) (.slice (some ⟨g, 0, none⟩) xs.length xs.length) xs := by
 refine Kd.R_of_own ⟨by rw [encs_length]; omega, .inr ⟨g, xs.length, _, rfl, Nat.zero_le _, hx, Nat.le_refl _, by unfold maxLen; omega, by simp [encs], ?_⟩⟩ (fun _ _ => trivial)
 rw [List.take_of_length_le (by simp [encs])]
theorem C_blkS {w : World} {g : Nat} (xs : List BA) (hx : w.heap[g]? = some (.cells (encs Value.string xs).toArray 9 (0, 0))) (hn : xs.length ≤ 1000000) : Kd.C Kd.string w (some ⟨g, 0, none⟩) xs.length xs := (Kd.R_reads' (R_blkS xs hx hn)).2.2
/-- The list behind an edit is longer by one, if the key is new. -/
theorem ed_put_len {key x : BA} {l : List KV} (h : Srt l) : ((ed key (some x) l).length : Int) = l.length + (if isAt key (l.map (·.1)) then 0 else 1) := by
 obtain ⟨f1, f2⟩ := filters key l h
 have hle := lb_le key (l.map (·.1))
 rw [List.length_map] at hle
 unfold ed
 rw [f1, f2]
 cases hat : isAt key (l.map (·.1)) with
 | true =>
  have hlt := (isAt_lt hat).1
  rw [List.length_map] at hlt
  simp only [if_true, List.length_append, List.length_take, List.length_drop, Option.toList_some, List.map_cons, List.map_nil, List.length_cons, List.length_nil]
  omega
 | false =>
  simp only [List.length_append, List.length_take, List.length_drop, Option.toList_some, List.map_cons, List.map_nil, List.length_cons, List.length_nil]
  simp
  omega
theorem isAt_not {key : BA} {l : List KV} (h : ∀ v, (key, v) ∉ l) : isAt key (l.map (·.1)) = false := by
 cases hat : isAt key (l.map (·.1)) with
 | false => rfl
 | true =>
  obtain ⟨h1, h2⟩ := isAt_lt hat
  rw [List.length_map] at h1
  have : (l[lb key (l.map (·.1))]).1 = key := by simpa [List.getD_eq_getElem?_getD, List.getElem?_eq_getElem h1] using h2
  have hm := List.getElem_mem h1
  obtain ⟨i, hi⟩ : ∃ i, i = lb key (l.map (·.1)) := ⟨_, rfl⟩
  have hm : ((l[lb key (l.map (·.1))]).1, (l[lb key (l.map (·.1))]).2) ∈ l := hm
  obtain ⟨q, hq⟩ : ∃ q, q = (l[lb key (l.map (·.1))]).1 := ⟨_, rfl⟩
  rw [← hq] at this hm
  subst this
  exact absurd hm (h _)

theorem ApPost.base {B : Nat} {w W : World} {t b : Nat} {L : Loc} {h : Nat} {D : Dk} {P : List Pg} {r : Rt} {more : Int} {kvs : List KV} {e : Ending} {w' : World} (H : ApPost B W t b L h D P r more kvs e w') (hW : Below w.heap.size w W) : ApPost B w t b L h D P r more kvs e w' := by
 obtain ⟨D', P', r', a, c, d⟩ := H
 exact ⟨D', P', r', a, (Keep.below hW).trans c, d⟩

set_option maxHeartbeats 2000000 in
set_option maxRecDepth 100000 in
theorem tree_Put0 (B : Nat) (w : World) (t b : Nat) (L : Loc) (h : Nat) (D : Dk) (P : List Pg) (r : Rt) (key x : BA) (kvs : List KV) (hB : B ≤ w.heap.size) (T : TS B w t b L h D P r) (up : D.down = false) (C : TreeC P r kvs) (hk : keyOk key = true) (hv : valOk x = true) (hh : r.height ≤ 900) (hct : kvs.length ≤ 100000000) :
  Calls Tryz.prog 26 #[.pointer (some ⟨t, 0, none⟩), .string key, .string x] w (ApPost B w t b L h D P r (if isAt key (kvs.map (·.1)) then 0 else 1) (ed key (some x) kvs)) := by
 obtain ⟨q, hq⟩ : ∃ q, q = isAt key (kvs.map (·.1)) := ⟨_, rfl⟩
 rw [← hq]
 have HQ := hi_ hq
 clear hq
 obtain ⟨mo, hmo⟩ : ∃ mo : Int, mo = (if q then 0 else 1) := ⟨_, rfl⟩
 rw [← hmo]
 have HMO := hi_ hmo
 clear hmo
 have HT := hi_ T
 have HC := hi_ C
 have HU := hi_ up
 have HB := hi_ hB
 have HK := hi_ hk
 have HV := hi_ hv
 have HH := hi_ hh
 have HCT := hi_ hct
 have hok : nodeOk 1 [key] [x] [] = true := by simp [nodeOk, rising, hk, hv]
 have HOK := hi_ hok
 clear T C up hB hk hv hok hh hct
 go_enter Tryz.func26, Tryz.ntmps26
 go_wp2_with fail
 have X0 := hi_ (blk_alloc (blk_alloc (blk_alloc (blk_new w (.cells #[.string key] 9 (0, 0))) (.cells #[.string x] 9 (0, 0))) (.cells #[.string key] 9 (0, 0))) (.cells #[.string x] 9 (0, 0)))
 have X1 := hi_ (blk_alloc (blk_alloc (blk_new (w.alloc (.cells #[.string key] 9 (0, 0))) (.cells #[.string x] 9 (0, 0))) (.cells #[.string key] 9 (0, 0))) (.cells #[.string x] 9 (0, 0)))
 have X2 := hi_ (blk_alloc (blk_new ((w.alloc (.cells #[.string key] 9 (0, 0))).alloc (.cells #[.string x] 9 (0, 0))) (.cells #[.string key] 9 (0, 0))) (.cells #[.string x] 9 (0, 0)))
 have X3 := hi_ (blk_new (((w.alloc (.cells #[.string key] 9 (0, 0))).alloc (.cells #[.string x] 9 (0, 0))).alloc (.cells #[.string key] 9 (0, 0))) (.cells #[.string x] 9 (0, 0)))
 have B0 := hi_ (below_alloc (below_alloc (below_alloc (below_alloc (Below.refl w.heap.size w) (.cells #[.string key] 9 (0, 0))) (.cells #[.string x] 9 (0, 0))) (.cells #[.string key] 9 (0, 0))) (.cells #[.string x] 9 (0, 0)))
 simp only [World.size_alloc] at X0 X1 X2 X3
 generalize (((w.alloc (.cells #[.string key] 9 (0, 0))).alloc (.cells #[.string x] 9 (0, 0))).alloc (.cells #[.string key] 9 (0, 0))).alloc (.cells #[.string x] 9 (0, 0)) = w1 at *
 obtain ⟨z, hz⟩ : ∃ z, z = w.heap.size := ⟨_, rfl⟩
 rw [← hz] at X0 X1 X2 X3 ⊢
 have HZ := hi_ hz
 clear hz
 refine (node_Check 1 (some ⟨z + 1 + 1, 0, none⟩) 1 [key] (some ⟨z + 1 + 1 + 1, 0, none⟩) 1 [x] none 0 [] 0 w1 (C_blkS [key] X2.out (by simp)) (Nat.le_refl _) (C_blkS [x] X3.out (by simp)) (Nat.le_refl _) (Kd.C_nil _ _) (Nat.le_refl _) (by rw [HOK.out]; rfl)).mono ?_
 rintro e w2 ⟨rfl, hb⟩
 have B2 := hi_ (below_then B0.out B0.out.size hb)
 have Y0 := hi_ (blk_below X0.out hb)
 have Y1 := hi_ (blk_below X1.out hb)
 clear hb X0 X1 X2 X3 B0
 have c0 := blk_cell Y0.out 0
 go_wp2_with fail
 have T2 := hi_ (HT.out.below B2.out)
 refine (tree_Get w2 t b L h D P r T2.out.st T2.out.tr HU.out key kvs HC.out HH.out).mono ?_
 rintro e w3 ⟨s, is, rfl, hb, hyes, hno⟩
 have B3 := hi_ (below_then B2.out B2.out.size hb)
 have Z0 := hi_ (blk_below Y0.out hb)
 have Z1 := hi_ (blk_below Y1.out hb)
 have T3 := hi_ (T2.out.below hb)
 clear hb Y0 Y1 B2 T2 c0
 have hat : isAt key (kvs.map (·.1)) = is := by
  cases is with
  | true => exact isAt_mem HC.out.good.1 (hyes rfl)
  | false => exact isAt_not (hno rfl).2
 obtain rfl : q = is := HQ.out.trans hat
 clear hyes hno hat
 have c0 := blk_cell Z0.out 0
 have CAP : Hid (Caps (fun k => L.foot k ∨ k = b) (some x) key ⟨z, 0, none⟩ ⟨z + 1, 0, none⟩ w3) := hi_ (by
  have hz : ∀ j, ¬ (L.foot (z + j) ∨ z + j = b) := fun j hf => by have := T3.out.lo _ hf; have := HB.out; have := HZ.out; omega
  exact ⟨blk_cell Z0.out 0, fun v e => by cases e; exact ⟨blk_cell Z1.out 0, hz 1⟩, hz 0⟩)
 have CA := hi_ (fun (more : Int) (hm : -1 ≤ more ∧ more ≤ 1) => tree_apply B w3 t b L h D P r key (some x) ⟨z, 0, none⟩ ⟨z + 1, 0, none⟩ kvs more (Nat.le_trans HB.out B3.out.size) T3.out HU.out CAP.out HC.out HK.out (fun v e => by cases e; exact HV.out) (fun e => by cases e) HH.out hm HCT.out)
 cases q with
 | true =>
  go_wp2_with fail
  refine (CA.out 0 om_).mono ?_
  rintro e w4 H
  have H := H.base B3.out
  obtain ⟨er, rfl⟩ : ∃ er : Int, e = .returned (.int .i64 er) := by
   obtain ⟨D', P', r', -, -, h⟩ := H
   rcases h with ⟨h, -⟩ | ⟨er, h, -⟩
   ·exact ⟨0, h⟩
   ·exact ⟨er, h⟩
  have H := hi_ H
  go_wp2_with fail
  go_ret
  rw [HMO.out]
  exact H.out
 | false =>
  go_wp2_with fail
  refine (CA.out 1 om_).mono ?_
  rintro e w4 H
  have H := H.base B3.out
  obtain ⟨er, rfl⟩ : ∃ er : Int, e = .returned (.int .i64 er) := by
   obtain ⟨D', P', r', -, -, h⟩ := H
   rcases h with ⟨h, -⟩ | ⟨er, h, -⟩
   ·exact ⟨0, h⟩
   ·exact ⟨er, h⟩
  have H := hi_ H
  go_wp2_with fail
  go_ret
  rw [HMO.out]
  exact H.out
end Go.Proofs.YtendgmblgdkiaaaGreat

namespace Go.Proofs.YtendgmblgdkiaaaGreat
open Go.RowKit
open Go.Proofs.YtendgmblgdkiaaaGreatW
open PrintWords PrintLast PrintMore
set_option linter.unusedVariables false
set_option linter.unusedSimpArgs false

set_option maxRecDepth 100000 in
theorem tree_Open (w : World) (b : Nat) (r : Rt) : Calls Tryz.prog 22 #[.pointer (some ⟨b, 0, none⟩), rootV r] w fun e w' => ∃ t, e = .returned (.pointer (some ⟨t, 0, none⟩)) ∧ TreeAt w' t b r ∧ w.heap.size ≤ t ∧ Below w.heap.size w w' := by
 unfold rootV
 go_enter Tryz.func22, Tryz.ntmps22
 go_wp2_with fail
 go_ret
 exact ⟨w.heap.size + 1, rfl, by have := heap_alloc_self (w.alloc (.cells #[.int .i64 r.page, .int .i64 r.count, .int .i64 r.height] 31 (0, 0))) (.cells #[.pointer (some ⟨b, 0, none⟩), .int .i64 r.page, .int .i64 r.count, .int .i64 r.height] 148 (0, 0)); simpa [TreeAt] using this, by omega, below_alloc (below_alloc (Below.refl _ _) _) _⟩
end Go.Proofs.YtendgmblgdkiaaaGreat

namespace Go.Proofs.YtendgmblgdkiaaaGreat
open Go.RowKit
open Go.Proofs.YtendgmblgdkiaaaGreatW
open PrintWords PrintLast PrintMore
set_option linter.unusedVariables false
set_option linter.unusedSimpArgs false

theorem RootC.pre {P X : List Pg} {page height : Int} {kvs : List KV} (h : RootC P page height kvs) : RootC (P ++ X) page height kvs := by
 rcases h with h | ⟨hn, q, n, h1, h2, h3, h4, h5, h6⟩
 ·exact .inl h
 ·exact .inr ⟨hn, q, n, h1, h2, by rw [List.getElem?_append_left (List.getElem?_eq_some_iff.1 h3).1]; exact h3, h4, h5.pre, h6⟩
theorem TreeC.pre {P X : List Pg} {r : Rt} {kvs : List KV} (h : TreeC P r kvs) : TreeC (P ++ X) r kvs := ⟨h.root.pre, h.count, h.good⟩
theorem kvsOf_len {m : Nat} : ∀ {ps : List Pt}, (∀ p ∈ ps, m ≤ p.kv.length) → ps.length * m ≤ (kvsOf ps).length
 | [], _ => by simp
 | p :: r, h => by
  rw [kvsOf_cons, List.length_append, List.length_cons, Nat.add_mul]
  have := kvsOf_len (m := m) (ps := r) (fun q hq => h q (List.mem_cons_of_mem _ hq))
  have := h p List.mem_cons_self
  omega
theorem cn_many {P : List Pg} : ∀ {l : Nat} {n : Nd} {kvs : List KV}, Cn P l n kvs → 2 ≤ n.keys.length → 2 ^ l ≤ kvs.length
 | 0, _, _, h, _ => h.elim
 | 1, n, kvs, h, h2 => by
  have h : n = leafOf kvs := h
  subst h
  simpa [leafOf] using h2
 | l + 2, n, kvs, ⟨ps, h1, h2, h3, h4⟩, hk => by
  subst h1
  subst h2
  have hl : 2 ≤ ps.length := by simpa [branchOf] using hk
  have hm := kvsOf_len (m := 2 ^ (l + 1)) (ps := ps) (fun p hp => by
   obtain ⟨a, b, m, c, d, e, f⟩ := h4 p hp
   exact cn_many f e)
  have : 2 ^ (l + 2) = 2 * 2 ^ (l + 1) := by rw [Nat.pow_succ 2 (l + 1)]; omega
  have : 2 * 2 ^ (l + 1) ≤ ps.length * 2 ^ (l + 1) := Nat.mul_le_mul_right _ hl
  omega
/-- A tree's height and how many keys it has. -/
theorem TreeC.tall {P : List Pg} {r : Rt} {kvs : List KV} (h : TreeC P r kvs) : (r.height = 0 ∧ r.page = -1 ∧ kvs = []) ∨ ∃ hn : Nat, r.height = (hn : Int) + 1 ∧ 2 ^ hn ≤ kvs.length := by
 rcases h.root with h0 | ⟨hn, q, n, h1, h2, h3, h4, h5, h6⟩
 ·exact .inl h0
 ·right
  have hk := (cn_kind h5).2.2
  refine ⟨hn - 1, by omega, ?_⟩
  rcases Nat.lt_or_ge hn 2 with h7 | h7
  ·have : hn = 1 := by omega
   subst this
   have h5 : n = leafOf kvs := h5
   subst h5
   have := h4.some
   have h8 : 0 < kvs.length := by simpa [leafOf] using this
   show 1 ≤ kvs.length
   omega
  ·have := cn_many h5 (h6 h7)
   have : 2 ^ (hn - 1) ≤ 2 ^ hn := Nat.pow_le_pow_right om_ om_
   omega
theorem TreeC.low {P : List Pg} {r : Rt} {kvs : List KV} (h : TreeC P r kvs) {m : Nat} (hm : kvs.length < 2 ^ m) : 0 ≤ r.height ∧ r.height ≤ m := by
 rcases h.tall with ⟨h0, -, -⟩ | ⟨hn, h1, h2⟩
 ·omega
 ·have : hn < m := (Nat.pow_lt_pow_iff_right (a := 2) om_).1 om_
  omega

/-- What Put and Delete leave where there is room, on a disk that lives. -/
structure Done (w w' : World) (t b : Nat) (L : Loc) (h : Nat) (D : Dk) (P : List Pg) (r : Rt) (D' : Dk) (P' : List Pg) (r' : Rt) (kvs' : List KV) : Prop where
 st : St w' L b h D' P'
 tr : TreeAt w' t b r'
 tc : TreeC P' r' kvs'
 live : D'.Live
 app : AppOk h D P D' P'
 most : (P'.length : Int) ≤ P.length + 2 * r.height + 1
 keep : Keep (fun k => (L.foot k ∨ k = b) ∨ k = t) w w'
theorem lo_of {w : World} {t b : Nat} {L : Loc} {h : Nat} {D : Dk} {P : List Pg} {r : Rt} (S : St w L b h D P) (T : TreeAt w t b r) : TS w.heap.size w t b L h D P r :=
 ⟨S, T, by
  rintro k ((rfl | rfl | rfl) | rfl)
  ·exact S.d.lt_a
  ·exact S.d.lt_n
  ·exact S.d.lt_m
  ·exact lt_of_heap S.p, T.lt⟩
theorem TreeC.small {P : List Pg} {r : Rt} {kvs : List KV} (h : TreeC P r kvs) (hn : kvs.length ≤ 100000000) : r.height ≤ 900 := by
 have := (h.low (m := 27) om_).2
 omega
theorem tree_Put (w : World) (t b : Nat) (L : Loc) (h : Nat) (D : Dk) (P : List Pg) (r : Rt) (key x : BA) (kvs : List KV) (S : St w L b h D P) (T : TreeAt w t b r) (lv : D.Live) (C : TreeC P r kvs) (hk : keyOk key = true) (hv : valOk x = true) (hct : kvs.length ≤ 100000000) (hr : (P.length : Int) + 2 * r.height + 1 ≤ D.room) :
  Calls Tryz.prog 26 #[.pointer (some ⟨t, 0, none⟩), .string key, .string x] w fun e w' => e = .returned (.int .i64 0) ∧ ∃ D' P' r', Done w w' t b L h D P r D' P' r' (ed key (some x) kvs) ∧ P.length < P'.length := by
 refine (tree_Put0 w.heap.size w t b L h D P r key x kvs (Nat.le_refl _) (lo_of S T) lv.1 C hk hv (C.small hct) hct).mono ?_
 rintro e w' ⟨D', P', r', T', K, hres⟩
 rcases hres with ⟨rfl, ha, hrc, hc, up, hle, hgr⟩ | ⟨er, rfl, -, -, hw, hres⟩
 ·refine ⟨rfl, D', P', r', ⟨T'.st, T'.tr, ⟨hrc, ?_, ed_good C.good hk (fun v e => by cases e; exact hv)⟩, ha.wr.live lv, ha, hle, K⟩, hgr (by simp [ed])⟩
  rw [hc, C.count, ed_put_len C.good.1]
 ·exfalso
  rcases hres with ⟨-, -, h3⟩ | ⟨-, -, h3⟩
  ·have := hw.room; omega
  ·exact h3 lv
end Go.Proofs.YtendgmblgdkiaaaGreat

namespace Go.Proofs.YtendgmblgdkiaaaGreat
open Go.RowKit
open Go.Proofs.YtendgmblgdkiaaaGreatW
open PrintWords PrintLast PrintMore
set_option linter.unusedVariables false
set_option linter.unusedSimpArgs false

/-- A place's key. -/
def keyOf (s : Int) (n : Nat) : BA := ((⟨#[115]⟩ : BA) ++ four s) ++ strOfNums [((n % 256 : Nat) : Int)]
theorem keyOf_size (s : Int) (n : Nat) : (keyOf s n).size = 6 := by
 unfold keyOf
 rw [ByteArray.size_append, ByteArray.size_append, four_size, strOfNums_size]
 rfl
theorem keyOf_ok (s : Int) (n : Nat) : keyOk (keyOf s n) = true := decide_eq_true (by rw [keyOf_size]; omega)
theorem ref_Key (s : Int) (n : Nat) (w : World) :
  Calls Tryz.prog 56 #[.agg #[.int .u32 s, .int .i64 (n : Int)]] w fun e w' => e = .returned (.string (keyOf s n)) ∧ Below w.heap.size w w' := by
 refine PIt.intern_Ref_Key.calls s n (keyOf s n) w ?_
 have h5 : ((⟨#[115]⟩ : BA) ++ four s).size = 5 := by rw [ByteArray.size_append, four_size]; rfl
 have hf : PIt.crc_Four.f s = some (four s) := rfl
 have hm : ((n : Int) % 256) = ((n % 256 : Nat) : Int) := by omega
 unfold PIt.intern_Ref_Key.f
 rw [hf]
 simp only [Option.bind_some]
 rw [if_pos (by rw [four_size]; omega), if_pos (by rw [h5, strOfNums_size]; simp), hm]
 rfl

/-- A text without the one byte that it begins with. -/
def cutPre (s : BA) (c : UInt8) : BA × Bool := if Lib.hasPrefix s.data.toList [c] = true then (s.extract 1 s.size, true) else (s, false)
theorem pre_pos {s : BA} {c : UInt8} (h : Lib.hasPrefix s.data.toList [c] = true) : 1 ≤ s.size := by
 have e : s.data.toList.length = s.size := rfl
 rcases hs : s.data.toList with _ | ⟨a, r⟩
 ·rw [hs] at h; simp [Lib.hasPrefix] at h
 ·rw [hs] at e; simp at e; omega
theorem lite_CutPrefix (s : BA) (c : UInt8) (w : World) (hs : s.size ≤ 9223372036854775807) :
  Calls Tryz.prog 164 #[.string s, .string ⟨#[c]⟩] w fun e w' => e = .returned (.tuple #[.string (cutPre s c).1, .bool (cutPre s c).2]) ∧ w = w' := by
 have CH := hi_ (Tryz.stringslite_HasPrefix s ⟨#[c]⟩ w)
 have hp := @pre_pos s c
 obtain ⟨q, hq⟩ : ∃ q, q = Lib.hasPrefix s.data.toList [c] := ⟨_, rfl⟩
 have e0 : (⟨#[c]⟩ : BA).data.toList = [c] := rfl
 rw [e0, ← hq] at CH
 unfold cutPre
 rw [← hq] at hp ⊢
 clear hq e0
 cases q with
 | true =>
  have hp := hp rfl
  go_enter Tryz.func164, Tryz.ntmps164
  go_wp2_with fail
  refine CH.out.mono ?_
  rintro e w' ⟨rfl, rfl⟩
  go_wp2
  go_ret2
  exact ⟨rfl, rfl⟩
 | false =>
  clear hp
  go_enter Tryz.func164, Tryz.ntmps164
  go_wp2_with fail
  refine CH.out.mono ?_
  rintro e w' ⟨rfl, rfl⟩
  go_wp2
  go_ret2
  exact ⟨rfl, rfl⟩
theorem lib_CutPrefix (s : BA) (c : UInt8) (w : World) (hs : s.size ≤ 9223372036854775807) :
  Calls Tryz.prog 119 #[.string s, .string ⟨#[c]⟩] w fun e w' => e = .returned (.tuple #[.string (cutPre s c).1, .bool (cutPre s c).2]) ∧ w = w' := by
 have CH := hi_ (lite_CutPrefix s c w hs)
 go_enter Tryz.func119, Tryz.ntmps119
 go_wp2_with fail
 refine CH.out.mono ?_
 rintro e w' ⟨rfl, rfl⟩
 go_wp2
 go_ret2
 exact ⟨rfl, rfl⟩
theorem cutPre_own (c : UInt8) (s : BA) : cutPre ((⟨#[c]⟩ : BA) ++ s) c = (s, true) := by
 have h : Lib.hasPrefix ((⟨#[c]⟩ : BA) ++ s).data.toList [c] = true := by
  rw [ByteArray.data_append, Array.toList_append]
  simp [Lib.hasPrefix]
 unfold cutPre
 rw [if_pos h]
 congr 1
 exact cut_app_r (⟨#[c]⟩ : BA) s

/-- The value of a short text. -/
def valIn (s : BA) : BA := (⟨#[105]⟩ : BA) ++ s
theorem valIn_ok {s : BA} (h : s.size ≤ 31) : valOk (valIn s) = true := decide_eq_true (by
 have h1 : (⟨#[105]⟩ : BA).size = 1 := rfl
 unfold valIn
 rw [ByteArray.size_append, h1]
 omega)
theorem int_Value_in (b : Nat) (s : BA) (w : World) (hs : s.size ≤ 31) :
  Calls Tryz.prog 62 #[.pointer (some ⟨b, 0, none⟩), .string s] w fun e w' => e = .returned (.tuple #[.string (valIn s), .int .i64 0]) ∧ w = w' := by
 have h0 : (s.size : Int) ≤ 31 := by omega
 have h1 : (⟨#[105]⟩ : BA).size = 1 := rfl
 go_enter Tryz.func62, Tryz.ntmps62
 go_wp2
 go_ret2
 exact ⟨rfl, rfl⟩
theorem int_Load_in (b : Nat) (s : BA) (w : World) (hs : s.size ≤ 31) :
  Calls Tryz.prog 63 #[.pointer (some ⟨b, 0, none⟩), .string (valIn s)] w fun e w' => e = .returned (.tuple #[.string s, .int .i64 0]) ∧ w = w' := by
 have h1 : (⟨#[105]⟩ : BA).size = 1 := rfl
 have CH := hi_ (lib_CutPrefix (valIn s) 105 w (by unfold valIn; rw [ByteArray.size_append, h1]; omega))
 have e : cutPre (valIn s) 105 = (s, true) := cutPre_own 105 s
 rw [e] at CH
 clear e
 go_enter Tryz.func63, Tryz.ntmps63
 go_wp2_with fail
 refine CH.out.mono ?_
 rintro e w' ⟨rfl, rfl⟩
 go_wp2
 go_ret2
 exact ⟨rfl, rfl⟩
end Go.Proofs.YtendgmblgdkiaaaGreat

namespace Go.Proofs.YtendgmblgdkiaaaGreat
open Go.RowKit
open Go.Proofs.YtendgmblgdkiaaaGreatW
open PrintWords PrintLast PrintMore
set_option linter.unusedVariables false
set_option linter.unusedSimpArgs false

theorem rn_l0 (k : Nat) (x0 : Int) (x3 : ByteArray) (x4 : Int) : PIt.dowserref01_Num.l0 (k + 1) x0 x3 x4 = if x4 < 10 then (if x0 < 128 then ((some (([(x0) % 256] : List Int) : List Int)).bind fun y110 => (if x3.size + (strOfNums y110).size ≤ 9223372036854775807 then (some (x3 ++ (strOfNums y110))) else (none))) else ((some (([(IntKind.u64.wrap (128 + (Int.tmod x0 128))) % 256] : List Int) : List Int)).bind fun y113 => (if x3.size + (strOfNums y113).size ≤ 9223372036854775807 then (PIt.dowserref01_Num.l0 k (IntKind.u64.wrap (Int.tdiv x0 128)) (x3 ++ (strOfNums y113)) (wrap64 (x4 + 1))) else (none)))) else (some x3) := by rw [PIt.dowserref01_Num.l0]
theorem refnum_l : ∀ (d x i k : Nat) (pre : ByteArray), x < 128 ^ d → 1 ≤ d → i + d ≤ 10 → pre.size ≤ 1000 + i → d ≤ k →
  PIt.dowserref01_Num.l0 k (x : Int) pre (i : Int) = some (pre ++ vNum x)
 | 0, _, _, _, _, _, h, _, _, _ => by omega
 | d + 1, x, i, k, pre, hx, _, hi, hp, hk => by
  obtain ⟨k, rfl⟩ := Nat.exists_eq_add_of_le (show 1 ≤ k by omega)
  have hz : ∀ a : Int, (strOfNums [a]).size = 1 := fun a => strOfNums_size [a]
  rw [Nat.add_comm 1 k, rn_l0, if_pos (by omega)]
  by_cases h : x < 128
  ·rw [if_pos (by omega)]
   simp only [Option.bind_some]
   rw [if_pos (by rw [hz]; omega)]
   congr 2
   apply bytes_ext
   rw [strOfNums_data, vNum_list, vNumL_small h]
   simp only [List.map_cons, List.map_nil, List.cons.injEq, and_true]
   rw [show ((x : Int) % 256).toNat = x from by omega]
  ·rw [if_neg (by omega)]
   simp only [Option.bind_some]
   have e1 : Int.tmod (x : Int) 128 = ((x % 128 : Nat) : Int) := by rw [Int.tmod_eq_emod_of_nonneg (by omega)]; omega
   have e2 : Int.tdiv (x : Int) 128 = ((x / 128 : Nat) : Int) := by rw [Int.tdiv_eq_ediv_of_nonneg (by omega)]; omega
   have hd1 : 1 ≤ d := by
    rcases Nat.eq_zero_or_pos d with rfl | h
    ·simp at hx; omega
    ·exact h
   have hx2 : x / 128 < 128 ^ d := by rw [Nat.pow_succ] at hx; omega
   have hx3 : x / 128 < 18446744073709551616 := by
    have h1 : 128 ^ d ≤ 128 ^ 9 := Nat.pow_le_pow_right om_ om_
    have h2 : (128 : Nat) ^ 9 = 9223372036854775808 := by decide
    omega
   have e3 : IntKind.u64.wrap (((x / 128 : Nat) : Int)) = ((x / 128 : Nat) : Int) := by rw [IntKind.wrap_u64]; omega
   have e4 : IntKind.u64.wrap (128 + ((x % 128 : Nat) : Int)) % 256 = ((x % 128 + 128 : Nat) : Int) := by rw [IntKind.wrap_u64]; omega
   rw [if_pos (by rw [hz]; omega), e1, e2, e3, e4, wrap1 i (by omega), refnum_l d (x / 128) (i + 1) k _ hx2 hd1 (by omega) (by rw [ByteArray.size_append, hz]; omega) (by omega)]
   congr 1
   apply bytes_ext
   rw [bytes_app, bytes_app, bytes_app, strOfNums_data, vNum_list, vNum_list, vNumL_big h]
   simp only [List.map_cons, List.map_nil, List.append_assoc, List.cons_append, List.nil_append, List.append_cancel_left_eq, List.cons.injEq, and_true]
   rw [show (((x % 128 + 128 : Nat) : Int)).toNat = x % 128 + 128 from by omega]
theorem ref_Num (x : Nat) (hx : x < 18446744073709551616) (w : World) :
  Calls Tryz.prog 60 #[.int .u64 (x : Int)] w fun e w' => e = .returned (.string (vNum x)) ∧ Below w.heap.size w w' := by
 refine PIt.dowserref01_Num.calls 20 x (vNum x) w ?_
 unfold PIt.dowserref01_Num.f
 have h2 : (128 : Nat) ^ 10 = 1180591620717411303424 := by decide
 have := refnum_l 10 x 0 20 ⟨#[]⟩ om_ om_ om_ (by decide) om_
 rw [show ((0 : Nat) : Int) = 0 from rfl] at this
 rw [this]
 congr 1
theorem ref_Head (s : BA) (hs : s.size ≤ 1000) (w : World) :
  Calls Tryz.prog 61 #[.string s] w fun e w' => (∃ x m, hd 0 s.data.toList = some (x, m) ∧ e = .returned (.tuple #[.int .u64 (x : Int), .int .i64 (m : Int), .int .i64 0]) ∧ Below w.heap.size w w') ∨
   (∃ d : Int, (d = 2 ∨ d = 3) ∧ hd 0 s.data.toList = none ∧ e = .returned (.tuple #[.int .u64 0, .int .i64 0, .int .i64 d]) ∧ Below w.heap.size w w') := by
 have hl : s.data.toList.length = s.size := rfl
 obtain ⟨h1, h2⟩ := head_hd s om_ s.data.toList 2020 0 rfl om_ om_
 cases h : hd 0 s.data.toList with
 | some p =>
  obtain ⟨x, m⟩ := p
  have h3 := h1 x m h
  have hf : PIt.dowserref01_Head.f 2020 s = some ((x : Int), (m : Int), 0) := by
   unfold PIt.dowserref01_Head.f
   rw [show (0 : Int) = ((0 : Nat) : Int) from rfl, h3]
   simp [vl]
  exact (PIt.dowserref01_Head.calls 2020 s _ _ _ w hf).mono fun e w' ⟨he, hb⟩ => .inl ⟨x, m, rfl, he, hb.below⟩
 | none =>
  obtain ⟨d, hd', h3⟩ := h2 h
  exact (PIt.dowserref01_Head.calls 2020 s _ _ _ w h3).mono fun e w' ⟨he, hb⟩ => .inr ⟨d, hd', rfl, he, hb.below⟩

/-- A number taken, over bytes that are whole or have failed. -/
theorem in_num_hd (s : BA) (most : Nat) (hs : s.size ≤ 1000) :
  (∀ x m, hd 0 s.data.toList = some (x, m) → PNd.varint_In_Num.f 3020 s 0 (most : Int) = if x ≤ most then some ((x : Int), s.extract m s.size, 0) else some (0, ⟨#[]⟩, 4)) ∧
  (hd 0 s.data.toList = none → ∃ d : Int, (d = 2 ∨ d = 3) ∧ PNd.varint_In_Num.f 3020 s 0 (most : Int) = some (0, ⟨#[]⟩, d)) := by
 have hl : s.data.toList.length = s.size := rfl
 obtain ⟨h1, h2⟩ := scan_hd s om_ s.data.toList 3020 0 0 rfl (by simp) om_ om_
 constructor
 ·intro x m h
  have h3 := h1 x m h
  have h4 := hd_lt _ 0 x m om_ h
  have hf : PNd.varint_scan.f 3020 s = some ((x : Int), (m : Int), 0) := by
   unfold PNd.varint_scan.f
   rw [show (0 : Int) = ((0 : Nat) : Int) from rfl, h3]
   simp
  unfold PNd.varint_In_Num.f
  rw [if_pos rfl, hf]
  simp only [Option.bind_some]
  rw [if_pos trivial]
  by_cases hx : x ≤ most
  ·rw [if_pos hx, if_neg (by omega), if_pos (by omega), if_pos (by omega), Int.toNat_natCast]
  ·rw [if_neg hx, if_pos (by omega)]
   rfl
 ·intro h
  obtain ⟨d, hd', h3⟩ := h2 h
  have hf : PNd.varint_scan.f 3020 s = some (0, 0, d) := h3
  refine ⟨d, hd', ?_⟩
  unfold PNd.varint_In_Num.f
  rw [if_pos rfl, hf]
  simp only [Option.bind_some]
  rcases hd' with rfl | rfl <;> rfl

theorem var_Num (x : Nat) (hx : x < 18446744073709551616) (w : World) :
  Calls Tryz.prog 118 #[.int .u64 (x : Int)] w fun e w' => e = .returned (.string (vNum x)) ∧ Below w.heap.size w w' :=
 PNd.varint_Num.calls 10 x (vNum x) w (varint_num x hx)
/-- The value of a blob. -/
def besB (p n : Nat) : BA := ((⟨#[98]⟩ : BA) ++ vNum p) ++ vNum n
theorem int_Beside (p n : Nat) (hp : p ≤ 2147483647) (hn : n ≤ 65536) (w : World) :
  Calls Tryz.prog 58 #[.int .i64 (p : Int), .int .i64 (n : Int)] w fun e w' => e = .returned (.string (besB p n)) ∧ Below w.heap.size w w' := by
 have e1 : IntKind.u64.wrap (p : Int) = (p : Int) := by rw [IntKind.wrap_u64]; omega
 have e2 : IntKind.u64.wrap (n : Int) = (n : Int) := by rw [IntKind.wrap_u64]; omega
 have z1 := vNum_le (x := p) om_
 have z2 := vNum_le (x := n) om_
 have z3 : ((⟨#[98]⟩ : BA) ++ vNum p).size = 1 + (vNum p).size := by rw [ByteArray.size_append]; rfl
 have C1 := hi_ (fun W => var_Num p om_ W)
 have C2 := hi_ (fun W => var_Num n om_ W)
 go_enter Tryz.func58, Tryz.ntmps58
 go_wp2_with fail
 refine (C1.out _).mono ?_
 rintro e w1 ⟨rfl, hb⟩
 have B1 := hi_ hb
 clear hb
 go_wp2_with fail
 refine (C2.out _).mono ?_
 rintro e w2 ⟨rfl, hb⟩
 have B2 := hi_ (below_then B1.out B1.out.size hb)
 clear hb
 go_wp2_with fail
 go_ret
 exact ⟨rfl, B2.out⟩

/-- Page, by what its three takings say. -/
theorem int_Page_raw (s rest : BA) (q : Bool) (hs : s.size ≤ 1000) (hcut : cutPre s 98 = (rest, q)) (a e1 b e2 e3 e4 : Int) (r1 r2 r3 : BA)
  (h1 : PNd.varint_In_Num.f 3020 rest 0 2147483647 = some (a, r1, e1)) (ha : 0 ≤ a ∧ a ≤ 2147483647) (h2 : PNd.varint_In_Num.f 3020 r1 e1 65536 = some (b, r2, e2)) (h3 : PNd.varint_In_End.f r2 e2 = some (e3, r3, e4)) (w : World) :
  Calls Tryz.prog 59 #[.string s] w fun e w' => e = .returned (if q = true ∧ e3 = 0 then .tuple #[.int .i64 a, .bool true] else .tuple #[.int .i64 0, .bool false]) ∧ Below w.heap.size w w' := by
 have hwa : IntKind.i64.wrap a = a := by rw [IntKind.wrap_i64]; omega
 have CC := hi_ (lib_CutPrefix s 98 w om_)
 rw [hcut] at CC
 have H1 := hi_ h1
 have H2 := hi_ h2
 have H3 := hi_ h3
 obtain ⟨R, hR⟩ : ∃ R : Value, R = if q = true ∧ e3 = 0 then .tuple #[.int .i64 a, .bool true] else .tuple #[.int .i64 0, .bool false] := ⟨_, rfl⟩
 rw [← hR]
 have HR := hi_ hR
 clear h1 h2 h3 hcut hs hR
 go_enter Tryz.func59, Tryz.ntmps59
 go_wp2_with fail
 refine CC.out.mono ?_
 rintro e w0 ⟨rfl, rfl⟩
 clear CC
 go_wp2_with fail
 refine (PNd.varint_Of.calls rest rest 0 w w (Below.refl _ _) rfl).mono ?_
 rintro e w1 ⟨g, rfl, hI, hB, -⟩
 have I1 := hi_ hI
 have B1 := hi_ hB
 clear hI hB
 go_wp2_with fail
 refine (PNd.varint_In_Num.calls 3020 g rest 0 2147483647 a r1 e1 w w1 I1.out B1.out H1.out).mono ?_
 rintro e w2 ⟨rfl, hI, hB, -⟩
 have I2 := hi_ hI
 have B2 := hi_ hB
 clear hI hB I1 B1
 go_wp2_with fail
 refine (PNd.varint_In_Num.calls 3020 g r1 e1 65536 b r2 e2 w w2 I2.out B2.out H2.out).mono ?_
 rintro e w3 ⟨rfl, hI, hB, -⟩
 have I3 := hi_ hI
 have B3 := hi_ hB
 clear hI hB I2 B2
 cases q with
 | false =>
  go_wp2_with fail
  go_ret2
  refine ⟨?_, B3.out⟩
  rw [HR.out, if_neg (show ¬ (false = true ∧ e3 = 0) by simp)]
  rfl
 | true =>
  go_wp2_with fail
  refine (PNd.varint_In_End.calls g r2 e2 e3 r3 e4 w w3 I3.out B3.out H3.out).mono ?_
  rintro e w4 ⟨rfl, hI, hB, -⟩
  have B4 := hi_ hB
  clear hI hB I3 B3
  by_cases he : e3 = 0
  ·subst he
   go_wp2_with fail
   go_ret2
   refine ⟨?_, B4.out⟩
   rw [HR.out, if_pos (by simp)]
   rfl
  ·go_wp2_with fail
   go_ret2
   refine ⟨?_, B4.out⟩
   rw [HR.out, if_neg (fun h => he h.2)]
   rfl

/-- What a blob's value says behind its first byte: its page. -/
def pageL (l : List UInt8) : Option Nat := match hd 0 l with
 | none => none
 | some (x, m) => if x ≤ 2147483647 then (match hd 0 (l.drop m) with
  | none => none
  | some (y, j) => if y ≤ 65536 ∧ m + j = l.length then some x else none) else none
theorem cut_list (s : BA) (m : Nat) : (s.extract m s.size).data.toList = s.data.toList.drop m := by
 rw [ByteArray.data_extract, Array.toList_extract, List.extract_eq_take_drop]
 apply List.take_of_length_le
 rw [List.length_drop]
 have e : s.data.toList.length = s.size := rfl
 omega
theorem num_err (k : Nat) (s : BA) (d most : Int) (h : d ≠ 0) : PNd.varint_In_Num.f k s d most = some (0, s, d) := by
 unfold PNd.varint_In_Num.f
 rw [if_neg h]
theorem end_nil (d : Int) : PNd.varint_In_End.f ⟨#[]⟩ d = some (d, ⟨#[]⟩, d) := by
 unfold PNd.varint_In_End.f
 rw [if_pos]
 rw [ByteArray.toList_eq]
theorem page_say (s : BA) (hs : s.size ≤ 1000) : ∃ (a e1 b e2 e3 e4 : Int) (r1 r2 r3 : BA), PNd.varint_In_Num.f 3020 s 0 2147483647 = some (a, r1, e1) ∧ (0 ≤ a ∧ a ≤ 2147483647) ∧ PNd.varint_In_Num.f 3020 r1 e1 65536 = some (b, r2, e2) ∧ PNd.varint_In_End.f r2 e2 = some (e3, r3, e4) ∧
  ((∃ x, pageL s.data.toList = some x ∧ a = x ∧ e3 = 0) ∨ (pageL s.data.toList = none ∧ e3 ≠ 0)) := by
 obtain ⟨g1, g2⟩ := in_num_hd s 2147483647 hs
 have hl : s.data.toList.length = s.size := rfl
 cases h : hd 0 s.data.toList with
 | none =>
  obtain ⟨d, hd', h3⟩ := g2 h
  have hd0 : d ≠ 0 := by omega
  exact ⟨0, d, 0, d, d, d, ⟨#[]⟩, ⟨#[]⟩, ⟨#[]⟩, h3, by omega, num_err _ _ _ _ hd0, end_nil d, .inr ⟨by unfold pageL; rw [h], hd0⟩⟩
 | some p =>
  obtain ⟨x, m⟩ := p
  have h3 := g1 x m h
  have h4 := hd_lt _ 0 x m om_ h
  by_cases hx : x ≤ 2147483647
  ·rw [if_pos hx] at h3
   have hr : (s.extract m s.size).size ≤ 1000 := by
    have := congrArg List.length (cut_list s m)
    have e : (s.extract m s.size).data.toList.length = (s.extract m s.size).size := rfl
    rw [List.length_drop] at this
    omega
   obtain ⟨f1, f2⟩ := in_num_hd (s.extract m s.size) 65536 hr
   rw [cut_list] at f1 f2
   cases h' : hd 0 (s.data.toList.drop m) with
   | none =>
    obtain ⟨d, hd', h5⟩ := f2 h'
    have hd0 : d ≠ 0 := by omega
    exact ⟨x, 0, 0, d, d, d, _, ⟨#[]⟩, ⟨#[]⟩, h3, by omega, h5, end_nil d, .inr ⟨by unfold pageL; simp only [h, if_pos hx, h'], hd0⟩⟩
   | some p =>
    obtain ⟨y, j⟩ := p
    have h5 := f1 y j h'
    have h6 := hd_lt _ 0 y j om_ h'
    rw [List.length_drop] at h6
    by_cases hy : y ≤ 65536
    ·rw [if_pos hy] at h5
     have he : ((s.extract m s.size).extract j (s.extract m s.size).size).data.toList = (s.data.toList.drop m).drop j := by rw [cut_list, cut_list]
     by_cases hj : m + j = s.data.toList.length
     ·refine ⟨x, 0, y, 0, 0, 0, _, _, ((s.extract m s.size).extract j (s.extract m s.size).size), h3, by omega, h5, ?_, .inl ⟨x, ?_, rfl, rfl⟩⟩
      ·unfold PNd.varint_In_End.f
       rw [if_pos]
       rw [ByteArray.toList_eq, he, List.drop_drop]
       exact List.drop_eq_nil_of_le om_
      ·unfold pageL
       simp only [h, if_pos hx, h']
       rw [if_pos ⟨hy, hj⟩]
     ·refine ⟨x, 0, y, 0, 3, 0, _, _, ((s.extract m s.size).extract j (s.extract m s.size).size), h3, by omega, h5, ?_, .inr ⟨?_, by omega⟩⟩
      ·unfold PNd.varint_In_End.f
       rw [if_neg]
       rw [ByteArray.toList_eq, he, List.drop_drop]
       intro hn
       have := congrArg List.length hn
       rw [List.length_drop, List.length_nil] at this
       omega
      ·unfold pageL
       simp only [h, if_pos hx, h']
       rw [if_neg (fun h => hj h.2)]
    ·rw [if_neg hy] at h5
     refine ⟨x, 0, 0, 4, 4, 4, _, ⟨#[]⟩, ⟨#[]⟩, h3, by omega, h5, end_nil 4, .inr ⟨?_, by omega⟩⟩
     unfold pageL
     simp only [h, if_pos hx, h']
     rw [if_neg (fun h => hy h.1)]
  ·rw [if_neg hx] at h3
   refine ⟨0, 4, 0, 4, 4, 4, ⟨#[]⟩, ⟨#[]⟩, ⟨#[]⟩, h3, by omega, num_err _ _ _ _ om_, end_nil 4, .inr ⟨?_, by omega⟩⟩
   unfold pageL
   simp only [h, if_neg hx]
/-- Page: of a value that begins as a blob's does. -/
theorem int_Page_b (t : BA) (ht : t.size ≤ 900) (w : World) :
  Calls Tryz.prog 59 #[.string ((⟨#[98]⟩ : BA) ++ t)] w fun e w' => ((∃ x : Nat, pageL t.data.toList = some x ∧ e = .returned (.tuple #[.int .i64 (x : Int), .bool true])) ∨ (pageL t.data.toList = none ∧ e = .returned (.tuple #[.int .i64 0, .bool false]))) ∧ Below w.heap.size w w' := by
 obtain ⟨a, e1, b, e2, e3, e4, r1, r2, r3, h1, ha, h2, h3, hc⟩ := page_say t om_
 have hz : ((⟨#[98]⟩ : BA) ++ t).size = 1 + t.size := by rw [ByteArray.size_append]; rfl
 refine (int_Page_raw _ t true om_ (cutPre_own 98 t) a e1 b e2 e3 e4 r1 r2 r3 h1 ha h2 h3 w).mono ?_
 rintro e w' ⟨rfl, hb⟩
 refine ⟨?_, hb⟩
 rcases hc with ⟨x, hx, rfl, he⟩ | ⟨hx, he⟩
 ·exact .inl ⟨x, hx, by rw [if_pos ⟨rfl, he⟩]⟩
 ·exact .inr ⟨hx, by rw [if_neg (fun h => he h.2)]⟩
/-- Page: of another value. -/
theorem int_Page_no (s : BA) (hs : s.size ≤ 1000) (h : Lib.hasPrefix s.data.toList [98] = false) (w : World) :
  Calls Tryz.prog 59 #[.string s] w fun e w' => e = .returned (.tuple #[.int .i64 0, .bool false]) ∧ Below w.heap.size w w' := by
 obtain ⟨a, e1, b, e2, e3, e4, r1, r2, r3, h1, ha, h2, h3, hc⟩ := page_say s hs
 refine (int_Page_raw s s false hs (by unfold cutPre; rw [h]; rfl) a e1 b e2 e3 e4 r1 r2 r3 h1 ha h2 h3 w).mono ?_
 rintro e w' ⟨rfl, hb⟩
 exact ⟨by rw [if_neg (fun h => by simp at h)], hb⟩
end Go.Proofs.YtendgmblgdkiaaaGreat

namespace Go.Proofs.YtendgmblgdkiaaaGreat
open Go.RowKit
open Go.Proofs.YtendgmblgdkiaaaGreatW
open PrintWords PrintLast PrintMore
set_option linter.unusedVariables false
set_option linter.unusedSimpArgs false

/-- Pages of a disk that lives. -/
structure Pgs (w : World) (L : Loc) (b h : Nat) (D : Dk) (P : List Pg) : Prop where
 st : St w L b h D P
 live : D.Live
theorem Pgs.below {w w' : World} {L : Loc} {b h : Nat} {D : Dk} {P : List Pg} (H : Pgs w L b h D P) (hb : Below w.heap.size w w') : Pgs w' L b h D P := ⟨H.st.below hb, H.live⟩
set_option maxRecDepth 100000 in
theorem law_Half (w : World) (n : Nat) (hn : n ≤ 30000) :
  Calls Tryz.prog 21 #[.int .i64 (n : Int)] w fun e w' => ∃ (L : Loc) (b : Nat) (D : Dk), e = .returned (.tuple #[.pointer (some ⟨L.a, 0, none⟩), .pointer (some ⟨b, 0, none⟩)]) ∧ Pgs w' L b 0 D [] ∧ D.room = n ∧ (∀ k, L.foot k ∨ k = b → w.heap.size ≤ k) ∧ Below w.heap.size w w' := by
 have hD : (Dk.make (2 + 2 * (n : Int))).room = n := by
  unfold Dk.room
  rw [make_now]
  omega
 have HD := hi_ hD
 clear hD
 go_enter Tryz.func21, Tryz.ntmps21
 go_wp2_with fail
 refine (disk_New (2 + 2 * (n : Int)) w).mono ?_
 rintro e w1 ⟨L, rfl, hd, hf, hb⟩
 obtain ⟨D, hDD⟩ : ∃ D, D = Dk.make (2 + 2 * (n : Int)) := ⟨_, rfl⟩
 have hlv : D.Live := by rw [hDD]; exact make_live _
 rw [← hDD] at hd HD
 have HL := hi_ hlv
 have HDA := hi_ hd
 have HF := hi_ hf
 have HB := hi_ hb
 clear hDD hd hf hb hlv
 go_wp2_with fail
 refine (pages_Open w1 L D 0 0 HDA.out om_ om_).mono ?_
 rintro e w2 ⟨rfl, hp, hb⟩
 have hb2 := hi_ (HB.out.trans (hb.mono HB.out.size))
 have hp := hi_ hp
 have hd := hi_ (HDA.out.below hb)
 clear hb
 go_wp2_with fail
 go_ret2
 refine ⟨L, w1.heap.size, D, rfl, ⟨⟨hd.out, hp.out, by omega, by simp, fun i k s hi => by simp at hi⟩, HL.out⟩, HD.out, ?_, hb2.out⟩
 rintro k (hk | rfl)
 ·exact HF.out k hk
 ·exact HB.out.size
end Go.Proofs.YtendgmblgdkiaaaGreat

namespace Go.Proofs.YtendgmblgdkiaaaGreat
open Go.RowKit
open Go.Proofs.YtendgmblgdkiaaaGreatW
open PrintWords PrintLast PrintMore
set_option linter.unusedVariables false
set_option linter.unusedSimpArgs false

theorem rootC_none (P : List Pg) : TreeC P ⟨-1, 0, 0⟩ [] := ⟨.inl ⟨rfl, rfl, rfl⟩, rfl, List.Pairwise.nil, fun p hp => by cases hp⟩

end Go.Proofs.YtendgmblgdkiaaaGreat

namespace Go.Proofs.YtendgmblgdkiaaaGreat
open Go.RowKit
open Go.Proofs.YtendgmblgdkiaaaGreatW
open PrintWords PrintLast PrintMore
set_option linter.unusedVariables false
set_option linter.unusedSimpArgs false

end Go.Proofs.YtendgmblgdkiaaaGreat

namespace Go.Proofs.YtendgmblgdkiaaaGreat
open Go.RowKit
open Go.Proofs.YtendgmblgdkiaaaGreatW
open PrintWords PrintLast PrintMore
set_option linter.unusedVariables false
set_option linter.unusedSimpArgs false

/-- A text, cut. -/
def cutB (s : BA) (n : Nat) : BA := if s.size ≤ n then s else s.extract 0 n
theorem cut_f1 (s : BA) (n : Nat) : PNd.dowserlaw01_Cut.f s (n : Int) = some (cutB s n) := by
 unfold PNd.dowserlaw01_Cut.f cutB
 by_cases h : s.size ≤ n
 ·rw [if_neg (by omega), if_pos h]
 ·rw [if_pos (by omega), if_pos (by omega), if_pos (by omega), if_neg h, Int.toNat_natCast]
theorem cutB_size (s : BA) (n : Nat) : (cutB s n).size ≤ n := by
 unfold cutB
 split
 ·assumption
 ·rw [ByteArray.size_extract]; omega

/-- What an edit has. -/
theorem mem_ed {key v : BA} {l : List KV} {p : KV} : p ∈ ed key (some v) l ↔ p = (key, v) ∨ (p ∈ l ∧ p.1 ≠ key) := by
 unfold ed
 simp only [List.mem_append, List.mem_filter, Option.toList_some, List.map_cons, List.map_nil, List.mem_singleton]
 constructor
 ·rintro ((⟨h1, h2⟩ | h) | ⟨h1, h2⟩)
  ·exact .inr ⟨h1, fun e => by rw [e, blt_irrefl] at h2; cases h2⟩
  ·exact .inl h
  ·exact .inr ⟨h1, fun e => by rw [e, blt_irrefl] at h2; cases h2⟩
 ·rintro (h | ⟨h1, h2⟩)
  ·exact .inl (.inr h)
  ·cases h3 : blt p.1 key with
   | true => exact .inl (.inl ⟨h1, rfl⟩)
   | false =>
    cases h4 : blt key p.1 with
    | true => exact .inr ⟨h1, rfl⟩
    | false => exact absurd (blt_total h3 h4) h2
end Go.Proofs.YtendgmblgdkiaaaGreat

namespace Go.Proofs.YtendgmblgdkiaaaGreat
open Go.RowKit
open Go.Proofs.YtendgmblgdkiaaaGreatW
open PrintWords PrintLast PrintMore
set_option linter.unusedVariables false
set_option linter.unusedSimpArgs false

theorem srt_uniq {l : List KV} (h : Srt l) {k v u : BA} (h1 : (k, v) ∈ l) (h2 : (k, u) ∈ l) : v = u := by
 induction l with
 | nil => cases h1
 | cons a r ih =>
  obtain ⟨ha, hr⟩ := List.pairwise_cons.1 h
  rcases List.mem_cons.1 h1 with e1 | e1
  ·rcases List.mem_cons.1 h2 with e2 | e2
   ·have := e1.trans e2.symm
    simpa using this
   ·have := ha _ e2
    rw [← e1] at this
    simp [blt_irrefl] at this
  ·rcases List.mem_cons.1 h2 with e2 | e2
   ·have := ha _ e1
    rw [← e2] at this
    simp [blt_irrefl] at this
   ·exact ih hr e1 e2
end Go.Proofs.YtendgmblgdkiaaaGreat

namespace Go.Proofs.YtendgmblgdkiaaaGreat
open Go.RowKit
open Go.Proofs.YtendgmblgdkiaaaGreatW
open PrintWords PrintLast PrintMore
set_option linter.unusedVariables false
set_option linter.unusedSimpArgs false

set_option maxRecDepth 100000 in
theorem int_Get_none (w : World) (t b : Nat) (L : Loc) (h : Nat) (D : Dk) (P : List Pg) (r : Rt) (S : St w L b h D P) (T : TreeAt w t b r) (up : D.down = false) (kvs : List KV) (C : TreeC P r kvs) (hh : r.height ≤ 900) (s : Int) (n : Nat) (hn : n ≤ 100000) (hno : ∀ v, (keyOf s n, v) ∉ kvs) :
  Calls Tryz.prog 53 #[.pointer (some ⟨t, 0, none⟩), .pointer (some ⟨b, 0, none⟩), .agg #[.int .u32 s, .int .i64 (n : Int)]] w fun e w' => e = .returned (.tuple #[.string ByteArray.empty, .int .i64 9]) ∧ Below w.heap.size w w' := by
 have HS := hi_ S
 have HT := hi_ T
 have HU := hi_ up
 have HC := hi_ C
 have HH := hi_ hh
 have HNO := hi_ hno
 clear S T up C hno hh
 go_enter Tryz.func53, Tryz.ntmps53
 go_wp2_with fail
 have X1 := hi_ (blk_new w (.cells #[.int .u32 s, .int .i64 (n : Int)] 77 (0, 0)))
 have B1 := hi_ (below_alloc (Below.refl w.heap.size w) (.cells #[.int .u32 s, .int .i64 (n : Int)] 77 (0, 0)))
 generalize w.alloc (.cells #[.int .u32 s, .int .i64 (n : Int)] 77 (0, 0)) = w1 at *
 obtain ⟨g, hg⟩ : ∃ g, g = w.heap.size := ⟨_, rfl⟩
 rw [← hg] at X1 ⊢
 clear hg
 refine (ref_Key s n w1).mono ?_
 rintro e w2 ⟨rfl, hb⟩
 have B2 := hi_ (below_then B1.out B1.out.size hb)
 have X2 := hi_ (blk_below X1.out hb)
 clear hb B1 X1
 go_wp2_with fail
 refine (tree_Get w2 t b L h D P r (HS.out.below B2.out) (HT.out.below B2.out) HU.out (keyOf s n) kvs HC.out HH.out).mono ?_
 rintro e w3 ⟨v, is, rfl, hb, hy, hz⟩
 have B3 := hi_ (below_then B2.out B2.out.size hb)
 have X3 := hi_ (blk_below X2.out hb)
 clear hb B2 X2
 cases is with
 | true => exact absurd (hy rfl) (HNO.out v)
 | false =>
  clear hy hz
  have x1 := blk_cell X3.out 1
  go_wp2_with fail
  go_ret2
  exact ⟨rfl, B3.out⟩
set_option maxRecDepth 100000 in
theorem int_Get_some (w : World) (t b : Nat) (L : Loc) (h : Nat) (D : Dk) (P : List Pg) (r : Rt) (S : St w L b h D P) (T : TreeAt w t b r) (up : D.down = false) (kvs : List KV) (C : TreeC P r kvs) (hh : r.height ≤ 900) (s : Int) (n : Nat) (hn : n < 256) (v x : BA) (hm : (keyOf s n, v) ∈ kvs)
  (hL : ∀ W, Below w.heap.size w W → Calls Tryz.prog 63 #[.pointer (some ⟨b, 0, none⟩), .string v] W fun e w' => e = .returned (.tuple #[.string x, .int .i64 0]) ∧ Below W.heap.size W w') :
  Calls Tryz.prog 53 #[.pointer (some ⟨t, 0, none⟩), .pointer (some ⟨b, 0, none⟩), .agg #[.int .u32 s, .int .i64 (n : Int)]] w fun e w' => e = .returned (.tuple #[.string x, .int .i64 0]) ∧ Below w.heap.size w w' := by
 have HS := hi_ S
 have HT := hi_ T
 have HU := hi_ up
 have HC := hi_ C
 have HH := hi_ hh
 have HM := hi_ hm
 have HLD := hi_ hL
 clear S T up C hm hL hh
 go_enter Tryz.func53, Tryz.ntmps53
 go_wp2_with fail
 have X1 := hi_ (blk_new w (.cells #[.int .u32 s, .int .i64 (n : Int)] 77 (0, 0)))
 have B1 := hi_ (below_alloc (Below.refl w.heap.size w) (.cells #[.int .u32 s, .int .i64 (n : Int)] 77 (0, 0)))
 generalize w.alloc (.cells #[.int .u32 s, .int .i64 (n : Int)] 77 (0, 0)) = w1 at *
 obtain ⟨g, hg⟩ : ∃ g, g = w.heap.size := ⟨_, rfl⟩
 rw [← hg] at X1 ⊢
 clear hg
 refine (ref_Key s n w1).mono ?_
 rintro e w2 ⟨rfl, hb⟩
 have B2 := hi_ (below_then B1.out B1.out.size hb)
 have X2 := hi_ (blk_below X1.out hb)
 clear hb B1 X1
 go_wp2_with fail
 refine (tree_Get w2 t b L h D P r (HS.out.below B2.out) (HT.out.below B2.out) HU.out (keyOf s n) kvs HC.out HH.out).mono ?_
 rintro e w3 ⟨v', is, rfl, hb, hy, hz⟩
 have B3 := hi_ (below_then B2.out B2.out.size hb)
 have X3 := hi_ (blk_below X2.out hb)
 clear hb B2 X2
 cases is with
 | false => exact absurd HM.out ((hz rfl).2 v)
 | true =>
  obtain rfl : v' = v := srt_uniq HC.out.good.1 (hy rfl) HM.out
  clear hy hz
  have x1 := blk_cell X3.out 1
  have hn0 : (0 : Int) ≤ (n : Int) := by omega
  have hn1 : (n : Int) < 256 := by omega
  go_wp2_with fail
  refine (HLD.out w3 B3.out).mono ?_
  rintro e w4 ⟨rfl, hb⟩
  have B4 := hi_ (below_then B3.out B3.out.size hb)
  clear hb x1
  go_wp2_with fail
  go_ret2
  exact ⟨rfl, B4.out⟩
end Go.Proofs.YtendgmblgdkiaaaGreat

namespace Go.Proofs.YtendgmblgdkiaaaGreat
open Go.RowKit
open Go.Proofs.YtendgmblgdkiaaaGreatW
open PrintWords PrintLast PrintMore
set_option linter.unusedVariables false
set_option linter.unusedSimpArgs false

/-- What keeping a text leaves: at most m pages more than a Put takes. -/
structure DoneM (m : Nat) (w w' : World) (t b : Nat) (L : Loc) (h : Nat) (D : Dk) (P : List Pg) (r : Rt) (D' : Dk) (P' : List Pg) (r' : Rt) (kvs' : List KV) : Prop where
 st : St w' L b h D' P'
 tr : TreeAt w' t b r'
 tc : TreeC P' r' kvs'
 live : D'.Live
 app : AppOk h D P D' P'
 most : (P'.length : Int) ≤ P.length + m + 2 * r.height + 1
 keep : Keep (fun k => (L.foot k ∨ k = b) ∨ k = t) w w'
/-- What Value leaves. -/
structure ValM (m : Nat) (W w' : World) (b : Nat) (L : Loc) (h : Nat) (D : Dk) (P : List Pg) (D' : Dk) (P' : List Pg) : Prop where
 st : St w' L b h D' P'
 live : D'.Live
 app : AppOk h D P D' P'
 most : P'.length = P.length + m
 keep : Keep (fun k => L.foot k ∨ k = b) W w'

set_option maxHeartbeats 1000000 in
set_option maxRecDepth 100000 in
theorem int_keep (Rp : List Pg → Prop) (m : Nat) (w : World) (t b : Nat) (L : Loc) (h : Nat) (D : Dk) (P : List Pg) (r : Rt) (S : St w L b h D P) (T : TreeAt w t b r) (lv : D.Live) (kvs : List KV) (C : TreeC P r kvs) (hct : kvs.length ≤ 100000000) (s : Int) (n : Nat) (x v : BA) (hv : valOk v = true) (hr : (P.length : Int) + m + 2 * r.height + 1 ≤ D.room)
  (hV : ∀ W, Below w.heap.size w W → Calls Tryz.prog 62 #[.pointer (some ⟨b, 0, none⟩), .string x] W fun e w' => e = .returned (.tuple #[.string v, .int .i64 0]) ∧ ∃ D1 P1, ValM m W w' b L h D P D1 P1 ∧ Rp P1) :
  Calls Tryz.prog 116 #[.pointer (some ⟨t, 0, none⟩), .pointer (some ⟨b, 0, none⟩), .agg #[.int .u32 s, .int .i64 (n : Int)], .string x] w fun e w' => e = .returned (.tuple #[.agg #[.int .u32 s, .int .i64 (n : Int)], .bool true, .int .i64 0]) ∧ ∃ D' P' r', DoneM m w w' t b L h D P r D' P' r' (ed (keyOf s n) (some v) kvs) ∧ ∃ P1 X, P' = P1 ++ X ∧ Rp P1 := by
 have HS := hi_ S
 have HT := hi_ T
 have HLV := hi_ lv
 have HC := hi_ C
 have HCT := hi_ hct
 have HVO := hi_ hv
 have HR := hi_ hr
 have HV := hi_ hV
 clear S T lv C hct hv hr hV
 go_enter Tryz.func116, Tryz.ntmps116
 go_wp2_with fail
 have X1 := hi_ (blk_alloc (blk_new w (.cells #[.int .u32 s, .int .i64 (n : Int)] 77 (0, 0))) (.cells #[.int .u32 0, .int .i64 0] 77 (0, 0)))
 have Y1 := hi_ (blk_new (w.alloc (.cells #[.int .u32 s, .int .i64 (n : Int)] 77 (0, 0))) (.cells #[.int .u32 0, .int .i64 0] 77 (0, 0)))
 have B1 := hi_ (below_alloc (below_alloc (Below.refl w.heap.size w) (.cells #[.int .u32 s, .int .i64 (n : Int)] 77 (0, 0))) (.cells #[.int .u32 0, .int .i64 0] 77 (0, 0)))
 simp only [World.size_alloc] at Y1
 generalize (w.alloc (.cells #[.int .u32 s, .int .i64 (n : Int)] 77 (0, 0))).alloc (.cells #[.int .u32 0, .int .i64 0] 77 (0, 0)) = w1 at *
 obtain ⟨z, hz⟩ : ∃ z, z = w.heap.size := ⟨_, rfl⟩
 rw [← hz] at X1 Y1 ⊢
 have HZ := hi_ hz
 clear hz
 have LO := hi_ (lo_of HS.out HT.out)
 refine (pages_Next w1 b L h P.length (HS.out.below B1.out).p).mono ?_
 rintro e w1 ⟨rfl, rfl⟩
 go_wp2_with fail
 refine (HV.out w1 B1.out).mono ?_
 rintro e w2 ⟨rfl, D1, P1, VM, hRp⟩
 have HRP := hi_ hRp
 clear hRp
 have hF1 : ∀ k, (L.foot k ∨ k = b) → k < w.heap.size := fun k hk => LO.out.lo k hk
 have K2 := hi_ ((Keep.below (F := fun k => (L.foot k ∨ k = b) ∨ k = t) B1.out).andThen VM.keep (fun i _ hf => .inl hf))
 have X2 := hi_ (VM.keep.heap X1.out (fun hf => by have := hF1 _ hf; have := HZ.out; omega))
 have Y2 := hi_ (VM.keep.heap Y1.out (fun hf => by have := hF1 _ hf; have := HZ.out; omega))
 have T2 := hi_ ((HT.out.below B1.out).keep VM.keep (fun hf => HT.out.foot HS.out hf))
 have VM := hi_ VM
 have C2 := hi_ (show TreeC P1 r kvs by obtain ⟨Z, hZ⟩ := VM.out.app.pre; rw [hZ]; exact HC.out.pre)
 clear X1 Y1 B1 hF1
 have x0 := blk_cell X2.out 0
 have x1 := blk_cell X2.out 1
 go_wp2_with fail
 refine (ref_Key s n w2).mono ?_
 rintro e w3 ⟨rfl, hb⟩
 have K3 := hi_ (K2.out.andThen (G := fun _ => False) (Keep.below hb) (fun _ _ hf => hf.elim))
 have X3 := hi_ (blk_below X2.out hb)
 have Y3 := hi_ (blk_below Y2.out hb)
 have S3 := hi_ (VM.out.st.below hb)
 have T3 := hi_ (T2.out.below hb)
 clear hb X2 Y2 K2 T2 x0 x1
 go_wp2_with fail
 refine (tree_Put w3 t b L h D1 P1 r (keyOf s n) v kvs S3.out T3.out VM.out.live C2.out (keyOf_ok s n) HVO.out HCT.out (by have := HR.out; have := VM.out.most; have := VM.out.app.wr.room; omega)).mono ?_
 rintro e w4 ⟨rfl, D2, P2, r2, Dn, -⟩
 have hF2 : ∀ k, ((L.foot k ∨ k = b) ∨ k = t) → k < w.heap.size := fun k hk => by
  rcases hk with h | rfl
  ·exact LO.out.lo k h
  ·exact LO.out.tl
 have K4 := hi_ (K3.out.andThen Dn.keep (fun i _ hf => hf))
 have X4 := hi_ (Dn.keep.heap X3.out (fun hf => by have := hF2 _ hf; have := HZ.out; omega))
 have Y4 := hi_ (Dn.keep.heap Y3.out (fun hf => by have := hF2 _ hf; have := HZ.out; omega))
 have Dn := hi_ Dn
 clear X3 Y3 K3 hF2
 have x0 := blk_cell X4.out 0
 have x1 := blk_cell X4.out 1
 have y0 := blk_cell Y4.out 0
 have y1 := blk_cell Y4.out 1
 have f0 := blk_frozen Y4.out 0
 have f1 := blk_frozen Y4.out 1
 go_wp2_with fail
 have Z5 := blk_put (blk_put Y4.out 0 (.int .u32 s) rfl) 1 (.int .i64 (n : Int)) rfl
 have hnb : Keep (fun k => w.heap.size ≤ k) w4 ((w4.setCell ⟨z + 1, 0, none⟩ (.int .u32 s)).setCell ⟨z + 1, 1, none⟩ (.int .i64 (n : Int))) :=
  ((Keep.refl _ w4).setCell (p := ⟨z + 1, 0, none⟩) (.inl (by have := HZ.out; show w.heap.size ≤ z + 1; omega)) _).setCell (p := ⟨z + 1, 1, none⟩) (.inl (by have := HZ.out; show w.heap.size ≤ z + 1; omega)) _
 refine bodyPost_ret (PrintWords.results_list (rs := [.cell 8 77, .tmp 9, .tmp 10]) (vs := [.agg #[.int .u32 s, .int .i64 (n : Int)], .bool true, .int .i64 0]) rfl (by simp) (.cell (z + 1) 77 #[.int .u32 s, .int .i64 (n : Int)] (0, 0) _ rfl Z5 Tryz.underlying77 rfl kr_ (.tmp (.tmp .nil)))) rfl ?_
 have TS4 := TS.hi (B := w.heap.size) ⟨Dn.out.st, Dn.out.tr, LO.out.lo, LO.out.tl⟩ hnb
 obtain ⟨Z, hZ⟩ := Dn.out.app.pre
 refine ⟨rfl, D2, P2, r2, ⟨TS4.st, TS4.tr, Dn.out.tc, Dn.out.live, VM.out.app.trans Dn.out.app, by have := Dn.out.most; have := VM.out.most; omega, K4.out.andThen hnb (fun i hi hf => by omega)⟩, P1, Z, hZ, HRP.out⟩
end Go.Proofs.YtendgmblgdkiaaaGreat

namespace Go.Proofs.YtendgmblgdkiaaaGreat
open Go.RowKit
open Go.Proofs.YtendgmblgdkiaaaGreatW
open PrintWords PrintLast PrintMore
set_option linter.unusedVariables false
set_option linter.unusedSimpArgs false

/-- A text's sum. -/
def sumOf (s : BA) : Int := ((crcOf s.data.toList).toNat : Int)
/-- What stands for a text, over pages: loaded it is that text; it stays when pages come. -/
structure Vals (L : Loc) (b h : Nat) (VL : List Pg → BA → BA → Prop) : Prop where
 load : ∀ (W : World) (D : Dk) (P : List Pg) (v s : BA), St W L b h D P → D.down = false → VL P v s → Calls Tryz.prog 63 #[.pointer (some ⟨b, 0, none⟩), .string v] W fun e w' => e = .returned (.tuple #[.string s, .int .i64 0]) ∧ Below W.heap.size W w'
 pre : ∀ (P X : List Pg) (v s : BA), VL P v s → VL (P ++ X) v s
/-- The texts of one sum that are kept: f tells which. -/
structure OneSum (VL : List Pg → BA → BA → Prop) (P : List Pg) (s : Int) (f : Nat → Option BA) (kvs : List KV) : Prop where
 no : ∀ n, n < 256 → f n = none → ∀ v, (keyOf s n, v) ∉ kvs
 yes : ∀ n x, n < 256 → f n = some x → ∃ v, (keyOf s n, v) ∈ kvs ∧ VL P v x

/-- The number in the box. -/
def boxN (z : Nat) (W : World) : Nat := (intOf ((W.cell? ⟨z, 1, none⟩).getD undef)).toNat
theorem boxN_eq {z k : Nat} {s : Value} {t : TypeId} {W : World} (h : W.heap[z]? = some (.cells #[s, .int .i64 (k : Int)] t (0, 0))) : boxN z W = k := by
 unfold boxN
 rw [(cell_of_heap h 1).trans rfl]
 simp [intOf]
theorem str_ne {a b : BA} (h : a ≠ b) : (a.toList == b.toList) = false := by
 rw [beq_eq_false_iff_ne]
 intro e
 rw [ByteArray.toList_eq, ByteArray.toList_eq] at e
 exact h (bytes_ext e)
set_option maxHeartbeats 2000000 in
set_option maxRecDepth 100000 in
theorem int_Put (VL : List Pg → BA → BA → Prop) (m N : Nat) (w : World) (t b : Nat) (L : Loc) (h : Nat) (D : Dk) (P : List Pg) (r : Rt) (HVL : Vals L b h VL) (S : St w L b h D P) (T : TreeAt w t b r) (lv : D.Live) (kvs : List KV) (C : TreeC P r kvs) (hct : kvs.length ≤ 100000000) (x : BA) (hx : x.size ≤ 65536) (f : Nat → Option BA) (O : OneSum VL P (sumOf x) f kvs) (hN : N < 256) (hlow : ∀ k, k < N → ∃ y, f k = some y ∧ y ≠ x) (hat : f N = none ∨ f N = some x)
  (hnew : f N = none → ∃ v, valOk v = true ∧ (P.length : Int) + m + 2 * r.height + 1 ≤ D.room ∧ ∀ W, Below w.heap.size w W → Calls Tryz.prog 62 #[.pointer (some ⟨b, 0, none⟩), .string x] W fun e w' => e = .returned (.tuple #[.string v, .int .i64 0]) ∧ ∃ D1 P1, ValM m W w' b L h D P D1 P1 ∧ VL P1 v x) :
  Calls Tryz.prog 51 #[.pointer (some ⟨t, 0, none⟩), .pointer (some ⟨b, 0, none⟩), .string x] w fun e w' =>
   (f N = some x ∧ e = .returned (.tuple #[.agg #[.int .u32 (sumOf x), .int .i64 (N : Int)], .bool false, .int .i64 0]) ∧ Below w.heap.size w w') ∨
   (f N = none ∧ e = .returned (.tuple #[.agg #[.int .u32 (sumOf x), .int .i64 (N : Int)], .bool true, .int .i64 0]) ∧ ∃ D' P' r' v, DoneM m w w' t b L h D P r D' P' r' (ed (keyOf (sumOf x) N) (some v) kvs) ∧ VL P' v x) := by
 obtain ⟨Q, hQ⟩ : ∃ Q : Ending → World → Prop, Q = fun e w' =>
   (f N = some x ∧ e = .returned (.tuple #[.agg #[.int .u32 (sumOf x), .int .i64 (N : Int)], .bool false, .int .i64 0]) ∧ Below w.heap.size w w') ∨
   (f N = none ∧ e = .returned (.tuple #[.agg #[.int .u32 (sumOf x), .int .i64 (N : Int)], .bool true, .int .i64 0]) ∧ ∃ D' P' r' v, DoneM m w w' t b L h D P r D' P' r' (ed (keyOf (sumOf x) N) (some v) kvs) ∧ VL P' v x) := ⟨_, rfl⟩
 rw [← hQ]
 have HQ := hi_ hQ
 have HS := hi_ S
 have HT := hi_ T
 have HLV := hi_ lv
 have HC := hi_ C
 have HCT := hi_ hct
 have HO := hi_ O
 have HN := hi_ hN
 have HL := hi_ hlow
 have HA := hi_ hat
 have HW := hi_ hnew
 have HV := hi_ HVL
 have HH := hi_ (C.small hct)
 have hx0 : (x.size : Int) ≤ 65536 := by omega
 have HX := hi_ (show x.size ≤ maxLen by unfold maxLen; omega)
 have CK := fun W hc => crc_Of (w.heap.size + 1) x W (by unfold maxLen; omega) hc
 obtain ⟨sm, hsm⟩ : ∃ sm, sm = sumOf x := ⟨_, rfl⟩
 have hsm' : ((crcOf x.data.toList).toNat : Int) = sm := hsm.symm
 rw [hsm'] at CK
 have CK := hi_ CK
 have HSM := hi_ hsm
 clear hQ S T lv C hct O hN hlow hat hnew HVL hx hsm hsm'
 go_enter Tryz.func51, Tryz.ntmps51
 go_wp2_with fail
 have X1 := hi_ (blk_alloc (blk_new w (.cells #[.int .u32 0, .int .i64 0] 77 (0, 0))) (.cells #[.string x] 9 (0, 0)))
 have B1 := hi_ (below_alloc (below_alloc (Below.refl w.heap.size w) (.cells #[.int .u32 0, .int .i64 0] 77 (0, 0))) (.cells #[.string x] 9 (0, 0)))
 have c1 := blk_cell (blk_new (w.alloc (.cells #[.int .u32 0, .int .i64 0] 77 (0, 0))) (.cells #[.string x] 9 (0, 0))) 0
 have s1 : Hid (((w.alloc (.cells #[.int .u32 0, .int .i64 0] 77 (0, 0))).alloc (.cells #[.string x] 9 (0, 0))).heap.size = w.heap.size + 2) := hi_ (by simp)
 simp only [World.size_alloc] at c1
 generalize (w.alloc (.cells #[.int .u32 0, .int .i64 0] 77 (0, 0))).alloc (.cells #[.string x] 9 (0, 0)) = w1 at *
 refine (CK.out w1 c1).mono ?_
 clear c1
 rintro e w1 ⟨rfl, rfl⟩
 go_wp2_with fail
 have X2 := hi_ (blk_alloc X1.out (.cells #[.int .u32 sm, .int .i64 0] 77 (0, 0)))
 have Y2 := hi_ (blk_new w1 (.cells #[.int .u32 sm, .int .i64 0] 77 (0, 0)))
 have B2 := hi_ (below_alloc B1.out (.cells #[.int .u32 sm, .int .i64 0] 77 (0, 0)))
 generalize w1.alloc (.cells #[.int .u32 sm, .int .i64 0] 77 (0, 0)) = w2 at *
 obtain ⟨q, hq⟩ : ∃ q, q = w1.heap.size := ⟨_, rfl⟩
 obtain ⟨z, hz⟩ : ∃ z, z = w.heap.size := ⟨_, rfl⟩
 rw [← hq] at Y2 ⊢
 rw [← hz] at X2 ⊢
 have HZ := hi_ (show z = w.heap.size ∧ z < q ∧ w.heap.size ≤ q by have := s1.out; have := B1.out.size; omega)
 clear hq hz X1 B1 s1
 go_loopw [11] (fun _ wr => ∃ (k : Nat), k ≤ N ∧ Hid (wr.heap[z]? = some (.cells #[.int .u32 0, .int .i64 0] 77 (0, 0))) ∧ Hid (wr.heap[q]? = some (.cells #[.int .u32 sm, .int .i64 (k : Int)] 77 (0, 0))) ∧ Hid (Below w.heap.size w wr)) (fun _ wr => N - boxN q wr)
 case atStart => exact ⟨0, Nat.zero_le _, X2, Y2, B2⟩
 case round =>
  clear X2 Y2 B2
  obtain ⟨k, hk, X2, Y2, B2⟩ := hrel
  have y0 := blk_cell Y2.out 0
  have y1 := blk_cell Y2.out 1
  have hk0 : (0 : Int) ≤ (k : Int) := by omega
  have hk2 : (k : Int) < 256 := by have := HN.out; omega
  have HK := hi_ hk
  by_cases hkN : k < N
  ·obtain ⟨y, hy, hne⟩ := HL.out k hkN
   obtain ⟨v, hv1, hv2⟩ := HO.out.yes k y (by have := HN.out; omega) hy
   have hs := str_ne hne
   have HKN := hi_ hkN
   have CG := hi_ (int_Get_some wr t b L h D P r (HS.out.below B2.out) (HT.out.below B2.out) HLV.out.1 kvs HC.out HH.out (sumOf x) k (by have := HN.out; omega) v y hv1 (fun W hW => HV.out.load W D P v y ((HS.out.below B2.out).below hW) HLV.out.1 hv2))
   rw [← HSM.out] at CG
   clear hy hne hv1 hv2 hk hkN
   go_wp2_with fail
   refine CG.out.mono ?_
   clear CG
   rintro e w3 ⟨rfl, hb⟩
   have X3 := hi_ (blk_below X2.out hb)
   have Y3 := hi_ (blk_below Y2.out hb)
   have B3 := hi_ (below_then B2.out B2.out.size hb)
   clear hb X2 B2 y0 y1
   have y0 := blk_cell Y3.out 0
   have y1 := blk_cell Y3.out 1
   have f1 := blk_frozen Y3.out 1
   go_wp2_with fail
   have hkc : ((k : Int) + 1) = ((k + 1 : Nat) : Int) := by omega
   rw [hkc]
   have Y4 := hi_ (blk_put Y3.out 1 (.int .i64 ((k + 1 : Nat) : Int)) rfl)
   have X4 := hi_ (blk_far X3.out (p := ⟨q, 1, none⟩) (by have := HZ.out; show z ≠ q; omega) (.int .i64 ((k + 1 : Nat) : Int)))
   have B4 := hi_ (below_set (g := q) (j := 1) (v := .int .i64 ((k + 1 : Nat) : Int)) B3.out HZ.out.2.2)
   exact ⟨⟨k + 1, by have := HKN.out; omega, X4, Y4, B4⟩, by rw [boxN_eq Y4.out, boxN_eq Y2.out]; have := HKN.out; omega⟩
  ·obtain rfl : k = N := by omega
   clear hkN hk
   rcases HA.out with hf | hf
   ·obtain ⟨v, hv, hroom, hval⟩ := HW.out hf
    have HF := hi_ hf
    have CG := hi_ (int_Get_none wr t b L h D P r (HS.out.below B2.out) (HT.out.below B2.out) HLV.out.1 kvs HC.out HH.out (sumOf x) k om_ (HO.out.no k om_ hf))
    rw [← HSM.out] at CG
    have CKP := hi_ (fun W (hW : Below w.heap.size w W) => int_keep (fun P1 => VL P1 v x) m W t b L h D P r (HS.out.below hW) (HT.out.below hW) HLV.out kvs HC.out HCT.out (sumOf x) k x v hv hroom (fun W' hW' => hval W' (below_then hW hW.size hW')))
    rw [← HSM.out] at CKP
    clear hf hv hroom hval
    go_wp2_with fail
    refine CG.out.mono ?_
    clear CG
    rintro e w3 ⟨rfl, hb⟩
    have X3 := hi_ (blk_below X2.out hb)
    have Y3 := hi_ (blk_below Y2.out hb)
    have B3 := hi_ (below_then B2.out B2.out.size hb)
    clear hb X2 B2 y0 y1 Y2
    have y0 := blk_cell Y3.out 0
    have y1 := blk_cell Y3.out 1
    go_wp2_with fail
    refine (CKP.out w3 B3.out).mono ?_
    clear CKP
    rintro e w4 ⟨rfl, D', P', r', DM, P1, Z, hZ, hvl⟩
    have LO := lo_of HS.out HT.out
    have hF : ∀ k, ((L.foot k ∨ k = b) ∨ k = t) → k < w.heap.size := fun k hk => by
     rcases hk with h | rfl
     ·exact LO.lo k h
     ·exact LO.tl
    have K4 := hi_ ((Keep.below (F := fun k => (L.foot k ∨ k = b) ∨ k = t) B3.out).andThen DM.keep (fun i _ hf => hf))
    have X4 := hi_ (DM.keep.heap X3.out (fun hf => by have := hF _ hf; have := HZ.out; omega))
    have LO := hi_ LO
    have DM := hi_ DM
    have HVL := hi_ (show VL P' v x by rw [hZ]; exact HV.out.pre _ _ _ _ hvl)
    clear X3 Y3 hF hZ hvl y0 y1 B3
    have x0 := blk_cell X4.out 0
    have x1 := blk_cell X4.out 1
    have f0 := blk_frozen X4.out 0
    have f1 := blk_frozen X4.out 1
    go_wp2_with fail
    have Z5 := blk_put (blk_put X4.out 0 (.int .u32 sm) rfl) 1 (.int .i64 (k : Int)) rfl
    have hnb : Keep (fun k => w.heap.size ≤ k) w4 ((w4.setCell ⟨z, 0, none⟩ (.int .u32 sm)).setCell ⟨z, 1, none⟩ (.int .i64 (k : Int))) :=
     ((Keep.refl _ w4).setCell (p := ⟨z, 0, none⟩) (.inl (by have := HZ.out; show w.heap.size ≤ z; omega)) _).setCell (p := ⟨z, 1, none⟩) (.inl (by have := HZ.out; show w.heap.size ≤ z; omega)) _
    refine bodyPost_ret (PrintWords.results_list (rs := [.cell 6 77, .tmp 7, .tmp 8]) (vs := [.agg #[.int .u32 sm, .int .i64 (k : Int)], .bool true, .int .i64 0]) rfl (by simp) (.cell z 77 #[.int .u32 sm, .int .i64 (k : Int)] (0, 0) _ rfl Z5 Tryz.underlying77 rfl kr_ (.tmp (.tmp .nil)))) rfl ?_
    have TS4 := TS.hi (B := w.heap.size) ⟨DM.out.st, DM.out.tr, LO.out.lo, LO.out.tl⟩ hnb
    rw [HQ.out, ← HSM.out]
    exact .inr ⟨HF.out, rfl, D', P', r', v, ⟨TS4.st, TS4.tr, DM.out.tc, DM.out.live, DM.out.app, DM.out.most, K4.out.andThen hnb (fun i hi hf => by omega)⟩, HVL.out⟩
   ·obtain ⟨v, hv1, hv2⟩ := HO.out.yes k x om_ hf
    have HF := hi_ hf
    have CG := hi_ (int_Get_some wr t b L h D P r (HS.out.below B2.out) (HT.out.below B2.out) HLV.out.1 kvs HC.out HH.out (sumOf x) k om_ v x hv1 (fun W hW => HV.out.load W D P v x ((HS.out.below B2.out).below hW) HLV.out.1 hv2))
    rw [← HSM.out] at CG
    clear hf hv1 hv2
    go_wp2_with fail
    refine CG.out.mono ?_
    clear CG
    rintro e w3 ⟨rfl, hb⟩
    have X3 := hi_ (blk_below X2.out hb)
    have Y3 := hi_ (blk_below Y2.out hb)
    have B3 := hi_ (below_then B2.out B2.out.size hb)
    clear hb X2 B2 y0 y1 Y2
    have y0 := blk_cell Y3.out 0
    have y1 := blk_cell Y3.out 1
    have x0 := blk_cell X3.out 0
    have x1 := blk_cell X3.out 1
    have f0 := blk_frozen X3.out 0
    have f1 := blk_frozen X3.out 1
    go_wp2_with fail
    have Z5 := blk_put (blk_put X3.out 0 (.int .u32 sm) rfl) 1 (.int .i64 (k : Int)) rfl
    refine bodyPost_ret (PrintWords.results_list (rs := [.cell 6 77, .tmp 7, .tmp 8]) (vs := [.agg #[.int .u32 sm, .int .i64 (k : Int)], .bool false, .int .i64 0]) rfl (by simp) (.cell z 77 #[.int .u32 sm, .int .i64 (k : Int)] (0, 0) _ rfl Z5 Tryz.underlying77 rfl kr_ (.tmp (.tmp .nil)))) rfl ?_
    rw [HQ.out]
    exact .inl ⟨HF.out, by rw [HSM.out], below_set (below_set B3.out (by have := HZ.out; omega)) (by have := HZ.out; omega)⟩
end Go.Proofs.YtendgmblgdkiaaaGreat

namespace Go.Proofs.YtendgmblgdkiaaaGreat
open Go.RowKit
open Go.Proofs.YtendgmblgdkiaaaGreatW
open PrintWords PrintLast PrintMore
set_option linter.unusedVariables false
set_option linter.unusedSimpArgs false

/-- The values of short texts. -/
def VLin (P : List Pg) (v s : BA) : Prop := s.size ≤ 31 ∧ v = valIn s
theorem vals_in (L : Loc) (b h : Nat) : Vals L b h VLin :=
 ⟨fun W D P v s S up hv => by
  obtain ⟨h1, rfl⟩ := hv
  exact (int_Load_in b s W h1).mono fun _ _ ⟨he, hw⟩ => ⟨he, by rw [hw]; exact Below.refl _ _⟩, fun P X v s h => h⟩
theorem keyOf_inj {s s' : Int} {n n' : Nat} (hn : n < 256) (hn' : n' < 256) (h : keyOf s n = keyOf s' n') : four s = four s' ∧ n = n' := by
 have h := congrArg (fun b : BA => b.data.toList) h
 simp only [keyOf, bytes_app, strOfNums_data, List.map_cons, List.map_nil] at h
 have hl : ([115] ++ (four s).data.toList : List UInt8).length = ([115] ++ (four s').data.toList : List UInt8).length := by simp [four_size]
 obtain ⟨h1, h2⟩ := List.append_inj h hl
 obtain ⟨-, h3⟩ := List.append_inj h1 rfl
 have h4 := congrArg UInt8.toNat (List.cons.inj h2).1
 simp only [UInt8.toNat_ofNat'] at h4
 exact ⟨bytes_ext h3, by omega⟩

/-- A tree over pages that live, made by this call. -/
structure Made (w w' : World) (L : Loc) (b t : Nat) (D : Dk) (P : List Pg) (r : Rt) (kvs : List KV) : Prop where
 pg : Pgs w' L b 0 D P
 tr : TreeAt w' t b r
 tc : TreeC P r kvs
 bel : Below w.heap.size w w'
 hi : ∀ k, (L.foot k ∨ k = b) ∨ k = t → w.heap.size ≤ k
theorem Made.below {w w' w'' : World} {L : Loc} {b t : Nat} {D : Dk} {P : List Pg} {r : Rt} {kvs : List KV} (H : Made w w' L b t D P r kvs) (hb : Below w'.heap.size w' w'') : Made w w'' L b t D P r kvs :=
 ⟨H.pg.below hb, H.tr.below hb, H.tc, H.bel.trans (hb.mono H.bel.size), H.hi⟩
theorem Made.done {m : Nat} {w w' w'' : World} {L : Loc} {b t : Nat} {D D' : Dk} {P P' : List Pg} {r r' : Rt} {kvs kv' : List KV} (H : Made w w' L b t D P r kvs) (Dn : DoneM m w' w'' t b L 0 D P r D' P' r' kv') : Made w w'' L b t D' P' r' kv' :=
 ⟨⟨Dn.st, Dn.live⟩, Dn.tr, Dn.tc, ((Keep.below (F := fun _ => False) H.bel).andThen Dn.keep (fun i hi hf => by have := H.hi i hf; omega)).toBelow, H.hi⟩
set_option maxRecDepth 100000 in
theorem law_made (w : World) (n : Nat) (hn : n ≤ 30000) :
  Calls Tryz.prog 48 #[.int .i64 (n : Int)] w fun e w' => ∃ (L : Loc) (b t : Nat) (D : Dk), e = .returned (.tuple #[.pointer (some ⟨b, 0, none⟩), .pointer (some ⟨t, 0, none⟩)]) ∧ Made w w' L b t D [] ⟨-1, 0, 0⟩ [] ∧ D.room = n := by
 go_enter Tryz.func48, Tryz.ntmps48
 go_wp2_with fail
 refine (law_Half w n hn).mono ?_
 rintro e w1 ⟨L, b, D, rfl, hP, hr, hnew, hb⟩
 have HP := hi_ hP
 have HR := hi_ hr
 have HN := hi_ hnew
 have B1 := hi_ hb
 clear hP hr hnew hb
 go_wp2_with fail
 refine (tree_Empty w1).mono ?_
 rintro e w2 ⟨rfl, hb⟩
 have B2 := hi_ (below_then B1.out B1.out.size hb)
 have HP2 := hi_ (HP.out.below hb)
 clear hb HP
 go_wp2_with fail
 refine (tree_Open w2 b ⟨-1, 0, 0⟩).mono ?_
 rintro e w3 ⟨t, rfl, hT, ht, hb⟩
 have M := hi_ (show Made w w3 L b t D [] ⟨-1, 0, 0⟩ [] from ⟨HP2.out.below hb, hT, rootC_none [], below_then B2.out B2.out.size hb, by
  rintro k (h | rfl)
  ·exact HN.out k h
  ·exact Nat.le_trans B2.out.size ht⟩)
 clear hb hT ht
 go_wp2_with fail
 go_ret2
 exact ⟨L, b, t, D, rfl, M.out, HR.out⟩
end Go.Proofs.YtendgmblgdkiaaaGreat

namespace Go.Proofs.YtendgmblgdkiaaaGreat
open Go.RowKit
open Go.Proofs.YtendgmblgdkiaaaGreatW
open PrintWords PrintLast PrintMore
set_option linter.unusedVariables false
set_option linter.unusedSimpArgs false

theorem sum_0 : sumOf ⟨#[]⟩ = 4294967295 := by kernel_rfl
theorem sum_a : sumOf ⟨#[97]⟩ = 3865863316 := by kernel_rfl
/-- Put of a short text that is not there yet. -/
theorem put_new (w0 w : World) (L : Loc) (b t : Nat) (D : Dk) (P : List Pg) (r : Rt) (kvs : List KV) (M : Made w0 w L b t D P r kvs) (hct : kvs.length ≤ 100000000) (x : BA) (hx : x.size ≤ 31) (hr : (P.length : Int) + 2 * r.height + 1 ≤ D.room)
  (hno : ∀ n, n < 256 → ∀ v, (keyOf (sumOf x) n, v) ∉ kvs) :
  Calls Tryz.prog 51 #[.pointer (some ⟨t, 0, none⟩), .pointer (some ⟨b, 0, none⟩), .string x] w fun e w' =>
   e = .returned (.tuple #[.agg #[.int .u32 (sumOf x), .int .i64 0], .bool true, .int .i64 0]) ∧ ∃ D' P' r', DoneM 0 w w' t b L 0 D P r D' P' r' (ed (keyOf (sumOf x) 0) (some (valIn x)) kvs) := by
 refine (int_Put VLin 0 0 w t b L 0 D P r (vals_in L b 0) M.pg.st M.tr M.pg.live kvs M.tc hct x om_ (fun _ => none) ⟨fun n hn _ v => hno n hn v, fun n y _ h => by simp at h⟩ om_ (fun k hk => by omega) (.inl rfl)
  (fun _ => ⟨valIn x, valIn_ok hx, by simpa using hr, fun W hW => (int_Value_in b x W hx).mono ?_⟩)).mono ?_
 ·rintro e w' ⟨rfl, rfl⟩
  exact ⟨rfl, D, P, ⟨M.pg.st.below hW, M.pg.live, AppOk.refl M.pg.st.room M.pg.st.holds, rfl, Keep.below (Below.refl _ _)⟩, hx, rfl⟩
 ·rintro e w' (⟨h, -, -⟩ | ⟨-, rfl, D', P', r', v, dn, -, rfl⟩)
  ·simp at h
  ·exact ⟨rfl, D', P', r', dn⟩
set_option maxHeartbeats 1000000 in
set_option maxRecDepth 100000 in
theorem awake14 (w : World) : Calls Tryz.prog 47 #[] w fun e w' => e = .returned (.bool true) ∧ Below w.heap.size w w' := by
 go_enter Tryz.func47, Tryz.ntmps47
 go_wp2_with fail
 refine (law_made w 20 om_).mono ?_
 rintro e w1 ⟨L, b, t, D, rfl, M, hr⟩
 have M1 := hi_ M
 have R1 := hi_ hr
 clear M hr
 go_wp2_with fail
 refine (put_new w w1 L b t D [] ⟨-1, 0, 0⟩ [] M1.out (by simp) ⟨#[]⟩ (by decide) (by rw [R1.out]; decide) (fun n _ v => by simp)).mono ?_
 rintro e w2 ⟨rfl, D2, P2, r2, dn⟩
 have hD2 := hi_ (show D2.room = 20 ∧ P2.length ≤ 1 from ⟨dn.app.wr.room.trans R1.out, by have := dn.most; simp at this; omega⟩)
 have M2 := hi_ (M1.out.done dn)
 clear dn M1
 rw [sum_0] at M2
 simp only [sum_0]
 have hh2 := hi_ (M2.out.tc.low (m := 6) (by decide))
 go_wp2_with fail
 have X3 := hi_ (blk_new w2 (.cells #[.int .u32 4294967295, .int .i64 0] 77 (0, 0)))
 have M3 := hi_ (M2.out.below (below_alloc (Below.refl w2.heap.size w2) (.cells #[.int .u32 4294967295, .int .i64 0] 77 (0, 0))))
 have s3 := hi_ (World.size_alloc w2 (.cells #[.int .u32 4294967295, .int .i64 0] 77 (0, 0)))
 generalize w2.alloc (.cells #[.int .u32 4294967295, .int .i64 0] 77 (0, 0)) = w3 at *
 refine (put_new w w3 L b t D2 P2 r2 _ M3.out (by decide) ⟨#[97]⟩ (by decide) (by have := hD2.out; have := hh2.out; omega) (fun n hn v h => ?_)).mono ?_
 ·rcases mem_ed.1 h with h | ⟨h, -⟩
  ·have := congrArg four (show 0 = 0 from rfl)
   simp only [Prod.mk.injEq, sum_a] at h
   exact absurd (keyOf_inj hn om_ h.1).1 (by decide)
  ·cases h
 rintro e w4 ⟨rfl, D4, P4, r4, dn⟩
 rw [sum_a] at dn
 simp only [sum_a]
 have LO := lo_of M2.out.pg.st M2.out.tr
 have hF : Hid (∀ k, ((L.foot k ∨ k = b) ∨ k = t) → k < w2.heap.size) := hi_ (fun k hk => by
  rcases hk with h | rfl
  ·exact LO.lo k h
  ·exact LO.tl)
 have X4 := hi_ (dn.keep.heap X3.out (fun hf => by have := hF.out _ hf; omega))
 have M4 := hi_ (M3.out.done dn)
 have hz4 : Hid (w2.heap.size < w4.heap.size) := hi_ (by have := dn.keep.size; have := s3.out; omega)
 clear dn LO M2 M3 X3 s3 hh2 hD2
 go_wp2_with fail
 have X5 := hi_ (blk_alloc X4.out (.cells #[.int .u32 3865863316, .int .i64 0] 77 (0, 0)))
 have Y5 := hi_ (blk_new w4 (.cells #[.int .u32 3865863316, .int .i64 0] 77 (0, 0)))
 have M5 := hi_ (M4.out.below (below_alloc (Below.refl w4.heap.size w4) (.cells #[.int .u32 3865863316, .int .i64 0] 77 (0, 0))))
 generalize w4.alloc (.cells #[.int .u32 3865863316, .int .i64 0] 77 (0, 0)) = w5 at *
 have hm0 : (keyOf 4294967295 0, valIn ⟨#[]⟩) ∈ ed (keyOf 3865863316 0) (some (valIn ⟨#[97]⟩)) (ed (keyOf 4294967295 0) (some (valIn ⟨#[]⟩)) []) := mem_ed.2 (.inr ⟨mem_ed.2 (.inl rfl), fun h => absurd (keyOf_inj om_ om_ h).1 (by decide)⟩)
 have hct : Hid ((ed (keyOf 3865863316 0) (some (valIn ⟨#[97]⟩)) (ed (keyOf 4294967295 0) (some (valIn ⟨#[]⟩)) [])).length ≤ 100000000) := hi_ (Nat.le_trans (ed_len _ _ _) (by have := ed_len (keyOf 4294967295 0) (some (valIn ⟨#[]⟩)) []; simp only [List.length_nil] at this; omega))
 have hm1 : Hid ((keyOf 3865863316 0, valIn ⟨#[97]⟩) ∈ ed (keyOf 3865863316 0) (some (valIn ⟨#[97]⟩)) (ed (keyOf 4294967295 0) (some (valIn ⟨#[]⟩)) [])) := hi_ (mem_ed.2 (.inl rfl))
 refine (int_Put VLin 0 0 w5 t b L 0 D4 P4 r4 (vals_in L b 0) M5.out.pg.st M5.out.tr M5.out.pg.live _ M5.out.tc hct.out ⟨#[]⟩ (by decide) (fun n => if n = 0 then some ⟨#[]⟩ else none) ⟨fun n hn hno v h => ?_, fun n y hn hy => ?_⟩ om_ (fun k hk => by omega) (.inr rfl)
  (fun h => by simp at h)).mono ?_
 ·have hn0 : n ≠ 0 := fun h0 => by simp [h0] at hno
  rw [sum_0] at h
  rcases mem_ed.1 h with h | ⟨h, -⟩
  ·simp only [Prod.mk.injEq] at h
   exact absurd (keyOf_inj hn om_ h.1).1 (by decide)
  ·rcases mem_ed.1 h with h | ⟨h, -⟩
   ·simp only [Prod.mk.injEq] at h
    exact hn0 (keyOf_inj hn om_ h.1).2
   ·cases h
 ·by_cases hn0 : n = 0
  ·subst hn0
   simp only [if_true, Option.some.injEq] at hy
   subst hy
   rw [sum_0]
   exact ⟨_, hm0, by decide, rfl⟩
  ·simp [hn0] at hy
 clear hm0
 rintro e w6 (⟨-, rfl, hb⟩ | ⟨h, -, -⟩)
 rotate_left
 ·simp at h
 simp only [sum_0, show ((0 : Nat) : Int) = 0 from rfl]
 have X6 := hi_ (blk_below X5.out hb)
 have Y6 := hi_ (blk_below Y5.out hb)
 have M6 := hi_ (M5.out.below hb)
 have hz6 : Hid (w4.heap.size < w6.heap.size) := hi_ (blk_lt Y6.out)
 clear hb X5 Y5 M5 M4 X4
 have y0 := blk_cell (blk_alloc Y6.out (.cells #[.int .u32 4294967295, .int .i64 0] 77 (0, 0))) 0
 have y1 := blk_cell (blk_alloc Y6.out (.cells #[.int .u32 4294967295, .int .i64 0] 77 (0, 0))) 1
 go_wp2_with fail
 have X7 := hi_ (blk_alloc X6.out (.cells #[.int .u32 4294967295, .int .i64 0] 77 (0, 0)))
 have Y7 := hi_ (blk_alloc Y6.out (.cells #[.int .u32 4294967295, .int .i64 0] 77 (0, 0)))
 have Z7 := hi_ (blk_new w6 (.cells #[.int .u32 4294967295, .int .i64 0] 77 (0, 0)))
 have M7 := hi_ (M6.out.below (below_alloc (Below.refl w6.heap.size w6) (.cells #[.int .u32 4294967295, .int .i64 0] 77 (0, 0))))
 clear y0 y1
 generalize w6.alloc (.cells #[.int .u32 4294967295, .int .i64 0] 77 (0, 0)) = w7 at *
 clear X6 Y6 M6
 refine (int_Get_some w7 t b L 0 D4 P4 r4 M7.out.pg.st M7.out.tr M7.out.pg.live.1 _ M7.out.tc (M7.out.tc.small hct.out) 3865863316 0 om_ _ ⟨#[97]⟩ hm1.out (fun W hW => (int_Load_in b ⟨#[97]⟩ W (by decide)).mono fun _ _ ⟨he, hw⟩ => ⟨he, by rw [hw]; exact Below.refl _ _⟩)).mono ?_
 rintro e w8 ⟨rfl, hb⟩
 have X8 := hi_ (blk_below X7.out hb)
 have Y8 := hi_ (blk_below Y7.out hb)
 have Z8 := hi_ (blk_below Z7.out hb)
 have M8 := hi_ (M7.out.below hb)
 clear hb X7 Y7 Z7 M7
 have x0 := blk_cell X8.out 0
 have x1 := blk_cell X8.out 1
 have y0 := blk_cell Y8.out 0
 have y1 := blk_cell Y8.out 1
 have z0 := blk_cell Z8.out 0
 have z1 := blk_cell Z8.out 1
 go_wp2_with fail
 go_ret
 exact ⟨rfl, M8.out.bel⟩
end Go.Proofs.YtendgmblgdkiaaaGreat