/- (*tree.Tree).change at a branch, walked. (*tree.Tree).change, for Put at any level, for Delete at a leaf; and lift. (*tree.Tree).lift, walked. (*tree.Tree).apply, walked. (*tree.Tree).Get, walked. (*tree.Tree).Put, walked. Delete, Open, Root, Clone, walked; the calls as the laws use them: disks that -/
import Derived.Test.YtendgmblgdkiaaaGreatGTreeAnyOrder0
import Derived.Test.YtendgmblgdkiaaaGreatGTreeAnyOrder34
import Derived.Test.YtendgmblgdkiaaaGreatGTreeAnyOrder27
import Derived.Test.YtendgmblgdkiaaaGreatGTreeAnyOrder32
import Derived.Test.YtendgmblgdkiaaaGreatGTreeAnyOrder31
namespace Go.Proofs.YtendgmblgdkiaaaGreat
open Go.RowKit
open Go.Proofs.YtendgmblgdkiaaaGreatW
open PrintWords PrintLast PrintMore
attribute [local go_sem] max2_int
set_option linter.unusedVariables false
set_option linter.unusedSimpArgs false

theorem Bad.of {D D4 D5 : Dk} {P : List Pg} {er : Int} (h : Bad D4 D5 P er) (hl : D.Live → D4.Live) : Bad D D5 P er := by
 rcases h with h | ⟨h1, h2, h3⟩
 ·exact .inl h
 ·exact .inr ⟨h1, h2, fun l => h3 (hl l)⟩
set_option maxHeartbeats 1500000 in
set_option maxRecDepth 100000 in
theorem change_branch (B : Nat) (t b : Nat) (L : Loc) (h : Nat) (r : Rt) (key : BA) (ov : Option BA) (p1 p2 : Addr) (l : Nat)
  (IH : ∀ (w : World) (D : Dk) (P : List Pg) (page : Nat) (n : Nd) (kvs : List KV), ChPre B w t b L h D P r key ov p1 p2 (l + 1) page n kvs →
   Calls Tryz.prog 151 #[.pointer (some ⟨t, 0, none⟩), .int .i64 page, .int .i64 ((l + 1 : Nat) : Int), .string key, cloV ov p1 p2] w (ChPost B w t b L h D P r key ov (l + 1) n kvs))
  (w : World) (D : Dk) (P : List Pg) (page : Nat) (n : Nd) (kvs : List KV) (H : ChPre B w t b L h D P r key ov p1 p2 (l + 2) page n kvs) :
  Calls Tryz.prog 151 #[.pointer (some ⟨t, 0, none⟩), .int .i64 page, .int .i64 ((l + 2 : Nat) : Int), .string key, cloV ov p1 p2] w (ChPost B w t b L h D P r key ov (l + 2) n kvs) := by
 have HH := hi_ H
 obtain ⟨ps, hn, hkv, hps0, hon⟩ := cn_branch.1 H.cn
 subst hn
 subst hkv
 have hPs : Ps P (l + 1) ps := ⟨H.good, hon⟩
 have hroom := H.ts.st.room
 have hmost := room_le H.ts.st.d.ok
 have hlen : (branchOf ps).keys.length = ps.length := by simp [branchOf]
 have hlp : (branchOf ps).keys.length ≤ (branchOf ps).pack.size := le_packOf 2 (branchOf ps).keys (branchOf ps).vals (branchOf ps).kids
 have hok := branch_ok hPs om_ hps0 (by have := H.fit.size; omega)
 have hff := fit_few hok H.fit.size
 rw [hlen] at hff
 obtain ⟨pA, pt, pC, hsp, hAl, hed, hkey⟩ := child_split hPs hps0 key ov
 have hlow := H.low
 obtain ⟨lv, hlv⟩ : ∃ lv : Int, lv = ((l + 2 : Nat) : Int) := ⟨_, rfl⟩
 have hl1 : (lv == 1) = false := by simp; omega
 have hl2 : IntKind.i64.wrap (lv - 1) = ((l + 1 : Nat) : Int) := by rw [IntWalk.i64_in _ (by omega)]; omega
 have CR := tree_read w t b L h D P r H.ts.st H.ts.tr H.up page lv 2 (branchOf ps).keys (branchOf ps).vals (branchOf ps).kids H.pg hok.ok (H.fit.some) (by simp; omega)
 have hcf := child_f 2 (branchOf ps).keys (branchOf ps).vals (branchOf ps).kids key (rising_of (Ps.rise hPs.good hPs.on)) om_ 2000 om_
 have hci : childAt key (branchOf ps).keys = pA.length := hAl.symm
 rw [hci] at hcf
 have HCF := hi_ hcf
 have HSP := hi_ hsp
 have HED := hi_ hed
 have HKEY := hi_ hkey
 have HOK := hi_ hok
 have HF := hi_ hff
 have HPS := hi_ hPs
 have HLV := hi_ hlv
 rw [← hlv]
 clear H hon hps0 hPs hroom hmost hlen hlp hok hff hAl hed hkey hlow hci hcf hsp hlv
 go_enter Tryz.func151, Tryz.ntmps151
 go_wp2_with fail
 refine CR.mono ?_
 clear CR
 rintro e w1 ⟨v1, v2, v3, rfl, g1, g2, g3, hb⟩
 have NV := hi_ (show NodeV w.heap.size w1 (.agg #[.int .i64 2, v1, v2, v3]) (branchOf ps) from ⟨v1, v2, v3, rfl, g1, g2, g3⟩)
 obtain ⟨A1, c1, rfl⟩ := Kd.R_slice g1
 obtain ⟨A2, c2, rfl⟩ := Kd.R_slice g2
 obtain ⟨A3, c3, rfl⟩ := Kd.R_slice g3
 have hB1 := hi_ hb
 clear g1 g2 g3 hb
 go_upto_region 6 with fail
 have M2 : Hid (Mid B w t b L h r key ov p1 p2 (branchOf ps) A1 c1 A2 c2 A3 c3 w1.heap.size D P (w1.alloc (.cells #[.int .i64 2, .slice A1 (branchOf ps).keys.length c1, .slice A2 (branchOf ps).vals.length c2, .slice A3 (branchOf ps).kids.length c3] 149 (0, 0)))) := by
  have hb2 := below_alloc hB1.out (.cells #[.int .i64 2, .slice A1 (branchOf ps).keys.length c1, .slice A2 (branchOf ps).vals.length c2, .slice A3 (branchOf ps).kids.length c3] 149 (0, 0))
  exact hi_ ⟨HH.out.ts.below hb2, Keep.below hb2, (NV.out.lower HH.out.base).below (below_alloc (Below.refl w1.heap.size w1) _), heap_alloc_self w1 _, Nat.le_trans HH.out.base hB1.out.size, HH.out.cap.keep (Keep.below hb2)⟩
 generalize w1.alloc (.cells #[.int .i64 2, .slice A1 (branchOf ps).keys.length c1, .slice A2 (branchOf ps).vals.length c2, .slice A3 (branchOf ps).kids.length c3] 149 (0, 0)) = w2 at *
 obtain ⟨g, hg⟩ : ∃ g, g = w1.heap.size := ⟨_, rfl⟩
 rw [← hg] at M2 ⊢
 clear NV hB1 hg
 have x0 := blk_cell M2.out.bx 0
 have x1 := blk_cell M2.out.bx 1
 have x2 := blk_cell M2.out.bx 2
 have x3 := blk_cell M2.out.bx 3
 go_wp2_with fail
 obtain ⟨C1, k1, C2, k2, C3, k3⟩ := M2.out.nv.outs
 refine (PNd.tree_child.calls 2000 2 A1 c1 (branchOf ps).keys A2 c2 (branchOf ps).vals A3 c3 (branchOf ps).kids key _ w2 C1 k1 C2 k2 C3 k3 HCF.out).mono ?_
 clear C1 k1 C2 k2 C3 k3 x0 x1 x2 x3
 rintro e w3 ⟨rfl, hb⟩
 have M3 := hi_ (M2.out.below hb)
 clear M2 hb
 have x3 := blk_cell M3.out.bx 3
 have hidx : (pA.length : Int) < ((branchOf ps).kids.length : Int) := by rw [HSP.out]; simp [branchOf]; omega
 have hkd : (branchOf ps).kids.getD pA.length 0 = (pt.c : Int) := by
  rw [HSP.out]
  simp [branchOf, List.getD_eq_getElem?_getD]
 obtain ⟨ad, c, rfl, hcl, hcK, hcc⟩ := Kd.C_get M3.out.nv.outs.2.2.2.2.1 0 (pA.length : Int) om_ hidx
 have hK : c = [.int .i64 (pt.c : Int)] := by
  simp only [Kd.int, Kd.scalar, Int.toNat_natCast, hkd] at hcK
  exact hcK
 have z0 : w3.cell? (ad.add pA.length) = some (.int .i64 (pt.c : Int)) := by
  have := hcc 0 (.int .i64 (pt.c : Int)) (by rw [hK]; rfl)
  simpa [Kd.int, Kd.scalar] using this
 have k3 := M3.out.nv.outs.2.2.2.2.2
 clear hcc hcK hcl hkd hK
 go_wp2_with fail
 obtain ⟨o1, o2, m, hm1, hm2, hm3, hm4⟩ := HPS.out.on pt (by rw [HSP.out]; simp)
 have hgood := HPS.out.good
 have hkvs : kvsOf ps = kvsOf pA ++ (pt.kv ++ kvsOf pC) := by rw [HSP.out, kvsOf_app, kvsOf_cons]
 have hgp : Good pt.kv := by rw [hkvs] at hgood; exact (good_app (good_app hgood).2.1).1
 refine (IH w3 D P pt.c m pt.kv ⟨Nat.le_trans HH.out.base M3.out.kp.size, M3.out.ts, HH.out.up, M3.out.cap, hm1, hm2, hm4, hgp, HH.out.kok, HH.out.vok, fun e => by
  obtain ⟨v, hv⟩ := HH.out.del e
  exact ⟨v, HKEY.out v hv⟩, by have := HH.out.low; omega, fun _ => hm3⟩).mono ?_
 have HM := hi_ hm3
 clear o1 o2 hm1 hm2 hm3 hm4 hgood hkvs hgp z0 k3 x3 hidx
 rintro e w4 ⟨D4, P4, T4, A4, K4, hres⟩
 have M4 := hi_ (M3.out.step T4 K4)
 have A4 := hi_ A4
 clear T4 K4 M3
 rcases hres with ⟨v4, l4, n4, rfl, NL4, hpo4, hs4, hc4, up4, hle4, hmore4, hne4⟩ | ⟨er, rfl, hbad, hlt⟩
 ·have NL4 := hi_ NL4
  have hpo4 := hi_ hpo4
  have hs4 := hi_ hs4
  have hc4 := hi_ hc4
  have up4 := hi_ up4
  have hle4 := hi_ hle4
  have HMO := hi_ (show ∀ v, ov = some v → 2 ≤ n4.keys.length from fun v hv => by have := hmore4 v hv; have := HM.out; omega)
  clear hmore4 hne4
  go_upto_region 11 with fail
  obtain ⟨wx, hwx⟩ : ∃ wx, wx = w4 := ⟨_, rfl⟩
  rw [← hwx] at M4 NL4 ⊢
  have MX := M4
  have NLX := NL4
  clear M4 hwx
  rcases NL4.out with ⟨a, y, gr, hl, hv, -, -, -⟩ | ⟨a, b', y, z, gr, hl, hv, -, -, -, -⟩
  ·obtain ⟨nn, B1, d1, B2, d2, B3, d3, hn0, y0, y1, y2, y3, NY⟩ := NodesV.at (by rw [hv] at NLX; exact NLX.out) (show 0 < 1 by omega)
   have hnn : Hid (nn = n4) := hi_ (by
    rw [hl] at hn0
    have h1 : nn = a := by simpa using hn0.symm
    rcases hpo4.out with ⟨-, e⟩ | ⟨c, -, -, -, -, e⟩
    ·rw [e] at hl
     have h2 : n4 = a := by simpa using hl
     exact h1.trans h2.symm
    ·rw [e] at hl; simp at hl)
   have HL4 : Hid (l4 = [nn]) := hi_ (by rw [hl] at hn0 ⊢; have h1 : nn = a := (by simpa using hn0.symm); rw [h1])
   subst hv
   have NY := hi_ NY
   clear hl hn0
   by_cases hshort : (nn.keys.length : Int) < 2
   ·as_aux_lemma =>
    have hnone : ov = none := by
     cases ov with
     | none => rfl
     | some v => have h1 := HMO.out v rfl; have h2 := hnn.out; subst h2; omega
    have HNO := hi_ hnone
    have hn1 : nn.keys.length ≤ 1 := by omega
    have HN1 := hi_ hn1
    have hlen2 : (1 : Int) < ((branchOf ps).keys.length : Int) := by have := HH.out.two om_; omega
    have HLB : Hid ((branchOf ps).keys.length = ps.length) := hi_ (List.length_map _)
    obtain ⟨iz, hiz⟩ : ∃ iz : Int, iz = (pA.length : Int) := ⟨_, rfl⟩
    rw [← hiz]
    have hiz0 : 0 ≤ iz := by omega
    have hiz1 : iz ≤ 100000 := by have := HF.out; have e := congrArg List.length HSP.out; rw [List.length_append] at e; omega
    have HIZ := hi_ hiz
    clear hnone hn1 hiz
    go_wp2_with fail
    obtain ⟨C1, k1, C2, k2, C3, k3⟩ := NY.out.outs
    refine (PNd.node_Node_Len.calls nn.kind B1 d1 nn.keys B2 d2 nn.vals B3 d3 nn.kids (nn.keys.length : Int) wx C1 k1 C2 k2 C3 k3 rfl).mono ?_
    clear C1 k1 C2 k2 C3 k3 y0 y1 y2 y3
    rintro e wy ⟨rfl, hb⟩
    replace MX := hi_ (MX.out.below hb)
    replace NLX := hi_ (NLX.out.below hb)
    clear hb NY NL4
    obtain ⟨wx, hwx⟩ : ∃ wx, wx = wy := ⟨_, rfl⟩
    rw [← hwx] at MX NLX ⊢
    clear hwx
    have x0 := blk_cell MX.out.bx 0
    have x1 := blk_cell MX.out.bx 1
    have x2 := blk_cell MX.out.bx 2
    have x3 := blk_cell MX.out.bx 3
    go_wp2_with fail
    obtain ⟨C1, k1, C2, k2, C3, k3⟩ := MX.out.nv.outs
    refine (PNd.node_Node_Len.calls 2 A1 c1 (branchOf ps).keys A2 c2 (branchOf ps).vals (some ad) c3 (branchOf ps).kids ((branchOf ps).keys.length : Int) wx C1 k1 C2 k2 C3 k3 rfl).mono ?_
    clear C1 k1 C2 k2 C3 k3 x0 x1 x2 x3
    rintro e wy ⟨rfl, hb⟩
    replace MX := hi_ (MX.out.below hb)
    replace NLX := hi_ (NLX.out.below hb)
    clear hb
    obtain ⟨wx, hwx⟩ : ∃ wx, wx = wy := ⟨_, rfl⟩
    rw [← hwx] at MX NLX ⊢
    clear hwx
    have HBX : Hid (B ≤ wx.heap.size) := hi_ (Nat.le_trans HH.out.base MX.out.kp.size)
    rcases Int.lt_or_eq_of_le hiz0 with hi0 | hi0
    ·as_aux_lemma =>
     obtain ⟨q, rfl⟩ : ∃ q : Nat, iz = (q : Int) + 1 := ⟨(iz - 1).toNat, by omega⟩
     obtain ⟨pA', po, hpa⟩ : ∃ pA' po, pA = pA' ++ [po] := by
      rcases List.eq_nil_or_concat pA with h | ⟨x, y, h⟩
      ·exfalso; have e := HIZ.out; rw [h] at e; simp at e; omega
      ·exact ⟨x, y, by simpa using h⟩
     have hq : pA'.length = q := by have e := HIZ.out; rw [hpa] at e; simp at e; omega
     have HSPJ : Hid (ps = pA' ++ [po, pt] ++ pC) := hi_ (by rw [HSP.out, hpa]; simp)
     have HEDJ : Hid (ed key ov (kvsOf ps) = kvsOf pA' ++ (po.kv ++ ed key ov pt.kv) ++ kvsOf pC) := hi_ (by rw [HED.out, hpa, kvsOf_app]; simp [kvsOf_cons, kvsOf, List.append_assoc])
     have hkid : ps[q]? = some po := by rw [HSPJ.out, ← hq]; simp
     obtain ⟨pA, hpA2⟩ : ∃ x, x = pA' := ⟨_, rfl⟩
     rw [← hpA2] at HSPJ HEDJ hq
     have HFR : Hid ((q : Int) = (pA.length : Int)) := hi_ (by rw [hq])
     have HTO : Hid ((q : Int) + 2 = ((pA.length + [po, pt].length : Nat) : Int)) := hi_ (by rw [hq]; simp)
     have hi2 : max (q : Int) 0 = (q : Int) := by omega
     have hi3 : ((q : Int) == (q : Int) + 1) = false := by simp; omega
     have hb1 : (q : Int) < ((branchOf ps).kids.length : Int) := by have e : (branchOf ps).kids.length = ps.length := List.length_map _; have h2 := (List.getElem?_eq_some_iff.1 hkid).1; omega
     have hb2 : (q : Int) < (q : Int) + 1 := by omega
     obtain ⟨o1, o2, m, hm1, hm2, hm3, hm4⟩ := HPS.out.on po (List.mem_of_getElem? hkid)
     have hgw : Good (ed key ov (kvsOf ps)) := ed_good HH.out.good HH.out.kok HH.out.vok
     rw [HEDJ.out] at hgw
     have hgJ := (good_app (good_app hgw).1).2.1
     have gpo : Good po.kv := (good_app hgJ).1
     have hmost := room_le MX.out.ts.st.d.ok
     have hroom := MX.out.ts.st.room
     have hm1' : P4[po.c]? = some m.page := by
      obtain ⟨X, hX⟩ := A4.out.pre
      rw [hX, List.getElem?_append_left (List.getElem?_eq_some_iff.1 hm1).1]; exact hm1
     have hm4' : Cn P4 (l + 1) m po.kv := by
      obtain ⟨X, hX⟩ := A4.out.pre
      rw [hX]; exact hm4.pre
     have hlp : m.keys.length ≤ m.pack.size := le_packOf m.kind m.keys m.vals m.kids
     have hmok := cn_ok hm4' gpo om_ (by have := hm2.size; omega)
     have hmf := fit_few hmok hm2.size
     have CR := hi_ (tree_read wx t b L h D4 P4 r MX.out.ts.st MX.out.ts.tr up4.out po.c ((l + 1 : Nat) : Int) m.kind m.keys m.vals m.kids hm1' hmok.ok hm2.some (by rw [(cn_kind hm4').1]; simp; omega))
     have hcn : Cn P4 (l + 1) nn (ed key ov pt.kv) := by rw [hnn.out]; exact hc4.out
     have hsn : nn.Short := by rw [hnn.out]; exact hs4.out
     have HJ := hi_ (join_ok hm4' hcn hgJ om_ (by have h1 := short_one hsn HN1.out; omega) (by have := HN1.out; omega))
     have HGJ := hi_ hgJ
     have LM := hi_ (lens_ok hmok (show m.keys.length ≤ 1000 by omega))
     have LN := hi_ (shape_lens hsn.shape (show nn.keys.length ≤ 1000 by have := HN1.out; omega))
     have H2J : Hid (2 ≤ (m.join nn).keys.length) := hi_ (by simp only [Nd.join, List.length_append]; omega)
     have z0 := kid_cell MX.out.nv.outs.2.2.2.2.1 hkid
     have k3 := MX.out.nv.outs.2.2.2.2.2
     have x3 := blk_cell MX.out.bx 3
     clear hcn hsn hkid hm1 hm2 hm3 hm4 hgw hgJ gpo hmost hroom hm1' hm4' hlp hmok hmf o1 o2 hpA2 hpa hq
     go_wp2_with fail
     refine CR.out.mono ?_
     clear CR
     rintro e wy ⟨v1, v2, v3, rfl, g1, g2, g3, hb⟩
     have NM := hi_ (show NodeV wx.heap.size wy (.agg #[.int .i64 m.kind, v1, v2, v3]) m from ⟨v1, v2, v3, rfl, g1, g2, g3⟩)
     obtain ⟨E1, e1, rfl⟩ := Kd.R_slice g1
     obtain ⟨E2, e2, rfl⟩ := Kd.R_slice g2
     obtain ⟨E3, e3, rfl⟩ := Kd.R_slice g3
     replace MX := hi_ (MX.out.below hb)
     replace NLX := hi_ (NLX.out.below hb)
     have BX := hi_ HBX.out
     clear g1 g2 g3 hb z0 x3 k3 HBX
     go_upto_region 22 with fail
     have XM := hi_ (blk_new wy (.cells #[.int .i64 m.kind, .slice E1 m.keys.length e1, .slice E2 m.vals.length e2, .slice E3 m.kids.length e3] 149 (0, 0)))
     replace NM := hi_ ((NM.out.lower BX.out).below (below_alloc (Below.refl wy.heap.size wy) (.cells #[.int .i64 m.kind, .slice E1 m.keys.length e1, .slice E2 m.vals.length e2, .slice E3 m.kids.length e3] 149 (0, 0))))
     replace MX := hi_ (MX.out.below (below_alloc (Below.refl wy.heap.size wy) (.cells #[.int .i64 m.kind, .slice E1 m.keys.length e1, .slice E2 m.vals.length e2, .slice E3 m.kids.length e3] 149 (0, 0))))
     replace NLX := hi_ (NLX.out.below (below_alloc (Below.refl wy.heap.size wy) (.cells #[.int .i64 m.kind, .slice E1 m.keys.length e1, .slice E2 m.vals.length e2, .slice E3 m.kids.length e3] 149 (0, 0))))
     generalize wy.alloc (.cells #[.int .i64 m.kind, .slice E1 m.keys.length e1, .slice E2 m.vals.length e2, .slice E3 m.kids.length e3] 149 (0, 0)) = wz at *
     obtain ⟨gm, hgm⟩ : ∃ gm, gm = wy.heap.size := ⟨_, rfl⟩
     rw [← hgm] at XM ⊢
     clear hgm
     skip
     obtain ⟨nn', B1, d1, B2, d2, B3, d3, hn0, y0, y1, y2, y3, NY⟩ := NLX.out.at (show 0 < 1 by omega)
     obtain rfl : nn = nn' := by rw [HL4.out] at hn0; simpa using hn0
     simp only [Nat.zero_mul, Nat.zero_add] at y0 y1 y2 y3
     have F0 := hi_ (show Jac gm gr (.int .i64 m.kind) (.slice E1 m.keys.length e1) (.slice E2 m.vals.length e2) (.slice E3 m.kids.length e3) (.int .i64 nn.kind) (.slice B1 nn.keys.length d1) (.slice B2 nn.vals.length d2) (.slice B3 nn.kids.length d3) wz from ⟨blk_cell XM.out 0, blk_cell XM.out 1, blk_cell XM.out 2, blk_cell XM.out 3, y0, y1, y2, y3⟩)
     have BW := hi_ (show B ≤ wz.heap.size from Nat.le_trans HH.out.base MX.out.kp.size)
     have CJ := hi_ (fun W (hW : Below wz.heap.size wz W) => (node_Join W B (.agg #[.int .i64 m.kind, .slice E1 m.keys.length e1, .slice E2 m.vals.length e2, .slice E3 m.kids.length e3]) (.agg #[.int .i64 nn.kind, .slice B1 nn.keys.length d1, .slice B2 nn.vals.length d2, .slice B3 nn.kids.length d3]) m nn (Nat.le_trans BW.out hW.size) (NM.out.below hW) (NY.below hW) LM.out LN.out).mono (fun (e : Ending) (w' : World) ⟨v, he, hN, hb⟩ => (⟨v, he, hN, hW.trans (hb.mono hW.size), F0.out.below (hW.trans (hb.mono hW.size))⟩ : ∃ v, e = Ending.returned v ∧ NodeV B w' v (m.join nn) ∧ Below wz.heap.size wz w' ∧ Jac gm gr (.int .i64 m.kind) (.slice E1 m.keys.length e1) (.slice E2 m.vals.length e2) (.slice E3 m.kids.length e3) (.int .i64 nn.kind) (.slice B1 nn.keys.length d1) (.slice B2 nn.vals.length d2) (.slice B3 nn.kids.length d3) w')))
     have CPt := hi_ (fun W v (hW : Below wz.heap.size wz W) (hN : NodeV B W v (m.join nn)) => (tree_parts W B v _ (Nat.le_trans BW.out hW.size) hN HJ.out.2).mono (fun (e : Ending) (w' : World) ⟨v', l', he, hp, hN', hb⟩ => (⟨v', l', he, hp, hN', hW.trans (hb.mono hW.size), F0.out.below (hW.trans (hb.mono hW.size))⟩ : ∃ v' l', e = Ending.returned v' ∧ PartsOf (m.join nn) l' ∧ NodesV B w' v' l' ∧ Below wz.heap.size wz w' ∧ Jac gm gr (.int .i64 m.kind) (.slice E1 m.keys.length e1) (.slice E2 m.vals.length e2) (.slice E3 m.kids.length e3) (.int .i64 nn.kind) (.slice B1 nn.keys.length d1) (.slice B2 nn.vals.length d2) (.slice B3 nn.kids.length d3) w')))
     have HB0 := hi_ (Below.refl wz.heap.size wz)
     clear y0 y1 y2 y3 NY hn0
     go_region_held3 (fun w' => w'.cell? ⟨gm, 0, none⟩ = some (.int .i64 m.kind) ∧ w'.cell? ⟨gm, 1, none⟩ = some (.slice E1 m.keys.length e1) ∧ w'.cell? ⟨gm, 2, none⟩ = some (.slice E2 m.vals.length e2) ∧ w'.cell? ⟨gm, 3, none⟩ = some (.slice E3 m.kids.length e3) ∧ w'.cell? ⟨gr, 0, none⟩ = some (.int .i64 nn.kind) ∧ w'.cell? ⟨gr, 1, none⟩ = some (.slice B1 nn.keys.length d1) ∧ w'.cell? ⟨gr, 2, none⟩ = some (.slice B2 nn.vals.length d2) ∧ w'.cell? ⟨gr, 3, none⟩ = some (.slice B3 nn.kids.length d3))
      (first | exact F0.out | (with_reducible assumption) | (show Jac _ _ _ _ _ _ _ _ _ _ _; repeat (first | (with_reducible assumption) | exact F0.out | refine Jac.drewN ?_ _ | refine Jac.drew ?_)))
      (first
       | (go_at_call 191; (with_reducible refine (CJ.out _ ?_).mono ?_); (repeat (first | (with_reducible assumption) | exact HB0.out | refine bel_drewN ?_ _ | refine bel_drew ?_)); rintro e w1 ⟨vj, rfl, nj, b1, f1⟩)
       | (go_at_call 190; (with_reducible refine (CPt.out _ _ ?_ nj).mono ?_); (repeat (first | (with_reducible assumption) | exact HB0.out | refine bel_drewN ?_ _ | refine bel_drew ?_)); rintro e w2 ⟨vp, lJ, rfl, hpJ, nlJ, b2, f2⟩))
     replace MX := hi_ (MX.out.below b2)
     replace NLX := hi_ nlJ
     have hpo4 := hi_ hpJ
     have hgX := HGJ
     have hc4 := hi_ HJ.out.1
     have hs4 := hi_ HJ.out.2
     have HML : Hid (∀ v, ov = some v → ([po, pt]).length = 1) := hi_ (fun v hv => by have := HNO.out; rw [this] at hv; cases hv)
     have HM1 : Hid (0 < ([po, pt]).length) := hi_ (by simp)
     have HSPL := HSPJ
     have HEDX := HEDJ
     obtain ⟨n4, hn4⟩ : ∃ x, x = m.join nn := ⟨_, rfl⟩
     rw [← hn4] at hpo4 hc4 hs4 H2J
     obtain ⟨l4, hl4⟩ : ∃ x, x = lJ := ⟨_, rfl⟩
     rw [← hl4] at hpo4 NLX
     obtain ⟨pM, hpM⟩ : ∃ x, x = [po, pt] := ⟨_, rfl⟩
     rw [← hpM] at HML HM1 HSPL HTO
     obtain ⟨pD, hpD⟩ : ∃ x, x = pC := ⟨_, rfl⟩
     rw [← hpD] at HSPL HEDX
     have h24 : Hid (l4 = [n4] → 2 ≤ n4.keys.length) := hi_ (fun _ => H2J.out)
     obtain ⟨v4, hv4⟩ : ∃ x, x = vp := ⟨_, rfl⟩
     rw [← hv4] at NLX ⊢
     obtain ⟨wx, hwx⟩ : ∃ x, x = w2 := ⟨_, rfl⟩
     rw [← hwx] at MX NLX ⊢
     clear hn4 hl4 hpM hpD hv4 hwx hpJ nlJ f1 f2 b1 b2 nj HSPJ HEDJ HGJ HJ H2J
     go_upto_region 23 with fail
     (try clear hi0); (try clear hi2); (try clear hi3); (try clear hb2); (try clear hm0); (try clear hb1); (try clear hshort); (try clear hlen2); (try clear hiz0); (try clear hiz1)
     -- the nodes are written, and take the place of what was
     obtain ⟨HFit, qs, hq1, hq2, hq3, hq4, hq5, hq6, hq7⟩ := new_pts hc4.out hgX.out (by have := MX.out.ts.st.room; have := room_le MX.out.ts.st.d.ok; omega) hs4.out hpo4.out h24.out
     have HQ1 := hi_ hq1
     have HQ2 := hi_ hq2
     have HQ3 := hi_ hq3
     have HQ4 := hi_ hq4
     have HQ6 := hi_ hq6
     have HQ7 := hi_ hq7
     have HL2 : Hid (l4.length ≤ 2) := hi_ om_
     have CW := hi_ (tree_write wx B t b L h D4 P4 r _ l4 (Nat.le_trans HH.out.base MX.out.kp.size) MX.out.ts up4.out NLX.out HFit)
     clear hq1 hq2 hq3 hq4 hq5 hq6 hq7 HFit
     go_wp2_with fail
     refine CW.out.mono ?_
     clear CW
     rintro e w5 ⟨D5, P5, T5, A5, K5, hres⟩
     have M5 := hi_ (MX.out.step T5 K5)
     have A5 := hi_ (A4.out.trans A5)
     clear T5
     rcases hres with ⟨u1, u2, rfl, r1, r2, hP5, up5⟩ | ⟨er, rfl, hbad, hlt⟩
     ·obtain ⟨ks, hks⟩ : ∃ ks, ks = l4.map Nd.least := ⟨_, rfl⟩
      obtain ⟨cs, hcs⟩ : ∃ cs, cs = pagesFrom P4.length l4.length := ⟨_, rfl⟩
      rw [← hks] at r1
      rw [← hcs] at r2
      have HKS := hi_ hks
      have HCS := hi_ hcs
      clear hks hcs
      have hR1 := hi_ r1
      have hR2 := hi_ r2
      obtain ⟨U1, d1, rfl⟩ := Kd.R_slice r1
      obtain ⟨U2, d2, rfl⟩ := Kd.R_slice r2
      have HP5 := hi_ hP5
      have up5 := hi_ up5
      clear r1 r2 hP5 K5 MX NLX
      have x0 := blk_cell M5.out.bx 0
      have x1 := blk_cell M5.out.bx 1
      have x2 := blk_cell M5.out.bx 2
      have x3 := blk_cell M5.out.bx 3
      go_wp2_with fail
      obtain ⟨C1, k1, C2, k2, C3, k3⟩ := M5.out.nv.outs
      obtain ⟨-, e1', E1⟩ := Kd.R_reads' hR1.out
      obtain ⟨-, e2', E2⟩ := Kd.R_reads' hR2.out
      have hS5 := swap_ok (P := P) (P' := P5) (l := l + 1) (A := pA) (B := pM) (C := pD) (qs := qs) (by rw [← HSPL.out]; exact HPS.out) HM1.out (by rw [← HSPL.out]; exact HH.out.fit) A5.out.pre (by have := M5.out.ts.st.room; have := room_le M5.out.ts.st.d.ok; omega) (by rw [HP5.out]; exact HQ7.out) HQ4.out HQ6.out (by rw [HQ3.out, ← HEDX.out]; exact ed_good HH.out.good HH.out.kok HH.out.vok)
      obtain ⟨s1, s2, s3, s4⟩ := hS5
      rw [← HSPL.out, HQ1.out, HQ2.out, ← HKS.out, ← HCS.out] at s1
      have f1 : pA.length + pM.length ≤ (branchOf ps).keys.length := by have e : (branchOf ps).keys.length = ps.length := List.length_map _
                                                                        rw [e, HSPL.out]; simp only [List.length_append]; omega
      have f2 : (branchOf ps).kids.length = (branchOf ps).keys.length := by simp [branchOf]
      have f3 : 0 < ks.length := by rw [HKS.out, ← HQ1.out, List.length_map]; exact List.length_pos_iff.2 HQ4.out
      have f4 : cs.length = ks.length := by rw [HKS.out, HCS.out, pagesFrom_length, List.length_map]
      have f5 : (branchOf ps).keys.length + ks.length ≤ 100000 := by
       have e : (branchOf ps).keys.length = ps.length := List.length_map _
       have h1 := HF.out.2
       have h2 := HL2.out
       rw [e, HKS.out, List.length_map]
       omega
      have hsf := swap_f 2 (branchOf ps).keys (branchOf ps).vals (branchOf ps).kids pA.length (pA.length + pM.length) ks cs om_ f1 f2 f3 f4 f5
      clear f1 f2 f3 f4 f5
      rw [← HTO.out, ← HFR.out] at hsf
      refine (PNd.tree_swap.calls 2 A1 c1 (branchOf ps).keys A2 c2 (branchOf ps).vals (some ad) c3 (branchOf ps).kids _ _ U1 d1 _ U2 d2 _ _ _ _ _ w5 C1 k1 C2 k2 C3 k3 E1 e1' E2 e2' hsf).mono ?_
      clear C1 k1 C2 k2 C3 k3 E1 E2 e1' e2' hsf x0 x1 x2 x3
      rintro e w6 ⟨v1, v2, v3, rfl, g1, g2, g3, hb⟩
      have N6 := hi_ (show NodeV B w6 (.agg #[.int .i64 2, v1, v2, v3]) (branchOf (pA ++ qs ++ pD)) from by
       rw [s1]
       exact ⟨v1, v2, v3, rfl, Kd.R_lower (Kd.R_mono g1 (fun _ _ => trivial)) (Nat.le_trans HH.out.base M5.out.kp.size), Kd.R_lower (Kd.R_mono g2 (fun _ _ => trivial)) (Nat.le_trans HH.out.base M5.out.kp.size), Kd.R_lower (Kd.R_mono g3 (fun _ _ => trivial)) (Nat.le_trans HH.out.base M5.out.kp.size)⟩)
      have M6 := hi_ (M5.out.below hb)
      have HS2 := hi_ s2
      have HS3 := hi_ s3
      have HS4 := hi_ s4
      clear g1 g2 g3 hb s1 s2 s3 s4 M5
      go_wp2_with fail
      refine (tree_parts w6 B _ _ (Nat.le_trans HH.out.base M6.out.kp.size) N6.out HS2.out).mono ?_
      rintro e w7 ⟨v7, l7, rfl, hpo, NL, hb⟩
      have NL := hi_ NL
      have hpo := hi_ hpo
      have M7 := hi_ (M6.out.below hb)
      clear hb M6
      go_wp2_with fail
      go_ret2
      refine ⟨D5, P5, M7.out.ts, A5.out, M7.out.kp, .inl ⟨_, l7, _, rfl, NL.out, hpo.out, HS2.out, ?_, up5.out, ?_, ?_, ?_⟩⟩
      ·refine ⟨_, rfl, ?_, ?_, HS3.out.on⟩
       ·rw [HS4.out, HQ3.out, HEDX.out]
       ·intro e
        have := congrArg List.length e
        have := List.length_pos_iff.2 HQ4.out
        simp only [List.length_append, List.length_nil] at *
        omega
      ·rw [HP5.out, List.length_append, List.length_map]
       have := hle4.out
       have := HL2.out
       omega
      ·intro x e
       have e1 : (branchOf ps).keys.length = ps.length := List.length_map _
       have e2 : (branchOf (pA ++ qs ++ pD)).keys.length = (pA ++ qs ++ pD).length := List.length_map _
       rw [e1, e2, HSPL.out]
       have := List.length_pos_iff.2 HQ4.out
       have := HML.out x e
       simp only [List.length_append]
       omega
      ·intro _
       have := List.length_pos_iff.2 HQ4.out
       refine ⟨by simp [branchOf]; omega, ?_⟩
       obtain ⟨X, hX⟩ := A4.out.pre
       have h1 := congrArg List.length HQ1.out
       rw [List.length_map, List.length_map] at h1
       rw [HP5.out, hX, List.length_append, List.length_append, List.length_map]
       omega
     ·have hbad := hi_ hbad
      have hlt := hi_ hlt
      have her : (er == 0) = false := by have := hbad.out; unfold Bad at this; simp; omega
      go_wp2_with fail
      go_ret2
      exact ⟨D5, P5, M5.out.ts, A5.out, M5.out.kp, .inr ⟨er, rfl, Bad.of hbad.out A4.out.wr.live, by have := hlt.out; have := hle4.out; have := HL2.out; omega⟩⟩
    ·as_aux_lemma =>
     have hi0 := hi0.symm
     subst hi0
     have hm0 : max (-1 : Int) 0 = 0 := rfl
     have hid1 : (1 : Int).toNat = 1 := rfl
     have hpA : pA = [] := List.eq_nil_of_length_eq_zero (by have := HIZ.out; omega)
     obtain ⟨po, pC', hpc⟩ : ∃ po pC', pC = po :: pC' := by
      cases hC : pC with
      | nil => exfalso; have e := congrArg List.length HSP.out; rw [hpA, hC] at e; have h2 := HLB.out; simp at e; omega
      | cons a b => exact ⟨a, b, rfl⟩
     have HSPJ : Hid (ps = pA ++ [pt, po] ++ pC') := hi_ (by rw [HSP.out, hpc]; simp)
     have HEDJ : Hid (ed key ov (kvsOf ps) = kvsOf pA ++ (ed key ov pt.kv ++ po.kv) ++ kvsOf pC') := hi_ (by rw [HED.out, hpc, kvsOf_cons]; simp only [List.append_assoc])
     have hkid : ps[1]? = some po := by rw [HSPJ.out, hpA]; rfl
     obtain ⟨pA, hpA2⟩ : ∃ x, x = pA := ⟨_, rfl⟩
     rw [← hpA2] at HSPJ HEDJ
     have HFR : Hid ((0 : Int) = (pA.length : Int)) := hi_ (by rw [hpA2, hpA]; rfl)
     have HTO : Hid ((2 : Int) = ((pA.length + [pt, po].length : Nat) : Int)) := hi_ (by rw [hpA2, hpA]; rfl)
     have hb1 : (1 : Int) < ((branchOf ps).kids.length : Int) := by have e : (branchOf ps).kids.length = ps.length := List.length_map _; have h2 := HLB.out; omega
     obtain ⟨o1, o2, m, hm1, hm2, hm3, hm4⟩ := HPS.out.on po (List.mem_of_getElem? hkid)
     have hgw : Good (ed key ov (kvsOf ps)) := ed_good HH.out.good HH.out.kok HH.out.vok
     rw [HEDJ.out] at hgw
     have hgJ := (good_app (good_app hgw).1).2.1
     have gpo : Good po.kv := (good_app hgJ).2.1
     have hmost := room_le MX.out.ts.st.d.ok
     have hroom := MX.out.ts.st.room
     have hm1' : P4[po.c]? = some m.page := by
      obtain ⟨X, hX⟩ := A4.out.pre
      rw [hX, List.getElem?_append_left (List.getElem?_eq_some_iff.1 hm1).1]; exact hm1
     have hm4' : Cn P4 (l + 1) m po.kv := by
      obtain ⟨X, hX⟩ := A4.out.pre
      rw [hX]; exact hm4.pre
     have hlp : m.keys.length ≤ m.pack.size := le_packOf m.kind m.keys m.vals m.kids
     have hmok := cn_ok hm4' gpo om_ (by have := hm2.size; omega)
     have hmf := fit_few hmok hm2.size
     have CR := hi_ (tree_read wx t b L h D4 P4 r MX.out.ts.st MX.out.ts.tr up4.out po.c ((l + 1 : Nat) : Int) m.kind m.keys m.vals m.kids hm1' hmok.ok hm2.some (by rw [(cn_kind hm4').1]; simp; omega))
     have hcn : Cn P4 (l + 1) nn (ed key ov pt.kv) := by rw [hnn.out]; exact hc4.out
     have hsn : nn.Short := by rw [hnn.out]; exact hs4.out
     have HJ := hi_ (join_ok hcn hm4' hgJ om_ (by have h1 := short_one hsn HN1.out; omega) (by have := HN1.out; omega))
     have HGJ := hi_ hgJ
     have LM := hi_ (lens_ok hmok (show m.keys.length ≤ 1000 by omega))
     have LN := hi_ (shape_lens hsn.shape (show nn.keys.length ≤ 1000 by have := HN1.out; omega))
     have H2J : Hid (2 ≤ (nn.join m).keys.length) := hi_ (by simp only [Nd.join, List.length_append]; omega)
     have z0 : wx.cell? ⟨ad.block, ad.off + 1, none⟩ = some (.int .i64 (po.c : Int)) := by have := kid_cell MX.out.nv.outs.2.2.2.2.1 hkid; simpa [Addr.add] using this
     have k3 := MX.out.nv.outs.2.2.2.2.2
     have x3 := blk_cell MX.out.bx 3
     clear hcn hsn hkid hm1 hm2 hm3 hm4 hgw hgJ gpo hmost hroom hm1' hm4' hlp hmok hmf o1 o2 hpA2 hpA hpc
     go_wp2_with fail
     refine CR.out.mono ?_
     clear CR
     rintro e wy ⟨v1, v2, v3, rfl, g1, g2, g3, hb⟩
     have NM := hi_ (show NodeV wx.heap.size wy (.agg #[.int .i64 m.kind, v1, v2, v3]) m from ⟨v1, v2, v3, rfl, g1, g2, g3⟩)
     obtain ⟨E1, e1, rfl⟩ := Kd.R_slice g1
     obtain ⟨E2, e2, rfl⟩ := Kd.R_slice g2
     obtain ⟨E3, e3, rfl⟩ := Kd.R_slice g3
     replace MX := hi_ (MX.out.below hb)
     replace NLX := hi_ (NLX.out.below hb)
     have BX := hi_ HBX.out
     clear g1 g2 g3 hb z0 x3 k3 HBX
     go_upto_region 18 with fail
     have XM := hi_ (blk_new wy (.cells #[.int .i64 m.kind, .slice E1 m.keys.length e1, .slice E2 m.vals.length e2, .slice E3 m.kids.length e3] 149 (0, 0)))
     replace NM := hi_ ((NM.out.lower BX.out).below (below_alloc (Below.refl wy.heap.size wy) (.cells #[.int .i64 m.kind, .slice E1 m.keys.length e1, .slice E2 m.vals.length e2, .slice E3 m.kids.length e3] 149 (0, 0))))
     replace MX := hi_ (MX.out.below (below_alloc (Below.refl wy.heap.size wy) (.cells #[.int .i64 m.kind, .slice E1 m.keys.length e1, .slice E2 m.vals.length e2, .slice E3 m.kids.length e3] 149 (0, 0))))
     replace NLX := hi_ (NLX.out.below (below_alloc (Below.refl wy.heap.size wy) (.cells #[.int .i64 m.kind, .slice E1 m.keys.length e1, .slice E2 m.vals.length e2, .slice E3 m.kids.length e3] 149 (0, 0))))
     generalize wy.alloc (.cells #[.int .i64 m.kind, .slice E1 m.keys.length e1, .slice E2 m.vals.length e2, .slice E3 m.kids.length e3] 149 (0, 0)) = wz at *
     obtain ⟨gm, hgm⟩ : ∃ gm, gm = wy.heap.size := ⟨_, rfl⟩
     rw [← hgm] at XM ⊢
     clear hgm
     skip
     obtain ⟨nn', B1, d1, B2, d2, B3, d3, hn0, y0, y1, y2, y3, NY⟩ := NLX.out.at (show 0 < 1 by omega)
     obtain rfl : nn = nn' := by rw [HL4.out] at hn0; simpa using hn0
     simp only [Nat.zero_mul, Nat.zero_add] at y0 y1 y2 y3
     have F0 := hi_ (show Jac gm gr (.int .i64 m.kind) (.slice E1 m.keys.length e1) (.slice E2 m.vals.length e2) (.slice E3 m.kids.length e3) (.int .i64 nn.kind) (.slice B1 nn.keys.length d1) (.slice B2 nn.vals.length d2) (.slice B3 nn.kids.length d3) wz from ⟨blk_cell XM.out 0, blk_cell XM.out 1, blk_cell XM.out 2, blk_cell XM.out 3, y0, y1, y2, y3⟩)
     have BW := hi_ (show B ≤ wz.heap.size from Nat.le_trans HH.out.base MX.out.kp.size)
     have CJ := hi_ (fun W (hW : Below wz.heap.size wz W) => (node_Join W B (.agg #[.int .i64 nn.kind, .slice B1 nn.keys.length d1, .slice B2 nn.vals.length d2, .slice B3 nn.kids.length d3]) (.agg #[.int .i64 m.kind, .slice E1 m.keys.length e1, .slice E2 m.vals.length e2, .slice E3 m.kids.length e3]) nn m (Nat.le_trans BW.out hW.size) (NY.below hW) (NM.out.below hW) LN.out LM.out).mono (fun (e : Ending) (w' : World) ⟨v, he, hN, hb⟩ => (⟨v, he, hN, hW.trans (hb.mono hW.size), F0.out.below (hW.trans (hb.mono hW.size))⟩ : ∃ v, e = Ending.returned v ∧ NodeV B w' v (nn.join m) ∧ Below wz.heap.size wz w' ∧ Jac gm gr (.int .i64 m.kind) (.slice E1 m.keys.length e1) (.slice E2 m.vals.length e2) (.slice E3 m.kids.length e3) (.int .i64 nn.kind) (.slice B1 nn.keys.length d1) (.slice B2 nn.vals.length d2) (.slice B3 nn.kids.length d3) w')))
     have CPt := hi_ (fun W v (hW : Below wz.heap.size wz W) (hN : NodeV B W v (nn.join m)) => (tree_parts W B v _ (Nat.le_trans BW.out hW.size) hN HJ.out.2).mono (fun (e : Ending) (w' : World) ⟨v', l', he, hp, hN', hb⟩ => (⟨v', l', he, hp, hN', hW.trans (hb.mono hW.size), F0.out.below (hW.trans (hb.mono hW.size))⟩ : ∃ v' l', e = Ending.returned v' ∧ PartsOf (nn.join m) l' ∧ NodesV B w' v' l' ∧ Below wz.heap.size wz w' ∧ Jac gm gr (.int .i64 m.kind) (.slice E1 m.keys.length e1) (.slice E2 m.vals.length e2) (.slice E3 m.kids.length e3) (.int .i64 nn.kind) (.slice B1 nn.keys.length d1) (.slice B2 nn.vals.length d2) (.slice B3 nn.kids.length d3) w')))
     have HB0 := hi_ (Below.refl wz.heap.size wz)
     clear y0 y1 y2 y3 NY hn0
     go_region_held3 (fun w' => w'.cell? ⟨gm, 0, none⟩ = some (.int .i64 m.kind) ∧ w'.cell? ⟨gm, 1, none⟩ = some (.slice E1 m.keys.length e1) ∧ w'.cell? ⟨gm, 2, none⟩ = some (.slice E2 m.vals.length e2) ∧ w'.cell? ⟨gm, 3, none⟩ = some (.slice E3 m.kids.length e3) ∧ w'.cell? ⟨gr, 0, none⟩ = some (.int .i64 nn.kind) ∧ w'.cell? ⟨gr, 1, none⟩ = some (.slice B1 nn.keys.length d1) ∧ w'.cell? ⟨gr, 2, none⟩ = some (.slice B2 nn.vals.length d2) ∧ w'.cell? ⟨gr, 3, none⟩ = some (.slice B3 nn.kids.length d3))
      (first | exact F0.out | (with_reducible assumption) | (show Jac _ _ _ _ _ _ _ _ _ _ _; repeat (first | (with_reducible assumption) | exact F0.out | refine Jac.drewN ?_ _ | refine Jac.drew ?_)))
      (first
       | (go_at_call 191; (with_reducible refine (CJ.out _ ?_).mono ?_); (repeat (first | (with_reducible assumption) | exact HB0.out | refine bel_drewN ?_ _ | refine bel_drew ?_)); rintro e w1 ⟨vj, rfl, nj, b1, f1⟩)
       | (go_at_call 190; (with_reducible refine (CPt.out _ _ ?_ nj).mono ?_); (repeat (first | (with_reducible assumption) | exact HB0.out | refine bel_drewN ?_ _ | refine bel_drew ?_)); rintro e w2 ⟨vp, lJ, rfl, hpJ, nlJ, b2, f2⟩))
     replace MX := hi_ (MX.out.below b2)
     replace NLX := hi_ nlJ
     have hpo4 := hi_ hpJ
     have hgX := HGJ
     have hc4 := hi_ HJ.out.1
     have hs4 := hi_ HJ.out.2
     have HML : Hid (∀ v, ov = some v → ([pt, po]).length = 1) := hi_ (fun v hv => by have := HNO.out; rw [this] at hv; cases hv)
     have HM1 : Hid (0 < ([pt, po]).length) := hi_ (by simp)
     have HSPL := HSPJ
     have HEDX := HEDJ
     obtain ⟨n4, hn4⟩ : ∃ x, x = nn.join m := ⟨_, rfl⟩
     rw [← hn4] at hpo4 hc4 hs4 H2J
     obtain ⟨l4, hl4⟩ : ∃ x, x = lJ := ⟨_, rfl⟩
     rw [← hl4] at hpo4 NLX
     obtain ⟨pM, hpM⟩ : ∃ x, x = [pt, po] := ⟨_, rfl⟩
     rw [← hpM] at HML HM1 HSPL HTO
     obtain ⟨pD, hpD⟩ : ∃ x, x = pC' := ⟨_, rfl⟩
     rw [← hpD] at HSPL HEDX
     have h24 : Hid (l4 = [n4] → 2 ≤ n4.keys.length) := hi_ (fun _ => H2J.out)
     obtain ⟨v4, hv4⟩ : ∃ x, x = vp := ⟨_, rfl⟩
     rw [← hv4] at NLX ⊢
     obtain ⟨wx, hwx⟩ : ∃ x, x = w2 := ⟨_, rfl⟩
     rw [← hwx] at MX NLX ⊢
     clear hn4 hl4 hpM hpD hv4 hwx hpJ nlJ f1 f2 b1 b2 nj HSPJ HEDJ HGJ HJ H2J
     go_upto_region 23 with fail
     (try clear hi0); (try clear hi2); (try clear hi3); (try clear hb2); (try clear hm0); (try clear hb1); (try clear hshort); (try clear hlen2); (try clear hiz0); (try clear hiz1)
     -- the nodes are written, and take the place of what was
     obtain ⟨HFit, qs, hq1, hq2, hq3, hq4, hq5, hq6, hq7⟩ := new_pts hc4.out hgX.out (by have := MX.out.ts.st.room; have := room_le MX.out.ts.st.d.ok; omega) hs4.out hpo4.out h24.out
     have HQ1 := hi_ hq1
     have HQ2 := hi_ hq2
     have HQ3 := hi_ hq3
     have HQ4 := hi_ hq4
     have HQ6 := hi_ hq6
     have HQ7 := hi_ hq7
     have HL2 : Hid (l4.length ≤ 2) := hi_ om_
     have CW := hi_ (tree_write wx B t b L h D4 P4 r _ l4 (Nat.le_trans HH.out.base MX.out.kp.size) MX.out.ts up4.out NLX.out HFit)
     clear hq1 hq2 hq3 hq4 hq5 hq6 hq7 HFit
     go_wp2_with fail
     refine CW.out.mono ?_
     clear CW
     rintro e w5 ⟨D5, P5, T5, A5, K5, hres⟩
     have M5 := hi_ (MX.out.step T5 K5)
     have A5 := hi_ (A4.out.trans A5)
     clear T5
     rcases hres with ⟨u1, u2, rfl, r1, r2, hP5, up5⟩ | ⟨er, rfl, hbad, hlt⟩
     ·obtain ⟨ks, hks⟩ : ∃ ks, ks = l4.map Nd.least := ⟨_, rfl⟩
      obtain ⟨cs, hcs⟩ : ∃ cs, cs = pagesFrom P4.length l4.length := ⟨_, rfl⟩
      rw [← hks] at r1
      rw [← hcs] at r2
      have HKS := hi_ hks
      have HCS := hi_ hcs
      clear hks hcs
      have hR1 := hi_ r1
      have hR2 := hi_ r2
      obtain ⟨U1, d1, rfl⟩ := Kd.R_slice r1
      obtain ⟨U2, d2, rfl⟩ := Kd.R_slice r2
      have HP5 := hi_ hP5
      have up5 := hi_ up5
      clear r1 r2 hP5 K5 MX NLX
      have x0 := blk_cell M5.out.bx 0
      have x1 := blk_cell M5.out.bx 1
      have x2 := blk_cell M5.out.bx 2
      have x3 := blk_cell M5.out.bx 3
      go_wp2_with fail
      obtain ⟨C1, k1, C2, k2, C3, k3⟩ := M5.out.nv.outs
      obtain ⟨-, e1', E1⟩ := Kd.R_reads' hR1.out
      obtain ⟨-, e2', E2⟩ := Kd.R_reads' hR2.out
      have hS5 := swap_ok (P := P) (P' := P5) (l := l + 1) (A := pA) (B := pM) (C := pD) (qs := qs) (by rw [← HSPL.out]; exact HPS.out) HM1.out (by rw [← HSPL.out]; exact HH.out.fit) A5.out.pre (by have := M5.out.ts.st.room; have := room_le M5.out.ts.st.d.ok; omega) (by rw [HP5.out]; exact HQ7.out) HQ4.out HQ6.out (by rw [HQ3.out, ← HEDX.out]; exact ed_good HH.out.good HH.out.kok HH.out.vok)
      obtain ⟨s1, s2, s3, s4⟩ := hS5
      rw [← HSPL.out, HQ1.out, HQ2.out, ← HKS.out, ← HCS.out] at s1
      have f1 : pA.length + pM.length ≤ (branchOf ps).keys.length := by have e : (branchOf ps).keys.length = ps.length := List.length_map _
                                                                        rw [e, HSPL.out]; simp only [List.length_append]; omega
      have f2 : (branchOf ps).kids.length = (branchOf ps).keys.length := by simp [branchOf]
      have f3 : 0 < ks.length := by rw [HKS.out, ← HQ1.out, List.length_map]; exact List.length_pos_iff.2 HQ4.out
      have f4 : cs.length = ks.length := by rw [HKS.out, HCS.out, pagesFrom_length, List.length_map]
      have f5 : (branchOf ps).keys.length + ks.length ≤ 100000 := by
       have e : (branchOf ps).keys.length = ps.length := List.length_map _
       have h1 := HF.out.2
       have h2 := HL2.out
       rw [e, HKS.out, List.length_map]
       omega
      have hsf := swap_f 2 (branchOf ps).keys (branchOf ps).vals (branchOf ps).kids pA.length (pA.length + pM.length) ks cs om_ f1 f2 f3 f4 f5
      clear f1 f2 f3 f4 f5
      rw [← HTO.out, ← HFR.out] at hsf
      refine (PNd.tree_swap.calls 2 A1 c1 (branchOf ps).keys A2 c2 (branchOf ps).vals (some ad) c3 (branchOf ps).kids _ _ U1 d1 _ U2 d2 _ _ _ _ _ w5 C1 k1 C2 k2 C3 k3 E1 e1' E2 e2' hsf).mono ?_
      clear C1 k1 C2 k2 C3 k3 E1 E2 e1' e2' hsf x0 x1 x2 x3
      rintro e w6 ⟨v1, v2, v3, rfl, g1, g2, g3, hb⟩
      have N6 := hi_ (show NodeV B w6 (.agg #[.int .i64 2, v1, v2, v3]) (branchOf (pA ++ qs ++ pD)) from by
       rw [s1]
       exact ⟨v1, v2, v3, rfl, Kd.R_lower (Kd.R_mono g1 (fun _ _ => trivial)) (Nat.le_trans HH.out.base M5.out.kp.size), Kd.R_lower (Kd.R_mono g2 (fun _ _ => trivial)) (Nat.le_trans HH.out.base M5.out.kp.size), Kd.R_lower (Kd.R_mono g3 (fun _ _ => trivial)) (Nat.le_trans HH.out.base M5.out.kp.size)⟩)
      have M6 := hi_ (M5.out.below hb)
      have HS2 := hi_ s2
      have HS3 := hi_ s3
      have HS4 := hi_ s4
      clear g1 g2 g3 hb s1 s2 s3 s4 M5
      go_wp2_with fail
      refine (tree_parts w6 B _ _ (Nat.le_trans HH.out.base M6.out.kp.size) N6.out HS2.out).mono ?_
      rintro e w7 ⟨v7, l7, rfl, hpo, NL, hb⟩
      have NL := hi_ NL
      have hpo := hi_ hpo
      have M7 := hi_ (M6.out.below hb)
      clear hb M6
      go_wp2_with fail
      go_ret2
      refine ⟨D5, P5, M7.out.ts, A5.out, M7.out.kp, .inl ⟨_, l7, _, rfl, NL.out, hpo.out, HS2.out, ?_, up5.out, ?_, ?_, ?_⟩⟩
      ·refine ⟨_, rfl, ?_, ?_, HS3.out.on⟩
       ·rw [HS4.out, HQ3.out, HEDX.out]
       ·intro e
        have := congrArg List.length e
        have := List.length_pos_iff.2 HQ4.out
        simp only [List.length_append, List.length_nil] at *
        omega
      ·rw [HP5.out, List.length_append, List.length_map]
       have := hle4.out
       have := HL2.out
       omega
      ·intro x e
       have e1 : (branchOf ps).keys.length = ps.length := List.length_map _
       have e2 : (branchOf (pA ++ qs ++ pD)).keys.length = (pA ++ qs ++ pD).length := List.length_map _
       rw [e1, e2, HSPL.out]
       have := List.length_pos_iff.2 HQ4.out
       have := HML.out x e
       simp only [List.length_append]
       omega
      ·intro _
       have := List.length_pos_iff.2 HQ4.out
       refine ⟨by simp [branchOf]; omega, ?_⟩
       obtain ⟨X, hX⟩ := A4.out.pre
       have h1 := congrArg List.length HQ1.out
       rw [List.length_map, List.length_map] at h1
       rw [HP5.out, hX, List.length_append, List.length_append, List.length_map]
       omega
     ·have hbad := hi_ hbad
      have hlt := hi_ hlt
      have her : (er == 0) = false := by have := hbad.out; unfold Bad at this; simp; omega
      go_wp2_with fail
      go_ret2
      exact ⟨D5, P5, M5.out.ts, A5.out, M5.out.kp, .inr ⟨er, rfl, Bad.of hbad.out A4.out.wr.live, by have := hlt.out; have := hle4.out; have := HL2.out; omega⟩⟩
   ·as_aux_lemma =>
    have h24 : Hid (l4 = [n4] → 2 ≤ n4.keys.length) := hi_ (fun _ => by have h1 := hnn.out; subst h1; omega)
    obtain ⟨pM, hpM⟩ : ∃ pM, pM = [pt] := ⟨_, rfl⟩
    obtain ⟨pD, hpD⟩ : ∃ pD, pD = pC := ⟨_, rfl⟩
    have HSPL : Hid (ps = pA ++ pM ++ pD) := hi_ (by rw [hpM, hpD, HSP.out]; simp)
    have HM1 : Hid (0 < pM.length) := hi_ (by rw [hpM]; simp)
    have HML1 : Hid (pM.length = 1) := hi_ (by rw [hpM]; rfl)
    have HML : Hid (∀ v, ov = some v → pM.length = 1) := hi_ (fun _ _ => HML1.out)
    have HEDX : Hid (ed key ov (kvsOf ps) = kvsOf pA ++ ed key ov pt.kv ++ kvsOf pD) := hi_ (by rw [hpD]; exact HED.out)
    have hgX : Hid (Good (ed key ov pt.kv)) := hi_ (by
     have hgood := HPS.out.good
     have hkvs : kvsOf ps = kvsOf pA ++ (pt.kv ++ kvsOf pC) := by rw [HSP.out, kvsOf_app, kvsOf_cons]
     rw [hkvs] at hgood
     exact ed_good (good_app (good_app hgood).2.1).1 HH.out.kok HH.out.vok)
    clear hpM hpD
    obtain ⟨tz, hto⟩ : ∃ tz : Int, tz = ((pA.length + pM.length : Nat) : Int) := ⟨_, rfl⟩
    have hw : wrap64 ((pA.length : Int) + 1) = tz := by rw [hto, HML1.out]; have := HF.out; have e : ps.length = pA.length + pM.length + pD.length := by rw [HSPL.out]; simp only [List.length_append]
                                                        unfold wrap64; omega
    have HTO := hi_ hto
    obtain ⟨fz, hfz⟩ : ∃ fz : Int, fz = (pA.length : Int) := ⟨_, rfl⟩
    have HFR := hi_ hfz
    clear hto
    rw [hw, ← hfz]
    clear hw hfz
    go_wp2_with fail
    obtain ⟨C1, k1, C2, k2, C3, k3⟩ := NY.out.outs
    refine (PNd.node_Node_Len.calls nn.kind B1 d1 nn.keys B2 d2 nn.vals B3 d3 nn.kids (nn.keys.length : Int) wx C1 k1 C2 k2 C3 k3 rfl).mono ?_
    clear C1 k1 C2 k2 C3 k3 y0 y1 y2 y3
    rintro e wy ⟨rfl, hb⟩
    replace MX := hi_ (MX.out.below hb)
    replace NLX := hi_ (NLX.out.below hb)
    clear hb NY NL4
    obtain ⟨wx, hwx⟩ : ∃ wx, wx = wy := ⟨_, rfl⟩
    rw [← hwx] at MX NLX ⊢
    clear hwx
    go_upto_region 23 with fail
    clear hshort
    -- the nodes are written, and take the place of what was
    obtain ⟨HFit, qs, hq1, hq2, hq3, hq4, hq5, hq6, hq7⟩ := new_pts hc4.out hgX.out (by have := MX.out.ts.st.room; have := room_le MX.out.ts.st.d.ok; omega) hs4.out hpo4.out h24.out
    have HQ1 := hi_ hq1
    have HQ2 := hi_ hq2
    have HQ3 := hi_ hq3
    have HQ4 := hi_ hq4
    have HQ6 := hi_ hq6
    have HQ7 := hi_ hq7
    have HL2 : Hid (l4.length ≤ 2) := hi_ om_
    have CW := hi_ (tree_write wx B t b L h D4 P4 r _ l4 (Nat.le_trans HH.out.base MX.out.kp.size) MX.out.ts up4.out NLX.out HFit)
    clear hq1 hq2 hq3 hq4 hq5 hq6 hq7 HFit
    go_wp2_with fail
    refine CW.out.mono ?_
    clear CW
    rintro e w5 ⟨D5, P5, T5, A5, K5, hres⟩
    have M5 := hi_ (MX.out.step T5 K5)
    have A5 := hi_ (A4.out.trans A5)
    clear T5
    rcases hres with ⟨u1, u2, rfl, r1, r2, hP5, up5⟩ | ⟨er, rfl, hbad, hlt⟩
    ·obtain ⟨ks, hks⟩ : ∃ ks, ks = l4.map Nd.least := ⟨_, rfl⟩
     obtain ⟨cs, hcs⟩ : ∃ cs, cs = pagesFrom P4.length l4.length := ⟨_, rfl⟩
     rw [← hks] at r1
     rw [← hcs] at r2
     have HKS := hi_ hks
     have HCS := hi_ hcs
     clear hks hcs
     have hR1 := hi_ r1
     have hR2 := hi_ r2
     obtain ⟨U1, d1, rfl⟩ := Kd.R_slice r1
     obtain ⟨U2, d2, rfl⟩ := Kd.R_slice r2
     have HP5 := hi_ hP5
     have up5 := hi_ up5
     clear r1 r2 hP5 K5 MX NLX
     have x0 := blk_cell M5.out.bx 0
     have x1 := blk_cell M5.out.bx 1
     have x2 := blk_cell M5.out.bx 2
     have x3 := blk_cell M5.out.bx 3
     go_wp2_with fail
     obtain ⟨C1, k1, C2, k2, C3, k3⟩ := M5.out.nv.outs
     obtain ⟨-, e1', E1⟩ := Kd.R_reads' hR1.out
     obtain ⟨-, e2', E2⟩ := Kd.R_reads' hR2.out
     have hS5 := swap_ok (P := P) (P' := P5) (l := l + 1) (A := pA) (B := pM) (C := pD) (qs := qs) (by rw [← HSPL.out]; exact HPS.out) HM1.out (by rw [← HSPL.out]; exact HH.out.fit) A5.out.pre (by have := M5.out.ts.st.room; have := room_le M5.out.ts.st.d.ok; omega) (by rw [HP5.out]; exact HQ7.out) HQ4.out HQ6.out (by rw [HQ3.out, ← HEDX.out]; exact ed_good HH.out.good HH.out.kok HH.out.vok)
     obtain ⟨s1, s2, s3, s4⟩ := hS5
     rw [← HSPL.out, HQ1.out, HQ2.out, ← HKS.out, ← HCS.out] at s1
     have f1 : pA.length + pM.length ≤ (branchOf ps).keys.length := by have e : (branchOf ps).keys.length = ps.length := List.length_map _
                                                                       rw [e, HSPL.out]; simp only [List.length_append]; omega
     have f2 : (branchOf ps).kids.length = (branchOf ps).keys.length := by simp [branchOf]
     have f3 : 0 < ks.length := by rw [HKS.out, ← HQ1.out, List.length_map]; exact List.length_pos_iff.2 HQ4.out
     have f4 : cs.length = ks.length := by rw [HKS.out, HCS.out, pagesFrom_length, List.length_map]
     have f5 : (branchOf ps).keys.length + ks.length ≤ 100000 := by
      have e : (branchOf ps).keys.length = ps.length := List.length_map _
      have h1 := HF.out.2
      have h2 := HL2.out
      rw [e, HKS.out, List.length_map]
      omega
     have hsf := swap_f 2 (branchOf ps).keys (branchOf ps).vals (branchOf ps).kids pA.length (pA.length + pM.length) ks cs om_ f1 f2 f3 f4 f5
     clear f1 f2 f3 f4 f5
     rw [← HTO.out, ← HFR.out] at hsf
     refine (PNd.tree_swap.calls 2 A1 c1 (branchOf ps).keys A2 c2 (branchOf ps).vals (some ad) c3 (branchOf ps).kids _ _ U1 d1 _ U2 d2 _ _ _ _ _ w5 C1 k1 C2 k2 C3 k3 E1 e1' E2 e2' hsf).mono ?_
     clear C1 k1 C2 k2 C3 k3 E1 E2 e1' e2' hsf x0 x1 x2 x3
     rintro e w6 ⟨v1, v2, v3, rfl, g1, g2, g3, hb⟩
     have N6 := hi_ (show NodeV B w6 (.agg #[.int .i64 2, v1, v2, v3]) (branchOf (pA ++ qs ++ pD)) from by
      rw [s1]
      exact ⟨v1, v2, v3, rfl, Kd.R_lower (Kd.R_mono g1 (fun _ _ => trivial)) (Nat.le_trans HH.out.base M5.out.kp.size), Kd.R_lower (Kd.R_mono g2 (fun _ _ => trivial)) (Nat.le_trans HH.out.base M5.out.kp.size), Kd.R_lower (Kd.R_mono g3 (fun _ _ => trivial)) (Nat.le_trans HH.out.base M5.out.kp.size)⟩)
     have M6 := hi_ (M5.out.below hb)
     have HS2 := hi_ s2
     have HS3 := hi_ s3
     have HS4 := hi_ s4
     clear g1 g2 g3 hb s1 s2 s3 s4 M5
     go_wp2_with fail
     refine (tree_parts w6 B _ _ (Nat.le_trans HH.out.base M6.out.kp.size) N6.out HS2.out).mono ?_
     rintro e w7 ⟨v7, l7, rfl, hpo, NL, hb⟩
     have NL := hi_ NL
     have hpo := hi_ hpo
     have M7 := hi_ (M6.out.below hb)
     clear hb M6
     go_wp2_with fail
     go_ret2
     refine ⟨D5, P5, M7.out.ts, A5.out, M7.out.kp, .inl ⟨_, l7, _, rfl, NL.out, hpo.out, HS2.out, ?_, up5.out, ?_, ?_, ?_⟩⟩
     ·refine ⟨_, rfl, ?_, ?_, HS3.out.on⟩
      ·rw [HS4.out, HQ3.out, HEDX.out]
      ·intro e
       have := congrArg List.length e
       have := List.length_pos_iff.2 HQ4.out
       simp only [List.length_append, List.length_nil] at *
       omega
     ·rw [HP5.out, List.length_append, List.length_map]
      have := hle4.out
      have := HL2.out
      omega
     ·intro x e
      have e1 : (branchOf ps).keys.length = ps.length := List.length_map _
      have e2 : (branchOf (pA ++ qs ++ pD)).keys.length = (pA ++ qs ++ pD).length := List.length_map _
      rw [e1, e2, HSPL.out]
      have := List.length_pos_iff.2 HQ4.out
      have := HML.out x e
      simp only [List.length_append]
      omega
     ·intro _
      have := List.length_pos_iff.2 HQ4.out
      refine ⟨by simp [branchOf]; omega, ?_⟩
      obtain ⟨X, hX⟩ := A4.out.pre
      have h1 := congrArg List.length HQ1.out
      rw [List.length_map, List.length_map] at h1
      rw [HP5.out, hX, List.length_append, List.length_append, List.length_map]
      omega
    ·have hbad := hi_ hbad
     have hlt := hi_ hlt
     have her : (er == 0) = false := by have := hbad.out; unfold Bad at this; simp; omega
     go_wp2_with fail
     go_ret2
     exact ⟨D5, P5, M5.out.ts, A5.out, M5.out.kp, .inr ⟨er, rfl, Bad.of hbad.out A4.out.wr.live, by have := hlt.out; have := hle4.out; have := HL2.out; omega⟩⟩
  ·as_aux_lemma =>
   subst hv
   have h24 : Hid (l4 = [n4] → 2 ≤ n4.keys.length) := hi_ (fun e => by rw [e] at hl; simp at hl)
   have hgo := hi_ hl
   clear hl
   obtain ⟨pM, hpM⟩ : ∃ pM, pM = [pt] := ⟨_, rfl⟩
   obtain ⟨pD, hpD⟩ : ∃ pD, pD = pC := ⟨_, rfl⟩
   have HSPL : Hid (ps = pA ++ pM ++ pD) := hi_ (by rw [hpM, hpD, HSP.out]; simp)
   have HM1 : Hid (0 < pM.length) := hi_ (by rw [hpM]; simp)
   have HML1 : Hid (pM.length = 1) := hi_ (by rw [hpM]; rfl)
   have HML : Hid (∀ v, ov = some v → pM.length = 1) := hi_ (fun _ _ => HML1.out)
   have HEDX : Hid (ed key ov (kvsOf ps) = kvsOf pA ++ ed key ov pt.kv ++ kvsOf pD) := hi_ (by rw [hpD]; exact HED.out)
   have hgX : Hid (Good (ed key ov pt.kv)) := hi_ (by
    have hgood := HPS.out.good
    have hkvs : kvsOf ps = kvsOf pA ++ (pt.kv ++ kvsOf pC) := by rw [HSP.out, kvsOf_app, kvsOf_cons]
    rw [hkvs] at hgood
    exact ed_good (good_app (good_app hgood).2.1).1 HH.out.kok HH.out.vok)
   clear hpM hpD
   obtain ⟨tz, hto⟩ : ∃ tz : Int, tz = ((pA.length + pM.length : Nat) : Int) := ⟨_, rfl⟩
   have hw : wrap64 ((pA.length : Int) + 1) = tz := by rw [hto, HML1.out]; have := HF.out; have e : ps.length = pA.length + pM.length + pD.length := by rw [HSPL.out]; simp only [List.length_append]
                                                       unfold wrap64; omega
   have HTO := hi_ hto
   obtain ⟨fz, hfz⟩ : ∃ fz : Int, fz = (pA.length : Int) := ⟨_, rfl⟩
   have HFR := hi_ hfz
   clear hto
   rw [hw, ← hfz]
   clear hw hfz
   go_upto_region 23 with fail
   -- the nodes are written, and take the place of what was
   obtain ⟨HFit, qs, hq1, hq2, hq3, hq4, hq5, hq6, hq7⟩ := new_pts hc4.out hgX.out (by have := MX.out.ts.st.room; have := room_le MX.out.ts.st.d.ok; omega) hs4.out hpo4.out h24.out
   have HQ1 := hi_ hq1
   have HQ2 := hi_ hq2
   have HQ3 := hi_ hq3
   have HQ4 := hi_ hq4
   have HQ6 := hi_ hq6
   have HQ7 := hi_ hq7
   have HL2 : Hid (l4.length ≤ 2) := hi_ om_
   have CW := hi_ (tree_write wx B t b L h D4 P4 r _ l4 (Nat.le_trans HH.out.base MX.out.kp.size) MX.out.ts up4.out NLX.out HFit)
   clear hq1 hq2 hq3 hq4 hq5 hq6 hq7 HFit
   go_wp2_with fail
   refine CW.out.mono ?_
   clear CW
   rintro e w5 ⟨D5, P5, T5, A5, K5, hres⟩
   have M5 := hi_ (MX.out.step T5 K5)
   have A5 := hi_ (A4.out.trans A5)
   clear T5
   rcases hres with ⟨u1, u2, rfl, r1, r2, hP5, up5⟩ | ⟨er, rfl, hbad, hlt⟩
   ·obtain ⟨ks, hks⟩ : ∃ ks, ks = l4.map Nd.least := ⟨_, rfl⟩
    obtain ⟨cs, hcs⟩ : ∃ cs, cs = pagesFrom P4.length l4.length := ⟨_, rfl⟩
    rw [← hks] at r1
    rw [← hcs] at r2
    have HKS := hi_ hks
    have HCS := hi_ hcs
    clear hks hcs
    have hR1 := hi_ r1
    have hR2 := hi_ r2
    obtain ⟨U1, d1, rfl⟩ := Kd.R_slice r1
    obtain ⟨U2, d2, rfl⟩ := Kd.R_slice r2
    have HP5 := hi_ hP5
    have up5 := hi_ up5
    clear r1 r2 hP5 K5 MX NLX
    have x0 := blk_cell M5.out.bx 0
    have x1 := blk_cell M5.out.bx 1
    have x2 := blk_cell M5.out.bx 2
    have x3 := blk_cell M5.out.bx 3
    go_wp2_with fail
    obtain ⟨C1, k1, C2, k2, C3, k3⟩ := M5.out.nv.outs
    obtain ⟨-, e1', E1⟩ := Kd.R_reads' hR1.out
    obtain ⟨-, e2', E2⟩ := Kd.R_reads' hR2.out
    have hS5 := swap_ok (P := P) (P' := P5) (l := l + 1) (A := pA) (B := pM) (C := pD) (qs := qs) (by rw [← HSPL.out]; exact HPS.out) HM1.out (by rw [← HSPL.out]; exact HH.out.fit) A5.out.pre (by have := M5.out.ts.st.room; have := room_le M5.out.ts.st.d.ok; omega) (by rw [HP5.out]; exact HQ7.out) HQ4.out HQ6.out (by rw [HQ3.out, ← HEDX.out]; exact ed_good HH.out.good HH.out.kok HH.out.vok)
    obtain ⟨s1, s2, s3, s4⟩ := hS5
    rw [← HSPL.out, HQ1.out, HQ2.out, ← HKS.out, ← HCS.out] at s1
    have f1 : pA.length + pM.length ≤ (branchOf ps).keys.length := by have e : (branchOf ps).keys.length = ps.length := List.length_map _
                                                                      rw [e, HSPL.out]; simp only [List.length_append]; omega
    have f2 : (branchOf ps).kids.length = (branchOf ps).keys.length := by simp [branchOf]
    have f3 : 0 < ks.length := by rw [HKS.out, ← HQ1.out, List.length_map]; exact List.length_pos_iff.2 HQ4.out
    have f4 : cs.length = ks.length := by rw [HKS.out, HCS.out, pagesFrom_length, List.length_map]
    have f5 : (branchOf ps).keys.length + ks.length ≤ 100000 := by
     have e : (branchOf ps).keys.length = ps.length := List.length_map _
     have h1 := HF.out.2
     have h2 := HL2.out
     rw [e, HKS.out, List.length_map]
     omega
    have hsf := swap_f 2 (branchOf ps).keys (branchOf ps).vals (branchOf ps).kids pA.length (pA.length + pM.length) ks cs om_ f1 f2 f3 f4 f5
    clear f1 f2 f3 f4 f5
    rw [← HTO.out, ← HFR.out] at hsf
    refine (PNd.tree_swap.calls 2 A1 c1 (branchOf ps).keys A2 c2 (branchOf ps).vals (some ad) c3 (branchOf ps).kids _ _ U1 d1 _ U2 d2 _ _ _ _ _ w5 C1 k1 C2 k2 C3 k3 E1 e1' E2 e2' hsf).mono ?_
    clear C1 k1 C2 k2 C3 k3 E1 E2 e1' e2' hsf x0 x1 x2 x3
    rintro e w6 ⟨v1, v2, v3, rfl, g1, g2, g3, hb⟩
    have N6 := hi_ (show NodeV B w6 (.agg #[.int .i64 2, v1, v2, v3]) (branchOf (pA ++ qs ++ pD)) from by
     rw [s1]
     exact ⟨v1, v2, v3, rfl, Kd.R_lower (Kd.R_mono g1 (fun _ _ => trivial)) (Nat.le_trans HH.out.base M5.out.kp.size), Kd.R_lower (Kd.R_mono g2 (fun _ _ => trivial)) (Nat.le_trans HH.out.base M5.out.kp.size), Kd.R_lower (Kd.R_mono g3 (fun _ _ => trivial)) (Nat.le_trans HH.out.base M5.out.kp.size)⟩)
    have M6 := hi_ (M5.out.below hb)
    have HS2 := hi_ s2
    have HS3 := hi_ s3
    have HS4 := hi_ s4
    clear g1 g2 g3 hb s1 s2 s3 s4 M5
    go_wp2_with fail
    refine (tree_parts w6 B _ _ (Nat.le_trans HH.out.base M6.out.kp.size) N6.out HS2.out).mono ?_
    rintro e w7 ⟨v7, l7, rfl, hpo, NL, hb⟩
    have NL := hi_ NL
    have hpo := hi_ hpo
    have M7 := hi_ (M6.out.below hb)
    clear hb M6
    go_wp2_with fail
    go_ret2
    refine ⟨D5, P5, M7.out.ts, A5.out, M7.out.kp, .inl ⟨_, l7, _, rfl, NL.out, hpo.out, HS2.out, ?_, up5.out, ?_, ?_, ?_⟩⟩
    ·refine ⟨_, rfl, ?_, ?_, HS3.out.on⟩
     ·rw [HS4.out, HQ3.out, HEDX.out]
     ·intro e
      have := congrArg List.length e
      have := List.length_pos_iff.2 HQ4.out
      simp only [List.length_append, List.length_nil] at *
      omega
    ·rw [HP5.out, List.length_append, List.length_map]
     have := hle4.out
     have := HL2.out
     omega
    ·intro x e
     have e1 : (branchOf ps).keys.length = ps.length := List.length_map _
     have e2 : (branchOf (pA ++ qs ++ pD)).keys.length = (pA ++ qs ++ pD).length := List.length_map _
     rw [e1, e2, HSPL.out]
     have := List.length_pos_iff.2 HQ4.out
     have := HML.out x e
     simp only [List.length_append]
     omega
    ·intro _
     have := List.length_pos_iff.2 HQ4.out
     refine ⟨by simp [branchOf]; omega, ?_⟩
     obtain ⟨X, hX⟩ := A4.out.pre
     have h1 := congrArg List.length HQ1.out
     rw [List.length_map, List.length_map] at h1
     rw [HP5.out, hX, List.length_append, List.length_append, List.length_map]
     omega
   ·have hbad := hi_ hbad
    have hlt := hi_ hlt
    have her : (er == 0) = false := by have := hbad.out; unfold Bad at this; simp; omega
    go_wp2_with fail
    go_ret2
    exact ⟨D5, P5, M5.out.ts, A5.out, M5.out.kp, .inr ⟨er, rfl, Bad.of hbad.out A4.out.wr.live, by have := hlt.out; have := hle4.out; have := HL2.out; omega⟩⟩
 ·have hbad := hi_ hbad
  have hlt := hi_ hlt
  have her : (er == 0) = false := by have := hbad.out; unfold Bad at this; simp; omega
  go_wp2_with fail
  go_ret2
  exact ⟨D4, P4, M4.out.ts, A4.out, M4.out.kp, .inr ⟨er, rfl, hbad.out, by have := hlt.out; omega⟩⟩
end Go.Proofs.YtendgmblgdkiaaaGreat

namespace Go.Proofs.YtendgmblgdkiaaaGreat
open Go.RowKit
open Go.Proofs.YtendgmblgdkiaaaGreatW
open PrintWords PrintLast PrintMore
set_option linter.unusedVariables false
set_option linter.unusedSimpArgs false

theorem tree_change (B : Nat) (t b : Nat) (L : Loc) (h : Nat) (r : Rt) (key : BA) (ov : Option BA) (p1 p2 : Addr) : ∀ (lv : Nat) (w : World) (D : Dk) (P : List Pg) (page : Nat) (n : Nd) (kvs : List KV), ChPre B w t b L h D P r key ov p1 p2 lv page n kvs →
  Calls Tryz.prog 151 #[.pointer (some ⟨t, 0, none⟩), .int .i64 page, .int .i64 (lv : Int), .string key, cloV ov p1 p2] w (ChPost B w t b L h D P r key ov lv n kvs)
 | 0, _, _, _, _, _, _, H => H.cn.elim
 | 1, w, D, P, page, n, kvs, H => change_leaf B w t b L h D P r key ov p1 p2 page n kvs H
 | l + 2, w, D, P, page, n, kvs, H => change_branch B t b L h r key ov p1 p2 l (fun w D P page n kvs H => tree_change B t b L h r key ov p1 p2 (l + 1) w D P page n kvs H) w D P page n kvs H

def rootV (r : Rt) : Value := .agg #[.int .i64 r.page, .int .i64 r.count, .int .i64 r.height]
/-- A tree's root, as it is to be. -/
def RootC (P : List Pg) (page height : Int) (kvs : List KV) : Prop :=
 (height = 0 ∧ page = -1 ∧ kvs = []) ∨ (∃ (hn q : Nat) (n : Nd), height = hn ∧ page = q ∧ P[q]? = some n.page ∧ n.Fit ∧ Cn P hn n kvs ∧ (2 ≤ hn → 2 ≤ n.keys.length))
/-- What lift comes to. -/
def LiPost (B : Nat) (w : World) (t b : Nat) (L : Loc) (h : Nat) (D : Dk) (P : List Pg) (r : Rt) (kvs : List KV) (m lv : Nat) (e : Ending) (w' : World) : Prop :=
 ∃ D' P', TS B w' t b L h D' P' r ∧ AppOk h D P D' P' ∧ Keep (fun k => L.foot k ∨ k = b) w w' ∧
  ((∃ page height : Int, e = .returned (.tuple #[.agg #[.int .i64 page, .int .i64 0, .int .i64 height], .int .i64 0]) ∧ RootC P' page height kvs ∧ D'.down = false ∧ P'.length ≤ P.length + m ∧ (kvs ≠ [] → lv = 1 → P.length < P'.length)) ∨
   (∃ er, e = .returned (.tuple #[.agg #[.int .i64 0, .int .i64 0, .int .i64 0], .int .i64 er]) ∧ Bad D D' P' er ∧ P'.length < P.length + m))

set_option maxRecDepth 100000 in
theorem tree_Empty (w : World) : Calls Tryz.prog 23 #[] w fun e w' => e = .returned (.agg #[.int .i64 (-1), .int .i64 0, .int .i64 0]) ∧ Below w.heap.size w w' := by
 go_enter Tryz.func23, Tryz.ntmps23
 go_wp2_with fail
 refine bodyPost_ret (results_single rfl (.cell w.heap.size 31 _ (0, 0) _ rfl (blk_new w _) rfl rfl rfl .nil)) rfl ?_
 exact ⟨rfl, below_alloc (Below.refl _ _) _⟩
theorem cn_none {P : List Pg} {l : Nat} {n : Nd} {kvs : List KV} (h : Cn P l n kvs) (h0 : n.keys.length = 0) : kvs = [] := by
 match l, h with
 | 1, h =>
  have h : n = leafOf kvs := h
  subst h
  simpa [leafOf] using h0
 | l + 2, h =>
  obtain ⟨ps, rfl, rfl, h3, h4⟩ := h
  have := List.length_pos_iff.2 h3
  have h0 : (ps.map Pt.k).length = 0 := h0
  rw [List.length_map] at h0
  omega
theorem cn_two {P : List Pg} {lv : Nat} {n : Nd} {kvs : List KV} (h : Cn P lv n kvs) (h2 : n.kind = 2) : ∃ l ps, lv = l + 2 ∧ n = branchOf ps ∧ kvs = kvsOf ps ∧ ∀ p ∈ ps, On P (l + 1) p := by
 match lv, h with
 | 1, h =>
  have h : n = leafOf kvs := h
  subst h
  simp [leafOf] at h2
 | l + 2, h =>
  obtain ⟨ps, h3, h4, h5, h6⟩ := h
  exact ⟨l, ps, rfl, h3, h4, h6⟩
/-- What lift carries along. -/
structure LM (B : Nat) (w : World) (t b : Nat) (L : Loc) (h : Nat) (r : Rt) (g : Nat) (n : Nd) (A1 : Option Addr) (c1 : Nat) (A2 : Option Addr) (c2 : Nat) (A3 : Option Addr) (c3 g0 g1 : Nat) (D : Dk) (P : List Pg) (wx : World) : Prop where
 ts : TS B wx t b L h D P r
 kp : Keep (fun k => L.foot k ∨ k = b) w wx
 nvs : NodesV B wx (.slice (some ⟨g, 0, none⟩) 1 1) [n]
 nv : NodeV B wx (.agg #[.int .i64 n.kind, .slice A1 n.keys.length c1, .slice A2 n.vals.length c2, .slice A3 n.kids.length c3]) n
 rb : wx.heap[g0]? = some (.cells #[.int .i64 0, .int .i64 0, .int .i64 0] 31 (0, 0))
 nb : wx.heap[g1]? = some (.cells #[.int .i64 n.kind, .slice A1 n.keys.length c1, .slice A2 n.vals.length c2, .slice A3 n.kids.length c3] 149 (0, 0))
 l0 : w.heap.size ≤ g0
 l1 : w.heap.size ≤ g1
 lB : B ≤ w.heap.size
theorem LM.step {B : Nat} {w : World} {t b : Nat} {L : Loc} {h : Nat} {r : Rt} {g : Nat} {n : Nd} {A1 : Option Addr} {c1 : Nat} {A2 : Option Addr} {c2 : Nat} {A3 : Option Addr} {c3 g0 g1 : Nat} {D D' : Dk} {P P' : List Pg} {wx wy : World} (M : LM B w t b L h r g n A1 c1 A2 c2 A3 c3 g0 g1 D P wx)
  (T : TS B wy t b L h D' P' r) (k : Keep (fun k => L.foot k ∨ k = b) wx wy) : LM B w t b L h r g n A1 c1 A2 c2 A3 c3 g0 g1 D' P' wy :=
 have hf : ∀ i, w.heap.size ≤ i → ¬ (L.foot i ∨ i = b) := fun i hi hf => by have := M.ts.lo i hf; have := M.lB; omega
 ⟨T, M.kp.trans k, M.nvs.keep k M.ts.lo, M.nv.keep k M.ts.lo, k.heap M.rb (hf _ M.l0), k.heap M.nb (hf _ M.l1), M.l0, M.l1, M.lB⟩
theorem LM.below {B : Nat} {w : World} {t b : Nat} {L : Loc} {h : Nat} {r : Rt} {g : Nat} {n : Nd} {A1 : Option Addr} {c1 : Nat} {A2 : Option Addr} {c2 : Nat} {A3 : Option Addr} {c3 g0 g1 : Nat} {D : Dk} {P : List Pg} {wx wy : World} (M : LM B w t b L h r g n A1 c1 A2 c2 A3 c3 g0 g1 D P wx)
  (hb : Below wx.heap.size wx wy) : LM B w t b L h r g n A1 c1 A2 c2 A3 c3 g0 g1 D P wy := M.step (M.ts.below hb) (Keep.below hb)

theorem LM.fin {B : Nat} {w : World} {t b : Nat} {L : Loc} {h : Nat} {r : Rt} {g : Nat} {n : Nd} {A1 : Option Addr} {c1 : Nat} {A2 : Option Addr} {c2 : Nat} {A3 : Option Addr} {c3 g0 g1 : Nat} {D : Dk} {P : List Pg} {wx : World} (M : LM B w t b L h r g n A1 c1 A2 c2 A3 c3 g0 g1 D P wx)
  (x y z : Value) : TS B (((wx.setCell ⟨g0, 0, none⟩ x).setCell ⟨g0, 1, none⟩ y).setCell ⟨g0, 2, none⟩ z) t b L h D P r ∧ Keep (fun k => L.foot k ∨ k = b) w (((wx.setCell ⟨g0, 0, none⟩ x).setCell ⟨g0, 1, none⟩ y).setCell ⟨g0, 2, none⟩ z) := by
 have hB : B ≤ g0 := Nat.le_trans M.lB M.l0
 exact ⟨M.ts.hi ((((Keep.refl (fun k => B ≤ k) wx).setCell (p := ⟨g0, 0, none⟩) (.inl hB) x).setCell (p := ⟨g0, 1, none⟩) (.inl hB) y).setCell (p := ⟨g0, 2, none⟩) (.inl hB) z),
  ((M.kp.setCell (p := ⟨g0, 0, none⟩) (.inr M.l0) x).setCell (p := ⟨g0, 1, none⟩) (.inr M.l0) y).setCell (p := ⟨g0, 2, none⟩) (.inr M.l0) z⟩

set_option maxHeartbeats 2000000 in
set_option maxRecDepth 100000 in
/-- One node. -/
theorem lift_one (w : World) (B : Nat) (t b : Nat) (L : Loc) (h : Nat) (D : Dk) (P : List Pg) (r : Rt) (v : Value) (n : Nd) (kvs : List KV) (lv : Nat) (hB : B ≤ w.heap.size) (T : TS B w t b L h D P r) (up : D.down = false) (N : NodesV B w v [n]) (hn : n.Short) (hC : Cn P lv n kvs) (hG : Good kvs) (hsz : n.pack.size ≤ 240) (hlv : lv ≤ 1000) :
  Calls Tryz.prog 152 #[.pointer (some ⟨t, 0, none⟩), v, .int .i64 (lv : Int)] w (LiPost B w t b L h D P r kvs 1 lv) := by
 obtain ⟨g, hv⟩ : ∃ g, v = .slice (some ⟨g, 0, none⟩) 1 1 := by
  rcases N with ⟨a, x, g, -, rfl, -, -, -⟩ | ⟨a, b, x, y, g, e, rfl, -, -, -, -⟩
  ·exact ⟨g, rfl⟩
  ·simp at e
 subst hv
 have HC := hi_ hC
 have HG := hi_ hG
 have HS := hi_ hn
 have HK := hi_ (cn_kind hC)
 have HZ := hi_ hsz
 have HU := hi_ up
 have HB := hi_ hB
 have HN := hi_ N
 have HT := hi_ T
 clear hC hG hn hsz up hB N T
 go_enter Tryz.func152, Tryz.ntmps152
 go_upto_region 6 with fail
 have X0 := hi_ (blk_new w (.cells #[.int .i64 0, .int .i64 0, .int .i64 0] 31 (0, 0)))
 have B0 := hi_ (below_alloc (Below.refl w.heap.size w) (.cells #[.int .i64 0, .int .i64 0, .int .i64 0] 31 (0, 0)))
 obtain ⟨g0, hg0⟩ : ∃ g0, g0 = w.heap.size := ⟨_, rfl⟩
 rw [← hg0] at X0 ⊢
 have G0 := hi_ (Nat.le_of_eq hg0.symm)
 clear hg0
 generalize w.alloc (.cells #[.int .i64 0, .int .i64 0, .int .i64 0] 31 (0, 0)) = w0 at *
 obtain ⟨nn, A1, c1, A2, c2, A3, c3, hn0, y0, y1, y2, y3, NY⟩ := (HN.out.below B0.out).at (show 0 < 1 by omega)
 obtain rfl : nn = n := by simpa using hn0.symm
 simp only [Nat.zero_mul, Nat.zero_add] at y0 y1 y2 y3
 have NY := hi_ NY
 clear hn0
 go_upto_region 7 with fail
 have M1 : Hid (LM B w t b L h r g nn A1 c1 A2 c2 A3 c3 g0 w0.heap.size D P (w0.alloc (.cells #[.int .i64 nn.kind, .slice A1 nn.keys.length c1, .slice A2 nn.vals.length c2, .slice A3 nn.kids.length c3] 149 (0, 0)))) := by
  have hb := below_alloc (Below.refl w0.heap.size w0) (.cells #[.int .i64 nn.kind, .slice A1 nn.keys.length c1, .slice A2 nn.vals.length c2, .slice A3 nn.kids.length c3] 149 (0, 0))
  have hb0 := below_alloc B0.out (.cells #[.int .i64 nn.kind, .slice A1 nn.keys.length c1, .slice A2 nn.vals.length c2, .slice A3 nn.kids.length c3] 149 (0, 0))
  exact hi_ ⟨HT.out.below hb0, Keep.below hb0, HN.out.below hb0, NY.out.below hb, blk_below X0.out hb, heap_alloc_self w0 _, G0.out, B0.out.size, HB.out⟩
 generalize w0.alloc (.cells #[.int .i64 nn.kind, .slice A1 nn.keys.length c1, .slice A2 nn.vals.length c2, .slice A3 nn.kids.length c3] 149 (0, 0)) = w1 at *
 obtain ⟨g1, hg1⟩ : ∃ g1, g1 = w0.heap.size := ⟨_, rfl⟩
 rw [← hg1] at M1 ⊢
 clear hg1 y0 y1 y2 y3 X0 B0 G0 NY HN HT
 have x0 := blk_cell M1.out.nb 0
 have x1 := blk_cell M1.out.nb 1
 have x2 := blk_cell M1.out.nb 2
 have x3 := blk_cell M1.out.nb 3
 go_wp2_with fail
 obtain ⟨C1, k1, C2, k2, C3, k3⟩ := M1.out.nv.outs
 obtain ⟨kn, hkn⟩ : ∃ kn : Int, kn = (nn.keys.length : Int) := ⟨_, rfl⟩
 refine (PNd.node_Node_Len.calls nn.kind A1 c1 nn.keys A2 c2 nn.vals A3 c3 nn.kids kn w1 C1 k1 C2 k2 C3 k3 (by rw [hkn]; rfl)).mono ?_
 have HKN := hi_ hkn
 clear C1 k1 C2 k2 C3 k3 x0 x1 x2 x3 hkn
 rintro e w2 ⟨rfl, hb⟩
 have M2 := hi_ (M1.out.below hb)
 clear hb M1
 have x0 := blk_cell M2.out.nb 0
 have x1 := blk_cell M2.out.nb 1
 have x2 := blk_cell M2.out.nb 2
 have x3 := blk_cell M2.out.nb 3
 by_cases hk0 : kn = 0
 ·-- no keys are left
  subst hk0
  go_wp2_with fail
  refine (tree_Empty w2).mono ?_
  rintro e w3 ⟨rfl, hb⟩
  have M3 := hi_ (M2.out.below hb)
  clear hb M2 x0 x1 x2 x3
  have q0 := blk_cell M3.out.rb 0
  have q1 := blk_cell M3.out.rb 1
  have q2 := blk_cell M3.out.rb 2
  have f0 := blk_frozen M3.out.rb 0
  have f1 := blk_frozen M3.out.rb 1
  have f2 := blk_frozen M3.out.rb 2
  go_wp2_with fail
  refine bodyPost_ret (results_ct rfl _ _ g0 31 #[.int .i64 (-1), .int .i64 0, .int .i64 0] (0, 0) _ rfl (blk_put (blk_put (blk_put M3.out.rb 0 _ rfl) 1 _ rfl) 2 _ rfl) rfl rfl rfl) rfl ?_
  have hfin := M3.out.fin (.int .i64 (-1)) (.int .i64 0) (.int .i64 0)
  refine ⟨D, P, hfin.1, AppOk.refl M3.out.ts.st.room M3.out.ts.st.holds, hfin.2, .inl ⟨_, _, rfl, .inl ⟨rfl, rfl, ?_⟩, HU.out, by omega, fun h0 => absurd (cn_none HC.out (by have := HKN.out; omega)) h0⟩⟩
  exact cn_none HC.out (by have := HKN.out; omega)
 ·have hk0' : (kn == 0) = false := by simpa using hk0
  have HFit : Hid (∀ m ∈ [nn], m.Fit) := hi_ (fun m hm => by
   obtain rfl := List.mem_singleton.1 hm
   exact ⟨HS.out.fine, HK.out.2.1, by have := HKN.out; omega, HZ.out⟩)
  clear hk0
  by_cases hkd : nn.kind = 2
  ·have hkd' : (nn.kind == 2) = true := by simpa using hkd
   have HKD := hi_ hkd
   clear hkd
   go_wp2_with fail
   obtain ⟨C1, k1, C2, k2, C3, k3⟩ := M2.out.nv.outs
   refine (PNd.node_Node_Len.calls nn.kind A1 c1 nn.keys A2 c2 nn.vals A3 c3 nn.kids kn w2 C1 k1 C2 k2 C3 k3 (by rw [HKN.out]; rfl)).mono ?_
   clear C1 k1 C2 k2 C3 k3 x0 x1 x2 x3
   rintro e w3 ⟨rfl, hb⟩
   replace M2 := hi_ (M2.out.below hb)
   clear hb
   obtain ⟨w2, hw2⟩ : ∃ w2, w2 = w3 := ⟨_, rfl⟩
   rw [← hw2] at M2 ⊢
   clear hw2
   have x0 := blk_cell M2.out.nb 0
   have x1 := blk_cell M2.out.nb 1
   have x2 := blk_cell M2.out.nb 2
   have x3 := blk_cell M2.out.nb 3
   by_cases hk1 : kn = 1
   ·-- one child alone
    subst hk1
    obtain ⟨l, ps, hlv, hps, hkv, hpo⟩ := cn_two HC.out HKD.out
    obtain ⟨p, rfl⟩ : ∃ p, ps = [p] := by
     have hl : ps.length = 1 := by have := HKN.out; rw [hps] at this; simp [branchOf] at this; omega
     exact List.length_eq_one_iff.1 hl
    obtain ⟨ad, c, rfl, hcl, hcK, hcc⟩ := Kd.C_get M2.out.nv.outs.2.2.2.2.1 0 0 om_ (by rw [hps]; simp [branchOf])
    have hK : c = [.int .i64 ((p.c : Nat) : Int)] := by
     simp only [Kd.int, Kd.scalar, hps, branchOf] at hcK
     exact hcK
    have z0 : w2.cell? ad = some (.int .i64 ((p.c : Nat) : Int)) := by
     have := hcc 0 (.int .i64 ((p.c : Nat) : Int)) (by rw [hK]; rfl)
     simpa [Kd.int, Kd.scalar, Addr.add] using this
    have hki : 0 < nn.kids.length := by rw [hps]; simp [branchOf]
    have hlw : IntKind.i64.wrap ((lv : Int) - 1) = ((l + 1 : Nat) : Int) := by rw [IntWalk.i64_in _ (by omega)]; omega
    have M3 := M2
    have HPS := hi_ hps
    have HLV := hi_ hlv
    have HKVS := hi_ hkv
    have HPO := hi_ hpo
    clear hcc hcK hcl hK M2 hps hlv hkv hpo
    have q0 := blk_cell M3.out.rb 0
    have q1 := blk_cell M3.out.rb 1
    have q2 := blk_cell M3.out.rb 2
    have f0 := blk_frozen M3.out.rb 0
    have f1 := blk_frozen M3.out.rb 1
    have f2 := blk_frozen M3.out.rb 2
    go_wp2_with fail
    refine bodyPost_ret (results_ct rfl _ _ g0 31 #[.int .i64 ((p.c : Nat) : Int), .int .i64 0, .int .i64 ((l : Int) + 1)] (0, 0) _ rfl (blk_put (blk_put (blk_put M3.out.rb 0 _ rfl) 1 _ rfl) 2 _ rfl) rfl rfl rfl) rfl ?_
    have hfin := M3.out.fin (.int .i64 ((p.c : Nat) : Int)) (.int .i64 0) (.int .i64 ((l : Int) + 1))
    obtain ⟨-, -, m, q1, q2, q3, q4⟩ := HPO.out p List.mem_cons_self
    refine ⟨D, P, hfin.1, AppOk.refl M3.out.ts.st.room M3.out.ts.st.holds, hfin.2, .inl ⟨_, _, rfl, .inr ⟨l + 1, p.c, m, by omega, rfl, q1, q2, ?_, fun _ => q3⟩, HU.out, by omega, fun _ h1 => by have := HLV.out; omega⟩⟩
    have e : kvs = p.kv := by rw [HKVS.out]; simp [kvsOf]
    rw [e]
    exact q4
   ·have hk1' : (kn == 1) = false := by simpa using hk1
    have HK1 := hi_ hk1
    clear hk1
    go_wp2_with fail
    refine (tree_write w2 B t b L h D P r _ [nn] (Nat.le_trans HB.out M2.out.kp.size) M2.out.ts HU.out M2.out.nvs HFit.out).mono ?_
    clear x0 x1 x2 x3
    rintro e w3 ⟨D3, P3, T3, A3', K3, hres⟩
    have M3 := hi_ (M2.out.step T3 K3)
    have A3' := hi_ A3'
    clear T3 K3 M2
    rcases hres with ⟨u1, u2, rfl, r1, r2, hP3, up3⟩ | ⟨er, rfl, hbad, hlt⟩
    ·have hR1 := hi_ r1
     rw [show pagesFrom P.length [nn].length = [((P.length : Nat) : Int)] from rfl] at r2
     have hR2 := hi_ r2
     obtain ⟨U1, d1, rfl⟩ := Kd.R_slice r1
     obtain ⟨U2, d2, rfl⟩ := Kd.R_slice r2
     have HP3 := hi_ hP3
     have up3 := hi_ up3
     clear r1 r2 hP3
     obtain ⟨-, e2', E2⟩ := Kd.R_reads' hR2.out
     obtain ⟨ad, c, rfl, hcl, hcK, hcc⟩ := Kd.C_get E2 0 0 om_ (by simp)
     have hK : c = [.int .i64 ((P.length : Nat) : Int)] := by
      simp only [Kd.int, Kd.scalar] at hcK
      exact hcK
     have z0 : w3.cell? ad = some (.int .i64 ((P.length : Nat) : Int)) := by
      have := hcc 0 (.int .i64 ((P.length : Nat) : Int)) (by rw [hK]; rfl)
      simpa [Kd.int, Kd.scalar, Addr.add] using this
     clear hcc hcK hcl hK e2' E2
     have q0 := blk_cell M3.out.rb 0
     have q1 := blk_cell M3.out.rb 1
     have q2 := blk_cell M3.out.rb 2
     have f0 := blk_frozen M3.out.rb 0
     have f1 := blk_frozen M3.out.rb 1
     have f2 := blk_frozen M3.out.rb 2
     go_wp2_with fail
     refine bodyPost_ret (results_ct rfl _ _ g0 31 #[.int .i64 ((P.length : Nat) : Int), .int .i64 0, .int .i64 lv] (0, 0) _ rfl (blk_put (blk_put (blk_put M3.out.rb 0 _ rfl) 1 _ rfl) 2 _ rfl) rfl rfl rfl) rfl ?_
     have hfin := M3.out.fin (.int .i64 ((P.length : Nat) : Int)) (.int .i64 0) (.int .i64 (lv : Int))
     refine ⟨D3, P3, hfin.1, A3'.out, hfin.2, .inl ⟨_, _, rfl, .inr ⟨lv, P.length, nn, rfl, rfl, by rw [HP3.out]; simp, HFit.out nn List.mem_cons_self, by rw [HP3.out]; exact HC.out.pre, fun _ => by have := HKN.out; have := HK1.out; have := (HFit.out nn List.mem_cons_self).some; omega⟩, up3.out, by rw [HP3.out]; simp, fun _ _ => by rw [HP3.out]; simp⟩⟩
    ·have hbad := hi_ hbad
     have hlt := hi_ hlt
     have her : (er == 0) = false := by have := hbad.out; unfold Bad at this; simp; omega
     have q0 := blk_cell M3.out.rb 0
     have q1 := blk_cell M3.out.rb 1
     have q2 := blk_cell M3.out.rb 2
     have f0 := blk_frozen M3.out.rb 0
     have f1 := blk_frozen M3.out.rb 1
     have f2 := blk_frozen M3.out.rb 2
     go_wp2_with fail
     refine bodyPost_ret (results_ct rfl _ _ g0 31 #[.int .i64 0, .int .i64 0, .int .i64 0] (0, 0) _ rfl (blk_put (blk_put (blk_put M3.out.rb 0 _ rfl) 1 _ rfl) 2 _ rfl) rfl rfl rfl) rfl ?_
     have hfin := M3.out.fin (.int .i64 0) (.int .i64 0) (.int .i64 0)
     exact ⟨D3, P3, hfin.1, A3'.out, hfin.2, .inr ⟨er, rfl, hbad.out, hlt.out⟩⟩
  ·have hkd' : (nn.kind == 2) = false := by simpa using hkd
   have HKD := hi_ hkd
   clear hkd
   go_wp2_with fail
   refine (tree_write w2 B t b L h D P r _ [nn] (Nat.le_trans HB.out M2.out.kp.size) M2.out.ts HU.out M2.out.nvs HFit.out).mono ?_
   clear x0 x1 x2 x3
   rintro e w3 ⟨D3, P3, T3, A3', K3, hres⟩
   have M3 := hi_ (M2.out.step T3 K3)
   have A3' := hi_ A3'
   clear T3 K3 M2
   rcases hres with ⟨u1, u2, rfl, r1, r2, hP3, up3⟩ | ⟨er, rfl, hbad, hlt⟩
   ·have hR1 := hi_ r1
    rw [show pagesFrom P.length [nn].length = [((P.length : Nat) : Int)] from rfl] at r2
    have hR2 := hi_ r2
    obtain ⟨U1, d1, rfl⟩ := Kd.R_slice r1
    obtain ⟨U2, d2, rfl⟩ := Kd.R_slice r2
    have HP3 := hi_ hP3
    have up3 := hi_ up3
    clear r1 r2 hP3
    obtain ⟨-, e2', E2⟩ := Kd.R_reads' hR2.out
    obtain ⟨ad, c, rfl, hcl, hcK, hcc⟩ := Kd.C_get E2 0 0 om_ (by simp)
    have hK : c = [.int .i64 ((P.length : Nat) : Int)] := by
     simp only [Kd.int, Kd.scalar] at hcK
     exact hcK
    have z0 : w3.cell? ad = some (.int .i64 ((P.length : Nat) : Int)) := by
     have := hcc 0 (.int .i64 ((P.length : Nat) : Int)) (by rw [hK]; rfl)
     simpa [Kd.int, Kd.scalar, Addr.add] using this
    clear hcc hcK hcl hK e2' E2
    have q0 := blk_cell M3.out.rb 0
    have q1 := blk_cell M3.out.rb 1
    have q2 := blk_cell M3.out.rb 2
    have f0 := blk_frozen M3.out.rb 0
    have f1 := blk_frozen M3.out.rb 1
    have f2 := blk_frozen M3.out.rb 2
    go_wp2_with fail
    refine bodyPost_ret (results_ct rfl _ _ g0 31 #[.int .i64 ((P.length : Nat) : Int), .int .i64 0, .int .i64 lv] (0, 0) _ rfl (blk_put (blk_put (blk_put M3.out.rb 0 _ rfl) 1 _ rfl) 2 _ rfl) rfl rfl rfl) rfl ?_
    have hfin := M3.out.fin (.int .i64 ((P.length : Nat) : Int)) (.int .i64 0) (.int .i64 (lv : Int))
    refine ⟨D3, P3, hfin.1, A3'.out, hfin.2, .inl ⟨_, _, rfl, .inr ⟨lv, P.length, nn, rfl, rfl, by rw [HP3.out]; simp, HFit.out nn List.mem_cons_self, by rw [HP3.out]; exact HC.out.pre, fun h2 => absurd (HK.out.2.1.resolve_right HKD.out) (by rw [HK.out.1]; omega)⟩, up3.out, by rw [HP3.out]; simp, fun _ _ => by rw [HP3.out]; simp⟩⟩
   ·have hbad := hi_ hbad
    have hlt := hi_ hlt
    have her : (er == 0) = false := by have := hbad.out; unfold Bad at this; simp; omega
    have q0 := blk_cell M3.out.rb 0
    have q1 := blk_cell M3.out.rb 1
    have q2 := blk_cell M3.out.rb 2
    have f0 := blk_frozen M3.out.rb 0
    have f1 := blk_frozen M3.out.rb 1
    have f2 := blk_frozen M3.out.rb 2
    go_wp2_with fail
    refine bodyPost_ret (results_ct rfl _ _ g0 31 #[.int .i64 0, .int .i64 0, .int .i64 0] (0, 0) _ rfl (blk_put (blk_put (blk_put M3.out.rb 0 _ rfl) 1 _ rfl) 2 _ rfl) rfl rfl rfl) rfl ?_
    have hfin := M3.out.fin (.int .i64 0) (.int .i64 0) (.int .i64 0)
    exact ⟨D3, P3, hfin.1, A3'.out, hfin.2, .inr ⟨er, rfl, hbad.out, hlt.out⟩⟩
end Go.Proofs.YtendgmblgdkiaaaGreat

namespace Go.Proofs.YtendgmblgdkiaaaGreat
open Go.RowKit
open Go.Proofs.YtendgmblgdkiaaaGreatW
open PrintWords PrintLast PrintMore
set_option linter.unusedVariables false
set_option linter.unusedSimpArgs false
attribute [-go_sem] Instr.buildSlice
attribute [local go_sem] nodes1

theorem fin3 {B : Nat} {w wx : World} {t b : Nat} {L : Loc} {h : Nat} {r : Rt} {g0 : Nat} {D : Dk} {P : List Pg} (T : TS B wx t b L h D P r) (k : Keep (fun k => L.foot k ∨ k = b) w wx) (hB : B ≤ w.heap.size) (hg : w.heap.size ≤ g0)
  (x y z : Value) : TS B (((wx.setCell ⟨g0, 0, none⟩ x).setCell ⟨g0, 1, none⟩ y).setCell ⟨g0, 2, none⟩ z) t b L h D P r ∧ Keep (fun k => L.foot k ∨ k = b) w (((wx.setCell ⟨g0, 0, none⟩ x).setCell ⟨g0, 1, none⟩ y).setCell ⟨g0, 2, none⟩ z) := by
 have hB : B ≤ g0 := Nat.le_trans hB hg
 exact ⟨T.hi ((((Keep.refl (fun k => B ≤ k) wx).setCell (p := ⟨g0, 0, none⟩) (.inl hB) x).setCell (p := ⟨g0, 1, none⟩) (.inl hB) y).setCell (p := ⟨g0, 2, none⟩) (.inl hB) z),
  ((k.setCell (p := ⟨g0, 0, none⟩) (.inr hg) x).setCell (p := ⟨g0, 1, none⟩) (.inr hg) y).setCell (p := ⟨g0, 2, none⟩) (.inr hg) z⟩
theorem branch_two {P : List Pg} {l : Nat} {qs : List Pt} (h : Ps P l qs) (h2 : qs.length = 2) (hP : P.length ≤ 90000) : (branchOf qs).Short ∧ (branchOf qs).pack.size ≤ 240 := by
 have h0 : qs ≠ [] := by intro e; rw [e] at h2; simp at h2
 have ho := branch_ok h om_ h0 om_
 have hl : (branchOf qs).keys.length = qs.length := List.length_map _
 have hs := branch_S qs qs.length (Nat.le_refl _)
 rw [List.take_length] at hs
 have hle : (qs.map e2).sum ≤ 22 * qs.length := sum_le fun p hp => (e2_le (h.key hp) (by have := h.page hp; omega)).2
 refine ⟨⟨ho.fine, ho.shape, ho.ent, by rw [hl]; omega, by rw [hl]; omega⟩, ?_⟩
 rw [Nd.pack_size, hl, vNum_one (by omega), hs]
 omega

set_option maxHeartbeats 2000000 in
set_option maxRecDepth 100000 in
theorem tree_lift (w : World) (B : Nat) (t b : Nat) (L : Loc) (h : Nat) (D : Dk) (P : List Pg) (r : Rt) (v : Value) (l : List Nd) (n : Nd) (kvs : List KV) (lv : Nat) (hB : B ≤ w.heap.size) (T : TS B w t b L h D P r) (up : D.down = false) (N : NodesV B w v l) (hp : PartsOf n l) (hn : n.Short) (hC : Cn P lv n kvs) (hG : Good kvs) (hlv : lv ≤ 900) :
  Calls Tryz.prog 152 #[.pointer (some ⟨t, 0, none⟩), v, .int .i64 (lv : Int)] w (LiPost B w t b L h D P r kvs (2 * l.length - 1) lv) := by
 rcases hp with ⟨hsz, rfl⟩ | hp
 ·exact lift_one w B t b L h D P r v n kvs lv hB T up N hn hC hG hsz om_
 ·have hl2 : l.length = 2 := by obtain ⟨c, -, -, -, -, rfl⟩ := hp; rfl
  rw [show 2 * l.length - 1 = 3 by rw [hl2]]
  have hroom := T.st.room
  have hmost := room_le T.st.d.ok
  obtain ⟨HFit, qs, hq1, hq2, hq3, hq4, hq5, hq6, hq7⟩ := new_pts hC hG om_ hn (.inr hp) (by intro e; rw [e] at hl2; simp at hl2)
  have CW := hi_ (fun W (hW : Below w.heap.size w W) => tree_write W B t b L h D P r v l (Nat.le_trans hB hW.size) (T.below hW) up (N.below hW) HFit)
  obtain ⟨g, hv⟩ : ∃ g, v = .slice (some ⟨g, 0, none⟩) 2 2 := by
   rcases N with ⟨a, x, g, rfl, -, -, -, -⟩ | ⟨a, b, x, y, g, rfl, rfl, -, -, -, -⟩
   ·simp at hl2
   ·exact ⟨g, rfl⟩
  subst hv
  have HL := hi_ hl2
  have HQ1 := hi_ hq1
  have HQ2 := hi_ hq2
  have HQ3 := hi_ hq3
  have HQ5 := hi_ hq5
  have HQ7 := hi_ hq7
  have HG := hi_ hG
  have HB := hi_ hB
  have HT := hi_ T
  have HLV := hi_ hlv
  have hlw : IntKind.i64.wrap ((lv : Int) + 1) = ((lv + 1 : Nat) : Int) := by rw [IntWalk.i64_in _ (by omega)]; omega
  have hk := (cn_kind hC).2.2
  have HK := hi_ hk
  clear hl2 hroom hmost hq1 hq2 hq3 hq4 hq5 hq6 hq7 HFit N hp hn hC hG hlv T up hB hk
  go_enter Tryz.func152, Tryz.ntmps152
  go_upto_region 2 with fail
  have X0 := hi_ (blk_new w (.cells #[.int .i64 0, .int .i64 0, .int .i64 0] 31 (0, 0)))
  have B0 := hi_ (below_alloc (Below.refl w.heap.size w) (.cells #[.int .i64 0, .int .i64 0, .int .i64 0] 31 (0, 0)))
  obtain ⟨g0, hg0⟩ : ∃ g0, g0 = w.heap.size := ⟨_, rfl⟩
  rw [← hg0] at X0 ⊢
  have G0 := hi_ (Nat.le_of_eq hg0.symm)
  clear hg0
  generalize w.alloc (.cells #[.int .i64 0, .int .i64 0, .int .i64 0] 31 (0, 0)) = w0 at *
  go_wp2_with fail
  refine (CW.out w0 B0.out).mono ?_
  clear CW
  rintro e w3 ⟨D3, P3, T3, A3, K3, hres⟩
  have hng : ∀ i, w.heap.size ≤ i → ¬ (L.foot i ∨ i = b) := fun i hi hf => by have := T3.lo i hf; have := HB.out; omega
  have X3 := hi_ (K3.heap X0.out (hng _ G0.out))
  have T3 := hi_ T3
  have A3 := hi_ A3
  have KP := hi_ ((Keep.below B0.out).trans K3)
  have HNG := hi_ hng
  clear K3 X0 hng
  rcases hres with ⟨u1, u2, rfl, r1, r2, hP3, up3⟩ | ⟨er, rfl, hbad, hlt⟩
  ·obtain ⟨ks, hks⟩ : ∃ ks, ks = l.map Nd.least := ⟨_, rfl⟩
   obtain ⟨cs, hcs⟩ : ∃ cs, cs = pagesFrom P.length l.length := ⟨_, rfl⟩
   rw [← hks] at r1
   rw [← hcs] at r2
   have HKS := hi_ hks
   have HCS := hi_ hcs
   clear hks hcs
   have hR1 := hi_ (Kd.R_lower r1 B0.out.size)
   have hR2 := hi_ (Kd.R_lower r2 B0.out.size)
   obtain ⟨U1, d1, rfl⟩ := Kd.R_slice r1
   obtain ⟨U2, d2, rfl⟩ := Kd.R_slice r2
   have HP3 := hi_ hP3
   have up3 := hi_ up3
   clear r1 r2 hP3
   go_wp2_with fail
   have hba := below_alloc (Below.refl w3.heap.size w3) (.cells #[.int .i64 2, .slice U1 ks.length d1, .slice none 0 0, .slice U2 cs.length d2] 149 (0, 0))
   have hk1 : (branchOf qs).keys = ks := by rw [HKS.out]; exact HQ1.out
   have hk2 : (branchOf qs).kids = cs := by rw [HCS.out]; exact HQ2.out
   have NN : NodesV B (w3.alloc (.cells #[.int .i64 2, .slice U1 ks.length d1, .slice none 0 0, .slice U2 cs.length d2] 149 (0, 0))) (.slice (some ⟨w3.heap.size, 0, none⟩) 1 1) [branchOf qs] :=
    .inl ⟨branchOf qs, .agg #[.int .i64 2, .slice U1 ks.length d1, .slice none 0 0, .slice U2 cs.length d2], w3.heap.size, rfl, rfl, Nat.le_trans HB.out KP.out.size, heap_alloc_self w3 _, _, _, _, rfl, by rw [hk1]; exact Kd.R_below (Kd.R_lower hR1.out HB.out) hba, Kd.R_nil _ _ _ _ _, by rw [hk2]; exact Kd.R_below (Kd.R_lower hR2.out HB.out) hba⟩
   obtain ⟨l', hl'⟩ : ∃ l', lv = l' + 1 := ⟨lv - 1, by have := HK.out; omega⟩
   have hPs : Ps P3 lv qs := ⟨by rw [HQ3.out]; exact HG.out, by rw [HP3.out]; exact HQ7.out⟩
   have hm3 := room_le T3.out.st.d.ok
   have hr3 := T3.out.st.room
   have h2 := branch_two hPs (by rw [HQ5.out]; exact HL.out) om_
   have hC3 : Cn P3 (lv + 1) (branchOf qs) kvs := by
    rw [hl']
    exact ⟨qs, rfl, HQ3.out.symm, by intro e; have := HQ5.out; rw [e, HL.out] at this; simp at this, fun p hp => by have := hPs.on p hp; rw [hl'] at this; exact this⟩
   have CL := lift_one _ B t b L h D3 P3 r _ (branchOf qs) kvs (lv + 1) (Nat.le_trans HB.out (Nat.le_trans KP.out.size hba.size)) (T3.out.below hba) up3.out NN h2.1 hC3 HG.out h2.2 (by have := HLV.out; omega)
   rw [show ((lv + 1 : Nat) : Int) = (lv : Int) + 1 by omega] at CL
   refine CL.mono ?_
   clear CL NN hk1 hk2 hl' hPs hm3 hr3 h2 hC3
   rintro e w5 ⟨D5, P5, T5, A5, K5, hres⟩
   have K4 := (Keep.below (F := fun k => L.foot k ∨ k = b) hba).trans K5
   have X5 := hi_ (K4.heap X3.out (HNG.out _ G0.out))
   have KQ := hi_ (KP.out.trans K4)
   have T5 := hi_ T5
   have HP5 := hi_ (show P3.length ≤ P5.length by obtain ⟨X, hX⟩ := A5.pre; rw [hX, List.length_append]; omega)
   have A5 := hi_ (A3.out.trans A5)
   clear K4 K5 hba
   rcases hres with ⟨pg, hg, rfl, hRC, up5, hle, -⟩ | ⟨er, rfl, hbad, hlt⟩
   ·have hRC := hi_ hRC
    have up5 := hi_ up5
    have hle := hi_ hle
    have q0 := blk_cell X5.out 0
    have q1 := blk_cell X5.out 1
    have q2 := blk_cell X5.out 2
    have f0 := blk_frozen X5.out 0
    have f1 := blk_frozen X5.out 1
    have f2 := blk_frozen X5.out 2
    go_wp2_with fail
    refine bodyPost_ret (results_ct rfl _ _ g0 31 #[.int .i64 pg, .int .i64 0, .int .i64 hg] (0, 0) _ rfl (blk_put (blk_put (blk_put X5.out 0 _ rfl) 1 _ rfl) 2 _ rfl) rfl rfl rfl) rfl ?_
    have hfin := fin3 (g0 := g0) T5.out KQ.out HB.out G0.out (.int .i64 pg) (.int .i64 0) (.int .i64 hg)
    exact ⟨D5, P5, hfin.1, A5.out, hfin.2, .inl ⟨_, _, rfl, hRC.out, up5.out, by have h1 := hle.out; rw [HP3.out, List.length_append, List.length_map, HL.out] at h1; omega, fun _ _ => by have h1 := HP5.out; rw [HP3.out, List.length_append, List.length_map, HL.out] at h1; omega⟩⟩
   ·have hbad := hi_ hbad
    have hlt := hi_ hlt
    have q0 := blk_cell X5.out 0
    have q1 := blk_cell X5.out 1
    have q2 := blk_cell X5.out 2
    have f0 := blk_frozen X5.out 0
    have f1 := blk_frozen X5.out 1
    have f2 := blk_frozen X5.out 2
    go_wp2_with fail
    refine bodyPost_ret (results_ct rfl _ _ g0 31 #[.int .i64 0, .int .i64 0, .int .i64 0] (0, 0) _ rfl (blk_put (blk_put (blk_put X5.out 0 _ rfl) 1 _ rfl) 2 _ rfl) rfl rfl rfl) rfl ?_
    have hfin := fin3 (g0 := g0) T5.out KQ.out HB.out G0.out (.int .i64 0) (.int .i64 0) (.int .i64 0)
    exact ⟨D5, P5, hfin.1, A5.out, hfin.2, .inr ⟨er, rfl, Bad.of hbad.out A3.out.wr.live, by have h1 := hlt.out; rw [HP3.out, List.length_append, List.length_map, HL.out] at h1; omega⟩⟩
  ·have hbad := hi_ hbad
   have hlt := hi_ hlt
   have her : (er == 0) = false := by have := hbad.out; unfold Bad at this; simp; omega
   have q0 := blk_cell X3.out 0
   have q1 := blk_cell X3.out 1
   have q2 := blk_cell X3.out 2
   have f0 := blk_frozen X3.out 0
   have f1 := blk_frozen X3.out 1
   have f2 := blk_frozen X3.out 2
   go_wp2_with fail
   refine bodyPost_ret (results_ct rfl _ _ g0 31 #[.int .i64 0, .int .i64 0, .int .i64 0] (0, 0) _ rfl (blk_put (blk_put (blk_put X3.out 0 _ rfl) 1 _ rfl) 2 _ rfl) rfl rfl rfl) rfl ?_
   have hfin := fin3 (g0 := g0) T3.out KP.out HB.out G0.out (.int .i64 0) (.int .i64 0) (.int .i64 0)
   exact ⟨D3, P3, hfin.1, A3.out, hfin.2, .inr ⟨er, rfl, hbad.out, by have := hlt.out; have := HL.out; omega⟩⟩
end Go.Proofs.YtendgmblgdkiaaaGreat

namespace Go.Proofs.YtendgmblgdkiaaaGreat
open Go.RowKit
open Go.Proofs.YtendgmblgdkiaaaGreatW
open PrintWords PrintLast PrintMore
set_option linter.unusedVariables false
set_option linter.unusedSimpArgs false
attribute [-go_sem] Instr.buildSlice
attribute [local go_sem] nodes1 max2_int

/-- A tree with a content. -/
structure TreeC (P : List Pg) (r : Rt) (kvs : List KV) : Prop where
 root : RootC P r.page r.height kvs
 count : r.count = kvs.length
 good : Good kvs
/-- What change comes to, the results told apart by the error. -/
def ChRes (B : Nat) (w : World) (t b : Nat) (L : Loc) (h : Nat) (D : Dk) (P : List Pg) (r : Rt) (key : BA) (ov : Option BA) (lv : Nat) (kvs : List KV) (mx : Nat) (v : Value) (er : Int) (w' : World) : Prop :=
 ∃ D' P', TS B w' t b L h D' P' r ∧ AppOk h D P D' P' ∧ Keep (fun k => L.foot k ∨ k = b) w w' ∧
  ((er = 0 ∧ ∃ l n', NodesV B w' v l ∧ PartsOf n' l ∧ n'.Short ∧ Cn P' lv n' (ed key ov kvs) ∧ D'.down = false ∧ P'.length + (2 * l.length - 1) ≤ P.length + mx ∧ (2 ≤ lv → P.length < P'.length)) ∨
   (er ≠ 0 ∧ Bad D D' P' er ∧ P'.length < P.length + mx))
theorem ChPost.res {B : Nat} {w : World} {t b : Nat} {L : Loc} {h : Nat} {D : Dk} {P : List Pg} {r : Rt} {key : BA} {ov : Option BA} {lv : Nat} {n : Nd} {kvs : List KV} {e : Ending} {w' : World} (H : ChPost B w t b L h D P r key ov lv n kvs e w') (hlv : 1 ≤ lv) :
  ∃ v er, e = .returned (.tuple #[v, .int .i64 er]) ∧ ChRes B w t b L h D P r key ov lv kvs (2 * lv + 1) v er w' := by
 obtain ⟨D', P', h1, h2, h3, h4⟩ := H
 rcases h4 with ⟨v, l, n', rfl, a, b, c, d, e, f, -, g⟩ | ⟨er, rfl, a, b⟩
 ·have hl : l.length ≤ 2 := by rcases b with ⟨-, rfl⟩ | ⟨c, -, -, -, -, rfl⟩ <;> simp
  exact ⟨v, 0, rfl, D', P', h1, h2, h3, .inl ⟨rfl, l, n', a, b, c, d, e, by omega, fun h => (g h).2⟩⟩
 ·exact ⟨_, er, rfl, D', P', h1, h2, h3, .inr ⟨by unfold Bad at a; omega, a, by omega⟩⟩

theorem ChRes.base {B : Nat} {w W : World} {t b : Nat} {L : Loc} {h : Nat} {D : Dk} {P : List Pg} {r : Rt} {key : BA} {ov : Option BA} {lv : Nat} {kvs : List KV} {mx : Nat} {v : Value} {er : Int} {w' : World} (H : ChRes B W t b L h D P r key ov lv kvs mx v er w') (hW : Below w.heap.size w W) : ChRes B w t b L h D P r key ov lv kvs mx v er w' := by
 obtain ⟨D', P', a, b', c, d⟩ := H
 exact ⟨D', P', a, b', (Keep.below hW).trans c, d⟩
theorem fin_tree {B : Nat} {w wx : World} {t b : Nat} {L : Loc} {h : Nat} {r : Rt} {D : Dk} {P : List Pg} (T : TS B wx t b L h D P r) (k : Keep (fun k => L.foot k ∨ k = b) w wx) (x y z : Int) :
  TS B (((wx.setCell ⟨t, 1, none⟩ (.int .i64 x)).setCell ⟨t, 2, none⟩ (.int .i64 y)).setCell ⟨t, 3, none⟩ (.int .i64 z)) t b L h D P ⟨x, y, z⟩ ∧ Keep (fun k => (L.foot k ∨ k = b) ∨ k = t) w (((wx.setCell ⟨t, 1, none⟩ (.int .i64 x)).setCell ⟨t, 2, none⟩ (.int .i64 y)).setCell ⟨t, 3, none⟩ (.int .i64 z)) := by
 have hk := (((Keep.refl (fun k => k = t) wx).setCell (p := ⟨t, 1, none⟩) (.inl rfl) (.int .i64 x)).setCell (p := ⟨t, 2, none⟩) (.inl rfl) (.int .i64 y)).setCell (p := ⟨t, 3, none⟩) (.inl rfl) (.int .i64 z)
 refine ⟨⟨⟨T.st.d.keep hk (fun i hi e => T.not (.inl (e ▸ hi))), T.st.p.keep hk (fun e => T.not (.inr e.symm)), T.st.hh, T.st.room, T.st.holds⟩, blk_put (blk_put (blk_put T.tr 1 _ rfl) 2 _ rfl) 3 _ rfl, T.lo, T.tl⟩, ?_⟩
 exact (k.mono (G := fun k => (L.foot k ∨ k = b) ∨ k = t) (fun i _ hi => .inl hi)).trans (hk.mono (fun i _ hi => .inr hi))
theorem cut_back {B : Nat} {wx : World} {t b : Nat} {L : Loc} {h : Nat} {r : Rt} {D : Dk} {P P' : List Pg} (T : TS B wx t b L h D P' r) (hp : ∃ X, P' = P ++ X) :
  Calls Tryz.prog 133 #[.pointer (some ⟨b, 0, none⟩), .int .i64 (P.length : Int)] wx fun e w' => (∃ v : Bool, e = .returned (.bool v)) ∧ TS B w' t b L h D P r ∧ Keep (fun k => L.foot k ∨ k = b) wx w' := by
 obtain ⟨X, rfl⟩ := hp
 refine (pages_Cut wx b L h _ (P.length : Int) T.st.p).mono ?_
 rintro e w' ⟨he, hpg, hk⟩
 have hr := T.st.room
 rw [List.length_append] at hr
 rw [if_pos ⟨by omega, by rw [List.length_append]; omega⟩, Int.toNat_natCast] at hpg
 exact ⟨⟨_, he⟩, ⟨⟨T.st.d.keep hk (fun i hi e => T.st.p.foot T.st.d (e ▸ hi)), hpg, T.st.hh, by omega, T.st.holds.pre⟩, T.tr.keep hk (fun e => T.not (.inr e)), T.lo, T.tl⟩, hk.mono (fun i _ hi => .inr hi)⟩
/-- What apply comes to. -/
def ApPost (B : Nat) (w : World) (t b : Nat) (L : Loc) (h : Nat) (D : Dk) (P : List Pg) (r : Rt) (more : Int) (kvs' : List KV) (e : Ending) (w' : World) : Prop :=
 ∃ D' P' r', TS B w' t b L h D' P' r' ∧ Keep (fun k => (L.foot k ∨ k = b) ∨ k = t) w w' ∧
  ((e = .returned (.int .i64 0) ∧ AppOk h D P D' P' ∧ RootC P' r'.page r'.height kvs' ∧ r'.count = r.count + more ∧ D'.down = false ∧ (P'.length : Int) ≤ P.length + 2 * r.height + 1 ∧ (kvs' ≠ [] → P.length < P'.length)) ∨
   (∃ er, e = .returned (.int .i64 er) ∧ r' = r ∧ P' = P ∧ Wr (fun s => ∃ j, P.length ≤ j ∧ s = D.sector h j) D D' ∧ ((er = 5 ∧ D'.down = false ∧ (D'.room : Int) < P.length + 2 * r.height + 1) ∨ (er = 6 ∧ D'.down = true ∧ ¬ D.Live))))

set_option maxHeartbeats 2000000 in
set_option maxRecDepth 100000 in
theorem tree_apply (B : Nat) (w : World) (t b : Nat) (L : Loc) (h : Nat) (D : Dk) (P : List Pg) (r : Rt) (key : BA) (ov : Option BA) (p1 p2 : Addr) (kvs : List KV) (more : Int) (hB : B ≤ w.heap.size) (T : TS B w t b L h D P r) (up : D.down = false) (hc : Caps (fun k => L.foot k ∨ k = b) ov key p1 p2 w)
  (C : TreeC P r kvs) (hk : keyOk key = true) (hv : ∀ v, ov = some v → valOk v = true) (hdel : ov = none → ∃ v, (key, v) ∈ kvs) (hh : r.height ≤ 900) (hm : -1 ≤ more ∧ more ≤ 1) (hct : kvs.length ≤ 100000000) :
  Calls Tryz.prog 99 #[.pointer (some ⟨t, 0, none⟩), .string key, cloV ov p1 p2, .int .i64 more] w (ApPost B w t b L h D P r more (ed key ov kvs)) := by
 have CN := hi_ (pages_Next w b L h P.length T.st.p)
 have HT := hi_ T
 have HU := hi_ up
 have HC := hi_ hc
 have HR := hi_ C
 have HB := hi_ hB
 have c0 := T.tr.c0
 have c1 := T.tr.c1
 have c2 := T.tr.c2
 have c3 := T.tr.c3
 go_enter Tryz.func99, Tryz.ntmps99
 go_wp2_with fail
 refine CN.out.mono ?_
 rintro e w1 ⟨rfl, rfl⟩
 clear CN
 have hdel' := hi_ hdel
 have hG := hi_ C.good
 rcases C.root with ⟨h0, hpg, hkv⟩ | ⟨hn, q, n, hhn, hq, hP, hF, hC, h2⟩
 ·-- the empty tree
  obtain ⟨x, rfl⟩ : ∃ x, ov = some x := by
   cases ov with
   | some x => exact ⟨x, rfl⟩
   | none => obtain ⟨v, hv⟩ := hdel rfl; rw [hkv] at hv; cases hv
  rw [h0] at c3
  subst hkv
  clear hdel C T up hc
  unfold cloV
  go_wp2_with fail
  refine (do_put (fun k => L.foot k ∨ k = b) w B _ [] key x p1 p2 hB ⟨_, _, _, rfl, Kd.R_nil _ _ _ _ _, Kd.R_nil _ _ _ _ _, Kd.R_nil _ _ _ _ _⟩ List.Pairwise.nil (by simp) HC.out).mono ?_
  rintro e w3 ⟨v', rfl, NV, hb⟩
  obtain ⟨v1, v2, v3, rfl, g1, g2, g3⟩ := NV
  go_upto_region 8 with fail
  have hpk : (leafOf (ed key (some x) [])).Short ∧ (leafOf (ed key (some x) [])).pack.size ≤ 240 := by
   have h1 := ed_short (kvs := []) (ov := some x) ⟨List.Pairwise.nil, by simp⟩ hk hv (by simp)
   refine ⟨h1.1, ?_⟩
   have e : ed key (some x) [] = [(key, x)] := by simp [ed]
   have h2 := (e1_le (p := (key, x)) ⟨hk, hv x rfl⟩).2
   have h3 := leaf_S [(key, x)] 1 (by simp)
   have h4 : (leafOf [(key, x)]).keys.length = 1 := rfl
   rw [e, Nd.pack_size, h4, vNum_one (by omega), h3]
   simp only [List.take_succ_cons, List.take_zero, List.map_cons, List.map_nil, List.sum_cons, List.sum_nil]
   omega
  have hbx := below_then (Below.refl w.heap.size w) (Nat.le_refl _) hb
  have hby := below_alloc hbx (.cells #[.int .i64 (leafOf (ed key (some x) [])).kind, v1, v2, v3] 149 (0, 0))
  have HRES := hi_ (show ChRes B w t b L h D P r key (some x) 1 [] 1 (.slice (some ⟨w3.heap.size, 0, none⟩) 1 1) 0 (w3.alloc (.cells #[.int .i64 (leafOf (ed key (some x) [])).kind, v1, v2, v3] 149 (0, 0))) from
   ⟨D, P, HT.out.below hby, AppOk.refl HT.out.st.room HT.out.st.holds, Keep.below hby, .inl ⟨rfl, _, _, .inl ⟨leafOf (ed key (some x) []), .agg #[.int .i64 (leafOf (ed key (some x) [])).kind, v1, v2, v3], w3.heap.size, rfl, rfl, Nat.le_trans hB hbx.size, heap_alloc_self w3 _, (show NodeV B w3 _ _ from ⟨v1, v2, v3, rfl, g1, g2, g3⟩).below (below_alloc (Below.refl w3.heap.size w3) _)⟩, .inl ⟨hpk.2, rfl⟩, hpk.1, rfl, HU.out, by simp, fun h => by omega⟩⟩)
  obtain ⟨wx, hwx⟩ : ∃ wx, wx = w3.alloc (.cells #[.int .i64 (leafOf (ed key (some x) [])).kind, v1, v2, v3] 149 (0, 0)) := ⟨_, rfl⟩
  rw [← hwx] at HRES ⊢
  obtain ⟨vv, hvv⟩ : ∃ vv : Value, vv = .slice (some ⟨w3.heap.size, 0, none⟩) 1 1 := ⟨_, rfl⟩
  rw [← hvv] at HRES ⊢
  obtain ⟨er, her'⟩ : ∃ er : Int, er = 0 := ⟨_, rfl⟩
  obtain ⟨HN, hHN⟩ : ∃ HN : Nat, HN = 1 := ⟨_, rfl⟩
  rw [show max (0 : Int) 1 = ((1 : Nat) : Int) from rfl]
  rw [← hHN] at HRES ⊢
  have HKO := hi_ hk
  have HVO := hi_ hv
  have HLO : Hid (HN ≤ 900) := hi_ om_
  have HMX : Hid ((HN : Int) = 2 * r.height + 1) := hi_ om_
  have HCT : Hid (wrap64 (r.count + more) = r.count + more) := hi_ (by have := HR.out.count; unfold wrap64; omega)
  have HHR : Hid (r.height = 0) := hi_ h0
  have HH1 := hi_ hHN
  have HLV1 : Hid (1 ≤ HN) := hi_ om_
  clear hwx hvv g1 g2 g3 hb hpk hbx hby hHN her' hk hv c0 c1 c2 c3 hdel' h0 hpg hB
  obtain ⟨D4, P4, T4, A4, K4, hres⟩ := HRES.out
  rcases hres with ⟨-, l, n', NL, hpo, hsh, hcn, up4, hle, hgr⟩ | ⟨hne, hbad, hlt⟩
  ·have T4 := hi_ T4
   have A4 := hi_ A4
   have K4 := hi_ K4
   have NL := hi_ NL
   have hpo := hi_ hpo
   have hsh := hi_ hsh
   have hcn := hi_ hcn
   have up4 := hi_ up4
   have hle := hi_ hle
   have hgr := hi_ hgr
   clear HRES
   go_upto_region 10 with fail
   have X0 := hi_ (blk_new wx (.cells #[.int .i64 0, .int .i64 0, .int .i64 0] 31 (0, 0)))
   have B0 := hi_ (below_alloc (Below.refl wx.heap.size wx) (.cells #[.int .i64 0, .int .i64 0, .int .i64 0] 31 (0, 0)))
   obtain ⟨g0, hg0⟩ : ∃ g0, g0 = wx.heap.size := ⟨_, rfl⟩
   rw [← hg0] at X0 ⊢
   have G0 := hi_ (show w.heap.size ≤ g0 from hg0 ▸ K4.out.size)
   clear hg0
   generalize wx.alloc (.cells #[.int .i64 0, .int .i64 0, .int .i64 0] 31 (0, 0)) = w5 at *
   go_wp2_with fail
   refine (tree_lift w5 B t b L h D4 P4 r _ l n' _ HN (Nat.le_trans HB.out (Nat.le_trans K4.out.size B0.out.size)) (T4.out.below B0.out) up4.out (NL.out.below B0.out) hpo.out hsh.out hcn.out (ed_good hG.out HKO.out HVO.out) HLO.out).mono ?_
   rintro e w6 ⟨D6, P6, T6, A6, K6, hres⟩
   have hng : ∀ i, w.heap.size ≤ i → ¬ (L.foot i ∨ i = b) := fun i hi hf => by have := T6.lo i hf; have := HB.out; omega
   have X6 := hi_ (K6.heap X0.out (hng _ G0.out))
   have T6 := hi_ T6
   have HP6 := hi_ (show P4.length ≤ P6.length by obtain ⟨X, hX⟩ := A6.pre; rw [hX, List.length_append]; omega)
   have HP4 := hi_ (show P.length ≤ P4.length by obtain ⟨X, hX⟩ := A4.out.pre; rw [hX, List.length_append]; omega)
   have A6 := hi_ (A4.out.trans A6)
   have K6 := hi_ ((K4.out.trans (Keep.below B0.out)).trans K6)
   have HNG := hi_ hng
   clear hng X0 NL hpo hsh hcn
   have q0 := blk_cell X6.out 0
   have q1 := blk_cell X6.out 1
   have q2 := blk_cell X6.out 2
   have f0 := blk_frozen X6.out 0
   have f1 := blk_frozen X6.out 1
   have f2 := blk_frozen X6.out 2
   have tb : g0 ≠ t := fun e => by have := G0.out; have := HB.out; have := T6.out.tl; omega
   have tb' : t ≠ g0 := fun e => tb e.symm
   have t0 := T6.out.tr.c0
   have t1 := T6.out.tr.c1
   have t2 := T6.out.tr.c2
   have t3 := T6.out.tr.c3
   have h1 := T6.out.tr.frz 1
   have h2 := T6.out.tr.frz 2
   have h3 := T6.out.tr.frz 3
   rcases hres with ⟨pg, hg, rfl, hRC, up6, hle6, hgr6⟩ | ⟨er, rfl, hbad6, hlt6⟩
   ·have hRC := hi_ hRC
    have up6 := hi_ up6
    have hle6 := hi_ hle6
    have hgr6 := hi_ hgr6
    go_upto_region 14 with fail
    have hfin := fin3 (g0 := g0) T6.out K6.out HB.out G0.out (.int .i64 pg) (.int .i64 0) (.int .i64 hg)
    have T7 := hi_ hfin.1
    have K7 := hi_ hfin.2
    have X7 := hi_ (show (((w6.setCell ⟨g0, 0, none⟩ (.int .i64 pg)).setCell ⟨g0, 1, none⟩ (.int .i64 0)).setCell ⟨g0, 2, none⟩ (.int .i64 hg)).heap[g0]? = some (.cells #[.int .i64 pg, .int .i64 0, .int .i64 hg] 31 (0, 0)) from blk_put (blk_put (blk_put X6.out 0 _ rfl) 1 _ rfl) 2 _ rfl)
    generalize ((w6.setCell ⟨g0, 0, none⟩ (.int .i64 pg)).setCell ⟨g0, 1, none⟩ (.int .i64 0)).setCell ⟨g0, 2, none⟩ (.int .i64 hg) = w7 at *
    clear hfin q0 q1 q2 f0 f1 f2 t0 t1 t2 t3 h1 h2 h3 X6 T6 K6
    have t2 := T7.out.tr.c2
    have q1 := blk_cell X7.out 1
    have f1 := blk_frozen X7.out 1
    go_upto_region 15 with fail
    obtain ⟨cn, hcn⟩ : ∃ cn, cn = wrap64 (r.count + more) := ⟨_, rfl⟩
    rw [← hcn]
    have HCN := hi_ hcn
    have X8 := hi_ (show (w7.setCell ⟨g0, 1, none⟩ (.int .i64 cn)).heap[g0]? = some (.cells #[.int .i64 pg, .int .i64 cn, .int .i64 hg] 31 (0, 0)) from blk_put X7.out 1 _ rfl)
    have hBg : B ≤ g0 := Nat.le_trans HB.out G0.out
    have T8 := hi_ (T7.out.hi ((Keep.refl (fun k => B ≤ k) w7).setCell (p := ⟨g0, 1, none⟩) (.inl hBg) (.int .i64 cn)))
    have K8 := hi_ (K7.out.setCell (p := ⟨g0, 1, none⟩) (.inr G0.out) (.int .i64 cn))
    generalize w7.setCell ⟨g0, 1, none⟩ (.int .i64 cn) = w8 at *
    clear hcn q1 f1 t2 X7 T7 K7 hBg
    have q0 := blk_cell X8.out 0
    have q1 := blk_cell X8.out 1
    have q2 := blk_cell X8.out 2
    have t1 := T8.out.tr.c1
    have t2 := T8.out.tr.c2
    have t3 := T8.out.tr.c3
    have h1 := T8.out.tr.frz 1
    have h2 := T8.out.tr.frz 2
    have h3 := T8.out.tr.frz 3
    go_wp2_with fail
    go_ret
    have hf := fin_tree T8.out K8.out pg cn hg
    refine ⟨D6, P6, ⟨pg, cn, hg⟩, hf.1, hf.2, .inl ⟨rfl, A6.out, hRC.out, ?_, up6.out, ?_, ?_⟩⟩
    ·show cn = _
     rw [HCN.out]; exact HCT.out
    ·have h1 := hle6.out; have h2 := hle.out; have h3 := HMX.out; omega
    ·intro hk; have h1 := hgr.out; have h2 := hgr6.out hk; have h3 := HP4.out; have h4 := HP6.out; have h5 := HLV1.out; omega
   ·have hbad6 := hi_ hbad6
    have hlt6 := hi_ hlt6
    have her : (er == 0) = false := by have := hbad6.out; unfold Bad at this; simp; omega
    have hbad6 := hbad6
    have hfin := fin3 (g0 := g0) T6.out K6.out HB.out G0.out (.int .i64 0) (.int .i64 0) (.int .i64 0)
    have T7 := hi_ hfin.1
    have K7 := hi_ hfin.2
    clear hfin
    go_wp2_with fail
    generalize ((w6.setCell ⟨g0, 0, none⟩ (.int .i64 0)).setCell ⟨g0, 1, none⟩ (.int .i64 0)).setCell ⟨g0, 2, none⟩ (.int .i64 0) = w7 at *
    refine (cut_back T7.out A6.out.pre).mono ?_
    rintro e w8 ⟨⟨vb, rfl⟩, T8, K8⟩
    have T8 := hi_ T8
    have K8 := hi_ (K7.out.trans K8)
    go_wp2_with fail
    go_ret
    refine ⟨D6, P, r, T8.out, K8.out.mono (fun i _ hi => Or.inl hi), .inr ⟨er, rfl, rfl, rfl, A6.out.wr, ?_⟩⟩
    rcases Bad.of hbad6.out A4.out.wr.live with ⟨a, b', c⟩ | c
    ·exact .inl ⟨a, b', by have h1 := hlt6.out; have h2 := hle.out; have h3 := HMX.out; omega⟩
    ·exact .inr c
  ·exact absurd rfl hne
 ·rw [hhn] at c3
  rw [hq] at c1
  have hn1 := (cn_kind hC).2.2
  have hpos : (0 : Int) < (hn : Int) := by omega
  have CC := hi_ (fun W (hW : Below w.heap.size w W) => (tree_change B t b L h r key ov p1 p2 hn W D P q n kvs ⟨Nat.le_trans hB hW.size, T.below hW, up, hc.keep (Keep.below hW), hP, hF, hC, C.good, hk, hv, hdel, by omega, h2⟩).mono (fun e w' H => (H.res hn1).imp fun v => Exists.imp fun er => And.imp_right (fun H => H.base hW)))
  go_upto_region 6 with fail
  have HB0 := hi_ (Below.refl w.heap.size w)
  have hlow := hi_ (show hn ≤ 900 by omega)
  have HN1 := hi_ hn1
  have HHN := hi_ hhn
  have HQQ := hi_ hq
  clear hdel C T up hc hP hF hC h2 hn1 hhn hq
  go_region_held3 (fun w' => w'.cell? ⟨t, 1, none⟩ = some (.int .i64 (q : Int)) ∧ w'.cell? ⟨t, 3, none⟩ = some (.int .i64 (hn : Int)))
   (first | exact ⟨c1, c3⟩ | (with_reducible assumption))
   (first
    | (go_at_call 151; (with_reducible refine (CC.out _ ?_).mono ?_); (repeat (first | (with_reducible assumption) | exact HB0.out | refine bel_drewN ?_ _ | refine bel_drew ?_)); rintro e w2 ⟨v, er, rfl, hres⟩; have f2 : w2.cell? ⟨t, 1, none⟩ = some (.int .i64 (q : Int)) ∧ w2.cell? ⟨t, 3, none⟩ = some (.int .i64 (hn : Int)) := (by obtain ⟨D4, P4, T4, -⟩ := hres; rw [← HHN.out, ← HQQ.out]; exact ⟨T4.tr.c1, T4.tr.c3⟩)))
  have HRES := hi_ hres
  have hmx : max (hn : Int) 1 = (hn : Int) := by have := HN1.out; omega
  rw [hmx]
  obtain ⟨wx, hwx⟩ : ∃ wx, wx = w2 := ⟨_, rfl⟩
  rw [← hwx] at HRES ⊢
  obtain ⟨HN, hHN⟩ : ∃ HN, HN = hn := ⟨_, rfl⟩
  rw [← hHN] at HRES hlow HHN ⊢
  have HKO := hi_ hk
  have HVO := hi_ hv
  have HLO := hlow
  have HLV1 : Hid (1 ≤ HN) := hi_ (by rw [hHN]; exact HN1.out)
  have HMX : Hid (((2 * HN + 1 : Nat) : Int) = 2 * r.height + 1) := hi_ (by have := HHN.out; omega)
  have HCT : Hid (wrap64 (r.count + more) = r.count + more) := hi_ (by have := HR.out.count; unfold wrap64; omega)
  clear hres f2 hwx hmx hk hv c0 c1 c2 c3 hdel' hB hpos CC hHN
  obtain ⟨D4, P4, T4, A4, K4, hres⟩ := HRES.out
  rcases hres with ⟨rfl, l, n', NL, hpo, hsh, hcn, up4, hle, hgr⟩ | ⟨hne, hbad, hlt⟩
  ·have T4 := hi_ T4
   have A4 := hi_ A4
   have K4 := hi_ K4
   have NL := hi_ NL
   have hpo := hi_ hpo
   have hsh := hi_ hsh
   have hcn := hi_ hcn
   have up4 := hi_ up4
   have hle := hi_ hle
   have hgr := hi_ hgr
   clear HRES
   go_upto_region 10 with fail
   have X0 := hi_ (blk_new wx (.cells #[.int .i64 0, .int .i64 0, .int .i64 0] 31 (0, 0)))
   have B0 := hi_ (below_alloc (Below.refl wx.heap.size wx) (.cells #[.int .i64 0, .int .i64 0, .int .i64 0] 31 (0, 0)))
   obtain ⟨g0, hg0⟩ : ∃ g0, g0 = wx.heap.size := ⟨_, rfl⟩
   rw [← hg0] at X0 ⊢
   have G0 := hi_ (show w.heap.size ≤ g0 from hg0 ▸ K4.out.size)
   clear hg0
   generalize wx.alloc (.cells #[.int .i64 0, .int .i64 0, .int .i64 0] 31 (0, 0)) = w5 at *
   go_wp2_with fail
   refine (tree_lift w5 B t b L h D4 P4 r _ l n' _ HN (Nat.le_trans HB.out (Nat.le_trans K4.out.size B0.out.size)) (T4.out.below B0.out) up4.out (NL.out.below B0.out) hpo.out hsh.out hcn.out (ed_good hG.out HKO.out HVO.out) HLO.out).mono ?_
   rintro e w6 ⟨D6, P6, T6, A6, K6, hres⟩
   have hng : ∀ i, w.heap.size ≤ i → ¬ (L.foot i ∨ i = b) := fun i hi hf => by have := T6.lo i hf; have := HB.out; omega
   have X6 := hi_ (K6.heap X0.out (hng _ G0.out))
   have T6 := hi_ T6
   have HP6 := hi_ (show P4.length ≤ P6.length by obtain ⟨X, hX⟩ := A6.pre; rw [hX, List.length_append]; omega)
   have HP4 := hi_ (show P.length ≤ P4.length by obtain ⟨X, hX⟩ := A4.out.pre; rw [hX, List.length_append]; omega)
   have A6 := hi_ (A4.out.trans A6)
   have K6 := hi_ ((K4.out.trans (Keep.below B0.out)).trans K6)
   have HNG := hi_ hng
   clear hng X0 NL hpo hsh hcn
   have q0 := blk_cell X6.out 0
   have q1 := blk_cell X6.out 1
   have q2 := blk_cell X6.out 2
   have f0 := blk_frozen X6.out 0
   have f1 := blk_frozen X6.out 1
   have f2 := blk_frozen X6.out 2
   have tb : g0 ≠ t := fun e => by have := G0.out; have := HB.out; have := T6.out.tl; omega
   have tb' : t ≠ g0 := fun e => tb e.symm
   have t0 := T6.out.tr.c0
   have t1 := T6.out.tr.c1
   have t2 := T6.out.tr.c2
   have t3 := T6.out.tr.c3
   have h1 := T6.out.tr.frz 1
   have h2 := T6.out.tr.frz 2
   have h3 := T6.out.tr.frz 3
   rcases hres with ⟨pg, hg, rfl, hRC, up6, hle6, hgr6⟩ | ⟨er, rfl, hbad6, hlt6⟩
   ·have hRC := hi_ hRC
    have up6 := hi_ up6
    have hle6 := hi_ hle6
    have hgr6 := hi_ hgr6
    go_upto_region 14 with fail
    have hfin := fin3 (g0 := g0) T6.out K6.out HB.out G0.out (.int .i64 pg) (.int .i64 0) (.int .i64 hg)
    have T7 := hi_ hfin.1
    have K7 := hi_ hfin.2
    have X7 := hi_ (show (((w6.setCell ⟨g0, 0, none⟩ (.int .i64 pg)).setCell ⟨g0, 1, none⟩ (.int .i64 0)).setCell ⟨g0, 2, none⟩ (.int .i64 hg)).heap[g0]? = some (.cells #[.int .i64 pg, .int .i64 0, .int .i64 hg] 31 (0, 0)) from blk_put (blk_put (blk_put X6.out 0 _ rfl) 1 _ rfl) 2 _ rfl)
    generalize ((w6.setCell ⟨g0, 0, none⟩ (.int .i64 pg)).setCell ⟨g0, 1, none⟩ (.int .i64 0)).setCell ⟨g0, 2, none⟩ (.int .i64 hg) = w7 at *
    clear hfin q0 q1 q2 f0 f1 f2 t0 t1 t2 t3 h1 h2 h3 X6 T6 K6
    have t2 := T7.out.tr.c2
    have q1 := blk_cell X7.out 1
    have f1 := blk_frozen X7.out 1
    go_upto_region 15 with fail
    obtain ⟨cn, hcn⟩ : ∃ cn, cn = wrap64 (r.count + more) := ⟨_, rfl⟩
    rw [← hcn]
    have HCN := hi_ hcn
    have X8 := hi_ (show (w7.setCell ⟨g0, 1, none⟩ (.int .i64 cn)).heap[g0]? = some (.cells #[.int .i64 pg, .int .i64 cn, .int .i64 hg] 31 (0, 0)) from blk_put X7.out 1 _ rfl)
    have hBg : B ≤ g0 := Nat.le_trans HB.out G0.out
    have T8 := hi_ (T7.out.hi ((Keep.refl (fun k => B ≤ k) w7).setCell (p := ⟨g0, 1, none⟩) (.inl hBg) (.int .i64 cn)))
    have K8 := hi_ (K7.out.setCell (p := ⟨g0, 1, none⟩) (.inr G0.out) (.int .i64 cn))
    generalize w7.setCell ⟨g0, 1, none⟩ (.int .i64 cn) = w8 at *
    clear hcn q1 f1 t2 X7 T7 K7 hBg
    have q0 := blk_cell X8.out 0
    have q1 := blk_cell X8.out 1
    have q2 := blk_cell X8.out 2
    have t1 := T8.out.tr.c1
    have t2 := T8.out.tr.c2
    have t3 := T8.out.tr.c3
    have h1 := T8.out.tr.frz 1
    have h2 := T8.out.tr.frz 2
    have h3 := T8.out.tr.frz 3
    go_wp2_with fail
    go_ret
    have hf := fin_tree T8.out K8.out pg cn hg
    refine ⟨D6, P6, ⟨pg, cn, hg⟩, hf.1, hf.2, .inl ⟨rfl, A6.out, hRC.out, ?_, up6.out, ?_, ?_⟩⟩
    ·show cn = _
     rw [HCN.out]; exact HCT.out
    ·have h1 := hle6.out; have h2 := hle.out; have h3 := HMX.out; omega
    ·intro hk; have h1 := hgr.out; have h2 := hgr6.out hk; have h3 := HP4.out; have h4 := HP6.out; have h5 := HLV1.out; omega
   ·have hbad6 := hi_ hbad6
    have hlt6 := hi_ hlt6
    have her : (er == 0) = false := by have := hbad6.out; unfold Bad at this; simp; omega
    have hbad6 := hbad6
    have hfin := fin3 (g0 := g0) T6.out K6.out HB.out G0.out (.int .i64 0) (.int .i64 0) (.int .i64 0)
    have T7 := hi_ hfin.1
    have K7 := hi_ hfin.2
    clear hfin
    go_wp2_with fail
    generalize ((w6.setCell ⟨g0, 0, none⟩ (.int .i64 0)).setCell ⟨g0, 1, none⟩ (.int .i64 0)).setCell ⟨g0, 2, none⟩ (.int .i64 0) = w7 at *
    refine (cut_back T7.out A6.out.pre).mono ?_
    rintro e w8 ⟨⟨vb, rfl⟩, T8, K8⟩
    have T8 := hi_ T8
    have K8 := hi_ (K7.out.trans K8)
    go_wp2_with fail
    go_ret
    refine ⟨D6, P, r, T8.out, K8.out.mono (fun i _ hi => Or.inl hi), .inr ⟨er, rfl, rfl, rfl, A6.out.wr, ?_⟩⟩
    rcases Bad.of hbad6.out A4.out.wr.live with ⟨a, b', c⟩ | c
    ·exact .inl ⟨a, b', by have h1 := hlt6.out; have h2 := hle.out; have h3 := HMX.out; omega⟩
    ·exact .inr c
  ·have T4 := hi_ T4
   have A4 := hi_ A4
   have K4 := hi_ K4
   have hbad := hi_ hbad
   have hlt := hi_ hlt
   have her : (er == 0) = false := by simpa using hne
   clear hne HRES
   go_upto_region 9 with fail
   have B0 := hi_ (below_alloc (Below.refl wx.heap.size wx) (.cells #[.int .i64 0, .int .i64 0, .int .i64 0] 31 (0, 0)))
   generalize wx.alloc (.cells #[.int .i64 0, .int .i64 0, .int .i64 0] 31 (0, 0)) = w5 at *
   replace T4 := hi_ (T4.out.below B0.out)
   replace K4 := hi_ (K4.out.trans (Keep.below B0.out))
   clear B0
   have t0 := T4.out.tr.c0
   go_wp2_with fail
   refine (cut_back T4.out A4.out.pre).mono ?_
   rintro e w8 ⟨⟨vb, rfl⟩, T8, K8⟩
   have T8 := hi_ T8
   have K8 := hi_ (K4.out.trans K8)
   go_wp2_with fail
   go_ret
   refine ⟨D4, P, r, T8.out, K8.out.mono (fun i _ hi => Or.inl hi), .inr ⟨er, rfl, rfl, rfl, A4.out.wr, ?_⟩⟩
   rcases hbad.out with ⟨a, b', c⟩ | c
   ·exact .inl ⟨a, b', by have h1 := hlt.out; have h3 := HMX.out; omega⟩
   ·exact .inr c
end Go.Proofs.YtendgmblgdkiaaaGreat

namespace Go.Proofs.YtendgmblgdkiaaaGreat
open Go.RowKit
open Go.Proofs.YtendgmblgdkiaaaGreatW
open PrintWords PrintLast PrintMore
set_option linter.unusedVariables false
set_option linter.unusedSimpArgs false

/-- The cells that the way down reads. -/
def Gac (g : Nat) (x0 x1 x2 x3 : Value) (p : Addr) (c : Value) (W : World) : Prop :=
 W.cell? ⟨g, 0, none⟩ = some x0 ∧ W.cell? ⟨g, 1, none⟩ = some x1 ∧ W.cell? ⟨g, 2, none⟩ = some x2 ∧ W.cell? ⟨g, 3, none⟩ = some x3 ∧ W.cell? p = some c
theorem Gac.below {g : Nat} {x0 x1 x2 x3 c : Value} {p : Addr} {W W' : World} (h : Gac g x0 x1 x2 x3 p c W) (hb : Below W.heap.size W W') : Gac g x0 x1 x2 x3 p c W' := by
 have hc : ∀ {p : Addr} {v : Value}, W.cell? p = some v → W'.cell? p = some v := fun {p v} hp => by
  rw [World.cell?_of_block (w := W) (hb.block p.block (World.block_lt_of_cell? W p hp))]; exact hp
 exact ⟨hc h.1, hc h.2.1, hc h.2.2.1, hc h.2.2.2.1, hc h.2.2.2.2⟩
/-- A key's value is asked for on a page. -/
structure GetAt (P : List Pg) (key : BA) (kvs : List KV) (q lv : Nat) (n : Nd) (kv : List KV) : Prop where
 pg : P[q]? = some n.page
 fit : n.Fit
 cn : Cn P lv n kv
 good : Good kv
 low : lv ≤ 1000
 same : ∀ v, (key, v) ∈ kvs ↔ (key, v) ∈ kv
set_option maxHeartbeats 2000000 in
set_option maxRecDepth 100000 in
theorem tree_Get (w : World) (t b : Nat) (L : Loc) (h : Nat) (D : Dk) (P : List Pg) (r : Rt) (S : St w L b h D P) (T : TreeAt w t b r) (up : D.down = false) (key : BA) (kvs : List KV) (C : TreeC P r kvs) (hh : r.height ≤ 900) :
  Calls Tryz.prog 37 #[.pointer (some ⟨t, 0, none⟩), .string key] w fun e w' => ∃ (s : BA) (is : Bool), e = .returned (.tuple #[.string s, .bool is, .int .i64 0]) ∧ Below w.heap.size w w' ∧ (is = true → (key, s) ∈ kvs) ∧ (is = false → s = ByteArray.empty ∧ ∀ v, (key, v) ∉ kvs) := by
 have HS := hi_ S
 have HT := hi_ T
 have HC := hi_ C
 have HU := hi_ up
 have c1 := T.c1
 have c3 := T.c3
 rcases C.root with ⟨h0, hpg, hkv⟩ | ⟨hn, q, n, hhn, hq, hP, hF, hC, h2⟩
 ·rw [h0] at c3
  rw [hpg] at c1
  clear S T C up
  go_enter Tryz.func37, Tryz.ntmps37
  go_wp2_with fail
  go_loopw [8] (fun y wr => y = .int .i64 0 ∧ wr = w) (fun _ _ => 0)
  case atStart => exact ⟨rfl, rfl⟩
  case round =>
   obtain ⟨rfl, rfl⟩ := hrel
   go_wp2_with fail
   go_ret3
   exact ⟨ByteArray.empty, false, rfl, Below.refl _ _, (fun e => by cases e), fun _ => ⟨rfl, fun v hv => by rw [hkv] at hv; cases hv⟩⟩
 ·rw [hhn] at c3
  rw [hq] at c1
  have G0 := hi_ (show GetAt P key kvs q hn n kvs from ⟨hP, hF, hC, C.good, by omega, fun v => Iff.rfl⟩)
  clear S T C up hP hF hC h2 hhn hq
  go_enter Tryz.func37, Tryz.ntmps37
  go_wp2_with fail
  go_loopw [7, 8] (fun x y wr => ∃ (q lv : Nat), x = .int .i64 (q : Int) ∧ y = .int .i64 (lv : Int) ∧ Hid ((lv = 0 ∧ ∀ v, (key, v) ∉ kvs) ∨ ∃ n kv, GetAt P key kvs q lv n kv) ∧ Hid (Below w.heap.size w wr)) (fun _ y _ => (intOf y).toNat)
  case atStart => exact ⟨q, hn, rfl, rfl, hi_ (.inr ⟨n, kvs, G0.out⟩), hi_ (Below.refl _ _)⟩
  case round =>
   obtain ⟨q', lv, rfl, rfl, GS, B1⟩ := hrel
   rcases GS.out with ⟨rfl, hno⟩ | ⟨m, kv, G1⟩
   ·clear c1 c3 G0
    have HNO := hi_ hno
    clear hno GS
    go_wp2_with fail
    go_ret3
    exact ⟨ByteArray.empty, false, rfl, B1.out, (fun e => by cases e), fun _ => ⟨rfl, HNO.out⟩⟩
   replace G1 := hi_ G1
   clear GS
   clear c1 c3 G0
   have hlv : (0 : Int) < (lv : Int) := by have := (cn_kind G1.out.cn).2.2; omega
   have hP := HS.out.room
   have hM := room_le HS.out.d.ok
   have hlp : m.keys.length ≤ m.pack.size := le_packOf m.kind m.keys m.vals m.kids
   have hok := cn_ok G1.out.cn G1.out.good om_ (by have := G1.out.fit.size; omega)
   have HOK := hi_ hok
   have CR := hi_ (tree_read wr t b L h D P r (HS.out.below B1.out) (HT.out.below B1.out) HU.out q' lv m.kind m.keys m.vals m.kids G1.out.pg hok.ok G1.out.fit.some (by rw [(cn_kind G1.out.cn).1]; simp; omega))
   clear hok hlp hM hP
   go_wp2_with fail
   refine CR.out.mono ?_
   clear CR
   rintro e w2 ⟨v1, v2, v3, rfl, g1, g2, g3, hb⟩
   have NV := hi_ (show NodeV wr.heap.size w2 (.agg #[.int .i64 m.kind, v1, v2, v3]) m from ⟨v1, v2, v3, rfl, g1, g2, g3⟩)
   obtain ⟨A1, a1, rfl⟩ := Kd.R_slice g1
   obtain ⟨A2, a2, rfl⟩ := Kd.R_slice g2
   obtain ⟨A3, a3, rfl⟩ := Kd.R_slice g3
   have B2 := hi_ (B1.out.trans (hb.mono B1.out.size))
   clear g1 g2 g3 hb
   by_cases h1 : (1 : Int) < (lv : Int)
   ·obtain ⟨l', rfl⟩ : ∃ l', lv = l' + 2 := ⟨lv - 2, by omega⟩
    obtain ⟨ps, hm, hkv, hps0, hon⟩ := cn_branch.1 G1.out.cn
    subst hm
    subst hkv
    have hPs : Ps P (l' + 1) ps := ⟨G1.out.good, hon⟩
    obtain ⟨pA, pt, pC, hsp, hAl, -, hkey⟩ := child_split hPs hps0 key none
    have hfw := (fit_few HOK.out G1.out.fit.size).2
    have hcf := child_f (branchOf ps).kind (branchOf ps).keys (branchOf ps).vals (branchOf ps).kids key (rising_of (Ps.rise hPs.good hPs.on)) om_ 2000 om_
    have hci : childAt key (branchOf ps).keys = pA.length := hAl.symm
    rw [hci] at hcf
    have HCF := hi_ hcf
    have hpt : pt ∈ ps := by rw [hsp]; simp
    obtain ⟨o1, o2, m', m1, m2, m3, m4⟩ := hon pt hpt
    have G2 : Hid (GetAt P key kvs pt.c (l' + 1) m' pt.kv) := hi_ ⟨m1, m2, m4, by
     have hg := G1.out.good
     have hkvs : kvsOf ps = kvsOf pA ++ (pt.kv ++ kvsOf pC) := by rw [hsp, kvsOf_app, kvsOf_cons]
     rw [hkvs] at hg
     exact (good_app (good_app hg).2.1).1, by have := G1.out.low; omega, fun v => ⟨fun hv => hkey v ((G1.out.same v).1 hv), fun hv => (G1.out.same v).2 (kvsOf_mem hpt hv)⟩⟩
    have hkd : (branchOf ps).kids.getD pA.length 0 = (pt.c : Int) := by
     rw [hsp]
     simp [branchOf, List.getD_eq_getElem?_getD]
    have hidx : (pA.length : Int) < ((branchOf ps).kids.length : Int) := by rw [hsp]; simp [branchOf]; omega
    clear hcf hci hpt o1 o2 m1 m2 m3 m4 hon hPs hps0 hAl hkey hfw hsp
    go_upto_region 9 with fail
    have X3 := hi_ (blk_new w2 (.cells #[.int .i64 (branchOf ps).kind, .slice A1 (branchOf ps).keys.length a1, .slice A2 (branchOf ps).vals.length a2, .slice A3 (branchOf ps).kids.length a3] 149 (0, 0)))
    have N3 := hi_ (NV.out.below (below_alloc (Below.refl w2.heap.size w2) (.cells #[.int .i64 (branchOf ps).kind, .slice A1 (branchOf ps).keys.length a1, .slice A2 (branchOf ps).vals.length a2, .slice A3 (branchOf ps).kids.length a3] 149 (0, 0))))
    have B3 := hi_ (below_alloc B2.out (.cells #[.int .i64 (branchOf ps).kind, .slice A1 (branchOf ps).keys.length a1, .slice A2 (branchOf ps).vals.length a2, .slice A3 (branchOf ps).kids.length a3] 149 (0, 0)))
    obtain ⟨g, hg⟩ : ∃ g, g = w2.heap.size := ⟨_, rfl⟩
    rw [← hg] at X3 ⊢
    clear hg NV B2
    generalize w2.alloc (.cells #[.int .i64 (branchOf ps).kind, .slice A1 (branchOf ps).keys.length a1, .slice A2 (branchOf ps).vals.length a2, .slice A3 (branchOf ps).kids.length a3] 149 (0, 0)) = w3 at *
    obtain ⟨ad, c, rfl, hcl, hcK, hcc⟩ := Kd.C_get N3.out.outs.2.2.2.2.1 0 (pA.length : Int) om_ hidx
    have hK : c = [.int .i64 (pt.c : Int)] := by
     simp only [Kd.int, Kd.scalar, Int.toNat_natCast, hkd] at hcK
     exact hcK
    have z0 : w3.cell? (ad.add pA.length) = some (.int .i64 (pt.c : Int)) := by
     have := hcc 0 (.int .i64 (pt.c : Int)) (by rw [hK]; rfl)
     simpa [Kd.int, Kd.scalar] using this
    clear hcc hcK hcl hK hkd
    have F3 := hi_ (show Gac g (.int .i64 (branchOf ps).kind) (.slice A1 (branchOf ps).keys.length a1) (.slice A2 (branchOf ps).vals.length a2) (.slice (some ad) (branchOf ps).kids.length a3) (ad.add pA.length) (.int .i64 (pt.c : Int)) w3 from ⟨blk_cell X3.out 0, blk_cell X3.out 1, blk_cell X3.out 2, blk_cell X3.out 3, z0⟩)
    have CF := hi_ (fun W (hW : Below w3.heap.size w3 W) => (PNd.tree_child.calls 2000 (branchOf ps).kind A1 a1 (branchOf ps).keys A2 a2 (branchOf ps).vals (some ad) a3 (branchOf ps).kids key _ W (N3.out.below hW).outs.1 (N3.out.below hW).outs.2.1 (N3.out.below hW).outs.2.2.1 (N3.out.below hW).outs.2.2.2.1 (N3.out.below hW).outs.2.2.2.2.1 (N3.out.below hW).outs.2.2.2.2.2 HCF.out).mono (fun e w' H => (⟨H.1, hW.trans (H.2.mono hW.size), F3.out.below (hW.trans (H.2.mono hW.size))⟩ : e = .returned (.int .i64 (pA.length : Int)) ∧ Below w3.heap.size w3 w' ∧ Gac g (.int .i64 (branchOf ps).kind) (.slice A1 (branchOf ps).keys.length a1) (.slice A2 (branchOf ps).vals.length a2) (.slice (some ad) (branchOf ps).kids.length a3) (ad.add pA.length) (.int .i64 (pt.c : Int)) w')))
    have HB0 := hi_ (Below.refl w3.heap.size w3)
    clear z0
    go_region_held3 (fun w' => w'.cell? ⟨g, 0, none⟩ = some (.int .i64 (branchOf ps).kind) ∧ w'.cell? ⟨g, 1, none⟩ = some (.slice A1 (branchOf ps).keys.length a1) ∧ w'.cell? ⟨g, 2, none⟩ = some (.slice A2 (branchOf ps).vals.length a2) ∧ w'.cell? ⟨g, 3, none⟩ = some (.slice (some ad) (branchOf ps).kids.length a3) ∧ w'.cell? (ad.add pA.length) = some (.int .i64 (pt.c : Int)))
     (first | exact F3.out | (with_reducible assumption) | (show Gac _ _ _ _ _ _ _ _; (with_reducible assumption)))
     (first
      | (go_at_call 110; (with_reducible refine (CF.out _ ?_).mono ?_); (repeat (first | (with_reducible assumption) | exact HB0.out | refine bel_drewN ?_ _ | refine bel_drew ?_)); rintro e w4 ⟨rfl, b4, f4⟩))
    have B4 := hi_ (B3.out.trans (b4.mono B3.out.size))
    have hlo := G1.out.low
    have hw1 : wrap64 ((l' : Int) + 2 - 1) = ((l' + 1 : Nat) : Int) := by unfold wrap64; omega
    have HW1 := hi_ hw1
    clear b4 f4 hw1
    go_wp2_with fail
    exact ⟨⟨pt.c, l' + 1, rfl, by congr 1; omega, hi_ (.inr ⟨m', pt.kv, G2.out⟩), B4⟩, by simp only [intOf]; omega⟩
   ·have hl1 : lv = 1 := by omega
    subst hl1
    have hm : m = leafOf kv := G1.out.cn
    subst hm
    go_upto_region 10 with fail
    have X3 := hi_ (blk_new w2 (.cells #[.int .i64 (leafOf kv).kind, .slice A1 (leafOf kv).keys.length a1, .slice A2 (leafOf kv).vals.length a2, .slice A3 (leafOf kv).kids.length a3] 149 (0, 0)))
    have N3 := hi_ (NV.out.below (below_alloc (Below.refl w2.heap.size w2) (.cells #[.int .i64 (leafOf kv).kind, .slice A1 (leafOf kv).keys.length a1, .slice A2 (leafOf kv).vals.length a2, .slice A3 (leafOf kv).kids.length a3] 149 (0, 0))))
    have B3 := hi_ (below_alloc B2.out (.cells #[.int .i64 (leafOf kv).kind, .slice A1 (leafOf kv).keys.length a1, .slice A2 (leafOf kv).vals.length a2, .slice A3 (leafOf kv).kids.length a3] 149 (0, 0)))
    obtain ⟨g, hg⟩ : ∃ g, g = w2.heap.size := ⟨_, rfl⟩
    rw [← hg] at X3 ⊢
    clear hg NV B2
    generalize w2.alloc (.cells #[.int .i64 (leafOf kv).kind, .slice A1 (leafOf kv).keys.length a1, .slice A2 (leafOf kv).vals.length a2, .slice A3 (leafOf kv).kids.length a3] 149 (0, 0)) = w3 at *
    have x0 := blk_cell X3.out 0
    have x1 := blk_cell X3.out 1
    have x2 := blk_cell X3.out 2
    have x3 := blk_cell X3.out 3
    go_wp2_with fail
    have hrs : rising (leafOf kv).keys = true := rising_of (List.pairwise_map.2 G1.out.good.1)
    have hfw := (fit_few HOK.out G1.out.fit.size).2
    have hf := find_f (leafOf kv).kind (leafOf kv).keys (leafOf kv).vals (leafOf kv).kids key hrs om_ 2000 om_
    obtain ⟨C1, k1, C2, k2, C3, k3⟩ := N3.out.outs
    refine (PNd.node_Node_Find.calls 2000 (leafOf kv).kind A1 a1 (leafOf kv).keys A2 a2 (leafOf kv).vals A3 a3 (leafOf kv).kids key _ _ w3 C1 k1 C2 k2 C3 k3 hf).mono ?_
    clear C1 k1 C2 k2 C3 k3 x0 x1 x2 x3 hf hrs
    rintro e w4 ⟨rfl, hb⟩
    have X4 := hi_ (blk_below X3.out hb)
    have N4 := hi_ (N3.out.below hb)
    have B4 := hi_ (B3.out.trans (hb.mono B3.out.size))
    clear hb X3 N3 B3
    have HFW := hi_ hfw
    clear hfw
    cases hat : isAt key (leafOf kv).keys
    ·have hno : Hid (∀ v, (key, v) ∉ kvs) := hi_ (fun v hv => by
      have := isAt_mem G1.out.good.1 ((G1.out.same v).1 hv)
      have h2 : isAt key (kv.map (·.1)) = false := hat
      rw [h2] at this; cases this)
     clear hat
     go_wp2_with fail
     go_roundw
     case rel => exact ⟨q', 0, rfl, rfl, hi_ (.inl ⟨rfl, hno.out⟩), B4⟩
     case measure => simp [intOf]
    ·have hlt := (isAt_lt hat).1
     have heq := (isAt_lt hat).2
     obtain ⟨i, hi⟩ : ∃ i, i = lb key (leafOf kv).keys := ⟨_, rfl⟩
     rw [← hi] at hlt heq ⊢
     have hlt' : i < kv.length := by rw [show (leafOf kv).keys.length = kv.length from List.length_map _] at hlt; exact hlt
     have hkey : kv[i].1 = key := by
      have h2 : ((kv.map (·.1)).getD i ByteArray.empty) = key := heq
      simpa [List.getD_eq_getElem?_getD, List.getElem?_eq_getElem hlt'] using h2
     have hmem : Hid ((key, kv[i].2) ∈ kvs) := hi_ ((G1.out.same _).2 (by rw [← hkey]; exact List.getElem_mem hlt'))
     have hvl : (leafOf kv).vals.length = kv.length := List.length_map _
     have hgd : (leafOf kv).vals.getD i ByteArray.empty = kv[i].2 := by
      show (kv.map (·.2)).getD i ByteArray.empty = _
      simp [List.getD_eq_getElem?_getD, List.getElem?_eq_getElem hlt']
     obtain ⟨vv, hvv⟩ : ∃ vv, vv = kv[i].2 := ⟨_, rfl⟩
     rw [← hvv] at hmem hgd
     have hidx : (i : Int) < ((leafOf kv).vals.length : Int) := by omega
     obtain ⟨ad, c, rfl, hcl, hcK, hcc⟩ := Kd.C_get N4.out.outs.2.2.1 ByteArray.empty (i : Int) om_ hidx
     have hK : c = [.string vv] := by
      simp only [Kd.string, Kd.scalar, Int.toNat_natCast, hgd] at hcK
      exact hcK
     have z0 : w4.cell? (ad.add i) = some (.string vv) := by
      have := hcc 0 (.string vv) (by rw [hK]; rfl)
      simpa [Kd.string, Kd.scalar] using this
     clear hcc hcK hcl hK hvv hgd hkey hlt hlt' heq hi hat hvl
     have x2 := blk_cell X4.out 2
     go_wp2_with fail
     go_ret3
     exact ⟨vv, true, rfl, B4.out, fun _ => hmem.out, fun e => by cases e⟩
end Go.Proofs.YtendgmblgdkiaaaGreat

namespace Go.Proofs.YtendgmblgdkiaaaGreat
open Go.RowKit
open Go.Proofs.YtendgmblgdkiaaaGreatW
open PrintWords PrintLast PrintMore
set_option linter.unusedVariables false
set_option linter.unusedSimpArgs false

theorem R_blkS {w : World} {g : Nat} (xs : List BA) (hx : w.heap[g]? = some (.cells (encs Value.string xs).toArray 9 (0, 0))) (hn : xs.length ≤ 1000000) : Kd.R Kd.string 9 w 0 (fun _ => True) (.slice (some ⟨g, 0, none⟩) xs.length xs.length) xs := by
 refine Kd.R_of_own ⟨by rw [encs_length]; omega, .inr ⟨g, xs.length, _, rfl, Nat.zero_le _, hx, Nat.le_refl _, by unfold maxLen; omega, by simp [encs], ?_⟩⟩ (fun _ _ => trivial)
 rw [List.take_of_length_le (by simp [encs])]
theorem C_blkS {w : World} {g : Nat} (xs : List BA) (hx : w.heap[g]? = some (.cells (encs Value.string xs).toArray 9 (0, 0))) (hn : xs.length ≤ 1000000) : Kd.C Kd.string w (some ⟨g, 0, none⟩) xs.length xs := (Kd.R_reads' (R_blkS xs hx hn)).2.2
/-- The list behind an edit is longer by one, if the key is new. -/
theorem ed_put_len {key x : BA} {l : List KV} (h : Srt l) : ((ed key (some x) l).length : Int) = l.length + (if isAt key (l.map (·.1)) then 0 else 1) := by
 obtain ⟨f1, f2⟩ := filters key l h
 have hle := lb_le key (l.map (·.1))
 rw [List.length_map] at hle
 unfold ed
 rw [f1, f2]
 cases hat : isAt key (l.map (·.1)) with
 | true =>
  have hlt := (isAt_lt hat).1
  rw [List.length_map] at hlt
  simp only [if_true, List.length_append, List.length_take, List.length_drop, Option.toList_some, List.map_cons, List.map_nil, List.length_cons, List.length_nil]
  omega
 | false =>
  simp only [List.length_append, List.length_take, List.length_drop, Option.toList_some, List.map_cons, List.map_nil, List.length_cons, List.length_nil]
  simp
  omega
theorem ed_del_len {key v : BA} {l : List KV} (h : Srt l) (hm : (key, v) ∈ l) : ((ed key none l).length : Int) = l.length - 1 := by
 obtain ⟨f1, f2⟩ := filters key l h
 have hat := isAt_mem h hm
 have hlt := (isAt_lt hat).1
 rw [List.length_map] at hlt
 unfold ed
 rw [f1, f2, hat]
 simp only [if_true, List.length_append, List.length_take, List.length_drop, Option.toList_none, List.map_nil, List.length_nil]
 omega
theorem isAt_not {key : BA} {l : List KV} (h : ∀ v, (key, v) ∉ l) : isAt key (l.map (·.1)) = false := by
 cases hat : isAt key (l.map (·.1)) with
 | false => rfl
 | true =>
  obtain ⟨h1, h2⟩ := isAt_lt hat
  rw [List.length_map] at h1
  have : (l[lb key (l.map (·.1))]).1 = key := by simpa [List.getD_eq_getElem?_getD, List.getElem?_eq_getElem h1] using h2
  have hm := List.getElem_mem h1
  obtain ⟨i, hi⟩ : ∃ i, i = lb key (l.map (·.1)) := ⟨_, rfl⟩
  have hm : ((l[lb key (l.map (·.1))]).1, (l[lb key (l.map (·.1))]).2) ∈ l := hm
  obtain ⟨q, hq⟩ : ∃ q, q = (l[lb key (l.map (·.1))]).1 := ⟨_, rfl⟩
  rw [← hq] at this hm
  subst this
  exact absurd hm (h _)

theorem ApPost.base {B : Nat} {w W : World} {t b : Nat} {L : Loc} {h : Nat} {D : Dk} {P : List Pg} {r : Rt} {more : Int} {kvs : List KV} {e : Ending} {w' : World} (H : ApPost B W t b L h D P r more kvs e w') (hW : Below w.heap.size w W) : ApPost B w t b L h D P r more kvs e w' := by
 obtain ⟨D', P', r', a, c, d⟩ := H
 exact ⟨D', P', r', a, (Keep.below hW).trans c, d⟩

set_option maxHeartbeats 2000000 in
set_option maxRecDepth 100000 in
theorem tree_Put0 (B : Nat) (w : World) (t b : Nat) (L : Loc) (h : Nat) (D : Dk) (P : List Pg) (r : Rt) (key x : BA) (kvs : List KV) (hB : B ≤ w.heap.size) (T : TS B w t b L h D P r) (up : D.down = false) (C : TreeC P r kvs) (hk : keyOk key = true) (hv : valOk x = true) (hh : r.height ≤ 900) (hct : kvs.length ≤ 100000000) :
  Calls Tryz.prog 26 #[.pointer (some ⟨t, 0, none⟩), .string key, .string x] w (ApPost B w t b L h D P r (if isAt key (kvs.map (·.1)) then 0 else 1) (ed key (some x) kvs)) := by
 obtain ⟨q, hq⟩ : ∃ q, q = isAt key (kvs.map (·.1)) := ⟨_, rfl⟩
 rw [← hq]
 have HQ := hi_ hq
 clear hq
 obtain ⟨mo, hmo⟩ : ∃ mo : Int, mo = (if q then 0 else 1) := ⟨_, rfl⟩
 rw [← hmo]
 have HMO := hi_ hmo
 clear hmo
 have HT := hi_ T
 have HC := hi_ C
 have HU := hi_ up
 have HB := hi_ hB
 have HK := hi_ hk
 have HV := hi_ hv
 have HH := hi_ hh
 have HCT := hi_ hct
 have hok : nodeOk 1 [key] [x] [] = true := by simp [nodeOk, rising, hk, hv]
 have HOK := hi_ hok
 clear T C up hB hk hv hok hh hct
 go_enter Tryz.func26, Tryz.ntmps26
 go_wp2_with fail
 have X0 := hi_ (blk_alloc (blk_alloc (blk_alloc (blk_new w (.cells #[.string key] 9 (0, 0))) (.cells #[.string x] 9 (0, 0))) (.cells #[.string key] 9 (0, 0))) (.cells #[.string x] 9 (0, 0)))
 have X1 := hi_ (blk_alloc (blk_alloc (blk_new (w.alloc (.cells #[.string key] 9 (0, 0))) (.cells #[.string x] 9 (0, 0))) (.cells #[.string key] 9 (0, 0))) (.cells #[.string x] 9 (0, 0)))
 have X2 := hi_ (blk_alloc (blk_new ((w.alloc (.cells #[.string key] 9 (0, 0))).alloc (.cells #[.string x] 9 (0, 0))) (.cells #[.string key] 9 (0, 0))) (.cells #[.string x] 9 (0, 0)))
 have X3 := hi_ (blk_new (((w.alloc (.cells #[.string key] 9 (0, 0))).alloc (.cells #[.string x] 9 (0, 0))).alloc (.cells #[.string key] 9 (0, 0))) (.cells #[.string x] 9 (0, 0)))
 have B0 := hi_ (below_alloc (below_alloc (below_alloc (below_alloc (Below.refl w.heap.size w) (.cells #[.string key] 9 (0, 0))) (.cells #[.string x] 9 (0, 0))) (.cells #[.string key] 9 (0, 0))) (.cells #[.string x] 9 (0, 0)))
 simp only [World.size_alloc] at X0 X1 X2 X3
 generalize (((w.alloc (.cells #[.string key] 9 (0, 0))).alloc (.cells #[.string x] 9 (0, 0))).alloc (.cells #[.string key] 9 (0, 0))).alloc (.cells #[.string x] 9 (0, 0)) = w1 at *
 obtain ⟨z, hz⟩ : ∃ z, z = w.heap.size := ⟨_, rfl⟩
 rw [← hz] at X0 X1 X2 X3 ⊢
 have HZ := hi_ hz
 clear hz
 refine (node_Check 1 (some ⟨z + 1 + 1, 0, none⟩) 1 [key] (some ⟨z + 1 + 1 + 1, 0, none⟩) 1 [x] none 0 [] 0 w1 (C_blkS [key] X2.out (by simp)) (Nat.le_refl _) (C_blkS [x] X3.out (by simp)) (Nat.le_refl _) (Kd.C_nil _ _) (Nat.le_refl _) (by rw [HOK.out]; rfl)).mono ?_
 rintro e w2 ⟨rfl, hb⟩
 have B2 := hi_ (below_then B0.out B0.out.size hb)
 have Y0 := hi_ (blk_below X0.out hb)
 have Y1 := hi_ (blk_below X1.out hb)
 clear hb X0 X1 X2 X3 B0
 have c0 := blk_cell Y0.out 0
 go_wp2_with fail
 have T2 := hi_ (HT.out.below B2.out)
 refine (tree_Get w2 t b L h D P r T2.out.st T2.out.tr HU.out key kvs HC.out HH.out).mono ?_
 rintro e w3 ⟨s, is, rfl, hb, hyes, hno⟩
 have B3 := hi_ (below_then B2.out B2.out.size hb)
 have Z0 := hi_ (blk_below Y0.out hb)
 have Z1 := hi_ (blk_below Y1.out hb)
 have T3 := hi_ (T2.out.below hb)
 clear hb Y0 Y1 B2 T2 c0
 have hat : isAt key (kvs.map (·.1)) = is := by
  cases is with
  | true => exact isAt_mem HC.out.good.1 (hyes rfl)
  | false => exact isAt_not (hno rfl).2
 obtain rfl : q = is := HQ.out.trans hat
 clear hyes hno hat
 have c0 := blk_cell Z0.out 0
 have CAP : Hid (Caps (fun k => L.foot k ∨ k = b) (some x) key ⟨z, 0, none⟩ ⟨z + 1, 0, none⟩ w3) := hi_ (by
  have hz : ∀ j, ¬ (L.foot (z + j) ∨ z + j = b) := fun j hf => by have := T3.out.lo _ hf; have := HB.out; have := HZ.out; omega
  exact ⟨blk_cell Z0.out 0, fun v e => by cases e; exact ⟨blk_cell Z1.out 0, hz 1⟩, hz 0⟩)
 have CA := hi_ (fun (more : Int) (hm : -1 ≤ more ∧ more ≤ 1) => tree_apply B w3 t b L h D P r key (some x) ⟨z, 0, none⟩ ⟨z + 1, 0, none⟩ kvs more (Nat.le_trans HB.out B3.out.size) T3.out HU.out CAP.out HC.out HK.out (fun v e => by cases e; exact HV.out) (fun e => by cases e) HH.out hm HCT.out)
 cases q with
 | true =>
  go_wp2_with fail
  refine (CA.out 0 om_).mono ?_
  rintro e w4 H
  have H := H.base B3.out
  obtain ⟨er, rfl⟩ : ∃ er : Int, e = .returned (.int .i64 er) := by
   obtain ⟨D', P', r', -, -, h⟩ := H
   rcases h with ⟨h, -⟩ | ⟨er, h, -⟩
   ·exact ⟨0, h⟩
   ·exact ⟨er, h⟩
  have H := hi_ H
  go_wp2_with fail
  go_ret
  rw [HMO.out]
  exact H.out
 | false =>
  go_wp2_with fail
  refine (CA.out 1 om_).mono ?_
  rintro e w4 H
  have H := H.base B3.out
  obtain ⟨er, rfl⟩ : ∃ er : Int, e = .returned (.int .i64 er) := by
   obtain ⟨D', P', r', -, -, h⟩ := H
   rcases h with ⟨h, -⟩ | ⟨er, h, -⟩
   ·exact ⟨0, h⟩
   ·exact ⟨er, h⟩
  have H := hi_ H
  go_wp2_with fail
  go_ret
  rw [HMO.out]
  exact H.out
end Go.Proofs.YtendgmblgdkiaaaGreat

namespace Go.Proofs.YtendgmblgdkiaaaGreat
open Go.RowKit
open Go.Proofs.YtendgmblgdkiaaaGreatW
open PrintWords PrintLast PrintMore
set_option linter.unusedVariables false
set_option linter.unusedSimpArgs false

/-- What Delete comes to, the key being there. -/
def DelPost (B : Nat) (w : World) (t b : Nat) (L : Loc) (h : Nat) (D : Dk) (P : List Pg) (r : Rt) (kvs' : List KV) (e : Ending) (w' : World) : Prop :=
 ∃ er : Int, e = .returned (.tuple #[.bool (er == 0), .int .i64 er]) ∧ ApPost B w t b L h D P r (-1) kvs' (.returned (.int .i64 er)) w'
set_option maxHeartbeats 2000000 in
set_option maxRecDepth 100000 in
theorem tree_Delete0 (B : Nat) (w : World) (t b : Nat) (L : Loc) (h : Nat) (D : Dk) (P : List Pg) (r : Rt) (key : BA) (kvs : List KV) (hB : B ≤ w.heap.size) (T : TS B w t b L h D P r) (up : D.down = false) (C : TreeC P r kvs) (hk : keyOk key = true) (hh : r.height ≤ 900) (hct : kvs.length ≤ 100000000) :
  Calls Tryz.prog 32 #[.pointer (some ⟨t, 0, none⟩), .string key] w (fun e w' => (isAt key (kvs.map (·.1)) = false ∧ e = .returned (.tuple #[.bool false, .int .i64 0]) ∧ Below w.heap.size w w') ∨ (isAt key (kvs.map (·.1)) = true ∧ DelPost B w t b L h D P r (ed key none kvs) e w')) := by
 obtain ⟨q, hq⟩ : ∃ q, q = isAt key (kvs.map (·.1)) := ⟨_, rfl⟩
 rw [← hq]
 have HQ := hi_ hq
 clear hq
 obtain ⟨Q, hQ⟩ : ∃ Q : Ending → World → Prop, Q = fun e w' => (q = false ∧ e = .returned (.tuple #[.bool false, .int .i64 0]) ∧ Below w.heap.size w w') ∨ (q = true ∧ DelPost B w t b L h D P r (ed key none kvs) e w') := ⟨_, rfl⟩
 rw [← hQ]
 have HQQ := hi_ hQ
 clear hQ
 have HT := hi_ T
 have HC := hi_ C
 have HU := hi_ up
 have HB := hi_ hB
 have HK := hi_ hk
 have HH := hi_ hh
 have HCT := hi_ hct
 have hok : nodeOk 1 [key] [ByteArray.empty] [] = true := by simp [nodeOk, rising, hk, valOk]
 have HOK := hi_ hok
 clear T C up hB hk hok hh hct
 go_enter Tryz.func32, Tryz.ntmps32
 go_wp2_with fail
 have X0 := hi_ (blk_alloc (blk_alloc (blk_new w (.cells #[.string key] 9 (0, 0))) (.cells #[.string key] 9 (0, 0))) (.cells #[.string ⟨#[]⟩] 9 (0, 0)))
 have X2 := hi_ (blk_alloc (blk_new (w.alloc (.cells #[.string key] 9 (0, 0))) (.cells #[.string key] 9 (0, 0))) (.cells #[.string ⟨#[]⟩] 9 (0, 0)))
 have X3 := hi_ (blk_new ((w.alloc (.cells #[.string key] 9 (0, 0))).alloc (.cells #[.string key] 9 (0, 0))) (.cells #[.string ⟨#[]⟩] 9 (0, 0)))
 have B0 := hi_ (below_alloc (below_alloc (below_alloc (Below.refl w.heap.size w) (.cells #[.string key] 9 (0, 0))) (.cells #[.string key] 9 (0, 0))) (.cells #[.string ⟨#[]⟩] 9 (0, 0)))
 simp only [World.size_alloc] at X0 X2 X3
 generalize ((w.alloc (.cells #[.string key] 9 (0, 0))).alloc (.cells #[.string key] 9 (0, 0))).alloc (.cells #[.string ⟨#[]⟩] 9 (0, 0)) = w1 at *
 obtain ⟨z, hz⟩ : ∃ z, z = w.heap.size := ⟨_, rfl⟩
 rw [← hz] at X0 X2 X3 ⊢
 have HZ := hi_ hz
 clear hz
 refine (node_Check 1 (some ⟨z + 1, 0, none⟩) 1 [key] (some ⟨z + 1 + 1, 0, none⟩) 1 [ByteArray.empty] none 0 [] 0 w1 (C_blkS [key] X2.out (by simp)) (Nat.le_refl _) (C_blkS [ByteArray.empty] X3.out (by simp)) (Nat.le_refl _) (Kd.C_nil _ _) (Nat.le_refl _) (by rw [HOK.out]; rfl)).mono ?_
 rintro e w2 ⟨rfl, hb⟩
 have B2 := hi_ (below_then B0.out B0.out.size hb)
 have Y0 := hi_ (blk_below X0.out hb)
 clear hb X0 X2 X3 B0
 have c0 := blk_cell Y0.out 0
 go_wp2_with fail
 have T2 := hi_ (HT.out.below B2.out)
 refine (tree_Get w2 t b L h D P r T2.out.st T2.out.tr HU.out key kvs HC.out HH.out).mono ?_
 rintro e w3 ⟨s, is, rfl, hb, hyes, hno⟩
 have B3 := hi_ (below_then B2.out B2.out.size hb)
 have Z0 := hi_ (blk_below Y0.out hb)
 have T3 := hi_ (T2.out.below hb)
 clear hb Y0 B2 T2 c0
 have hat : isAt key (kvs.map (·.1)) = is := by
  cases is with
  | true => exact isAt_mem HC.out.good.1 (hyes rfl)
  | false => exact isAt_not (hno rfl).2
 obtain rfl : q = is := HQ.out.trans hat
 have HY := hi_ hyes
 clear hyes hno hat
 have c0 := blk_cell Z0.out 0
 cases q with
 | true =>
  have CAP : Hid (Caps (fun k => L.foot k ∨ k = b) none key ⟨z, 0, none⟩ ⟨0, 0, none⟩ w3) := hi_ (by
   have hz : ¬ (L.foot z ∨ z = b) := fun hf => by have := T3.out.lo _ hf; have := HB.out; have := HZ.out; omega
   exact ⟨blk_cell Z0.out 0, (fun v e => by cases e), hz⟩)
  have CA := hi_ (tree_apply B w3 t b L h D P r key none ⟨z, 0, none⟩ ⟨0, 0, none⟩ kvs (-1) (Nat.le_trans HB.out B3.out.size) T3.out HU.out CAP.out HC.out HK.out (fun v e => by cases e) (fun _ => ⟨s, HY.out rfl⟩) HH.out om_ HCT.out)
  go_wp2_with fail
  refine CA.out.mono ?_
  rintro e w4 H
  have H := H.base B3.out
  obtain ⟨er, rfl⟩ : ∃ er : Int, e = .returned (.int .i64 er) := by
   obtain ⟨D', P', r', -, -, h⟩ := H
   rcases h with ⟨h, -⟩ | ⟨er, h, -⟩
   ·exact ⟨0, h⟩
   ·exact ⟨er, h⟩
  have H := hi_ H
  go_wp2_with fail
  rw [HQQ.out]
  exact .inr ⟨by first | exact trivial | rfl, er, rfl, H.out⟩
 | false =>
  go_wp2_with fail
  rw [HQQ.out]
  exact .inl ⟨by first | exact trivial | rfl, rfl, B3.out⟩

set_option maxRecDepth 100000 in
theorem tree_Open (w : World) (b : Nat) (r : Rt) : Calls Tryz.prog 22 #[.pointer (some ⟨b, 0, none⟩), rootV r] w fun e w' => ∃ t, e = .returned (.pointer (some ⟨t, 0, none⟩)) ∧ TreeAt w' t b r ∧ w.heap.size ≤ t ∧ Below w.heap.size w w' := by
 unfold rootV
 go_enter Tryz.func22, Tryz.ntmps22
 go_wp2_with fail
 go_ret
 exact ⟨w.heap.size + 1, rfl, by have := heap_alloc_self (w.alloc (.cells #[.int .i64 r.page, .int .i64 r.count, .int .i64 r.height] 31 (0, 0))) (.cells #[.pointer (some ⟨b, 0, none⟩), .int .i64 r.page, .int .i64 r.count, .int .i64 r.height] 148 (0, 0)); simpa [TreeAt] using this, by omega, below_alloc (below_alloc (Below.refl _ _) _) _⟩
set_option maxHeartbeats 400000 in
set_option maxRecDepth 100000 in
theorem tree_Root (w : World) (t b : Nat) (r : Rt) (T : TreeAt w t b r) : Calls Tryz.prog 30 #[.pointer (some ⟨t, 0, none⟩)] w fun e w' => e = .returned (rootV r) ∧ Below w.heap.size w w' := by
 have HT := hi_ T
 clear T
 go_enter Tryz.func30, Tryz.ntmps30
 go_upto_region 1 with fail
 have B0 := hi_ (below_alloc (Below.refl w.heap.size w) (.cells #[.int .i64 0, .int .i64 0, .int .i64 0] 31 (0, 0)))
 have X0 := hi_ (blk_new w (.cells #[.int .i64 0, .int .i64 0, .int .i64 0] 31 (0, 0)))
 generalize w.alloc (.cells #[.int .i64 0, .int .i64 0, .int .i64 0] 31 (0, 0)) = w0 at *
 obtain ⟨g, hg⟩ : ∃ g, g = w.heap.size := ⟨_, rfl⟩
 rw [← hg] at X0 ⊢
 have HG := hi_ (Nat.le_of_eq hg.symm)
 clear hg
 have c1 := (HT.out.below B0.out).c1
 have c2 := (HT.out.below B0.out).c2
 have c3 := (HT.out.below B0.out).c3
 have q0 := blk_cell X0.out 0
 have q1 := blk_cell X0.out 1
 have q2 := blk_cell X0.out 2
 have f0 := blk_frozen X0.out 0
 have f1 := blk_frozen X0.out 1
 have f2 := blk_frozen X0.out 2
 go_wp2_with fail
 refine bodyPost_ret (results_single rfl (.cell g 31 #[.int .i64 r.page, .int .i64 r.count, .int .i64 r.height] (0, 0) _ rfl (blk_put (blk_put (blk_put X0.out 0 _ rfl) 1 _ rfl) 2 _ rfl) rfl rfl rfl .nil)) rfl ?_
 exact ⟨rfl, below_set (below_set (below_set B0.out HG.out) HG.out) HG.out⟩
end Go.Proofs.YtendgmblgdkiaaaGreat

namespace Go.Proofs.YtendgmblgdkiaaaGreat
open Go.RowKit
open Go.Proofs.YtendgmblgdkiaaaGreatW
open PrintWords PrintLast PrintMore
set_option linter.unusedVariables false
set_option linter.unusedSimpArgs false

theorem RootC.pre {P X : List Pg} {page height : Int} {kvs : List KV} (h : RootC P page height kvs) : RootC (P ++ X) page height kvs := by
 rcases h with h | ⟨hn, q, n, h1, h2, h3, h4, h5, h6⟩
 ·exact .inl h
 ·exact .inr ⟨hn, q, n, h1, h2, by rw [List.getElem?_append_left (List.getElem?_eq_some_iff.1 h3).1]; exact h3, h4, h5.pre, h6⟩
theorem TreeC.pre {P X : List Pg} {r : Rt} {kvs : List KV} (h : TreeC P r kvs) : TreeC (P ++ X) r kvs := ⟨h.root.pre, h.count, h.good⟩
theorem kvsOf_len {m : Nat} : ∀ {ps : List Pt}, (∀ p ∈ ps, m ≤ p.kv.length) → ps.length * m ≤ (kvsOf ps).length
 | [], _ => by simp
 | p :: r, h => by
  rw [kvsOf_cons, List.length_append, List.length_cons, Nat.add_mul]
  have := kvsOf_len (m := m) (ps := r) (fun q hq => h q (List.mem_cons_of_mem _ hq))
  have := h p List.mem_cons_self
  omega
theorem cn_many {P : List Pg} : ∀ {l : Nat} {n : Nd} {kvs : List KV}, Cn P l n kvs → 2 ≤ n.keys.length → 2 ^ l ≤ kvs.length
 | 0, _, _, h, _ => h.elim
 | 1, n, kvs, h, h2 => by
  have h : n = leafOf kvs := h
  subst h
  simpa [leafOf] using h2
 | l + 2, n, kvs, ⟨ps, h1, h2, h3, h4⟩, hk => by
  subst h1
  subst h2
  have hl : 2 ≤ ps.length := by simpa [branchOf] using hk
  have hm := kvsOf_len (m := 2 ^ (l + 1)) (ps := ps) (fun p hp => by
   obtain ⟨a, b, m, c, d, e, f⟩ := h4 p hp
   exact cn_many f e)
  have : 2 ^ (l + 2) = 2 * 2 ^ (l + 1) := by rw [Nat.pow_succ 2 (l + 1)]; omega
  have : 2 * 2 ^ (l + 1) ≤ ps.length * 2 ^ (l + 1) := Nat.mul_le_mul_right _ hl
  omega
/-- A tree's height and how many keys it has. -/
theorem TreeC.tall {P : List Pg} {r : Rt} {kvs : List KV} (h : TreeC P r kvs) : (r.height = 0 ∧ r.page = -1 ∧ kvs = []) ∨ ∃ hn : Nat, r.height = (hn : Int) + 1 ∧ 2 ^ hn ≤ kvs.length := by
 rcases h.root with h0 | ⟨hn, q, n, h1, h2, h3, h4, h5, h6⟩
 ·exact .inl h0
 ·right
  have hk := (cn_kind h5).2.2
  refine ⟨hn - 1, by omega, ?_⟩
  rcases Nat.lt_or_ge hn 2 with h7 | h7
  ·have : hn = 1 := by omega
   subst this
   have h5 : n = leafOf kvs := h5
   subst h5
   have := h4.some
   have h8 : 0 < kvs.length := by simpa [leafOf] using this
   show 1 ≤ kvs.length
   omega
  ·have := cn_many h5 (h6 h7)
   have : 2 ^ (hn - 1) ≤ 2 ^ hn := Nat.pow_le_pow_right om_ om_
   omega
theorem TreeC.low {P : List Pg} {r : Rt} {kvs : List KV} (h : TreeC P r kvs) {m : Nat} (hm : kvs.length < 2 ^ m) : 0 ≤ r.height ∧ r.height ≤ m := by
 rcases h.tall with ⟨h0, -, -⟩ | ⟨hn, h1, h2⟩
 ·omega
 ·have : hn < m := (Nat.pow_lt_pow_iff_right (a := 2) om_).1 om_
  omega

/-- What Put and Delete leave where there is room, on a disk that lives. -/
structure Done (w w' : World) (t b : Nat) (L : Loc) (h : Nat) (D : Dk) (P : List Pg) (r : Rt) (D' : Dk) (P' : List Pg) (r' : Rt) (kvs' : List KV) : Prop where
 st : St w' L b h D' P'
 tr : TreeAt w' t b r'
 tc : TreeC P' r' kvs'
 live : D'.Live
 app : AppOk h D P D' P'
 most : (P'.length : Int) ≤ P.length + 2 * r.height + 1
 keep : Keep (fun k => (L.foot k ∨ k = b) ∨ k = t) w w'
theorem lo_of {w : World} {t b : Nat} {L : Loc} {h : Nat} {D : Dk} {P : List Pg} {r : Rt} (S : St w L b h D P) (T : TreeAt w t b r) : TS w.heap.size w t b L h D P r :=
 ⟨S, T, by
  rintro k ((rfl | rfl | rfl) | rfl)
  ·exact S.d.lt_a
  ·exact S.d.lt_n
  ·exact S.d.lt_m
  ·exact lt_of_heap S.p, T.lt⟩
theorem TreeC.small {P : List Pg} {r : Rt} {kvs : List KV} (h : TreeC P r kvs) (hn : kvs.length ≤ 100000000) : r.height ≤ 900 := by
 have := (h.low (m := 27) om_).2
 omega
theorem tree_Put (w : World) (t b : Nat) (L : Loc) (h : Nat) (D : Dk) (P : List Pg) (r : Rt) (key x : BA) (kvs : List KV) (S : St w L b h D P) (T : TreeAt w t b r) (lv : D.Live) (C : TreeC P r kvs) (hk : keyOk key = true) (hv : valOk x = true) (hct : kvs.length ≤ 100000000) (hr : (P.length : Int) + 2 * r.height + 1 ≤ D.room) :
  Calls Tryz.prog 26 #[.pointer (some ⟨t, 0, none⟩), .string key, .string x] w fun e w' => e = .returned (.int .i64 0) ∧ ∃ D' P' r', Done w w' t b L h D P r D' P' r' (ed key (some x) kvs) ∧ P.length < P'.length := by
 refine (tree_Put0 w.heap.size w t b L h D P r key x kvs (Nat.le_refl _) (lo_of S T) lv.1 C hk hv (C.small hct) hct).mono ?_
 rintro e w' ⟨D', P', r', T', K, hres⟩
 rcases hres with ⟨rfl, ha, hrc, hc, up, hle, hgr⟩ | ⟨er, rfl, -, -, hw, hres⟩
 ·refine ⟨rfl, D', P', r', ⟨T'.st, T'.tr, ⟨hrc, ?_, ed_good C.good hk (fun v e => by cases e; exact hv)⟩, ha.wr.live lv, ha, hle, K⟩, hgr (by simp [ed])⟩
  rw [hc, C.count, ed_put_len C.good.1]
 ·exfalso
  rcases hres with ⟨-, -, h3⟩ | ⟨-, -, h3⟩
  ·have := hw.room; omega
  ·exact h3 lv
theorem tree_Delete (w : World) (t b : Nat) (L : Loc) (h : Nat) (D : Dk) (P : List Pg) (r : Rt) (key : BA) (kvs : List KV) (S : St w L b h D P) (T : TreeAt w t b r) (lv : D.Live) (C : TreeC P r kvs) (hk : keyOk key = true) (hct : kvs.length ≤ 100000000) (hr : (P.length : Int) + 2 * r.height + 1 ≤ D.room) :
  Calls Tryz.prog 32 #[.pointer (some ⟨t, 0, none⟩), .string key] w fun e w' => e = .returned (.tuple #[.bool (isAt key (kvs.map (·.1))), .int .i64 0]) ∧ ∃ D' P' r', Done w w' t b L h D P r D' P' r' (ed key none kvs) := by
 refine (tree_Delete0 w.heap.size w t b L h D P r key kvs (Nat.le_refl _) (lo_of S T) lv.1 C hk (C.small hct) hct).mono ?_
 rintro e w' (⟨hat, rfl, hb⟩ | ⟨hat, er, rfl, D', P', r', T', K, hres⟩)
 ·have hed : ed key none kvs = kvs := by
   obtain ⟨f1, f2⟩ := filters key kvs C.good.1
   unfold ed
   rw [f1, f2, hat]
   simp
  refine ⟨by rw [hat], D, P, r, S.below hb, T.below hb, by rw [hed]; exact C, lv, AppOk.refl S.room S.holds, by have := (C.low (m := 27) om_).1; omega, Keep.below hb⟩
 ·rcases hres with ⟨he, ha, hrc, hc, up, hle, hgr⟩ | ⟨er', he, -, -, hw, hres⟩
  ·simp only [Ending.returned.injEq, Value.int.injEq, true_and] at he
   subst he
   refine ⟨by rw [hat]; rfl, D', P', r', T'.st, T'.tr, ⟨hrc, ?_, ed_good C.good hk (fun v e => by cases e)⟩, ha.wr.live lv, ha, hle, K⟩
   obtain ⟨h1, h2⟩ := isAt_lt hat
   rw [List.length_map] at h1
   have hk2 : (kvs[lb key (kvs.map (·.1))]).1 = key := by simpa [List.getD_eq_getElem?_getD, List.getElem?_eq_getElem h1] using h2
   have hm := List.getElem_mem h1
   have := ed_del_len (v := (kvs[lb key (kvs.map (·.1))]).2) (key := (kvs[lb key (kvs.map (·.1))]).1) C.good.1 hm
   rw [hk2] at this
   rw [hc, C.count, this]
   rfl
  ·exfalso
   rcases hres with ⟨-, -, h3⟩ | ⟨-, -, h3⟩
   ·have := hw.room; omega
   ·exact h3 lv
end Go.Proofs.YtendgmblgdkiaaaGreat

namespace Go.Proofs.YtendgmblgdkiaaaGreat
open Go.RowKit
open Go.Proofs.YtendgmblgdkiaaaGreatW
open PrintWords PrintLast PrintMore
set_option linter.unusedVariables false
set_option linter.unusedSimpArgs false

/-- Pages of a disk that lives. -/
structure Pgs (w : World) (L : Loc) (b h : Nat) (D : Dk) (P : List Pg) : Prop where
 st : St w L b h D P
 live : D.Live
theorem Pgs.below {w w' : World} {L : Loc} {b h : Nat} {D : Dk} {P : List Pg} (H : Pgs w L b h D P) (hb : Below w.heap.size w w') : Pgs w' L b h D P := ⟨H.st.below hb, H.live⟩
set_option maxRecDepth 100000 in
theorem law_Half (w : World) (n : Nat) (hn : n ≤ 30000) :
  Calls Tryz.prog 21 #[.int .i64 (n : Int)] w fun e w' => ∃ (L : Loc) (b : Nat) (D : Dk), e = .returned (.tuple #[.pointer (some ⟨L.a, 0, none⟩), .pointer (some ⟨b, 0, none⟩)]) ∧ Pgs w' L b 0 D [] ∧ D.room = n ∧ (∀ k, L.foot k ∨ k = b → w.heap.size ≤ k) ∧ Below w.heap.size w w' := by
 have hD : (Dk.make (2 + 2 * (n : Int))).room = n := by
  unfold Dk.room
  rw [make_now]
  omega
 have HD := hi_ hD
 clear hD
 go_enter Tryz.func21, Tryz.ntmps21
 go_wp2_with fail
 refine (disk_New (2 + 2 * (n : Int)) w).mono ?_
 rintro e w1 ⟨L, rfl, hd, hf, hb⟩
 obtain ⟨D, hDD⟩ : ∃ D, D = Dk.make (2 + 2 * (n : Int)) := ⟨_, rfl⟩
 have hlv : D.Live := by rw [hDD]; exact make_live _
 rw [← hDD] at hd HD
 have HL := hi_ hlv
 have HDA := hi_ hd
 have HF := hi_ hf
 have HB := hi_ hb
 clear hDD hd hf hb hlv
 go_wp2_with fail
 refine (pages_Open w1 L D 0 0 HDA.out om_ om_).mono ?_
 rintro e w2 ⟨rfl, hp, hb⟩
 have hb2 := hi_ (HB.out.trans (hb.mono HB.out.size))
 have hp := hi_ hp
 have hd := hi_ (HDA.out.below hb)
 clear hb
 go_wp2_with fail
 go_ret2
 refine ⟨L, w1.heap.size, D, rfl, ⟨⟨hd.out, hp.out, by omega, by simp, fun i k s hi => by simp at hi⟩, HL.out⟩, HD.out, ?_, hb2.out⟩
 rintro k (hk | rfl)
 ·exact HF.out k hk
 ·exact HB.out.size
end Go.Proofs.YtendgmblgdkiaaaGreat

namespace Go.Proofs.YtendgmblgdkiaaaGreat
open Go.RowKit
open Go.Proofs.YtendgmblgdkiaaaGreatW
open PrintWords PrintLast PrintMore
set_option linter.unusedVariables false
set_option linter.unusedSimpArgs false

theorem root_none {P : List Pg} {r : Rt} (h : TreeC P r []) : r = ⟨-1, 0, 0⟩ := by
 have hc := h.count
 rcases h.tall with ⟨h1, h2, -⟩ | ⟨hn, h1, h2⟩
 ·obtain ⟨p, c, t⟩ := r
  simp only at h1 h2 hc
  subst h1 h2 hc
  rfl
 ·have : 0 < 2 ^ hn := Nat.pow_pos om_
  simp at h2
theorem root_one {P : List Pg} {r : Rt} {x : KV} (h : TreeC P r [x]) (hP : P.length ≤ 1) : r = ⟨0, 1, 1⟩ := by
 have hc := h.count
 rcases h.root with ⟨-, -, h3⟩ | ⟨hn, q, n, h1, h2, h3, -⟩
 ·cases h3
 ·have hq := (List.getElem?_eq_some_iff.1 h3).1
  rcases h.tall with ⟨-, -, h4⟩ | ⟨m, h4, h5⟩
  ·cases h4
  ·have hm : m = 0 := by
    rcases Nat.eq_zero_or_pos m with h | h
    ·exact h
    ·have : 2 ^ 1 ≤ 2 ^ m := Nat.pow_le_pow_right om_ h
     simp at h5
     omega
   obtain ⟨p, c, t⟩ := r
   simp only at h1 h2 h4 hc
   have e1 : p = 0 := by omega
   have e2 : t = 1 := by omega
   have e3 : c = 1 := by simpa using hc
   subst e1 e2 e3
   rfl
theorem rootC_none (P : List Pg) : TreeC P ⟨-1, 0, 0⟩ [] := ⟨.inl ⟨rfl, rfl, rfl⟩, rfl, List.Pairwise.nil, fun p hp => by cases hp⟩

set_option maxHeartbeats 1000000 in
set_option maxRecDepth 100000 in
theorem awake10 (w : World) : Calls Tryz.prog 20 #[] w fun e w' => e = .returned (.bool true) ∧ Below w.heap.size w w' := by
 go_enter Tryz.func20, Tryz.ntmps20
 go_wp2_with fail
 refine (law_Half w 5 om_).mono ?_
 rintro e w1 ⟨L, b, D, rfl, hP, hr, hnew, hb⟩
 have HP := hi_ hP
 have HR := hi_ hr
 have HN := hi_ hnew
 have B1 := hi_ hb
 clear hP hr hnew hb
 go_wp2_with fail
 refine (tree_Empty w1).mono ?_
 rintro e w2 ⟨rfl, hb⟩
 have B2 := hi_ (below_then B1.out B1.out.size hb)
 have HP2 := hi_ (HP.out.below hb)
 clear hb HP
 go_wp2_with fail
 refine (tree_Open w2 b ⟨-1, 0, 0⟩).mono ?_
 rintro e w3 ⟨t, rfl, hT, ht, hb⟩
 have B3 := hi_ (below_then B2.out B2.out.size hb)
 have HP3 := hi_ (HP2.out.below hb)
 have HT3 := hi_ hT
 have HLT := hi_ (Nat.le_trans B2.out.size ht)
 clear hb hT ht HP2
 go_wp2_with fail
 refine (tree_Put w3 t b L 0 D [] ⟨-1, 0, 0⟩ ⟨#[97]⟩ ⟨#[120]⟩ [] HP3.out.st HT3.out HP3.out.live (rootC_none []) rfl rfl (by simp) (by rw [HR.out]; simp)).mono ?_
 rintro e w4 ⟨rfl, D4, P4, r4, Dn, -⟩
 obtain rfl : r4 = ⟨0, 1, 1⟩ := root_one (x := (⟨#[97]⟩, ⟨#[120]⟩)) Dn.tc (by have := Dn.most; simp at this; omega)
 have D4 := hi_ Dn
 have B4 : Hid (Keep (fun k => (L.foot k ∨ k = b) ∨ k = t) w w4) := hi_ ((Keep.below B3.out).trans Dn.keep)
 clear Dn HP3 HT3
 go_wp2_with fail
 refine (tree_Root w4 t b ⟨0, 1, 1⟩ D4.out.tr).mono ?_
 unfold rootV
 rintro e w5 ⟨rfl, hb⟩
 have S5 := hi_ (D4.out.st.below hb)
 have T5 := hi_ (D4.out.tr.below hb)
 have B5 := hi_ (B4.out.trans (Keep.below hb))
 clear hb B4
 go_wp2_with fail
 refine (tree_Get w5 t b L 0 _ P4 ⟨0, 1, 1⟩ S5.out T5.out D4.out.live.1 ⟨#[97]⟩ _ D4.out.tc (by simp)).mono ?_
 rintro e w6 ⟨s, is, rfl, hb, hyes, hno⟩
 have S6 := hi_ (S5.out.below hb)
 have T6 := hi_ (T5.out.below hb)
 have B6 := hi_ (B5.out.trans (Keep.below hb))
 have hed : ed ⟨#[97]⟩ (some ⟨#[120]⟩) [] = [((⟨#[97]⟩ : BA), (⟨#[120]⟩ : BA))] := rfl
 obtain rfl : is = true := by
  cases is with
  | true => rfl
  | false => exact absurd (by rw [hed]; exact List.mem_cons_self) ((hno rfl).2 ⟨#[120]⟩)
 obtain rfl : s = ⟨#[120]⟩ := by
  have := hyes rfl
  rw [hed] at this
  simpa using this
 clear hb hyes hno S5 T5 B5 hed
 go_wp2_with fail
 refine (tree_Delete w6 t b L 0 _ P4 ⟨0, 1, 1⟩ ⟨#[97]⟩ _ S6.out T6.out D4.out.live D4.out.tc rfl (by simp [ed]) (by have h1 := D4.out.most; have h2 := D4.out.app.wr.room; have h3 := HR.out; simp at h1 h3; simp; omega)).mono ?_
 rintro e w7 ⟨rfl, D7, P7, r7, Dn⟩
 have hz : ed ⟨#[97]⟩ none (ed ⟨#[97]⟩ (some ⟨#[120]⟩) []) = [] := by simp [ed, blt_irrefl]
 obtain rfl : r7 = ⟨-1, 0, 0⟩ := root_none (P := P7) (by rw [← hz]; exact Dn.tc)
 have hat : isAt ⟨#[97]⟩ ((ed ⟨#[97]⟩ (some ⟨#[120]⟩) []).map (·.1)) = true := by kernel_rfl
 rw [hat]
 have D7 := hi_ Dn
 have B7 := hi_ (B6.out.trans Dn.keep)
 clear Dn hz hat B6
 go_wp2_with fail
 refine (tree_Root w7 t b ⟨-1, 0, 0⟩ D7.out.tr).mono ?_
 unfold rootV
 rintro e w8 ⟨rfl, hb⟩
 have B8 := hi_ (B7.out.trans (Keep.below hb))
 clear hb B7
 go_wp2_with fail
 refine (tree_Empty w8).mono ?_
 rintro e w9 ⟨rfl, hb⟩
 have B9 := hi_ (B8.out.trans (Keep.below hb))
 clear hb B8
 go_wp2_with fail
 go_ret
 refine ⟨rfl, (B9.out.mono (G := fun _ => False) fun i hi hf => ?_).toBelow⟩
 rcases hf with hf | rfl
 ·have := HN.out i hf; omega
 ·have := HLT.out; omega
end Go.Proofs.YtendgmblgdkiaaaGreat

namespace Go.Proofs.YtendgmblgdkiaaaGreat
open Go.RowKit
open Go.Proofs.YtendgmblgdkiaaaGreatW
open PrintWords PrintLast PrintMore
set_option linter.unusedVariables false
set_option linter.unusedSimpArgs false

/-- A node's key, where it lies. -/
theorem key_cell {w : World} {A : Option Addr} {l : List BA} (hC : Kd.C Kd.string w A l.length l) {i : Nat} (hi : i < l.length) : ∃ ad, A = some ad ∧ w.cell? (ad.add i) = some (.string (l.getD i ByteArray.empty)) := by
 obtain ⟨ad', c, e, hcl, hcK, hcc⟩ := Kd.C_get hC ByteArray.empty (i : Int) om_ om_
 have hK : c = [.string (l.getD i ByteArray.empty)] := by
  simp only [Kd.string, Kd.scalar, Int.toNat_natCast] at hcK
  exact hcK
 have := hcc 0 (.string (l.getD i ByteArray.empty)) (by rw [hK]; rfl)
 exact ⟨ad', e, by simpa [Kd.string, Kd.scalar] using this⟩
theorem bytes_self (s : BA) : Op.bytesLess s.toList s.toList = false := blt_irrefl s
theorem bytesLess_nil (l : List UInt8) : Op.bytesLess l [] = false := by cases l <;> rfl
theorem bytes_nil (s : BA) : Op.bytesLess s.toList (⟨#[]⟩ : BA).toList = false := by
 have h : (⟨#[]⟩ : BA).toList = [] := by simp [ByteArray.toList, ByteArray.toList.loop, ByteArray.size]
 rw [h]
 exact bytesLess_nil _

/-- What Shape is asked of a node. -/
structure ShPre (P : List Pg) (page lv : Nat) (top : Bool) (least : BA) (n : Nd) (kvs : List KV) : Prop where
 pg : P[page]? = some n.page
 fit : n.Fit
 cn : Cn P lv n kvs
 good : Good kvs
 low : lv ≤ 1000
 mid : top = false → 2 ≤ n.keys.length ∧ least = n.least
 tip : top = true → least = ⟨#[]⟩ ∧ (2 ≤ lv → 2 ≤ n.keys.length)

/-- What a page reads as. -/
def pgReadIs (D : Dk) (h : Nat) (P : List Pg) (page : Nat) (k : Int) (s : BA) : Prop := D.pgRead h P.length page = (k, s, 0)
theorem nodeV_outs {B : Nat} {w : World} {n : Nd} {k : Int} {A1 A2 A3 : Option Addr} {c1 c2 c3 : Nat} (hk : n.kind = k) (h : NodeV B w (.agg #[.int .i64 k, .slice A1 n.keys.length c1, .slice A2 n.vals.length c2, .slice A3 n.kids.length c3]) n) :
  Kd.C Kd.string w A1 n.keys.length n.keys ∧ n.keys.length ≤ c1 ∧ Kd.C Kd.string w A2 n.vals.length n.vals ∧ n.vals.length ≤ c2 ∧ Kd.C (Kd.int .i64) w A3 n.kids.length n.kids ∧ n.kids.length ≤ c3 := by
 subst hk
 exact h.outs
set_option maxHeartbeats 2000000 in
set_option maxRecDepth 100000 in
theorem shape_leaf (w : World) (b : Nat) (L : Loc) (h : Nat) (D : Dk) (P : List Pg) (S : St w L b h D P) (up : D.down = false) (page : Nat) (top : Bool) (least : BA) (n : Nd) (kvs : List KV) (H : ShPre P page 1 top least n kvs) :
  Calls Tryz.prog 105 #[.pointer (some ⟨b, 0, none⟩), .int .i64 (page : Int), .int .i64 1, .bool top, .string least] w fun e w' => e = .returned (.int .i64 (kvs.length : Int)) ∧ Below w.heap.size w w' := by
 have HH := hi_ H
 have hn : n = leafOf kvs := H.cn
 have hkd : n.kind = 1 := by rw [hn]; rfl
 have HNF := hi_ hn
 have hroom := S.room
 have hmost := room_le S.d.ok
 have hlp : n.keys.length ≤ n.pack.size := le_packOf n.kind n.keys n.vals n.kids
 have hok := cn_ok H.cn H.good om_ (by have := H.fit.size; omega)
 have hff := fit_few hok H.fit.size
 have HOK := hi_ hok
 have HFF := hi_ hff
 have h1k : ¬ ((n.keys.length : Int) < 1) := by have := H.fit.some; omega
 have hps : pgReadIs D h P page n.kind n.pack := pgRead_up up S.d.ok.least S.hh S.room S.holds H.pg
 have HR := hi_ hps
 have HS := hi_ S
 have HP := hi_ (show PNd.node_Parse.f (50 + 2 * n.keys.length) n.kind n.pack = some (n.kind, n.keys, n.vals, n.kids, 0) from parse_pack n.kind n.keys n.vals n.kids hok.ok (by have := H.fit.size; exact Nat.le_trans this om_) om_ (50 + 2 * n.keys.length) (Nat.le_refl _))
 have HF := hi_ (fits_f n hok.fine)
 have hdec : decide ((n.pack.size : Int) ≤ 240) = true := by have := H.fit.size; simp; omega
 rw [hdec] at HF
 have CR := pages_Read w b L D h P.length (page : Int) S.p S.d S.hh S.room
 rw [HR.out] at CR
 clear H S up hn hroom hmost hlp hok hff hps hdec
 rw [hkd] at HP HF CR
 have HKD := hi_ hkd
 clear hkd
 go_enter Tryz.func105, Tryz.ntmps105
 go_wp2_with fail
 refine CR.mono ?_
 clear CR
 rintro e w1 ⟨rfl, hb⟩
 have B1 := hi_ hb
 clear hb
 go_wp2_with fail
 refine (PNd.node_Parse.calls (50 + 2 * n.keys.length) 1 n.pack 1 n.keys n.vals n.kids 0 w1 HP.out).mono ?_
 rintro e w2 ⟨v1, v2, v3, rfl, g1, g2, g3, hb⟩
 have NV := hi_ (show NodeV w1.heap.size w2 (.agg #[.int .i64 n.kind, v1, v2, v3]) n from ⟨v1, v2, v3, rfl, Kd.R_mono g1 (fun _ _ => trivial), Kd.R_mono g2 (fun _ _ => trivial), Kd.R_mono g3 (fun _ _ => trivial)⟩)
 obtain ⟨A1, a1, rfl⟩ := Kd.R_slice g1
 obtain ⟨A2, a2, rfl⟩ := Kd.R_slice g2
 obtain ⟨A3, a3, rfl⟩ := Kd.R_slice g3
 have B2 := hi_ (B1.out.trans (hb.mono B1.out.size))
 clear g1 g2 g3 hb HP B1
 rw [HKD.out] at NV
 go_upto_region 5 with fail
 have X3 := hi_ (blk_new w2 (.cells #[.int .i64 1, .slice A1 n.keys.length a1, .slice A2 n.vals.length a2, .slice A3 n.kids.length a3] 149 (0, 0)))
 have N3 := hi_ (NV.out.below (below_alloc (Below.refl w2.heap.size w2) (.cells #[.int .i64 1, .slice A1 n.keys.length a1, .slice A2 n.vals.length a2, .slice A3 n.kids.length a3] 149 (0, 0))))
 have B3 := hi_ (below_alloc B2.out (.cells #[.int .i64 1, .slice A1 n.keys.length a1, .slice A2 n.vals.length a2, .slice A3 n.kids.length a3] 149 (0, 0)))
 obtain ⟨g, hg⟩ : ∃ g, g = w2.heap.size := ⟨_, rfl⟩
 rw [← hg] at X3 ⊢
 clear hg NV B2
 generalize w2.alloc (.cells #[.int .i64 1, .slice A1 n.keys.length a1, .slice A2 n.vals.length a2, .slice A3 n.kids.length a3] 149 (0, 0)) = w3 at *
 obtain ⟨D1, k1, D2, k2, D3, k3⟩ := nodeV_outs HKD.out N3.out
 obtain ⟨ad, rfl, -⟩ := key_cell D1 (by have := HH.out.fit.some; exact this : 0 < n.keys.length)
 clear D1 k1 D2 k2 D3 k3
 have hk0 : (0 : Int) < (n.keys.length : Int) := by have := HH.out.fit.some; omega
 have hk00 : 0 < n.keys.length := HH.out.fit.some
 have x0 := blk_cell X3.out 0
 have x1 := blk_cell X3.out 1
 have x2 := blk_cell X3.out 2
 have x3 := blk_cell X3.out 3
 have z0 : w3.cell? ad = some (.string n.least) := by obtain ⟨p, e, hp⟩ := key_cell (nodeV_outs HKD.out N3.out).1 hk00; cases e; have ha : ad.add 0 = ad := by simp [Addr.add]
                                                      rw [ha] at hp; exact hp
 have hself := bytes_self n.least
 have hnil := bytes_nil n.least
 have hnil2 := bytesLess_nil n.least.toList
 go_wp2_with fail
 obtain ⟨D1, k1, D2, k2, D3, k3⟩ := nodeV_outs HKD.out N3.out
 refine (PNd.node_Node_Fits.calls 1 (some ad) a1 n.keys A2 a2 n.vals A3 a3 n.kids true w3 D1 k1 D2 k2 D3 k3 HF.out).mono ?_
 clear D1 k1 D2 k2 D3 k3 x0 x1 x2 x3 z0
 rintro e w4 ⟨rfl, hb⟩
 replace X3 := hi_ (blk_below X3.out hb)
 replace N3 := hi_ (N3.out.below hb)
 replace B3 := hi_ (B3.out.trans (hb.mono B3.out.size))
 clear hb
 have x0 := blk_cell X3.out 0
 have x1 := blk_cell X3.out 1
 have x2 := blk_cell X3.out 2
 have x3 := blk_cell X3.out 3
 have z0 : w4.cell? ad = some (.string n.least) := by obtain ⟨p, e, hp⟩ := key_cell (nodeV_outs HKD.out N3.out).1 hk00; cases e; have ha : ad.add 0 = ad := by simp [Addr.add]
                                                      rw [ha] at hp; exact hp
 go_wp2_with fail
 obtain ⟨D1, k1, D2, k2, D3, k3⟩ := nodeV_outs HKD.out N3.out
 refine (PNd.node_Node_Len.calls 1 (some ad) a1 n.keys A2 a2 n.vals A3 a3 n.kids (n.keys.length : Int) w4 D1 k1 D2 k2 D3 k3 rfl).mono ?_
 clear D1 k1 D2 k2 D3 k3 x0 x1 x2 x3 z0
 rintro e w5 ⟨rfl, hb⟩
 replace X3 := hi_ (blk_below X3.out hb)
 replace N3 := hi_ (N3.out.below hb)
 replace B3 := hi_ (B3.out.trans (hb.mono B3.out.size))
 clear hb
 have x0 := blk_cell X3.out 0
 have x1 := blk_cell X3.out 1
 have x2 := blk_cell X3.out 2
 have x3 := blk_cell X3.out 3
 have z0 : w5.cell? ad = some (.string n.least) := by obtain ⟨p, e, hp⟩ := key_cell (nodeV_outs HKD.out N3.out).1 hk00; cases e; have ha : ad.add 0 = ad := by simp [Addr.add]
                                                      rw [ha] at hp; exact hp
 go_wp2_with fail
 obtain ⟨D1, k1, D2, k2, D3, k3⟩ := nodeV_outs HKD.out N3.out
 refine (PNd.node_Node_Len.calls 1 (some ad) a1 n.keys A2 a2 n.vals A3 a3 n.kids (n.keys.length : Int) w5 D1 k1 D2 k2 D3 k3 rfl).mono ?_
 clear D1 k1 D2 k2 D3 k3 x0 x1 x2 x3 z0
 rintro e w6 ⟨rfl, hb⟩
 replace X3 := hi_ (blk_below X3.out hb)
 replace N3 := hi_ (N3.out.below hb)
 replace B3 := hi_ (B3.out.trans (hb.mono B3.out.size))
 clear hb
 have x0 := blk_cell X3.out 0
 have x1 := blk_cell X3.out 1
 have x2 := blk_cell X3.out 2
 have x3 := blk_cell X3.out 3
 have z0 : w6.cell? ad = some (.string n.least) := by obtain ⟨p, e, hp⟩ := key_cell (nodeV_outs HKD.out N3.out).1 hk00; cases e; have ha : ad.add 0 = ad := by simp [Addr.add]
                                                      rw [ha] at hp; exact hp
 cases top with
 | false =>
  obtain ⟨h2, hle⟩ := HH.out.mid rfl
  subst hle
  have h2k : ¬ ((n.keys.length : Int) < 2) := by omega
  have HC2 := hi_ h2
  clear h2 hnil hnil2
  go_wp2_with fail
  obtain ⟨D1, k1, D2, k2, D3, k3⟩ := nodeV_outs HKD.out N3.out
  refine (PNd.node_Node_Len.calls 1 (some ad) a1 n.keys A2 a2 n.vals A3 a3 n.kids (n.keys.length : Int) w6 D1 k1 D2 k2 D3 k3 rfl).mono ?_
  clear D1 k1 D2 k2 D3 k3 x0 x1 x2 x3 z0
  rintro e w7 ⟨rfl, hb⟩
  have B7 := hi_ (B3.out.trans (hb.mono B3.out.size))
  clear hb
  go_wp2_with fail
  go_ret
  exact ⟨by rw [HNF.out]; simp [leafOf], B7.out⟩
 | true =>
  obtain ⟨hle, h2⟩ := HH.out.tip rfl
  subst hle
  clear h2 hself
  by_cases h2k : (n.keys.length : Int) < 2
  ·go_wp2_with fail
   obtain ⟨D1, k1, D2, k2, D3, k3⟩ := nodeV_outs HKD.out N3.out
   refine (PNd.node_Node_Len.calls 1 (some ad) a1 n.keys A2 a2 n.vals A3 a3 n.kids (n.keys.length : Int) w6 D1 k1 D2 k2 D3 k3 rfl).mono ?_
   clear D1 k1 D2 k2 D3 k3 x0 x1 x2 x3 z0
   rintro e w7 ⟨rfl, hb⟩
   have B7 := hi_ (B3.out.trans (hb.mono B3.out.size))
   clear hb
   go_wp2_with fail
   go_ret
   exact ⟨by rw [HNF.out]; simp [leafOf], B7.out⟩
  ·go_wp2_with fail
   obtain ⟨D1, k1, D2, k2, D3, k3⟩ := nodeV_outs HKD.out N3.out
   refine (PNd.node_Node_Len.calls 1 (some ad) a1 n.keys A2 a2 n.vals A3 a3 n.kids (n.keys.length : Int) w6 D1 k1 D2 k2 D3 k3 rfl).mono ?_
   clear D1 k1 D2 k2 D3 k3 x0 x1 x2 x3 z0
   rintro e w7 ⟨rfl, hb⟩
   have B7 := hi_ (B3.out.trans (hb.mono B3.out.size))
   clear hb
   go_wp2_with fail
   go_ret
   exact ⟨by rw [HNF.out]; simp [leafOf], B7.out⟩
set_option maxHeartbeats 4000000 in
set_option maxRecDepth 100000 in
theorem shape_branch (b : Nat) (L : Loc) (h : Nat) (D : Dk) (P : List Pg) (up : D.down = false) (l : Nat)
  (IH : ∀ (w : World) (page : Nat) (top : Bool) (least : BA) (n : Nd) (kvs : List KV), St w L b h D P → ShPre P page (l + 1) top least n kvs → kvs.length ≤ 100000000 →
   Calls Tryz.prog 105 #[.pointer (some ⟨b, 0, none⟩), .int .i64 (page : Int), .int .i64 ((l + 1 : Nat) : Int), .bool top, .string least] w fun e w' => e = .returned (.int .i64 (kvs.length : Int)) ∧ Below w.heap.size w w')
  (w : World) (page : Nat) (top : Bool) (least : BA) (n : Nd) (kvs : List KV) (S : St w L b h D P) (H : ShPre P page (l + 2) top least n kvs) (hct : kvs.length ≤ 100000000) :
  Calls Tryz.prog 105 #[.pointer (some ⟨b, 0, none⟩), .int .i64 (page : Int), .int .i64 ((l + 2 : Nat) : Int), .bool top, .string least] w fun e w' => e = .returned (.int .i64 (kvs.length : Int)) ∧ Below w.heap.size w w' := by
 have HCTM := hi_ hct
 clear hct
 have HH := hi_ H
 obtain ⟨ps, hn, hkv, hps0, hon⟩ := cn_branch.1 H.cn
 have HON := hi_ hon
 have HKV := hi_ hkv
 obtain ⟨lz, hlz⟩ : ∃ lz : Int, lz = ((l + 2 : Nat) : Int) := ⟨_, rfl⟩
 rw [← hlz]
 have hl1 : (lz == 1) = false := by simp; omega
 have hl2 : (1 : Int) < lz := by omega
 have hl3 : IntKind.i64.wrap (lz - 1) = ((l + 1 : Nat) : Int) := by have := H.low; rw [IntWalk.i64_in _ (by omega)]; omega
 clear hps0 hon hkv hlz
 have hkd : n.kind = 2 := by rw [hn]; rfl
 have HNF := hi_ hn
 have hroom := S.room
 have hmost := room_le S.d.ok
 have hlp : n.keys.length ≤ n.pack.size := le_packOf n.kind n.keys n.vals n.kids
 have hok := cn_ok H.cn H.good om_ (by have := H.fit.size; omega)
 have hff := fit_few hok H.fit.size
 have HOK := hi_ hok
 have HFF := hi_ hff
 have h1k : ¬ ((n.keys.length : Int) < 1) := by have := H.fit.some; omega
 have hps : pgReadIs D h P page n.kind n.pack := pgRead_up up S.d.ok.least S.hh S.room S.holds H.pg
 have HR := hi_ hps
 have HS := hi_ S
 have HP := hi_ (show PNd.node_Parse.f (50 + 2 * n.keys.length) n.kind n.pack = some (n.kind, n.keys, n.vals, n.kids, 0) from parse_pack n.kind n.keys n.vals n.kids hok.ok (by have := H.fit.size; exact Nat.le_trans this om_) om_ (50 + 2 * n.keys.length) (Nat.le_refl _))
 have HF := hi_ (fits_f n hok.fine)
 have hdec : decide ((n.pack.size : Int) ≤ 240) = true := by have := H.fit.size; simp; omega
 rw [hdec] at HF
 have CR := pages_Read w b L D h P.length (page : Int) S.p S.d S.hh S.room
 rw [HR.out] at CR
 clear H S up hn hroom hmost hlp hok hff hps hdec
 rw [hkd] at HP HF CR
 have HKD := hi_ hkd
 clear hkd
 go_enter Tryz.func105, Tryz.ntmps105
 go_wp2_with fail
 refine CR.mono ?_
 clear CR
 rintro e w1 ⟨rfl, hb⟩
 have B1 := hi_ hb
 clear hb
 go_wp2_with fail
 refine (PNd.node_Parse.calls (50 + 2 * n.keys.length) 2 n.pack 2 n.keys n.vals n.kids 0 w1 HP.out).mono ?_
 rintro e w2 ⟨v1, v2, v3, rfl, g1, g2, g3, hb⟩
 have NV := hi_ (show NodeV w1.heap.size w2 (.agg #[.int .i64 n.kind, v1, v2, v3]) n from ⟨v1, v2, v3, rfl, Kd.R_mono g1 (fun _ _ => trivial), Kd.R_mono g2 (fun _ _ => trivial), Kd.R_mono g3 (fun _ _ => trivial)⟩)
 obtain ⟨A1, a1, rfl⟩ := Kd.R_slice g1
 obtain ⟨A2, a2, rfl⟩ := Kd.R_slice g2
 obtain ⟨A3, a3, rfl⟩ := Kd.R_slice g3
 have B2 := hi_ (B1.out.trans (hb.mono B1.out.size))
 clear g1 g2 g3 hb HP B1
 rw [HKD.out] at NV
 go_upto_region 5 with fail
 have X3 := hi_ (blk_new w2 (.cells #[.int .i64 2, .slice A1 n.keys.length a1, .slice A2 n.vals.length a2, .slice A3 n.kids.length a3] 149 (0, 0)))
 have N3 := hi_ (NV.out.below (below_alloc (Below.refl w2.heap.size w2) (.cells #[.int .i64 2, .slice A1 n.keys.length a1, .slice A2 n.vals.length a2, .slice A3 n.kids.length a3] 149 (0, 0))))
 have B3 := hi_ (below_alloc B2.out (.cells #[.int .i64 2, .slice A1 n.keys.length a1, .slice A2 n.vals.length a2, .slice A3 n.kids.length a3] 149 (0, 0)))
 obtain ⟨g, hg⟩ : ∃ g, g = w2.heap.size := ⟨_, rfl⟩
 rw [← hg] at X3 ⊢
 clear hg NV B2
 generalize w2.alloc (.cells #[.int .i64 2, .slice A1 n.keys.length a1, .slice A2 n.vals.length a2, .slice A3 n.kids.length a3] 149 (0, 0)) = w3 at *
 obtain ⟨D1, k1, D2, k2, D3, k3⟩ := nodeV_outs HKD.out N3.out
 obtain ⟨ad, rfl, -⟩ := key_cell D1 (by have := HH.out.fit.some; exact this : 0 < n.keys.length)
 clear D1 k1 D2 k2 D3 k3
 have hk0 : (0 : Int) < (n.keys.length : Int) := by have := HH.out.fit.some; omega
 have hk00 : 0 < n.keys.length := HH.out.fit.some
 have x0 := blk_cell X3.out 0
 have x1 := blk_cell X3.out 1
 have x2 := blk_cell X3.out 2
 have x3 := blk_cell X3.out 3
 have z0 : w3.cell? ad = some (.string n.least) := by obtain ⟨p, e, hp⟩ := key_cell (nodeV_outs HKD.out N3.out).1 hk00; cases e; have ha : ad.add 0 = ad := by simp [Addr.add]
                                                      rw [ha] at hp; exact hp
 have hself := bytes_self n.least
 have hnil := bytes_nil n.least
 have hnil2 := bytesLess_nil n.least.toList
 go_wp2_with fail
 obtain ⟨D1, k1, D2, k2, D3, k3⟩ := nodeV_outs HKD.out N3.out
 refine (PNd.node_Node_Fits.calls 2 (some ad) a1 n.keys A2 a2 n.vals A3 a3 n.kids true w3 D1 k1 D2 k2 D3 k3 HF.out).mono ?_
 clear D1 k1 D2 k2 D3 k3 x0 x1 x2 x3 z0
 rintro e w4 ⟨rfl, hb⟩
 replace X3 := hi_ (blk_below X3.out hb)
 replace N3 := hi_ (N3.out.below hb)
 replace B3 := hi_ (B3.out.trans (hb.mono B3.out.size))
 clear hb
 have x0 := blk_cell X3.out 0
 have x1 := blk_cell X3.out 1
 have x2 := blk_cell X3.out 2
 have x3 := blk_cell X3.out 3
 have z0 : w4.cell? ad = some (.string n.least) := by obtain ⟨p, e, hp⟩ := key_cell (nodeV_outs HKD.out N3.out).1 hk00; cases e; have ha : ad.add 0 = ad := by simp [Addr.add]
                                                      rw [ha] at hp; exact hp
 go_wp2_with fail
 obtain ⟨D1, k1, D2, k2, D3, k3⟩ := nodeV_outs HKD.out N3.out
 refine (PNd.node_Node_Len.calls 2 (some ad) a1 n.keys A2 a2 n.vals A3 a3 n.kids (n.keys.length : Int) w4 D1 k1 D2 k2 D3 k3 rfl).mono ?_
 clear D1 k1 D2 k2 D3 k3 x0 x1 x2 x3 z0
 rintro e w5 ⟨rfl, hb⟩
 replace X3 := hi_ (blk_below X3.out hb)
 replace N3 := hi_ (N3.out.below hb)
 replace B3 := hi_ (B3.out.trans (hb.mono B3.out.size))
 clear hb
 have x0 := blk_cell X3.out 0
 have x1 := blk_cell X3.out 1
 have x2 := blk_cell X3.out 2
 have x3 := blk_cell X3.out 3
 have z0 : w5.cell? ad = some (.string n.least) := by obtain ⟨p, e, hp⟩ := key_cell (nodeV_outs HKD.out N3.out).1 hk00; cases e; have ha : ad.add 0 = ad := by simp [Addr.add]
                                                      rw [ha] at hp; exact hp
 go_wp2_with fail
 obtain ⟨D1, k1, D2, k2, D3, k3⟩ := nodeV_outs HKD.out N3.out
 refine (PNd.node_Node_Len.calls 2 (some ad) a1 n.keys A2 a2 n.vals A3 a3 n.kids (n.keys.length : Int) w5 D1 k1 D2 k2 D3 k3 rfl).mono ?_
 clear D1 k1 D2 k2 D3 k3 x0 x1 x2 x3 z0
 rintro e w6 ⟨rfl, hb⟩
 replace X3 := hi_ (blk_below X3.out hb)
 replace N3 := hi_ (N3.out.below hb)
 replace B3 := hi_ (B3.out.trans (hb.mono B3.out.size))
 clear hb
 have x0 := blk_cell X3.out 0
 have x1 := blk_cell X3.out 1
 have x2 := blk_cell X3.out 2
 have x3 := blk_cell X3.out 3
 have z0 : w6.cell? ad = some (.string n.least) := by obtain ⟨p, e, hp⟩ := key_cell (nodeV_outs HKD.out N3.out).1 hk00; cases e; have ha : ad.add 0 = ad := by simp [Addr.add]
                                                      rw [ha] at hp; exact hp
 cases top with
 | false =>
  obtain ⟨h2, hle⟩ := HH.out.mid rfl
  subst hle
  have h2k : ¬ ((n.keys.length : Int) < 2) := by omega
  have HC2 := hi_ h2
  clear h2 hnil hnil2
  have hkl : n.kids.length = ps.length := by rw [HNF.out]; exact List.length_map _
  have hkk : n.keys.length = ps.length := by rw [HNF.out]; exact List.length_map _
  have HKL := hi_ hkl
  have HKK := hi_ hkk
  have hpl : ps.length ≤ 100000 := by have := HFF.out; omega
  have HN0 := hi_ hk00
  clear hkl hkk
  go_wp2_with fail
  clear x0 x1 x2 z0 h1k
  (try clear hself); (try clear hnil); (try clear hnil2)
  rw [HKL.out]
  go_loopw [95, 16] (fun i s wr => ∃ k : Nat, k ≤ ps.length ∧ i = .int .i64 (k : Int) ∧ s = .int .i64 (((kvsOf (ps.take k)).length : Nat) : Int) ∧ Hid (Below w6.heap.size w6 wr)) (fun i _ _ => ps.length - (intOf i).toNat)
  case atStart => exact ⟨0, Nat.zero_le _, rfl, rfl, hi_ (Below.refl _ _)⟩
  case round =>
   obtain ⟨k, hk, rfl, rfl, BR⟩ := hrel
   have X7 := hi_ (blk_below X3.out BR.out)
   have N7 := hi_ (N3.out.below BR.out)
   have B7 := hi_ (B3.out.trans (BR.out.mono B3.out.size))
   have HK := hi_ hk
   clear hk x3
   by_cases hlt : (k : Int) < (ps.length : Int)
   ·have hkl : k < ps.length := by omega
    obtain ⟨D1, k1, D2, k2, D3, k3⟩ := nodeV_outs HKD.out N7.out
    have hni : n.kids = (branchOf ps).kids := by rw [HNF.out]
    have hnk : n.keys = ps.map Pt.k := by rw [HNF.out]; rfl
    obtain ⟨bd, hbd⟩ : ∃ bd, A3 = some bd := by
     obtain ⟨bd, c, e, -⟩ := Kd.C_get D3 0 (k : Int) om_ (by have := HKL.out; omega)
     exact ⟨bd, e⟩
    subst hbd
    obtain ⟨p, hp⟩ : ∃ p, ps[k]? = some p := ⟨_, List.getElem?_eq_getElem hkl⟩
    have y0 : wr.cell? (bd.add k) = some (.int .i64 (p.c : Int)) := kid_cell (by rw [← hni]; exact D3) hp
    have y1 : wr.cell? (ad.add k) = some (.string p.k) := by
     obtain ⟨q, e, hq⟩ := key_cell D1 (show k < n.keys.length by have := HKK.out; omega)
     cases e
     rw [hq, hnk]
     simp [List.getD_eq_getElem?_getD, hp]
    have x1 := blk_cell X7.out 1
    have x3 := blk_cell X7.out 3
    have hlk : (k : Int) < (n.keys.length : Int) := by have := HKK.out; omega
    obtain ⟨o1, o2, m, m1, m2, m3, m4⟩ := HON.out p (List.mem_of_getElem? hp)
    have hsp : ps = ps.take k ++ p :: ps.drop (k + 1) := by rw [← (List.getElem?_eq_some_iff.1 hp).2, ← List.drop_eq_getElem_cons hkl, List.take_append_drop]
    have hkvs : kvs = kvsOf (ps.take k) ++ (p.kv ++ kvsOf (ps.drop (k + 1))) := by rw [HKV.out, ← kvsOf_cons, ← kvsOf_app, ← hsp]
    have gp : Good p.kv := by have hg := HH.out.good; rw [hkvs] at hg; exact (good_app (good_app hg).2.1).1
    have hlen : (kvsOf (ps.take k)).length + p.kv.length ≤ kvs.length := by rw [hkvs]; simp only [List.length_append]; omega
    have hml : p.k = m.least := by rw [← o2]; exact (cn_head m4 om_).2
    have IHc := hi_ (IH wr p.c false p.k m p.kv (HS.out.below B7.out) ⟨m1, m2, m4, gp, by have := HH.out.low; omega, fun _ => ⟨m3, hml⟩, fun e => by cases e⟩ (by have h1 := HCTM.out; omega))
    have HCT := hi_ hlen
    have htk : kvsOf (ps.take (k + 1)) = kvsOf (ps.take k) ++ p.kv := by rw [List.take_add_one, hp]; simp [kvsOf]
    have HTK := hi_ htk
    clear D1 k1 D2 k2 D3 k3 hni hnk hp o1 o2 m1 m2 m3 m4 hsp hkvs gp hml htk hlen
    go_wp2_with fail
    refine IHc.out.mono ?_
    rintro e w8 ⟨rfl, hb⟩
    have BR2 := hi_ (BR.out.trans (hb.mono BR.out.size))
    have hlen1 : ((kvsOf (ps.take k)).length : Int) + (p.kv.length : Int) ≤ 100000000 := by have h1 := HCT.out; have h2 := HCTM.out; omega
    have hneg : ¬ ((p.kv.length : Int) < 0) := by omega
    have hs1 : (0 : Int) ≤ ((kvsOf (ps.take k)).length : Int) := by omega
    have hs2 : (0 : Int) ≤ (p.kv.length : Int) := by omega
    clear hb y0 y1 x1 x3 hlk IHc
    go_wp2_with fail
    go_roundw
    case rel => exact ⟨k + 1, by omega, by go_num, by rw [HTK.out, List.length_append]; congr 1, BR2⟩
    case measure => simp [intOf]; omega
   ·have hkl : k = ps.length := by have := HK.out; omega
    subst hkl
    go_wp2_with fail
    go_ret
    exact ⟨ret_int (by rw [HKV.out]), B7.out⟩
 | true =>
  obtain ⟨hle, h2⟩ := HH.out.tip rfl
  subst hle
  have h2k : ¬ ((n.keys.length : Int) < 2) := by have := h2 om_; omega
  clear h2 hself
  have hkl : n.kids.length = ps.length := by rw [HNF.out]; exact List.length_map _
  have hkk : n.keys.length = ps.length := by rw [HNF.out]; exact List.length_map _
  have HKL := hi_ hkl
  have HKK := hi_ hkk
  have hpl : ps.length ≤ 100000 := by have := HFF.out; omega
  have HN0 := hi_ hk00
  clear hkl hkk
  go_wp2_with fail
  clear x0 x1 x2 z0 h1k
  (try clear hself); (try clear hnil); (try clear hnil2)
  rw [HKL.out]
  go_loopw [95, 16] (fun i s wr => ∃ k : Nat, k ≤ ps.length ∧ i = .int .i64 (k : Int) ∧ s = .int .i64 (((kvsOf (ps.take k)).length : Nat) : Int) ∧ Hid (Below w6.heap.size w6 wr)) (fun i _ _ => ps.length - (intOf i).toNat)
  case atStart => exact ⟨0, Nat.zero_le _, rfl, rfl, hi_ (Below.refl _ _)⟩
  case round =>
   obtain ⟨k, hk, rfl, rfl, BR⟩ := hrel
   have X7 := hi_ (blk_below X3.out BR.out)
   have N7 := hi_ (N3.out.below BR.out)
   have B7 := hi_ (B3.out.trans (BR.out.mono B3.out.size))
   have HK := hi_ hk
   clear hk x3
   by_cases hlt : (k : Int) < (ps.length : Int)
   ·have hkl : k < ps.length := by omega
    obtain ⟨D1, k1, D2, k2, D3, k3⟩ := nodeV_outs HKD.out N7.out
    have hni : n.kids = (branchOf ps).kids := by rw [HNF.out]
    have hnk : n.keys = ps.map Pt.k := by rw [HNF.out]; rfl
    obtain ⟨bd, hbd⟩ : ∃ bd, A3 = some bd := by
     obtain ⟨bd, c, e, -⟩ := Kd.C_get D3 0 (k : Int) om_ (by have := HKL.out; omega)
     exact ⟨bd, e⟩
    subst hbd
    obtain ⟨p, hp⟩ : ∃ p, ps[k]? = some p := ⟨_, List.getElem?_eq_getElem hkl⟩
    have y0 : wr.cell? (bd.add k) = some (.int .i64 (p.c : Int)) := kid_cell (by rw [← hni]; exact D3) hp
    have y1 : wr.cell? (ad.add k) = some (.string p.k) := by
     obtain ⟨q, e, hq⟩ := key_cell D1 (show k < n.keys.length by have := HKK.out; omega)
     cases e
     rw [hq, hnk]
     simp [List.getD_eq_getElem?_getD, hp]
    have x1 := blk_cell X7.out 1
    have x3 := blk_cell X7.out 3
    have hlk : (k : Int) < (n.keys.length : Int) := by have := HKK.out; omega
    obtain ⟨o1, o2, m, m1, m2, m3, m4⟩ := HON.out p (List.mem_of_getElem? hp)
    have hsp : ps = ps.take k ++ p :: ps.drop (k + 1) := by rw [← (List.getElem?_eq_some_iff.1 hp).2, ← List.drop_eq_getElem_cons hkl, List.take_append_drop]
    have hkvs : kvs = kvsOf (ps.take k) ++ (p.kv ++ kvsOf (ps.drop (k + 1))) := by rw [HKV.out, ← kvsOf_cons, ← kvsOf_app, ← hsp]
    have gp : Good p.kv := by have hg := HH.out.good; rw [hkvs] at hg; exact (good_app (good_app hg).2.1).1
    have hlen : (kvsOf (ps.take k)).length + p.kv.length ≤ kvs.length := by rw [hkvs]; simp only [List.length_append]; omega
    have hml : p.k = m.least := by rw [← o2]; exact (cn_head m4 om_).2
    have IHc := hi_ (IH wr p.c false p.k m p.kv (HS.out.below B7.out) ⟨m1, m2, m4, gp, by have := HH.out.low; omega, fun _ => ⟨m3, hml⟩, fun e => by cases e⟩ (by have h1 := HCTM.out; omega))
    have HCT := hi_ hlen
    have htk : kvsOf (ps.take (k + 1)) = kvsOf (ps.take k) ++ p.kv := by rw [List.take_add_one, hp]; simp [kvsOf]
    have HTK := hi_ htk
    clear D1 k1 D2 k2 D3 k3 hni hnk hp o1 o2 m1 m2 m3 m4 hsp hkvs gp hml htk hlen
    go_wp2_with fail
    refine IHc.out.mono ?_
    rintro e w8 ⟨rfl, hb⟩
    have BR2 := hi_ (BR.out.trans (hb.mono BR.out.size))
    have hlen1 : ((kvsOf (ps.take k)).length : Int) + (p.kv.length : Int) ≤ 100000000 := by have h1 := HCT.out; have h2 := HCTM.out; omega
    have hneg : ¬ ((p.kv.length : Int) < 0) := by omega
    have hs1 : (0 : Int) ≤ ((kvsOf (ps.take k)).length : Int) := by omega
    have hs2 : (0 : Int) ≤ (p.kv.length : Int) := by omega
    clear hb y0 y1 x1 x3 hlk IHc
    go_wp2_with fail
    go_roundw
    case rel => exact ⟨k + 1, by omega, by go_num, by rw [HTK.out, List.length_append]; congr 1, BR2⟩
    case measure => simp [intOf]; omega
   ·have hkl : k = ps.length := by have := HK.out; omega
    subst hkl
    go_wp2_with fail
    go_ret
    exact ⟨ret_int (by rw [HKV.out]), B7.out⟩
theorem law_Shape (b : Nat) (L : Loc) (h : Nat) (D : Dk) (P : List Pg) (up : D.down = false) : ∀ (lv : Nat) (w : World) (page : Nat) (top : Bool) (least : BA) (n : Nd) (kvs : List KV), St w L b h D P → ShPre P page lv top least n kvs → kvs.length ≤ 100000000 →
   Calls Tryz.prog 105 #[.pointer (some ⟨b, 0, none⟩), .int .i64 (page : Int), .int .i64 (lv : Int), .bool top, .string least] w fun e w' => e = .returned (.int .i64 (kvs.length : Int)) ∧ Below w.heap.size w w'
 | 0, _, _, _, _, _, _, _, H, _ => H.cn.elim
 | 1, w, page, top, least, n, kvs, S, H, _ => shape_leaf w b L h D P S up page top least n kvs H
 | l + 2, w, page, top, least, n, kvs, S, H, hc => shape_branch b L h D P up l (fun w page top least n kvs S H hc => law_Shape b L h D P up (l + 1) w page top least n kvs S H hc) w page top least n kvs S H hc

/-- Is a tree formed as it is to be: it is. -/
theorem law_Formed (w : World) (b : Nat) (L : Loc) (h : Nat) (D : Dk) (P : List Pg) (r : Rt) (kvs : List KV) (S : St w L b h D P) (up : D.down = false) (C : TreeC P r kvs) (hc : kvs.length ≤ 100000000) :
  Calls Tryz.prog 29 #[.pointer (some ⟨b, 0, none⟩), rootV r] w fun e w' => e = .returned (.bool true) ∧ Below w.heap.size w w' := by
 have hct := C.count
 unfold rootV
 rcases C.root with ⟨h0, hpg, hkv⟩ | ⟨hn, q, n, hhn, hq, hP, hF, hC, h2⟩
 ·obtain ⟨p, c, t⟩ := r
  simp only at h0 hpg hct ⊢
  subst h0 hpg hkv
  have : c = 0 := by simpa using hct
  subst this
  clear S up C hct
  go_enter Tryz.func29, Tryz.ntmps29
  go_upto_region 2 with fail
  have X0 := hi_ (blk_new w (.cells #[.int .i64 (-1), .int .i64 0, .int .i64 0] 31 (0, 0)))
  have B0 := hi_ (below_alloc (Below.refl w.heap.size w) (.cells #[.int .i64 (-1), .int .i64 0, .int .i64 0] 31 (0, 0)))
  generalize w.alloc (.cells #[.int .i64 (-1), .int .i64 0, .int .i64 0] 31 (0, 0)) = w0 at *
  have q0 := blk_cell X0.out 0
  have q1 := blk_cell X0.out 1
  have q2 := blk_cell X0.out 2
  have CE := hi_ (fun W (hW : Below w0.heap.size w0 W) => (tree_Empty W).mono (fun (e : Ending) (w' : World) H => (⟨H.1, hW.trans (H.2.mono hW.size)⟩ : e = Ending.returned (.agg #[.int .i64 (-1), .int .i64 0, .int .i64 0]) ∧ Below w0.heap.size w0 w')))
  have HB0 := hi_ (Below.refl w0.heap.size w0)
  go_region_held3 (fun w' => w'.cell? ⟨w.heap.size, 0, none⟩ = some (.int .i64 (-1)) ∧ w'.cell? ⟨w.heap.size, 1, none⟩ = some (.int .i64 0) ∧ w'.cell? ⟨w.heap.size, 2, none⟩ = some (.int .i64 0))
   (first | exact ⟨q0, q1, q2⟩ | exact ⟨blk_cell (blk_below X0.out hb) 0, blk_cell (blk_below X0.out hb) 1, blk_cell (blk_below X0.out hb) 2⟩)
   (first | (go_at_call 23; (with_reducible refine (CE.out _ ?_).mono ?_); (repeat (first | (with_reducible assumption) | exact HB0.out | refine bel_drewN ?_ _ | refine bel_drew ?_)); rintro e w1 ⟨rfl, hb⟩))
  go_wp2_with fail
  go_ret
  exact ⟨rfl, B0.out.trans (hb.mono B0.out.size)⟩
 ·obtain ⟨p, c, t⟩ := r
  simp only at hhn hq hct ⊢
  subst hhn hq hct
  have CS := hi_ (fun W (hW : Below w.heap.size w W) => law_Shape b L h D P up hn W q true ⟨#[]⟩ n kvs (S.below hW) ⟨hP, hF, hC, C.good, by have := (C.low (m := 27) om_).2; simp only at this; omega, (fun e => by cases e), fun _ => ⟨rfl, h2⟩⟩ hc)
  have hpos : ((hn : Int) == 0) = false := by have := (cn_kind hC).2.2; simp; omega
  clear S up C hP hF hC h2
  go_enter Tryz.func29, Tryz.ntmps29
  go_upto_region 3 with fail
  have X0 := hi_ (blk_new w (.cells #[.int .i64 (q : Int), .int .i64 (kvs.length : Int), .int .i64 (hn : Int)] 31 (0, 0)))
  have B0 := hi_ (below_alloc (Below.refl w.heap.size w) (.cells #[.int .i64 (q : Int), .int .i64 (kvs.length : Int), .int .i64 (hn : Int)] 31 (0, 0)))
  generalize w.alloc (.cells #[.int .i64 (q : Int), .int .i64 (kvs.length : Int), .int .i64 (hn : Int)] 31 (0, 0)) = w0 at *
  have q0 := blk_cell X0.out 0
  have q1 := blk_cell X0.out 1
  have q2 := blk_cell X0.out 2
  have CE := hi_ (fun W (hW : Below w0.heap.size w0 W) => (CS.out W (B0.out.trans (hW.mono B0.out.size))).mono (fun (e : Ending) (w' : World) H => (⟨H.1, hW.trans (H.2.mono hW.size)⟩ : e = Ending.returned (.int .i64 (kvs.length : Int)) ∧ Below w0.heap.size w0 w')))
  have HB0 := hi_ (Below.refl w0.heap.size w0)
  go_region_held3 (fun w' => w'.cell? ⟨w.heap.size, 0, none⟩ = some (.int .i64 (q : Int)) ∧ w'.cell? ⟨w.heap.size, 1, none⟩ = some (.int .i64 (kvs.length : Int)) ∧ w'.cell? ⟨w.heap.size, 2, none⟩ = some (.int .i64 (hn : Int)))
   (first | exact ⟨q0, q1, q2⟩ | exact ⟨blk_cell (blk_below X0.out hb) 0, blk_cell (blk_below X0.out hb) 1, blk_cell (blk_below X0.out hb) 2⟩)
   (first | (go_at_call 105; (with_reducible refine (CE.out _ ?_).mono ?_); (repeat (first | (with_reducible assumption) | exact HB0.out | refine bel_drewN ?_ _ | refine bel_drew ?_)); rintro e w1 ⟨rfl, hb⟩))
  go_wp2_with fail
  go_ret
  exact ⟨rfl, B0.out.trans (hb.mono B0.out.size)⟩
end Go.Proofs.YtendgmblgdkiaaaGreat

namespace Go.Proofs.YtendgmblgdkiaaaGreat
open Go.RowKit
open Go.Proofs.YtendgmblgdkiaaaGreatW
open PrintWords PrintLast PrintMore
set_option linter.unusedVariables false
set_option linter.unusedSimpArgs false

abbrev Pr := PNd.S65
def toP (x : KV) : Pr := ⟨x.1, x.2⟩
theorem rdP (xs : List Pr) (i : Nat) : PNd.rd_T65 xs (i : Int) = xs.getD i PNd.z65 := by
 unfold PNd.rd_T65
 rw [Int.toNat_natCast]
theorem getD_mid {α : Type} (A B : List α) (b d : α) : (A ++ b :: B).getD A.length d = b := by
 simp [List.getD_eq_getElem?_getD]
theorem wsucc (n : Nat) (h : n ≤ 4000000000000) : wrap64 ((n : Int) + 1) = ((n + 1 : Nat) : Int) := by unfold wrap64; omega
/-- Put, behind the place: all that is left is appended, but for the key. -/
theorem put_done (key v : BA) (L : List KV) : ∀ (B : List KV) (A : List KV) (out : List Pr) (k : Nat), L = A ++ B → L.length + out.length + B.length ≤ 1000000 → 2 * B.length + 1 ≤ k →
  PNd.dowserref10_Put.l0 k key v out true (L.map toP) (L.length : Int) (A.length : Int) = some (out ++ (B.filter fun p => decide (p.1 ≠ key)).map toP)
 | [], A, out, k, hL, hn, hk => by
  obtain ⟨k, rfl⟩ : ∃ m, k = m + 1 := ⟨k - 1, by omega⟩
  rw [List.append_nil] at hL
  subst hL
  rw [PNd.dowserref10_Put.l0, if_neg (by omega), if_pos rfl]
  simp
 | b :: B, A, out, k, hL, hn, hk => by
  have hl : L.length = A.length + B.length + 1 := by rw [hL]; simp; omega
  obtain ⟨k, rfl⟩ : ∃ m, k = m + 2 := ⟨k - 2, by simp at hk; omega⟩
  have hr : PNd.rd_T65 (L.map toP) (A.length : Int) = toP b := by
   rw [rdP, hL, List.map_append, List.map_cons]
   have := getD_mid (A.map toP) (B.map toP) (toP b) PNd.z65
   rwa [List.length_map] at this
  have ih := fun out' => put_done key v L B (A ++ [b]) out' k (by rw [hL]; simp)
  rw [PNd.dowserref10_Put.l0, if_pos (by omega), if_pos (by omega), if_pos (by rw [List.length_map]; omega), if_pos rfl, hr, PNd.dowserref10_Put.j1, if_neg (by simp), wsucc _ (by omega)]
  show (if b.1.toList = key.toList then _ else _) = _
  have hA : ((A.length + 1 : Nat) : Int) = ((A ++ [b]).length : Int) := by simp
  by_cases e : b.1 = key
  ·rw [if_pos (show b.1.toList = key.toList by rw [e]), hA, ih out (by simp at hn; omega) (by simp at hk; omega)]
   simp [e]
  ·rw [if_neg (show ¬ b.1.toList = key.toList from fun h => e (ba_inj h)), if_pos (by simp at hn; omega), hA, ih _ (by simp at hn ⊢; omega) (by simp at hk; omega)]
   simp [e, toP]
theorem put_todo (key v : BA) (L : List KV) (hS : Srt L) : ∀ (B : List KV) (A : List KV) (out : List Pr) (k : Nat), L = A ++ B → L.length + out.length + B.length ≤ 999999 → 2 * B.length + 2 ≤ k →
  PNd.dowserref10_Put.l0 k key v out false (L.map toP) (L.length : Int) (A.length : Int) = some (out ++ (ed key (some v) B).map toP)
 | [], A, out, k, hL, hn, hk => by
  obtain ⟨k, rfl⟩ : ∃ m, k = m + 1 := ⟨k - 1, by omega⟩
  rw [List.append_nil] at hL
  subst hL
  rw [PNd.dowserref10_Put.l0, if_neg (by omega), if_neg (by simp), if_pos (by omega)]
  simp [ed, toP]
 | b :: B, A, out, k, hL, hn, hk => by
  have hl : L.length = A.length + B.length + 1 := by rw [hL]; simp; omega
  obtain ⟨k, rfl⟩ : ∃ m, k = m + 2 := ⟨k - 2, by simp at hk; omega⟩
  have hr : PNd.rd_T65 (L.map toP) (A.length : Int) = toP b := by
   rw [rdP, hL, List.map_append, List.map_cons]
   have := getD_mid (A.map toP) (B.map toP) (toP b) PNd.z65
   rwa [List.length_map] at this
  have hSB : Srt (b :: B) := by rw [hL] at hS; exact (List.pairwise_append.1 hS).2.1
  obtain ⟨hb, hB⟩ := List.pairwise_cons.1 hSB
  have hA : ((A.length + 1 : Nat) : Int) = ((A ++ [b]).length : Int) := by simp
  rw [PNd.dowserref10_Put.l0, if_pos (by omega), if_pos (by omega), if_pos (by rw [List.length_map]; omega), if_neg (by simp), hr, PNd.dowserref10_Put.j1, wsucc _ (by omega)]
  show (if (!blt b.1 key) = true then _ else _) = _
  cases hlt : blt b.1 key with
  | true =>
   have hne : b.1 ≠ key := by intro e; rw [e, blt_irrefl] at hlt; cases hlt
   rw [if_neg (by simp)]
   show (if b.1.toList = key.toList then _ else _) = _
   rw [if_neg (fun h => hne (ba_inj h)), if_pos (by simp at hn; omega), hA, put_todo key v L hS B (A ++ [b]) _ k (by rw [hL]; simp) (by simp at hn ⊢; omega) (by simp at hk; omega)]
   have hno := blt_asymm hlt
   simp [ed, hlt, hno, toP]
  | false =>
   rw [if_pos (by simp), if_pos (by simp at hn; omega)]
   simp only [Option.bind_some]
   show (if b.1.toList = key.toList then _ else _) = _
   have hrest : ∀ x ∈ B, blt key x.1 = true := fun x hx => by
    have h1 := hb x hx
    cases hk : blt key b.1 with
    | true => exact blt_trans hk h1
    | false => rw [← blt_total hlt hk]; exact h1
   have hf1 : B.filter (fun p => blt p.1 key) = [] := filter_none fun x hx => blt_asymm (hrest x hx)
   have hf2 : B.filter (fun p => blt key p.1) = B := filter_all hrest
   have hf3 : (B.filter fun p => decide (p.1 ≠ key)) = B := filter_all fun x hx => by
    have := hrest x hx
    simp only [ne_eq, decide_eq_true_eq]
    intro e
    rw [e, blt_irrefl] at this
    cases this
   by_cases e : b.1 = key
   ·rw [if_pos (show b.1.toList = key.toList by rw [e]), hA, put_done key v L B (A ++ [b]) _ k (by rw [hL]; simp) (by simp at hn ⊢; omega) (by simp at hk; omega), hf3]
    have : blt key b.1 = false := by rw [e]; exact blt_irrefl key
    simp [ed, hlt, this, hf1, hf2, toP]
   ·rw [if_neg (show ¬ b.1.toList = key.toList from fun h => e (ba_inj h)), if_pos (by simp at hn ⊢; omega), hA, put_done key v L B (A ++ [b]) _ k (by rw [hL]; simp) (by simp at hn ⊢; omega) (by simp at hk; omega), hf3]
    have : blt key b.1 = true := by
     cases hk : blt key b.1 with
     | true => rfl
     | false => exact absurd (blt_total hlt hk) e
    simp [ed, hlt, this, hf1, hf2, toP]
theorem put_f10 (key v : BA) (L : List KV) (hS : Srt L) (hn : L.length ≤ 400000) (k : Nat) (hk : 2 * L.length + 2 ≤ k) : PNd.dowserref10_Put.f k (L.map toP) key v = some ((ed key (some v) L).map toP) := by
 have := put_todo key v L hS L [] [] k rfl (by simp; omega) hk
 unfold PNd.dowserref10_Put.f
 rw [List.length_map]
 simpa using this
/-- Levels enough for so many keys. -/
theorem most_l0 : ∀ (m n c : Nat), n < 2 ^ m → c + m ≤ 1000 → n ≤ 1000000000 → ∃ r : Nat, PNd.dowserref10_Most.l0 (m + 1) (n : Int) (c : Int) = some (r : Int) ∧ c ≤ r ∧ ∀ h : Nat, 2 ^ h ≤ n → c + h + 1 ≤ r
 | 0, n, c, hn, hc, hb => by
  have : n = 0 := by omega
  subst this
  refine ⟨c, by rw [PNd.dowserref10_Most.l0, if_neg (by omega)], Nat.le_refl _, fun h hh => ?_⟩
  have := Nat.pow_pos (n := h) (show 0 < 2 by omega)
  omega
 | m + 1, n, c, hn, hc, hb => by
  rcases Nat.eq_zero_or_pos n with h0 | h0
  ·subst h0
   refine ⟨c, by rw [PNd.dowserref10_Most.l0, if_neg (by omega)], Nat.le_refl _, fun h hh => ?_⟩
   have := Nat.pow_pos (n := h) (show 0 < 2 by omega)
   omega
  ·have hd : wrap64 (Int.tdiv (n : Int) 2) = ((n / 2 : Nat) : Int) := by
    rw [Int.tdiv_eq_ediv_of_nonneg (by omega)]
    unfold wrap64
    omega
   have hw : wrap64 ((c : Int) + 1) = ((c + 1 : Nat) : Int) := by unfold wrap64; omega
   have hp : 2 ^ (m + 1) = 2 * 2 ^ m := by rw [Nat.pow_succ]; omega
   obtain ⟨r, h1, h2, h3⟩ := most_l0 m (n / 2) (c + 1) om_ om_ om_
   refine ⟨r, by rw [PNd.dowserref10_Most.l0, if_pos (by omega), hd, hw]; exact h1, by omega, fun h hh => ?_⟩
   rcases Nat.eq_zero_or_pos h with e | e
   ·subst e; omega
   ·obtain ⟨j, rfl⟩ : ∃ j, h = j + 1 := ⟨h - 1, by omega⟩
    have hp2 : 2 ^ (j + 1) = 2 * 2 ^ j := by rw [Nat.pow_succ]; omega
    have := h3 j om_
    omega
theorem most_f (n : Nat) (hn : n ≤ 1000000000) : ∃ r : Nat, PNd.dowserref10_Most.f 41 (n : Int) = some (r : Int) ∧ ∀ h : Nat, 2 ^ h ≤ n → h + 1 ≤ r := by
 obtain ⟨r, h1, -, h3⟩ := most_l0 40 n 0 (by have : (2 : Nat) ^ 40 = 1099511627776 := rfl; omega) om_ hn
 exact ⟨r, h1, fun h hh => by have := h3 h hh; omega⟩

/-- A text, cut. -/
def cutB (s : BA) (n : Nat) : BA := if s.size ≤ n then s else s.extract 0 n
theorem cut_f1 (s : BA) (n : Nat) : PNd.dowserlaw01_Cut.f s (n : Int) = some (cutB s n) := by
 unfold PNd.dowserlaw01_Cut.f cutB
 by_cases h : s.size ≤ n
 ·rw [if_neg (by omega), if_pos h]
 ·rw [if_pos (by omega), if_pos (by omega), if_pos (by omega), if_neg h, Int.toNat_natCast]
theorem cutB_size (s : BA) (n : Nat) : (cutB s n).size ≤ n := by
 unfold cutB
 split
 ·assumption
 ·rw [ByteArray.size_extract]; omega

/-- What an edit has. -/
theorem mem_ed {key v : BA} {l : List KV} {p : KV} : p ∈ ed key (some v) l ↔ p = (key, v) ∨ (p ∈ l ∧ p.1 ≠ key) := by
 unfold ed
 simp only [List.mem_append, List.mem_filter, Option.toList_some, List.map_cons, List.map_nil, List.mem_singleton]
 constructor
 ·rintro ((⟨h1, h2⟩ | h) | ⟨h1, h2⟩)
  ·exact .inr ⟨h1, fun e => by rw [e, blt_irrefl] at h2; cases h2⟩
  ·exact .inl h
  ·exact .inr ⟨h1, fun e => by rw [e, blt_irrefl] at h2; cases h2⟩
 ·rintro (h | ⟨h1, h2⟩)
  ·exact .inl (.inr h)
  ·cases h3 : blt p.1 key with
   | true => exact .inl (.inl ⟨h1, rfl⟩)
   | false =>
    cases h4 : blt key p.1 with
    | true => exact .inr ⟨h1, rfl⟩
    | false => exact absurd (blt_total h3 h4) h2
theorem srt_ext : ∀ {l m : List KV}, Srt l → Srt m → (∀ p, p ∈ l ↔ p ∈ m) → l = m
 | [], [], _, _, _ => rfl
 | [], b :: m, _, _, h => absurd ((h b).2 List.mem_cons_self) (by simp)
 | a :: l, [], _, _, h => absurd ((h a).1 List.mem_cons_self) (by simp)
 | a :: l, b :: m, hl, hm, h => by
  obtain ⟨h1, h2⟩ := List.pairwise_cons.1 hl
  obtain ⟨h3, h4⟩ := List.pairwise_cons.1 hm
  have hab : a = b := by
   rcases List.mem_cons.1 ((h a).1 List.mem_cons_self) with e | e
   ·exact e
   ·rcases List.mem_cons.1 ((h b).2 List.mem_cons_self) with f | f
    ·exact f.symm
    ·have := blt_asymm (h3 a e)
     rw [h1 b f] at this
     cases this
  subst hab
  congr 1
  refine srt_ext h2 h4 fun p => ⟨fun hp => ?_, fun hp => ?_⟩
  ·rcases List.mem_cons.1 ((h p).1 (List.mem_cons_of_mem _ hp)) with e | e
   ·subst e
    have := h1 p hp
    rw [blt_irrefl] at this
    cases this
   ·exact e
  ·rcases List.mem_cons.1 ((h p).2 (List.mem_cons_of_mem _ hp)) with e | e
   ·subst e
    have := h3 p hp
    rw [blt_irrefl] at this
    cases this
   ·exact e
end Go.Proofs.YtendgmblgdkiaaaGreat

namespace Go.Proofs.YtendgmblgdkiaaaGreat
open Go.RowKit
open Go.Proofs.YtendgmblgdkiaaaGreatW
open PrintWords PrintLast PrintMore
set_option linter.unusedVariables false
set_option linter.unusedSimpArgs false

theorem field_root1 (w : World) (p c h : Int) : (Instr.field 31 (.agg #[.int .i64 p, .int .i64 c, .int .i64 h]) 1).run Tryz.prog w = .ok (.int .i64 c) w := by kernel_rfl
theorem field_root2 (w : World) (p c h : Int) : (Instr.field 31 (.agg #[.int .i64 p, .int .i64 c, .int .i64 h]) 2).run Tryz.prog w = .ok (.int .i64 h) w := by kernel_rfl
attribute [local go_sem] field_root1 field_root2
theorem srt_uniq {l : List KV} (h : Srt l) {k v u : BA} (h1 : (k, v) ∈ l) (h2 : (k, u) ∈ l) : v = u := by
 induction l with
 | nil => cases h1
 | cons a r ih =>
  obtain ⟨ha, hr⟩ := List.pairwise_cons.1 h
  rcases List.mem_cons.1 h1 with e1 | e1
  ·rcases List.mem_cons.1 h2 with e2 | e2
   ·have := e1.trans e2.symm
    simpa using this
   ·have := ha _ e2
    rw [← e1] at this
    simp [blt_irrefl] at this
  ·rcases List.mem_cons.1 h2 with e2 | e2
   ·have := ha _ e1
    rw [← e2] at this
    simp [blt_irrefl] at this
   ·exact ih hr e1 e2
set_option maxHeartbeats 1000000 in
set_option maxRecDepth 100000 in
theorem law_Has (w : World) (t b : Nat) (L : Loc) (h : Nat) (D : Dk) (P : List Pg) (r : Rt) (kvs : List KV) (A : Option Addr) (c : Nat) (S : St w L b h D P) (T : TreeAt w t b r) (up : D.down = false) (C : TreeC P r kvs) (hct : kvs.length ≤ 100000000)
  (hC : Kd.C PNd.k65 w A (kvs.map toP).length (kvs.map toP)) :
  Calls Tryz.prog 28 #[.pointer (some ⟨t, 0, none⟩), .slice A (kvs.map toP).length c] w fun e w' => e = .returned (.bool true) ∧ Below w.heap.size w w' := by
 obtain ⟨l, hl⟩ : ∃ l, l = kvs.map toP := ⟨_, rfl⟩
 rw [← hl] at hC ⊢
 have hlen : kvs.length = l.length := by rw [hl, List.length_map]
 have hcnt := C.count
 rw [hlen] at hcnt
 obtain ⟨mo, hmo, hml⟩ := most_f l.length om_
 have hgt : ¬ (r.height > (mo : Int)) := by
  rcases C.tall with ⟨h0, -, -⟩ | ⟨hn, h1, h2⟩
  ·omega
  ·have := hml hn om_; omega
 have hhh := C.small om_
 obtain ⟨p, cc, hh⟩ := r
 simp only at hcnt hgt hhh
 subst hcnt
 have HMO := hi_ hmo
 have HC := hi_ hC
 have HS := hi_ S
 have HT := hi_ T
 have HCC := hi_ C
 have HL := hi_ hl
 have HLN := hi_ hlen
 have HHH := hi_ hhh
 have hl0 : l.length ≤ 100000000 := by omega
 clear hmo hml hC S T C hl hlen hct hhh
 go_enter Tryz.func28, Tryz.ntmps28
 go_wp2_with fail
 refine (tree_Root w t b _ HT.out).mono ?_
 unfold rootV
 rintro e w1 ⟨rfl, hb⟩
 have B1 := hi_ hb
 clear hb
 go_wp2_with fail
 refine (tree_Root w1 t b _ (HT.out.below B1.out)).mono ?_
 unfold rootV
 rintro e w2 ⟨rfl, hb⟩
 have B2 := hi_ (B1.out.trans (hb.mono B1.out.size))
 clear hb B1
 go_wp2_with fail
 refine (PNd.dowserref10_Most.calls 41 (l.length : Int) (mo : Int) w2 HMO.out).mono ?_
 rintro e w3 ⟨rfl, hb⟩
 have B3 := hi_ (B2.out.trans (hb.below.mono B2.out.size))
 clear hb B2
 go_wp2_with fail
 go_loopw [27] (fun i wr => ∃ k : Nat, k ≤ l.length ∧ i = .int .i64 (k : Int) ∧ Hid (Below w.heap.size w wr)) (fun i _ => l.length - (intOf i).toNat)
 case atStart => exact ⟨0, Nat.zero_le _, rfl, B3⟩
 case round =>
  obtain ⟨k, hk, rfl, BR⟩ := hrel
  have HK := hi_ hk
  clear hk
  by_cases hlt : (k : Int) < (l.length : Int)
  ·have hkl : k < l.length := by omega
   have hkv : k < kvs.length := by have := HLN.out; omega
   obtain ⟨ad, hA, z0, z1⟩ := PNd.at_T65 (Kd.C_below HC.out BR.out) (k : Int) om_ hlt
   subst hA
   obtain ⟨x, hx⟩ : ∃ x, x = kvs[k] := ⟨_, rfl⟩
   have hrd : PNd.rd_T65 l (k : Int) = toP x := by
    rw [rdP, HL.out, hx]
    simp [List.getD_eq_getElem?_getD, List.getElem?_eq_getElem hkv]
   have hmem : Hid ((x.1, x.2) ∈ kvs) := hi_ (by rw [hx]; exact List.getElem_mem hkv)
   rw [hrd, Int.toNat_natCast] at z0 z1
   obtain ⟨ke, va⟩ := x
   simp only [toP] at z0 z1 hmem
   clear hrd hx hkl hkv
   go_upto_region 6 with fail
   have X2 := hi_ (blk_new wr (.cells #[.string ke, .string va] 65 (0, 0)))
   have C2 := hi_ (below_alloc BR.out (.cells #[.string ke, .string va] 65 (0, 0)))
   generalize wr.alloc (.cells #[.string ke, .string va] 65 (0, 0)) = w4 at *
   obtain ⟨g, hg⟩ : ∃ g, g = wr.heap.size := ⟨_, rfl⟩
   rw [← hg] at X2 ⊢
   clear hg z0 z1
   have y0 := blk_cell X2.out 0
   have y1 := blk_cell X2.out 1
   go_wp2_with fail
   refine (tree_Get w4 t b L h D P _ (HS.out.below C2.out) (HT.out.below C2.out) up ke kvs HCC.out HHH.out).mono ?_
   rintro e w5 ⟨s, is, rfl, hb, hyes, hno⟩
   have C5 := hi_ (C2.out.trans (hb.mono C2.out.size))
   have X5 := hi_ (blk_below X2.out hb)
   obtain rfl : is = true := by
    cases is with
    | true => rfl
    | false => exact absurd hmem.out ((hno rfl).2 va)
   obtain rfl : s = va := srt_uniq HCC.out.good.1 (hyes rfl) hmem.out
   clear hb hyes hno y0 y1 hmem
   have y1 := blk_cell X5.out 1
   go_wp2_with fail
   go_roundw
   case rel => exact ⟨k + 1, by omega, by go_num, C5⟩
   case measure => simp [intOf]; omega
  ·go_wp2_with fail
   go_ret
   exact ⟨rfl, BR.out⟩
end Go.Proofs.YtendgmblgdkiaaaGreat

namespace Go.Proofs.YtendgmblgdkiaaaGreat
open Go.RowKit
open Go.Proofs.YtendgmblgdkiaaaGreatW
open PrintWords PrintLast PrintMore
set_option linter.unusedVariables false
set_option linter.unusedSimpArgs false

/-- The key of a place. -/
def keyB (keys : List BA) (n k : Nat) : BA := (⟨#[107]⟩ : BA) ++ cutB (keys.getD k ByteArray.empty) n
theorem keyB_ok (keys : List BA) (n k : Nat) (hn : n ≤ 15) : keyOk (keyB keys n k) = true := by
 have := cutB_size (keys.getD k ByteArray.empty) n
 have h1 : (⟨#[107]⟩ : BA).size = 1 := rfl
 refine decide_eq_true ?_
 unfold keyB
 rw [ByteArray.size_append, h1]
 omega
theorem keyB_val (keys : List BA) (n k : Nat) (hn : n ≤ 15) : valOk (keyB keys n k) = true := by
 have := keyB_ok keys n k hn
 unfold keyOk at this
 have := of_decide_eq_true this
 exact decide_eq_true om_
theorem below_keep {F : Nat → Prop} {w wr w' : World} (h : Below w.heap.size w wr) (k : Keep F wr w') (hF : ∀ i, F i → w.heap.size ≤ i) : Below w.heap.size w w' :=
 ((Keep.below (F := fun _ => False) h).andThen k (fun i hi hf => by have := hF i hf; omega)).toBelow
set_option maxRecDepth 100000 in
theorem any_key (w : World) (g : Nat) (A : Option Addr) (c : Nat) (keys : List BA) (hg : w.heap[g]? = some (.cells #[.slice A keys.length c] 22 (0, 0))) (hC : Kd.C Kd.string w A keys.length keys) (k : Nat) (hk : k < keys.length) :
  Calls Tryz.prog 24 #[.int .i64 (k : Int), .pointer (some ⟨g, 0, none⟩)] w fun e w' => e = .returned (.string (keyB keys 12 k)) ∧ Below w.heap.size w w' := by
 obtain ⟨ad, rfl, z0⟩ := key_cell hC hk
 have x0 := blk_cell hg 0
 have hki : (k : Int) < (keys.length : Int) := by omega
 obtain ⟨s, hs⟩ : ∃ s, s = keys.getD k ByteArray.empty := ⟨_, rfl⟩
 rw [← hs] at z0
 have HS := hi_ hs
 clear hs hC hk
 go_enter Tryz.func24, Tryz.ntmps24
 go_wp2_with fail
 refine (PNd.dowserlaw01_Cut.calls s 12 (cutB s 12) w (cut_f1 s 12)).mono ?_
 rintro e w1 ⟨rfl, hb⟩
 have hb := hi_ hb.below
 have h12 := cutB_size s 12
 have h1 : (⟨#[107]⟩ : BA).size = 1 := rfl
 go_wp2_with fail
 go_ret
 exact ⟨by rw [keyB, ← HS.out]; rfl, hb.out⟩

/-- Two trees on the same pages. -/
structure Two (w0 : World) (B1 g : Nat) (A : Option Addr) (c : Nat) (keys : List BA) (L : Loc) (b ta tb : Nat) (D : Dk) (P : List Pg) (ra : Rt) (kvA : List KV) (rb : Rt) (kvB : List KV) (wr : World) : Prop where
 pg : Pgs wr L b 0 D P
 ta_ : TreeAt wr ta b ra
 ca : TreeC P ra kvA
 tb_ : TreeAt wr tb b rb
 cb : TreeC P rb kvB
 box : wr.heap[g]? = some (.cells #[.slice A keys.length c] 22 (0, 0))
 hC : Kd.C Kd.string wr A keys.length keys
 bel : Below w0.heap.size w0 wr
 lo : ∀ k, (L.foot k ∨ k = b) ∨ k = ta ∨ k = tb → k < B1
 hi : ∀ k, (L.foot k ∨ k = b) ∨ k = ta ∨ k = tb → w0.heap.size < k
 hg : g = w0.heap.size
 ne : ta ≠ tb
 cap : keys.length ≤ c
theorem Two.below {w0 : World} {B1 g : Nat} {A : Option Addr} {c : Nat} {keys : List BA} {L : Loc} {b ta tb : Nat} {D : Dk} {P : List Pg} {ra : Rt} {kvA : List KV} {rb : Rt} {kvB : List KV} {wr wx : World} (H : Two w0 B1 g A c keys L b ta tb D P ra kvA rb kvB wr) (hb : Below wr.heap.size wr wx) : Two w0 B1 g A c keys L b ta tb D P ra kvA rb kvB wx :=
 ⟨H.pg.below hb, H.ta_.below hb, H.ca, H.tb_.below hb, H.cb, blk_below H.box hb, Kd.C_below H.hC hb, H.bel.trans (hb.mono H.bel.size), H.lo, H.hi, H.hg, H.ne, H.cap⟩
theorem Two.putA {w0 : World} {B1 g : Nat} {A : Option Addr} {c : Nat} {keys : List BA} {L : Loc} {b ta tb : Nat} {D : Dk} {P : List Pg} {ra : Rt} {kvA : List KV} {rb : Rt} {kvB : List KV} {wr wx : World} {D' : Dk} {P' : List Pg} {r' : Rt} {kv' : List KV} (H : Two w0 B1 g A c keys L b ta tb D P ra kvA rb kvB wr) (hK : ∃ A0 : List BA, True)
  (hCw : Kd.C Kd.string w0 A keys.length keys) (Dn : Done wr wx ta b L 0 D P ra D' P' r' kv') : Two w0 B1 g A c keys L b ta tb D' P' r' kv' rb kvB wx := by
 obtain ⟨X, hX⟩ := Dn.app.pre
 have hbl : Below w0.heap.size w0 wx := below_keep H.bel Dn.keep (fun i hi => by
  have := H.hi i (by rcases hi with h | h; exact .inl h; exact .inr (.inl h))
  omega)
 refine ⟨⟨Dn.st, Dn.live⟩, Dn.tr, Dn.tc, H.tb_.keep Dn.keep (fun hf => ?_), ?_, Dn.keep.heap H.box (fun hf => ?_), Kd.C_below hCw hbl, hbl, H.lo, H.hi, H.hg, H.ne, H.cap⟩
 ·rcases hf with h | h
  ·exact H.tb_.foot H.pg.st h
  ·exact H.ne h.symm
 ·rw [hX]; exact H.cb.pre
 ·have := H.hi g (by rcases hf with h | h; exact .inl h; exact .inr (.inl h))
  have := H.hg
  omega
theorem Two.swap {w0 : World} {B1 g : Nat} {A : Option Addr} {c : Nat} {keys : List BA} {L : Loc} {b ta tb : Nat} {D : Dk} {P : List Pg} {ra : Rt} {kvA : List KV} {rb : Rt} {kvB : List KV} {wr : World} (H : Two w0 B1 g A c keys L b ta tb D P ra kvA rb kvB wr) : Two w0 B1 g A c keys L b tb ta D P rb kvB ra kvA wr :=
 ⟨H.pg, H.tb_, H.cb, H.ta_, H.ca, H.box, H.hC, H.bel, (fun k hk => H.lo k (by rcases hk with h | h | h; exact .inl h; exact .inr (.inr h); exact .inr (.inl h))), (fun k hk => H.hi k (by rcases hk with h | h | h; exact .inl h; exact .inr (.inr h); exact .inr (.inl h))), H.hg, fun e => H.ne e.symm, H.cap⟩

/-- Both trees' keys behind some rounds. -/
structure AnySt (keys : List BA) (n i : Nat) (P : List Pg) (D : Dk) (kvA kvB : List KV) : Prop where
 a : ∀ p, p ∈ kvA ↔ ∃ j, j < i ∧ p = (keyB keys 12 j, keyB keys 12 j)
 b : ∀ p, p ∈ kvB ↔ ∃ j, j < i ∧ p = (keyB keys 12 (n - 1 - j), keyB keys 12 (n - 1 - j))
 la : kvA.length ≤ i
 lb : kvB.length ≤ i
 lp : P.length ≤ 26 * i
 room : D.room = 1500
theorem ed_len1 {key v : BA} {l : List KV} : (ed key (some v) l).length ≤ l.length + 1 := ed_len key (some v) l
theorem mem_put {K : Nat → BA} {i : Nat} {kv : List KV} {f : Nat → Nat} (h : ∀ p, p ∈ kv ↔ ∃ j, j < i ∧ p = (K (f j), K (f j))) (p : KV) : p ∈ ed (K (f i)) (some (K (f i))) kv ↔ ∃ j, j < i + 1 ∧ p = (K (f j), K (f j)) := by
 rw [mem_ed, h]
 constructor
 ·rintro (h1 | ⟨⟨j, hj, rfl⟩, h2⟩)
  ·exact ⟨i, by omega, h1⟩
  ·exact ⟨j, by omega, rfl⟩
 ·rintro ⟨j, hj, rfl⟩
  by_cases e : K (f j) = K (f i)
  ·left; rw [e]
  ·right
   refine ⟨⟨j, ?_, rfl⟩, e⟩
   rcases Nat.lt_or_ge j i with h | h
   ·exact h
   ·have : j = i := by omega
    subst this
    exact absurd rfl e
theorem low6 {P : List Pg} {r : Rt} {kvs : List KV} (h : TreeC P r kvs) (hn : kvs.length ≤ 63) : 2 * r.height + 1 ≤ 13 := by
 have := (h.low (m := 6) om_).2
 omega

set_option maxHeartbeats 4000000 in
set_option maxRecDepth 100000 in
theorem any_walk (w : World) (A : Option Addr) (c : Nat) (keys : List BA) (again : Bool) (hC : Kd.C Kd.string w A keys.length keys) (hc : keys.length ≤ c) :
  Calls Tryz.prog 3 #[.slice A keys.length c, .bool again] w fun e w' => e = .returned (.bool true) ∧ Below w.heap.size w w' := by
 have HC := hi_ hC
 have HCC := hi_ hc
 have hmax : keys.length ≤ 9223372036854775807 := Kd.C_max hC
 clear hC hc
 go_enter Tryz.func3, Tryz.ntmps3
 go_wp2_with fail
 have X1 := hi_ (blk_new w (.cells #[.slice A keys.length c] 22 (0, 0)))
 have B1 := hi_ (below_alloc (Below.refl w.heap.size w) (.cells #[.slice A keys.length c] 22 (0, 0)))
 have S1 : Hid ((w.alloc (.cells #[.slice A keys.length c] 22 (0, 0))).heap.size = w.heap.size + 1) := hi_ (by simp)
 generalize w.alloc (.cells #[.slice A keys.length c] 22 (0, 0)) = w1 at *
 obtain ⟨g, hg⟩ : ∃ g, g = w.heap.size := ⟨_, rfl⟩
 rw [← hg] at X1 ⊢
 have HG := hi_ hg
 clear hg
 refine (awake10 w1).mono ?_
 rintro e w2 ⟨rfl, hb⟩
 have B2 := hi_ (below_then B1.out B1.out.size hb)
 have X2 := hi_ (blk_below X1.out hb)
 have S2 : Hid (w.heap.size + 1 ≤ w2.heap.size) := hi_ (by have := S1.out; have := hb.size; omega)
 clear hb X1 B1 S1
 go_wp2_with fail
 refine (law_Half w2 1500 om_).mono ?_
 rintro e w3 ⟨L, b, D, rfl, hP, hr, hnew, hb⟩
 have HP := hi_ hP
 have HR := hi_ hr
 have HN := hi_ (show ∀ k, L.foot k ∨ k = b → w.heap.size < k from fun k hk => by have := hnew k hk; have := S2.out; omega)
 have B3 := hi_ (below_then B2.out B2.out.size hb)
 have X3 := hi_ (blk_below X2.out hb)
 have S3 : Hid (w.heap.size + 1 ≤ w3.heap.size) := hi_ (by have := S2.out; have := hb.size; omega)
 clear hP hr hnew hb B2 X2 S2
 go_wp2_with fail
 refine (tree_Empty w3).mono ?_
 rintro e w4 ⟨rfl, hb⟩
 have B4 := hi_ (below_then B3.out B3.out.size hb)
 have HP4 := hi_ (HP.out.below hb)
 have X4 := hi_ (blk_below X3.out hb)
 have S4 : Hid (w.heap.size + 1 ≤ w4.heap.size) := hi_ (by have := S3.out; have := hb.size; omega)
 clear hb HP B3 X3 S3
 go_wp2_with fail
 refine (tree_Open w4 b ⟨-1, 0, 0⟩).mono ?_
 rintro e w5 ⟨ta, rfl, hT, ht, hb⟩
 have B5 := hi_ (below_then B4.out B4.out.size hb)
 have HP5 := hi_ (HP4.out.below hb)
 have X5 := hi_ (blk_below X4.out hb)
 have TA := hi_ hT
 have NA := hi_ (show w.heap.size < ta by have := S4.out; omega)
 have LA := hi_ hT.lt
 clear hb hT ht HP4 B4 X4 S4
 go_wp2_with fail
 refine (tree_Empty w5).mono ?_
 rintro e w6 ⟨rfl, hb⟩
 have B6 := hi_ (below_then B5.out B5.out.size hb)
 have HP6 := hi_ (HP5.out.below hb)
 have X6 := hi_ (blk_below X5.out hb)
 have TA6 := hi_ (TA.out.below hb)
 have S6 := hi_ hb.size
 clear hb HP5 B5 X5 TA
 go_wp2_with fail
 refine (tree_Open w6 b ⟨-1, 0, 0⟩).mono ?_
 rintro e w7 ⟨tb, rfl, hT, ht, hb⟩
 have B7 := hi_ (below_then B6.out B6.out.size hb)
 have TW := hi_ (show Two w w7.heap.size g A c keys L b ta tb D [] ⟨-1, 0, 0⟩ [] ⟨-1, 0, 0⟩ [] w7 from
  ⟨HP6.out.below hb, TA6.out.below hb, rootC_none [], hT, rootC_none [], blk_below X6.out hb, Kd.C_below HC.out (below_then B6.out B6.out.size hb), below_then B6.out B6.out.size hb, by
   rintro k (h | rfl | rfl)
   ·rcases h with (rfl | rfl | rfl) | rfl
    ·exact (HP6.out.below hb).st.d.lt_a
    ·exact (HP6.out.below hb).st.d.lt_n
    ·exact (HP6.out.below hb).st.d.lt_m
    ·exact lt_of_heap (HP6.out.below hb).st.p
   ·exact (TA6.out.below hb).lt
   ·exact hT.lt, by
   rintro k (h | rfl | rfl)
   ·exact HN.out k h
   ·exact NA.out
   ·have := LA.out; have := NA.out; have := S6.out; omega, HG.out, by have := LA.out; have := S6.out; omega, HCC.out⟩)
 clear hb hT ht HP6 B6 X6 TA6 S6 B7
 have x0 := blk_cell TW.out.box 0
 obtain ⟨n, hn⟩ : ∃ n : Nat, n = min keys.length 40 := ⟨_, rfl⟩
 have hmn : min (keys.length : Int) 40 = (n : Int) := by omega
 have hnk := hi_ (show n ≤ keys.length ∧ n ≤ 40 by omega)
 have HCW := HC
 have ST0 := hi_ (show AnySt keys n 0 [] D [] [] from ⟨fun p => ⟨(fun h => by cases h), fun ⟨j, h, _⟩ => by omega⟩, fun p => ⟨(fun h => by cases h), fun ⟨j, h, _⟩ => by omega⟩, by simp, by simp, by simp, HR.out⟩)
 clear hn hmax HN NA LA
 go_wp2_with fail
 go_loopw [38, 11] (fun i v wr => ∃ (k : Nat) (D' : Dk) (P' : List Pg) (ra rb : Rt) (kvA kvB : List KV), k ≤ n ∧ i = .int .i64 (k : Int) ∧ Hid (AnySt keys n k P' D' kvA kvB) ∧ Hid (Two w w7.heap.size g A c keys L b ta tb D' P' ra kvA rb kvB wr) ∧ Hid (Kd.R PNd.k65 65 wr w7.heap.size (fun _ => True) v (kvA.map toP)) ∧ Hid (w7.heap.size ≤ wr.heap.size)) (fun i _ _ => n - (intOf i).toNat)
 case atStart => exact ⟨0, D, [], ⟨-1, 0, 0⟩, ⟨-1, 0, 0⟩, [], [], Nat.zero_le _, rfl, ST0, TW, hi_ (Kd.R_nil _ _ _ _ _), hi_ (Nat.le_refl _)⟩
 case round =>
  obtain ⟨k, D', P', ra, rb, kvA, kvB, hk, rfl, ST, TR, RV, SZ⟩ := hrel
  clear ST0 TW x0
  have HK := hi_ hk
  clear hk
  by_cases hlt : (k : Int) < (n : Int)
  ·have HLT := hi_ (show k < n by omega)
   have hq1 : IntKind.i64.wrap ((n : Int) - 1) = ((n - 1 : Nat) : Int) := by have := hnk.out; rw [IntWalk.i64_in _ (by omega)]; omega
   have hq2 : IntKind.i64.wrap (((n - 1 : Nat) : Int) - (k : Int)) = ((n - 1 - k : Nat) : Int) := by have := hnk.out; rw [IntWalk.i64_in _ (by omega)]; omega
   have HBD := hi_ (show kvA.length ≤ 40 ∧ kvB.length ≤ 40 ∧ P'.length ≤ 26 * 39 ∧ D'.room = 1500 by have := ST.out.la; have := ST.out.lb; have := ST.out.lp; have := hnk.out; have := ST.out.room; have := HLT.out; omega)
   have HSA := hi_ TR.out.ca.good.1
   obtain ⟨lA, hlA⟩ : ∃ lA, lA = kvA.map toP := ⟨_, rfl⟩
   rw [← hlA] at RV
   have HLA := hi_ hlA
   clear hlA
   obtain ⟨VA, vc, hv⟩ := Kd.R_slice RV.out
   subst hv
   go_wp2_with fail
   refine (any_key wr g A c keys TR.out.box TR.out.hC (k) (by have := hnk.out; have := HLT.out; omega)).mono ?_
   rintro e wk1 ⟨rfl, hb⟩
   replace TR := hi_ (TR.out.below hb)
   replace RV := hi_ (Kd.R_below RV.out hb)
   replace SZ := hi_ (Nat.le_trans SZ.out hb.size)
   clear hb
   go_wp2_with fail
   refine (any_key wk1 g A c keys TR.out.box TR.out.hC (k) (by have := hnk.out; have := HLT.out; omega)).mono ?_
   rintro e wk2 ⟨rfl, hb⟩
   replace TR := hi_ (TR.out.below hb)
   replace RV := hi_ (Kd.R_below RV.out hb)
   replace SZ := hi_ (Nat.le_trans SZ.out hb.size)
   clear hb
   go_wp2_with fail
   refine (tree_Put wk2 ta b L 0 D' P' ra (keyB keys 12 (k)) (keyB keys 12 (k)) kvA TR.out.pg.st TR.out.ta_ TR.out.pg.live TR.out.ca (keyB_ok _ _ _ om_) (keyB_val _ _ _ om_) (by have := HBD.out; omega) (by have := HBD.out; have := low6 TR.out.ca om_; omega)).mono ?_
   rintro e wk3 ⟨rfl, D2, P2, ra2, Dn, -⟩
   have HMa := hi_ (show P2.length ≤ P'.length + 13 ∧ D2.room = D'.room by have h1 := Dn.most; have h2 := low6 TR.out.ca (by have := HBD.out; omega); exact ⟨by omega, Dn.app.wr.room⟩)
   replace SZ := hi_ (Nat.le_trans SZ.out Dn.keep.size)
   replace RV := hi_ (R_keepF RV.out Dn.keep (fun i hi => TR.out.lo i (by rcases hi with h | h; exact .inl h; exact .inr (.inl h))))
   replace TR := hi_ (TR.out.putA ⟨[], trivial⟩ HCW.out Dn)
   clear Dn
   replace HBD := hi_ (show kvA.length ≤ 40 ∧ kvB.length ≤ 40 ∧ P2.length ≤ 26 * 39 + 13 ∧ D2.room = 1500 by have := HBD.out; have := HMa.out; omega)
   go_wp2_with fail
   refine (any_key wk3 g A c keys TR.out.box TR.out.hC (n - 1 - k) (by have := hnk.out; have := HLT.out; omega)).mono ?_
   rintro e wk4 ⟨rfl, hb⟩
   replace TR := hi_ (TR.out.below hb)
   replace RV := hi_ (Kd.R_below RV.out hb)
   replace SZ := hi_ (Nat.le_trans SZ.out hb.size)
   clear hb
   go_wp2_with fail
   refine (any_key wk4 g A c keys TR.out.box TR.out.hC (n - 1 - k) (by have := hnk.out; have := HLT.out; omega)).mono ?_
   rintro e wk5 ⟨rfl, hb⟩
   replace TR := hi_ (TR.out.below hb)
   replace RV := hi_ (Kd.R_below RV.out hb)
   replace SZ := hi_ (Nat.le_trans SZ.out hb.size)
   clear hb
   go_wp2_with fail
   refine (tree_Put wk5 tb b L 0 D2 P2 rb (keyB keys 12 (n - 1 - k)) (keyB keys 12 (n - 1 - k)) kvB TR.out.swap.pg.st TR.out.swap.ta_ TR.out.pg.live TR.out.swap.ca (keyB_ok _ _ _ om_) (keyB_val _ _ _ om_) (by have := HBD.out; omega) (by have := HBD.out; have := low6 TR.out.swap.ca om_; omega)).mono ?_
   rintro e wk6 ⟨rfl, D3, P3, rb3, Dn, -⟩
   have HMb := hi_ (show P3.length ≤ P2.length + 13 ∧ D3.room = D2.room by have h1 := Dn.most; have h2 := low6 TR.out.swap.ca (by have := HBD.out; omega); exact ⟨by omega, Dn.app.wr.room⟩)
   replace SZ := hi_ (Nat.le_trans SZ.out Dn.keep.size)
   replace RV := hi_ (R_keepF RV.out Dn.keep (fun i hi => TR.out.lo i (by rcases hi with h | h; exact .inl h; exact .inr (.inr h))))
   replace TR := hi_ (TR.out.swap.putA ⟨[], trivial⟩ HCW.out Dn).swap
   clear Dn
   go_wp2_with fail
   refine (any_key wk6 g A c keys TR.out.box TR.out.hC (k) (by have := hnk.out; have := HLT.out; omega)).mono ?_
   rintro e wk7 ⟨rfl, hb⟩
   replace TR := hi_ (TR.out.below hb)
   replace RV := hi_ (Kd.R_below RV.out hb)
   replace SZ := hi_ (Nat.le_trans SZ.out hb.size)
   clear hb
   go_wp2_with fail
   refine (any_key wk7 g A c keys TR.out.box TR.out.hC (k) (by have := hnk.out; have := HLT.out; omega)).mono ?_
   rintro e wk8 ⟨rfl, hb⟩
   replace TR := hi_ (TR.out.below hb)
   replace RV := hi_ (Kd.R_below RV.out hb)
   replace SZ := hi_ (Nat.le_trans SZ.out hb.size)
   clear hb
   go_wp2_with fail
   obtain ⟨-, hcc, hCl⟩ := Kd.R_reads' RV.out
   refine (PNd.dowserref10_Put.calls (2 * kvA.length + 2) VA vc lA (keyB keys 12 k) (keyB keys 12 k) ((ed (keyB keys 12 k) (some (keyB keys 12 k)) kvA).map toP) wk8 hCl hcc (by rw [HLA.out]; exact put_f10 _ _ _ HSA.out (by have := HBD.out; omega) _ (Nat.le_refl _))).mono ?_
   rintro e wz ⟨v0, rfl, hR, hb⟩
   replace TR := hi_ (TR.out.below hb)
   have RV2 := hi_ (Kd.R_lower hR SZ.out)
   replace SZ := hi_ (Nat.le_trans SZ.out hb.size)
   have ST2 := hi_ (show AnySt keys n (k + 1) P3 D3 (ed (keyB keys 12 k) (some (keyB keys 12 k)) kvA) (ed (keyB keys 12 (n - 1 - k)) (some (keyB keys 12 (n - 1 - k))) kvB) from
    ⟨mem_put (f := id) ST.out.a, mem_put (f := fun j => n - 1 - j) ST.out.b, Nat.le_trans ed_len1 (by have := ST.out.la; omega), Nat.le_trans ed_len1 (by have := ST.out.lb; omega), by have := ST.out.lp; have := HMa.out; have := HMb.out; omega, by have := ST.out.room; have := HMa.out; have := HMb.out; omega⟩)
   clear hb hR hcc hCl hq1 hq2
   go_wp2_with fail
   go_roundw
   case rel => exact ⟨k + 1, D3, P3, ra2, rb3, _, _, by omega, by go_num, ST2, TR, RV2, SZ⟩
   case measure => simp [intOf]; omega
  ·obtain rfl : k = n := by have := HK.out; omega
   have hBA : kvB = kvA := srt_ext TR.out.cb.good.1 TR.out.ca.good.1 fun p => by
    rw [ST.out.a, ST.out.b]
    constructor
    ·rintro ⟨j, hj, rfl⟩; exact ⟨k - 1 - j, by omega, rfl⟩
    ·rintro ⟨j, hj, rfl⟩; exact ⟨k - 1 - j, by omega, by rw [show k - 1 - (k - 1 - j) = j by omega]⟩
   obtain rfl : kvA = kvB := hBA.symm
   clear hBA
   have HBD := hi_ (show kvA.length ≤ 40 ∧ P'.length ≤ 26 * 40 ∧ D'.room = 1500 by have := ST.out.la; have := ST.out.lp; have := hnk.out; have := ST.out.room; omega)
   obtain ⟨lA, hlA⟩ : ∃ lA, lA = kvA.map toP := ⟨_, rfl⟩
   rw [← hlA] at RV
   have HLA := hi_ hlA
   clear hlA hlt
   obtain ⟨VA, vc, hv⟩ := Kd.R_slice RV.out
   subst hv
   cases again with
   | false =>
    as_aux_lemma =>
    go_wp2_with fail
    have CH := law_Has wr ta b L 0 _ _ _ kvA VA vc TR.out.pg.st TR.out.ta_ TR.out.pg.live.1 TR.out.ca (by have := HBD.out; omega) (by rw [← HLA.out]; exact (Kd.R_reads' RV.out).2.2)
    rw [← HLA.out] at CH
    refine CH.mono ?_
    clear CH
    rintro e wf101 ⟨rfl, hb⟩
    replace TR := hi_ (TR.out.below hb)
    replace RV := hi_ (Kd.R_below RV.out hb)
    replace SZ := hi_ (Nat.le_trans SZ.out hb.size)
    clear hb
    go_wp2_with fail
    have CH := law_Has wf101 tb b L 0 _ _ _ kvA VA vc TR.out.swap.pg.st TR.out.swap.ta_ TR.out.swap.pg.live.1 TR.out.swap.ca (by have := HBD.out; omega) (by rw [← HLA.out]; exact (Kd.R_reads' RV.out).2.2)
    rw [← HLA.out] at CH
    refine CH.mono ?_
    clear CH
    rintro e wf102 ⟨rfl, hb⟩
    replace TR := hi_ (TR.out.below hb)
    replace RV := hi_ (Kd.R_below RV.out hb)
    replace SZ := hi_ (Nat.le_trans SZ.out hb.size)
    clear hb
    go_wp2_with fail
    refine (tree_Root wf102 ta b _ TR.out.ta_).mono ?_
    rintro e wf103 ⟨rfl, hb⟩
    replace TR := hi_ (TR.out.below hb)
    replace RV := hi_ (Kd.R_below RV.out hb)
    replace SZ := hi_ (Nat.le_trans SZ.out hb.size)
    clear hb
    go_wp2_with fail
    refine (law_Formed wf103 b L 0 _ _ _ kvA TR.out.pg.st TR.out.pg.live.1 TR.out.ca (by have := HBD.out; omega)).mono ?_
    rintro e wf104 ⟨rfl, hb⟩
    replace TR := hi_ (TR.out.below hb)
    replace RV := hi_ (Kd.R_below RV.out hb)
    replace SZ := hi_ (Nat.le_trans SZ.out hb.size)
    clear hb
    go_wp2_with fail
    refine (tree_Root wf104 tb b _ TR.out.swap.ta_).mono ?_
    rintro e wf105 ⟨rfl, hb⟩
    replace TR := hi_ (TR.out.below hb)
    replace RV := hi_ (Kd.R_below RV.out hb)
    replace SZ := hi_ (Nat.le_trans SZ.out hb.size)
    clear hb
    go_wp2_with fail
    refine (law_Formed wf105 b L 0 _ _ _ kvA TR.out.swap.pg.st TR.out.swap.pg.live.1 TR.out.swap.ca (by have := HBD.out; omega)).mono ?_
    rintro e wf106 ⟨rfl, hb⟩
    replace TR := hi_ (TR.out.below hb)
    replace RV := hi_ (Kd.R_below RV.out hb)
    replace SZ := hi_ (Nat.le_trans SZ.out hb.size)
    clear hb
    go_wp2_with fail
    go_ret
    exact ⟨rfl, TR.out.bel⟩
   | true =>
    as_aux_lemma =>
    by_cases h0 : (0 : Int) < (k : Int)
    ·have hk0 : 0 < k := by omega
     go_wp2_with fail
     refine (any_key wr g A c keys TR.out.box TR.out.hC 0 (by have := hnk.out; omega)).mono ?_
     rintro e wg1 ⟨rfl, hb⟩
     replace TR := hi_ (TR.out.below hb)
     replace RV := hi_ (Kd.R_below RV.out hb)
     replace SZ := hi_ (Nat.le_trans SZ.out hb.size)
     clear hb
     go_wp2_with fail
     refine (any_key wg1 g A c keys TR.out.box TR.out.hC 0 (by have := hnk.out; omega)).mono ?_
     rintro e wg2 ⟨rfl, hb⟩
     replace TR := hi_ (TR.out.below hb)
     replace RV := hi_ (Kd.R_below RV.out hb)
     replace SZ := hi_ (Nat.le_trans SZ.out hb.size)
     clear hb
     go_wp2_with fail
     refine (tree_Put wg2 ta b L 0 D' P' ra (keyB keys 12 0) (keyB keys 12 0) kvA TR.out.pg.st TR.out.ta_ TR.out.pg.live TR.out.ca (keyB_ok _ _ _ om_) (keyB_val _ _ _ om_) (by have := HBD.out; omega) (by have := HBD.out; have := low6 TR.out.ca om_; omega)).mono ?_
     rintro e wg3 ⟨rfl, D2, P2, ra2, Dn, -⟩
     have hsame : ed (keyB keys 12 0) (some (keyB keys 12 0)) kvA = kvA := srt_ext (ed_srt TR.out.ca.good.1) TR.out.ca.good.1 fun p => by
      rw [mem_ed]
      constructor
      ·rintro (rfl | h)
       ·exact (ST.out.a _).2 ⟨0, hk0, rfl⟩
       ·exact h.1
      ·intro h
       by_cases e : p.1 = keyB keys 12 0
       ·left
        obtain ⟨j, hj, rfl⟩ := (ST.out.a p).1 h
        simp only at e
        rw [e]
       ·exact .inr ⟨h, e⟩
     rw [hsame] at Dn
     replace SZ := hi_ (Nat.le_trans SZ.out Dn.keep.size)
     replace RV := hi_ (R_keepF RV.out Dn.keep (fun i hi => TR.out.lo i (by rcases hi with h | h; exact .inl h; exact .inr (.inl h))))
     replace TR := hi_ (TR.out.putA ⟨[], trivial⟩ HCW.out Dn)
     clear Dn hsame hk0 h0
     go_wp2_with fail
     have CH := law_Has wg3 ta b L 0 _ _ _ kvA VA vc TR.out.pg.st TR.out.ta_ TR.out.pg.live.1 TR.out.ca (by have := HBD.out; omega) (by rw [← HLA.out]; exact (Kd.R_reads' RV.out).2.2)
     rw [← HLA.out] at CH
     refine CH.mono ?_
     clear CH
     rintro e wf107 ⟨rfl, hb⟩
     replace TR := hi_ (TR.out.below hb)
     replace RV := hi_ (Kd.R_below RV.out hb)
     replace SZ := hi_ (Nat.le_trans SZ.out hb.size)
     clear hb
     go_wp2_with fail
     have CH := law_Has wf107 tb b L 0 _ _ _ kvA VA vc TR.out.swap.pg.st TR.out.swap.ta_ TR.out.swap.pg.live.1 TR.out.swap.ca (by have := HBD.out; omega) (by rw [← HLA.out]; exact (Kd.R_reads' RV.out).2.2)
     rw [← HLA.out] at CH
     refine CH.mono ?_
     clear CH
     rintro e wf108 ⟨rfl, hb⟩
     replace TR := hi_ (TR.out.below hb)
     replace RV := hi_ (Kd.R_below RV.out hb)
     replace SZ := hi_ (Nat.le_trans SZ.out hb.size)
     clear hb
     go_wp2_with fail
     refine (tree_Root wf108 ta b _ TR.out.ta_).mono ?_
     rintro e wf109 ⟨rfl, hb⟩
     replace TR := hi_ (TR.out.below hb)
     replace RV := hi_ (Kd.R_below RV.out hb)
     replace SZ := hi_ (Nat.le_trans SZ.out hb.size)
     clear hb
     go_wp2_with fail
     refine (law_Formed wf109 b L 0 _ _ _ kvA TR.out.pg.st TR.out.pg.live.1 TR.out.ca (by have := HBD.out; omega)).mono ?_
     rintro e wf110 ⟨rfl, hb⟩
     replace TR := hi_ (TR.out.below hb)
     replace RV := hi_ (Kd.R_below RV.out hb)
     replace SZ := hi_ (Nat.le_trans SZ.out hb.size)
     clear hb
     go_wp2_with fail
     refine (tree_Root wf110 tb b _ TR.out.swap.ta_).mono ?_
     rintro e wf111 ⟨rfl, hb⟩
     replace TR := hi_ (TR.out.below hb)
     replace RV := hi_ (Kd.R_below RV.out hb)
     replace SZ := hi_ (Nat.le_trans SZ.out hb.size)
     clear hb
     go_wp2_with fail
     refine (law_Formed wf111 b L 0 _ _ _ kvA TR.out.swap.pg.st TR.out.swap.pg.live.1 TR.out.swap.ca (by have := HBD.out; omega)).mono ?_
     rintro e wf112 ⟨rfl, hb⟩
     replace TR := hi_ (TR.out.below hb)
     replace RV := hi_ (Kd.R_below RV.out hb)
     replace SZ := hi_ (Nat.le_trans SZ.out hb.size)
     clear hb
     go_wp2_with fail
     go_ret
     exact ⟨rfl, TR.out.bel⟩
    ·skip
     go_wp2_with fail
     have CH := law_Has wr ta b L 0 _ _ _ kvA VA vc TR.out.pg.st TR.out.ta_ TR.out.pg.live.1 TR.out.ca (by have := HBD.out; omega) (by rw [← HLA.out]; exact (Kd.R_reads' RV.out).2.2)
     rw [← HLA.out] at CH
     refine CH.mono ?_
     clear CH
     rintro e wf113 ⟨rfl, hb⟩
     replace TR := hi_ (TR.out.below hb)
     replace RV := hi_ (Kd.R_below RV.out hb)
     replace SZ := hi_ (Nat.le_trans SZ.out hb.size)
     clear hb
     go_wp2_with fail
     have CH := law_Has wf113 tb b L 0 _ _ _ kvA VA vc TR.out.swap.pg.st TR.out.swap.ta_ TR.out.swap.pg.live.1 TR.out.swap.ca (by have := HBD.out; omega) (by rw [← HLA.out]; exact (Kd.R_reads' RV.out).2.2)
     rw [← HLA.out] at CH
     refine CH.mono ?_
     clear CH
     rintro e wf114 ⟨rfl, hb⟩
     replace TR := hi_ (TR.out.below hb)
     replace RV := hi_ (Kd.R_below RV.out hb)
     replace SZ := hi_ (Nat.le_trans SZ.out hb.size)
     clear hb
     go_wp2_with fail
     refine (tree_Root wf114 ta b _ TR.out.ta_).mono ?_
     rintro e wf115 ⟨rfl, hb⟩
     replace TR := hi_ (TR.out.below hb)
     replace RV := hi_ (Kd.R_below RV.out hb)
     replace SZ := hi_ (Nat.le_trans SZ.out hb.size)
     clear hb
     go_wp2_with fail
     refine (law_Formed wf115 b L 0 _ _ _ kvA TR.out.pg.st TR.out.pg.live.1 TR.out.ca (by have := HBD.out; omega)).mono ?_
     rintro e wf116 ⟨rfl, hb⟩
     replace TR := hi_ (TR.out.below hb)
     replace RV := hi_ (Kd.R_below RV.out hb)
     replace SZ := hi_ (Nat.le_trans SZ.out hb.size)
     clear hb
     go_wp2_with fail
     refine (tree_Root wf116 tb b _ TR.out.swap.ta_).mono ?_
     rintro e wf117 ⟨rfl, hb⟩
     replace TR := hi_ (TR.out.below hb)
     replace RV := hi_ (Kd.R_below RV.out hb)
     replace SZ := hi_ (Nat.le_trans SZ.out hb.size)
     clear hb
     go_wp2_with fail
     refine (law_Formed wf117 b L 0 _ _ _ kvA TR.out.swap.pg.st TR.out.swap.pg.live.1 TR.out.swap.ca (by have := HBD.out; omega)).mono ?_
     rintro e wf118 ⟨rfl, hb⟩
     replace TR := hi_ (TR.out.below hb)
     replace RV := hi_ (Kd.R_below RV.out hb)
     replace SZ := hi_ (Nat.le_trans SZ.out hb.size)
     clear hb
     go_wp2_with fail
     go_ret
     exact ⟨rfl, TR.out.bel⟩
end Go.Proofs.YtendgmblgdkiaaaGreat
