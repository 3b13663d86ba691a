/- (node.Node).Pack, walked: a strings.Builder takes the entries one behind the other. written for this seat by its own program (doctor.sh) with the kit's printer Nodes: where a key lies, what Put's and Delete's edits make of a leaf: plain. Nodes: what fits, and how one is split: plain. -/
import Derived.Test.YtendgmblgdkiaaaGreatGInternFull0
import Derived.Test.YtendgmblgdkiaaaGreatGInternFull30
import Derived.Test.YtendgmblgdkiaaaGreatGInternFull17
import Derived.Lib.Hide
import Derived.Outline
import Derived.Test.YtendgmblgdkiaaaGreatGInternFull18
import Derived.Test.YtendgmblgdkiaaaGreatGInternFull5
namespace Go.Proofs.YtendgmblgdkiaaaGreat
open Go.RowKit
open Go.Proofs.YtendgmblgdkiaaaGreatW
open PrintWords (Kd rd rdOf)
set_option linter.unusedVariables false
set_option linter.unusedSimpArgs false

theorem strCells_app (bs : List UInt8) (s : ByteArray) : Lib.byteCells bs ++ Lib.strCells s = Lib.byteCells (bs ++ s.data.toList) := by
  rw [Lib.strCells_eq, Lib.byteCells_append]
theorem app_bytes (a b : ByteArray) : a.data.toList ++ b.data.toList = (a ++ b).data.toList := by rw [ByteArray.data_append, Array.toList_append]

/-- While Pack runs: the node's copy, the builder and its bytes. -/
structure PkAt (w : World) (cs : Array Value) (l : List UInt8) (wr : World) : Prop where
  n : wr.heap[w.heap.size]? = some (.cells cs 149 (0, 0))
  b : Lib.IsBuilder 233 5 (w.heap.size + 1) (w.heap.size + 1) (Lib.byteCells l) wr
  bel : Below w.heap.size w wr
namespace PkAt
variable {w wr w' : World} {cs : Array Value} {l : List UInt8}
theorem below (P : PkAt w cs l wr) (k : Below wr.heap.size wr w') : PkAt w cs l w' := by
  have mv : ∀ p, Lib.BuilderAt 233 5 (w.heap.size + 1) (w.heap.size + 1) p (Lib.byteCells l) wr → Lib.BuilderAt 233 5 (w.heap.size + 1) (w.heap.size + 1) p (Lib.byteCells l) w' := by
    rintro p ⟨hB, v, hb, ho, hn⟩
    exact ⟨hB, v, (k.block _ (lt_of_heap hb)).trans hb, PrintWords.own_move ho (fun i hi => k.block i (PrintWords.own_lt ho i hi)), hn⟩
  refine ⟨(k.block _ (lt_of_heap P.n)).trans P.n, ?_, P.bel.trans (k.mono P.bel.size)⟩
  rcases P.b with h | h
  · exact .inl (mv _ h)
  · exact .inr (mv _ h)
theorem write (P : PkAt w cs l wr) {l' : List UInt8} (hb : Lib.BuilderAt 233 5 (w.heap.size + 1) (w.heap.size + 1) (.pointer (some ⟨w.heap.size + 1, 0, none⟩)) (Lib.byteCells l') w') (k : Below (w.heap.size + 1) wr w') : PkAt w cs l' w' :=
  ⟨(k.block _ (Nat.lt_succ_self _)).trans P.n, .inr hb, P.bel.trans (k.mono (Nat.le_succ _))⟩
theorem base (P : PkAt w cs l wr) : w.heap.size + 1 ≤ wr.heap.size := by
  rcases P.b with h | h
  · exact Nat.le_of_lt h.lt
  · exact Nat.le_of_lt h.lt
end PkAt
theorem pk_start (w : World) (cs : Array Value) : PkAt w cs [] ((w.alloc (.cells cs 149 (0, 0))).alloc (.cells #[.pointer none, .slice none 0 0] 233 (0, 0))) := by
  refine ⟨heap_alloc_old (heap_alloc_self w _) _, .inl ⟨Nat.le_refl _, .slice none 0 0, ?_, ⟨by simp [maxLen, Lib.byteCells], .inl ⟨rfl, rfl⟩⟩, by simp [Value.ownBlock]⟩, ((Below.refl _ _).alloc (Nat.le_refl _) _).alloc (by simp) _⟩
  have : (w.alloc (.cells cs 149 (0, 0))).heap.size = w.heap.size + 1 := by simp
  rw [← this]
  exact heap_alloc_self _ _

set_option maxHeartbeats 2000000 in
set_option maxRecDepth 100000 in
theorem node_Pack (kind : Int) (A1 : Option Addr) (c1 : Nat) (keys : List ByteArray) (A2 : Option Addr) (c2 : Nat) (vals : List ByteArray) (A3 : Option Addr) (c3 : Nat) (kids : List Int) (w : World)
    (h1 : Kd.C Kd.string w A1 keys.length keys) (k1 : keys.length ≤ c1) (h2 : Kd.C Kd.string w A2 vals.length vals) (k2 : vals.length ≤ c2) (h3 : Kd.C (Kd.int .i64) w A3 kids.length kids) (k3 : kids.length ≤ c3) (hF : packFine kind keys vals kids = true) :
    Calls Tryz.prog 132 #[.agg #[.int .i64 kind, .slice A1 keys.length c1, .slice A2 vals.length c2, .slice A3 kids.length c3]] w fun e w' => e = .returned (.string (packOf kind keys vals kids)) ∧ Below w.heap.size w w' := by
  have F := packFine_out hF
  have HF := hi_ F
  have HL := hi_ F.len
  have HC : Hid (∀ W, Below w.heap.size w W → Kd.C Kd.string W A1 keys.length keys ∧ Kd.C Kd.string W A2 vals.length vals ∧ Kd.C (Kd.int .i64) W A3 kids.length kids) := hi_ (fun W hb => ⟨Kd.C_below h1 hb, Kd.C_below h2 hb, Kd.C_below h3 hb⟩)
  have HK : Hid (keys.length ≤ c1 ∧ vals.length ≤ c2 ∧ kids.length ≤ c3) := hi_ ⟨k1, k2, k3⟩
  clear h1 h2 h3 k1 k2 k3 hF F
  go_enter Tryz.func132, Tryz.ntmps132
  go_wp2_with fail
  have P0 := hi_ (pk_start w #[.int .i64 kind, .slice A1 keys.length c1, .slice A2 vals.length c2, .slice A3 kids.length c3])
  generalize (w.alloc (.cells #[.int .i64 kind, .slice A1 keys.length c1, .slice A2 vals.length c2, .slice A3 kids.length c3] 149 (0, 0))).alloc (.cells #[.pointer none, .slice none 0 0] 233 (0, 0)) = w0 at *
  have C0 := HC.out w0 P0.out.bel
  refine (PNd.node_Node_Len.calls kind A1 c1 keys A2 c2 vals A3 c3 kids _ w0 C0.1 HK.out.1 C0.2.1 HK.out.2.1 C0.2.2 HK.out.2.2 rfl).mono ?_
  clear C0
  rintro e w1 ⟨rfl, hb⟩
  have P1 := hi_ (P0.out.below hb)
  clear hb P0
  go_wp2_with fail
  have e0 : IntKind.u64.wrap (keys.length : Int) = (keys.length : Int) := by have := HL.out; show (keys.length : Int) % 18446744073709551616 = _; omega
  rw [e0]
  have hv : PNd.varint_Num.f 10 (keys.length : Int) = some (vNum keys.length) := varint_num _ (by have := HL.out; omega)
  refine (PNd.varint_Num.calls 10 _ _ w1 hv).mono ?_
  clear hv e0
  rintro e w2 ⟨rfl, hb⟩
  have P2 := hi_ (P1.out.below hb)
  clear hb P1
  have hn : (vNum keys.length).size ≤ 10 := (vNum_le (by have := HL.out; omega)).2
  go_wp2_with fail
  refine (bld_WriteString (w.heap.size + 1) (w.heap.size + 1) (Lib.byteCells []) (vNum keys.length) w2 P2.out.b (by simp [Lib.byteCells]; omega) P2.out.base).mono ?_
  clear hn
  rintro e w3 ⟨rfl, hB, hb⟩
  rw [strCells_app] at hB
  have P3 := hi_ (P2.out.write hB hb)
  clear hB hb P2
  have x0 : w3.cell? ⟨w.heap.size, 1, none⟩ = some (.slice A1 keys.length c1) := (cell_of_heap P3.out.n 1).trans rfl
  go_wp2_with fail
  go_loopw [13] (fun x wr => ∃ k : Nat, x = .int .i64 k ∧ k ≤ keys.length ∧ Hid (PkAt w #[.int .i64 kind, .slice A1 keys.length c1, .slice A2 vals.length c2, .slice A3 kids.length c3] (vNum keys.length ++ entriesOf kind keys vals kids k).data.toList wr)) (fun x _ => keys.length - (intOf x).toNat)
  case atStart => exact ⟨0, rfl, by omega, by have e : (vNum keys.length ++ entriesOf kind keys vals kids 0).data.toList = [] ++ (vNum keys.length).data.toList := by (rw [entriesOf]; simp)
                                              rw [e]; exact P3⟩
  case round =>
    obtain ⟨k, rfl, hk, PK⟩ := hrel
    clear P3 x0
    by_cases hlt : k < keys.length
    · have hkI : (k : Int) < (keys.length : Int) := by omega
      have HK0 := hi_ hlt
      have hL : (keys.length : Int) ≤ 1000000 := by have := HL.out; omega
      clear hlt hk
      have y0 : wr.cell? ⟨w.heap.size, 0, none⟩ = some (.int .i64 kind) := (cell_of_heap PK.out.n 0).trans rfl
      have y1 : wr.cell? ⟨w.heap.size, 1, none⟩ = some (.slice A1 keys.length c1) := (cell_of_heap PK.out.n 1).trans rfl
      have y2 : wr.cell? ⟨w.heap.size, 2, none⟩ = some (.slice A2 vals.length c2) := (cell_of_heap PK.out.n 2).trans rfl
      have y3 : wr.cell? ⟨w.heap.size, 3, none⟩ = some (.slice A3 kids.length c3) := (cell_of_heap PK.out.n 3).trans rfl
      go_wp2_with fail
      have HE := node_entry HF.out HK0.out
      have hz := entriesOf_size HF.out k (Nat.le_of_lt HK0.out)
      have hz2 := entryOf_size (kind := kind) (v := vals.getD k ByteArray.empty) (c := kids.getD k 0) (HF.out.k k HK0.out) (fun e => (HF.out.v e).2 k HK0.out) (fun e => (HF.out.c e).2 k HK0.out)
      have hz3 : (vNum keys.length).size ≤ 10 := (vNum_le om_).2
      have hz4 : (vNum keys.length ++ entriesOf kind keys vals kids k).data.toList.length + (entryOf kind (keys.getD k ByteArray.empty) (vals.getD k ByteArray.empty) (kids.getD k 0)).size ≤ 140737488355328 := by
        have e : (vNum keys.length ++ entriesOf kind keys vals kids k).data.toList.length = (vNum keys.length ++ entriesOf kind keys vals kids k).size := rfl
        rw [e, ByteArray.size_append]
        have := HK0.out
        omega
      have HZ := hi_ hz4
      clear hz hz2 hz3 hz4
      have C0 := HC.out wr PK.out.bel
      refine (PNd.node_Node_entry.calls 10 kind A1 c1 keys A2 c2 vals A3 c3 kids (k : Int) _ wr C0.1 HK.out.1 C0.2.1 HK.out.2.1 C0.2.2 HK.out.2.2 HE).mono ?_
      clear C0 HE y0 y1 y2 y3
      rintro e w4 ⟨rfl, hb⟩
      have P4 := hi_ (PK.out.below hb)
      clear hb
      go_wp2_with fail
      refine (bld_WriteString (w.heap.size + 1) (w.heap.size + 1) (Lib.byteCells (vNum keys.length ++ entriesOf kind keys vals kids k).data.toList) _ w4 P4.out.b (by rw [Lib.byteCells_length]; exact HZ.out) P4.out.base).mono ?_
      rintro e w5 ⟨rfl, hB, hb⟩
      rw [strCells_app, app_bytes] at hB
      have P5 := hi_ (P4.out.write hB hb)
      clear hB hb P4 HZ
      go_wp2
      go_roundw
      case rel => exact ⟨k + 1, by go_num, by have := HK0.out; omega, by rw [entriesOf, ← ByteArray.append_assoc]; exact P5⟩
      case measure => have := HK0.out; simp [intOf]; omega
    · have hkI : ¬ (k : Int) < (keys.length : Int) := by omega
      obtain rfl : k = keys.length := by omega
      go_wp2_with fail
      refine (Tryz.Builder_String_any (w.heap.size + 1) (w.heap.size + 1) _ wr PK.out.b PK.out.base).mono ?_
      rintro e w4 ⟨rfl, hb⟩
      have HB := hi_ (PK.out.bel.trans (hb.mono (Nat.le_succ _)))
      clear hb PK
      go_wp2
      go_ret
      exact ⟨rfl, HB.out⟩
end Go.Proofs.YtendgmblgdkiaaaGreat

namespace Go.Proofs.YtendgmblgdkiaaaGreat.PNd
open Go.RowKit Go.Proofs.YtendgmblgdkiaaaGreatW.PrintWords Go.Proofs.YtendgmblgdkiaaaGreatW.PrintLast Go.Proofs.YtendgmblgdkiaaaGreatW.PrintMore
attribute [local go_sem] max2_int min2_int max_two min_two
set_option linter.unusedVariables false
set_option linter.unusedSimpArgs false

/-! ### node_Node_Pack: function 132 -/
def node_Node_Pack.f (a0_0 : Int) (l0_1 : List ByteArray) (l0_2 : List ByteArray) (l0_3 : List Int) : Option (ByteArray) := if packFine a0_0 l0_1 l0_2 l0_3 then some (packOf a0_0 l0_1 l0_2 l0_3) else none
set_option maxHeartbeats 8000000 in
set_option maxRecDepth 100000 in
theorem node_Node_Pack.calls (a0_0 : Int) (A0_1 : Option Addr) (c0_1 : Nat) (l0_1 : List ByteArray) (A0_2 : Option Addr) (c0_2 : Nat) (l0_2 : List ByteArray) (A0_3 : Option Addr) (c0_3 : Nat) (l0_3 : List Int) (r : ByteArray) (w : World) (hr0_1 : Kd.C Kd.string w A0_1 l0_1.length l0_1) (hc0_1 : l0_1.length ≤ c0_1) (hr0_2 : Kd.C Kd.string w A0_2 l0_2.length l0_2) (hc0_2 : l0_2.length ≤ c0_2) (hr0_3 : Kd.C (Kd.int .i64) w A0_3 l0_3.length l0_3) (hc0_3 : l0_3.length ≤ c0_3) (h : node_Node_Pack.f a0_0 l0_1 l0_2 l0_3 = some r) :
  Calls Tryz.prog 132 #[.agg #[.int .i64 a0_0, .slice A0_1 l0_1.length c0_1, .slice A0_2 l0_2.length c0_2, .slice A0_3 l0_3.length c0_3]] w fun e w' => e = .returned (.string r) ∧ Below w.heap.size w w' := by
 have h' : (if packFine a0_0 l0_1 l0_2 l0_3 then some (packOf a0_0 l0_1 l0_2 l0_3) else none) = some r := h
 split at h'
 ·rename_i hF
  obtain rfl := Option.some.inj h'
  exact node_Pack a0_0 A0_1 c0_1 l0_1 A0_2 c0_2 l0_2 A0_3 c0_3 l0_3 w hr0_1 hc0_1 hr0_2 hc0_2 hr0_3 hc0_3 hF
 ·simp at h'

/-! ### node_Node_Size: function 199 -/
def node_Node_Size.f (a0_0 : Int) (l0_1 : List ByteArray) (l0_2 : List ByteArray) (l0_3 : List Int) : Option (Int) := (node_Node_Pack.f a0_0 l0_1 l0_2 l0_3).bind fun t188 => (some (t188.size : Int))
set_option maxHeartbeats 8000000 in
set_option maxRecDepth 100000 in
theorem node_Node_Size.calls (a0_0 : Int) (A0_1 : Option Addr) (c0_1 : Nat) (l0_1 : List ByteArray) (A0_2 : Option Addr) (c0_2 : Nat) (l0_2 : List ByteArray) (A0_3 : Option Addr) (c0_3 : Nat) (l0_3 : List Int) (r : Int) (w : World) (hr0_1 : Kd.C Kd.string w A0_1 l0_1.length l0_1) (hc0_1 : l0_1.length ≤ c0_1) (hr0_2 : Kd.C Kd.string w A0_2 l0_2.length l0_2) (hc0_2 : l0_2.length ≤ c0_2) (hr0_3 : Kd.C (Kd.int .i64) w A0_3 l0_3.length l0_3) (hc0_3 : l0_3.length ≤ c0_3) (h : node_Node_Size.f a0_0 l0_1 l0_2 l0_3 = some r) :
  Calls Tryz.prog 199 #[.agg #[.int .i64 a0_0, .slice A0_1 l0_1.length c0_1, .slice A0_2 l0_2.length c0_2, .slice A0_3 l0_3.length c0_3]] w fun e w' => e = .returned (.int .i64 r) ∧ Below w.heap.size w w' := by
 have hu149 := Tryz.underlying149
 have HR0_1 := am_ hr0_1
 have HC0_1 := am_ hc0_1
 clear hr0_1 hc0_1
 have HR0_2 := am_ hr0_2
 have HC0_2 := am_ hc0_2
 clear hr0_2 hc0_2
 have HR0_3 := am_ hr0_3
 have HC0_3 := am_ hc0_3
 clear hr0_3 hc0_3
 have HB := am_ (Below.refl w.heap.size w)
 have H : ((node_Node_Pack.f a0_0 l0_1 l0_2 l0_3).bind fun t188 => (some (t188.size : Int))) = some r := h
 clear h
 obtain ⟨t188, A2, H⟩ := bi_ H
 try dsimp only at H
 obtain rfl := Option.some.inj H
 go_enter Tryz.func199, Tryz.ntmps199
 go_wp2_with (first | ((with_reducible refine gate_dst (N := 1) rfl ?_); refine be_ (N := 1) (cs := #[.int .i64 a0_0, .slice A0_1 l0_1.length c0_1, .slice A0_2 l0_2.length c0_2, .slice A0_3 l0_3.length c0_3]) (t := 149) ?_; intro gb187 hg w3 hbox hb; have BK187 := am_ (hbox); have GW187 := am_ ((sz_ hg : w.heap.size ≤ gb187)); have GE187 := am_ ((sz_ hg : w.heap.size ≤ gb187)); replace HB := am_ (below_step bl_ hb); clear hb hbox hg; have hcz4_0 : w3.cell? ⟨gb187, 0, none⟩ = some (.int .i64 a0_0) := bc_ BK187 0; have hcz4_1 : w3.cell? ⟨gb187, 1, none⟩ = some (.slice A0_1 l0_1.length c0_1) := bc_ BK187 1; have hcz4_2 : w3.cell? ⟨gb187, 2, none⟩ = some (.slice A0_2 l0_2.length c0_2) := bc_ BK187 2; have hcz4_3 : w3.cell? ⟨gb187, 3, none⟩ = some (.slice A0_3 l0_3.length c0_3) := bc_ BK187 3; have hfz4_0 := blk_frozen BK187.out 0; have hfz4_1 := blk_frozen BK187.out 1; have hfz4_2 := blk_frozen BK187.out 2; have hfz4_3 := blk_frozen BK187.out 3) | ((with_reducible refine gate_callee (f := 132) rfl ?_); refine goesL_ (some 4) rfl rfl Tryz.func132 kr_ rfl #[.agg #[.int .i64 a0_0, .slice A0_1 l0_1.length c0_1, .slice A0_2 l0_2.length c0_2, .slice A0_3 l0_3.length c0_3]] rfl ar_ ?_; (with_reducible refine (node_Node_Pack.calls a0_0 _ _ l0_1 _ _ l0_2 _ _ l0_3 t188 _ ?side1 ?side2 ?side3 ?side4 ?side5 ?side6 A2.out).mono ?_); (case side1 => exact cl_); (case side2 => exact HC0_1.out); (case side3 => exact cl_); (case side4 => exact HC0_2.out); (case side5 => exact cl_); (case side6 => exact HC0_3.out); rintro e w5 ⟨rfl, hb⟩; refine ⟨_, rfl, ?_⟩; replace BK187 := am_ (bw_ BK187 hb); replace HB := am_ (below_step bl_ hb); (try clear hb); (try clear hb2); (try clear hk); (try clear hi)))
 go_ret
 exact ⟨er_, by exact bl_⟩

/-! ### node_Node_Fits: function 160 -/
def node_Node_Fits.f (a0_0 : Int) (l0_1 : List ByteArray) (l0_2 : List ByteArray) (l0_3 : List Int) : Option (Bool) := (node_Node_Size.f a0_0 l0_1 l0_2 l0_3).bind fun t190 => (some (decide (t190 ≤ 240)))
set_option maxHeartbeats 8000000 in
set_option maxRecDepth 100000 in
theorem node_Node_Fits.calls (a0_0 : Int) (A0_1 : Option Addr) (c0_1 : Nat) (l0_1 : List ByteArray) (A0_2 : Option Addr) (c0_2 : Nat) (l0_2 : List ByteArray) (A0_3 : Option Addr) (c0_3 : Nat) (l0_3 : List Int) (r : Bool) (w : World) (hr0_1 : Kd.C Kd.string w A0_1 l0_1.length l0_1) (hc0_1 : l0_1.length ≤ c0_1) (hr0_2 : Kd.C Kd.string w A0_2 l0_2.length l0_2) (hc0_2 : l0_2.length ≤ c0_2) (hr0_3 : Kd.C (Kd.int .i64) w A0_3 l0_3.length l0_3) (hc0_3 : l0_3.length ≤ c0_3) (h : node_Node_Fits.f a0_0 l0_1 l0_2 l0_3 = some r) :
  Calls Tryz.prog 160 #[.agg #[.int .i64 a0_0, .slice A0_1 l0_1.length c0_1, .slice A0_2 l0_2.length c0_2, .slice A0_3 l0_3.length c0_3]] w fun e w' => e = .returned (.bool r) ∧ Below w.heap.size w w' := by
 have hu149 := Tryz.underlying149
 have HR0_1 := am_ hr0_1
 have HC0_1 := am_ hc0_1
 clear hr0_1 hc0_1
 have HR0_2 := am_ hr0_2
 have HC0_2 := am_ hc0_2
 clear hr0_2 hc0_2
 have HR0_3 := am_ hr0_3
 have HC0_3 := am_ hc0_3
 clear hr0_3 hc0_3
 have HB := am_ (Below.refl w.heap.size w)
 have H : ((node_Node_Size.f a0_0 l0_1 l0_2 l0_3).bind fun t190 => (some (decide (t190 ≤ 240)))) = some r := h
 clear h
 obtain ⟨t190, A2, H⟩ := bi_ H
 try dsimp only at H
 obtain rfl := Option.some.inj H
 go_enter Tryz.func160, Tryz.ntmps160
 go_wp2_with (first | ((with_reducible refine gate_dst (N := 1) rfl ?_); refine be_ (N := 1) (cs := #[.int .i64 a0_0, .slice A0_1 l0_1.length c0_1, .slice A0_2 l0_2.length c0_2, .slice A0_3 l0_3.length c0_3]) (t := 149) ?_; intro gb189 hg w3 hbox hb; have BK189 := am_ (hbox); have GW189 := am_ ((sz_ hg : w.heap.size ≤ gb189)); have GE189 := am_ ((sz_ hg : w.heap.size ≤ gb189)); replace HB := am_ (below_step bl_ hb); clear hb hbox hg; have hcz4_0 : w3.cell? ⟨gb189, 0, none⟩ = some (.int .i64 a0_0) := bc_ BK189 0; have hcz4_1 : w3.cell? ⟨gb189, 1, none⟩ = some (.slice A0_1 l0_1.length c0_1) := bc_ BK189 1; have hcz4_2 : w3.cell? ⟨gb189, 2, none⟩ = some (.slice A0_2 l0_2.length c0_2) := bc_ BK189 2; have hcz4_3 : w3.cell? ⟨gb189, 3, none⟩ = some (.slice A0_3 l0_3.length c0_3) := bc_ BK189 3; have hfz4_0 := blk_frozen BK189.out 0; have hfz4_1 := blk_frozen BK189.out 1; have hfz4_2 := blk_frozen BK189.out 2; have hfz4_3 := blk_frozen BK189.out 3) | ((with_reducible refine gate_callee (f := 199) rfl ?_); refine goesL_ (some 4) rfl rfl Tryz.func199 kr_ rfl #[.agg #[.int .i64 a0_0, .slice A0_1 l0_1.length c0_1, .slice A0_2 l0_2.length c0_2, .slice A0_3 l0_3.length c0_3]] rfl ar_ ?_; (with_reducible refine (node_Node_Size.calls a0_0 _ _ l0_1 _ _ l0_2 _ _ l0_3 t190 _ ?side1 ?side2 ?side3 ?side4 ?side5 ?side6 A2.out).mono ?_); (case side1 => exact cl_); (case side2 => exact HC0_1.out); (case side3 => exact cl_); (case side4 => exact HC0_2.out); (case side5 => exact cl_); (case side6 => exact HC0_3.out); rintro e w5 ⟨rfl, hb⟩; refine ⟨_, rfl, ?_⟩; replace BK189 := am_ (bw_ BK189 hb); replace HB := am_ (below_step bl_ hb); (try clear hb); (try clear hb2); (try clear hk); (try clear hi)))
 go_ret
 exact ⟨er_, by exact bl_⟩

/-! ### slices_Clone_string_string: function 103 -/
def slices_Clone_string_string.f (l0 : List ByteArray) : Option (List ByteArray) := PCl.slices_Clone_string_string.f l0
set_option maxHeartbeats 8000000 in
set_option maxRecDepth 100000 in
theorem slices_Clone_string_string.calls (A0 : Option Addr) (c0 : Nat) (l0 : List ByteArray) (r : List ByteArray) (w : World) (hr0 : Kd.C Kd.string w A0 l0.length l0) (hc0 : l0.length ≤ c0) (h : slices_Clone_string_string.f l0 = some r) :
  Calls Tryz.prog 103 #[.slice A0 l0.length c0] w fun e w' => ∃ v0_ : Value, e = .returned (v0_) ∧ Kd.R Kd.string 9 w' w.heap.size (fun _ => True) v0_ r ∧ Below w.heap.size w w' := PCl.slices_Clone_string_string.calls A0 c0 l0 r w hr0 hc0 h

/-! ### slices_Clone_int_int: function 230 -/
def slices_Clone_int_int.f (l0 : List Int) : Option (List Int) := PCl.slices_Clone_int_int.f l0
set_option maxHeartbeats 8000000 in
set_option maxRecDepth 100000 in
theorem slices_Clone_int_int.calls (A0 : Option Addr) (c0 : Nat) (l0 : List Int) (r : List Int) (w : World) (hr0 : Kd.C (Kd.int .i64) w A0 l0.length l0) (hc0 : l0.length ≤ c0) (h : slices_Clone_int_int.f l0 = some r) :
  Calls Tryz.prog 230 #[.slice A0 l0.length c0] w fun e w' => ∃ v0_ : Value, e = .returned (v0_) ∧ Kd.R (Kd.int .i64) 3 w' w.heap.size (fun _ => True) v0_ r ∧ Below w.heap.size w w' := PCl.slices_Clone_int_int.calls A0 c0 l0 r w hr0 hc0 h

end Go.Proofs.YtendgmblgdkiaaaGreat.PNd

namespace Go.Proofs.YtendgmblgdkiaaaGreat.PNd
open Go.RowKit Go.Proofs.YtendgmblgdkiaaaGreatW.PrintWords Go.Proofs.YtendgmblgdkiaaaGreatW.PrintLast Go.Proofs.YtendgmblgdkiaaaGreatW.PrintMore
attribute [local go_sem] max2_int min2_int max_two min_two
set_option linter.unusedVariables false
set_option linter.unusedSimpArgs false

/-! ### tree_swap: function 193 -/
def tree_swap.f (a0_0 : Int) (l0_1 : List ByteArray) (l0_2 : List ByteArray) (l0_3 : List Int) (a1 : Int) (a2 : Int) (l3 : List ByteArray) (l4 : List Int) : Option (Int × List ByteArray × List ByteArray × List Int) := (slices_Clone_string_string.f l0_1).bind fun t301 => ((slices_Replace_string_string.f t301 a1 a2 l3).bind fun t304 => ((slices_Clone_int_int.f l0_3).bind fun t307 => ((slices_Replace_int_int.f t307 a1 a2 l4).bind fun t310 => (some (a0_0, t304, ([] : List ByteArray), t310)))))
def tree_swap.T1 : Bool × List (List Nat × List Nat) := (true, [([], []), ([0], [0]), ([], []), ([2], [2]), ([3], [3]), ([], []), ([], []), ([], []), ([4, 5, 6, 7, 4], [4, 5, 6, 7]), ([], []), ([9], [9]), ([10, 8], [10]), ([], []), ([], []), ([], []), ([11, 12, 13, 14, 11], [11, 12, 13, 14]), ([1, 8, 15], [1, 8, 15]), ([16, 15, 0, 1, 2, 3, 4, 5, 6, 7, 8, 9, 10, 11, 12, 13, 14, 15, 16], [16])])
def tree_swap.B1 : List Nat := [0, 1, 0, 4, 12, 0, 0, 0, 252, 0, 512, 2044, 0, 0, 0, 32764, 65535, 131071]
theorem tree_swap.tab1 : rtab .any (opsOf Tryz.f193 1) = tree_swap.T1 := by kernel_rfl
theorem tree_swap.bits1 : waitsOk tree_swap.T1.2 tree_swap.B1 = true := by kernel_rfl
set_option maxHeartbeats 8000000 in
set_option maxRecDepth 100000 in
theorem tree_swap.calls (a0_0 : Int) (A0_1 : Option Addr) (c0_1 : Nat) (l0_1 : List ByteArray) (A0_2 : Option Addr) (c0_2 : Nat) (l0_2 : List ByteArray) (A0_3 : Option Addr) (c0_3 : Nat) (l0_3 : List Int) (a1 : Int) (a2 : Int) (A3 : Option Addr) (c3 : Nat) (l3 : List ByteArray) (A4 : Option Addr) (c4 : Nat) (l4 : List Int) (r1 : Int) (r2 : List ByteArray) (r3 : List ByteArray) (r4 : List Int) (w : World) (hr0_1 : Kd.C Kd.string w A0_1 l0_1.length l0_1) (hc0_1 : l0_1.length ≤ c0_1) (hr0_2 : Kd.C Kd.string w A0_2 l0_2.length l0_2) (hc0_2 : l0_2.length ≤ c0_2) (hr0_3 : Kd.C (Kd.int .i64) w A0_3 l0_3.length l0_3) (hc0_3 : l0_3.length ≤ c0_3) (hr3 : Kd.C Kd.string w A3 l3.length l3) (hc3 : l3.length ≤ c3) (hr4 : Kd.C (Kd.int .i64) w A4 l4.length l4) (hc4 : l4.length ≤ c4) (h : tree_swap.f a0_0 l0_1 l0_2 l0_3 a1 a2 l3 l4 = some (r1, r2, r3, r4)) :
  Calls Tryz.prog 193 #[.agg #[.int .i64 a0_0, .slice A0_1 l0_1.length c0_1, .slice A0_2 l0_2.length c0_2, .slice A0_3 l0_3.length c0_3], .int .i64 a1, .int .i64 a2, .slice A3 l3.length c3, .slice A4 l4.length c4] w fun e w' => ∃ v1_ v2_ v3_ : Value, e = .returned (.agg #[.int .i64 r1, v1_, v2_, v3_]) ∧ Kd.R Kd.string 9 w' w.heap.size (fun k_ => some k_ ≠ (v2_ : Value).ownBlock) v1_ r2 ∧ Kd.R Kd.string 9 w' w.heap.size (fun k_ => some k_ ≠ (v1_ : Value).ownBlock) v2_ r3 ∧ Kd.R (Kd.int .i64) 3 w' w.heap.size (fun _ => True) v3_ r4 ∧ Below w.heap.size w w' := by
 have hu149 := Tryz.underlying149
 have HR0_1 := am_ hr0_1
 have HC0_1 := am_ hc0_1
 clear hr0_1 hc0_1
 have HR0_2 := am_ hr0_2
 have HC0_2 := am_ hc0_2
 clear hr0_2 hc0_2
 have HR0_3 := am_ hr0_3
 have HC0_3 := am_ hc0_3
 clear hr0_3 hc0_3
 have HR3 := am_ hr3
 have HC3 := am_ hc3
 clear hr3 hc3
 have HR4 := am_ hr4
 have HC4 := am_ hc4
 clear hr4 hc4
 have HB := am_ (Below.refl w.heap.size w)
 have H : ((slices_Clone_string_string.f l0_1).bind fun t301 => ((slices_Replace_string_string.f t301 a1 a2 l3).bind fun t304 => ((slices_Clone_int_int.f l0_3).bind fun t307 => ((slices_Replace_int_int.f t307 a1 a2 l4).bind fun t310 => (some (a0_0, t304, ([] : List ByteArray), t310)))))) = some (r1, r2, r3, r4) := h
 clear h
 obtain ⟨t301, A6, H⟩ := bi_ H
 try dsimp only at H
 obtain ⟨t304, A7, H⟩ := bi_ H
 try dsimp only at H
 obtain ⟨t307, A8, H⟩ := bi_ H
 try dsimp only at H
 obtain ⟨t310, A9, H⟩ := bi_ H
 try dsimp only at H
 simp only [Option.some.injEq, Prod.mk.injEq] at H
 obtain ⟨rfl, rfl, rfl, rfl⟩ := H
 go_enter Tryz.func193, Tryz.ntmps193
 try go_wp2_with (first | ((with_reducible refine gate_dst (N := 5) rfl ?_); refine be_ (N := 5) (cs := #[.int .i64 a0_0, .slice A0_1 l0_1.length c0_1, .slice A0_2 l0_2.length c0_2, .slice A0_3 l0_3.length c0_3]) (t := 149) ?_; intro gb299 hg w10 hbox hb; have BK299 := am_ (hbox); have GW299 := am_ ((sz_ hg : w.heap.size ≤ gb299)); have GE299 := am_ ((sz_ hg : w.heap.size ≤ gb299)); replace HB := am_ (below_step bl_ hb); clear hb hbox hg) | ((with_reducible refine gate_dst (N := 10) rfl ?_); refine be_ (N := 10) (cs := #[.int .i64 0, .slice none 0 0, .slice none 0 0, .slice none 0 0]) (t := 149) ?_; intro gb300 hg w11 hbox hb; have BK300 := am_ (hbox); have GW300 := am_ ((sz_ hg : w.heap.size ≤ gb300)); have GE300 := am_ ((sz_ hg : w.heap.size ≤ gb300)); have NB299_300 := am_ ((nl_ hg BK299 : gb299 ≠ gb300)); have NB300_299 := am_ ((ng_ hg BK299 : gb300 ≠ gb299)); replace BK299 := am_ (bw_ BK299 hb); replace HB := am_ (below_step bl_ hb); clear hb hbox hg))
 replace BK299 := am_ (blk_drew BK299.out)
 replace BK300 := am_ (blk_drew BK300.out)
 replace HB := am_ (below_drew1 HB.out)
 refine start_ (n := 18) (S := fun w' => w'.cell? ⟨gb299, 0, none⟩ = some (.int .i64 a0_0) ∧ w'.cell? ⟨gb299, 1, none⟩ = some (.slice A0_1 l0_1.length c0_1) ∧ w'.cell? ⟨gb299, 2, none⟩ = some (.slice A0_2 l0_2.length c0_2) ∧ w'.cell? ⟨gb299, 3, none⟩ = some (.slice A0_3 l0_3.length c0_3)) (ds := []) (bz 18 0) kr_ rfl rfl ⟨bc_ BK299 0, bc_ BK299 1, bc_ BK299 2, bc_ BK299 3⟩ (fun hHeld => ?_); refine with_tabW tree_swap.tab1 tree_swap.bits1 (fun HT_ HW_ => ?_)
 generalize w11.drew = w12 at BK299 BK300 HB hHeld ⊢
 refine pu_ (fun x y z => pure_ (i := 0) (N := some 11) (bz 18 1) rfl rfl (any_of HT_.out kr_) (fun _ _ _ h => h) (Or.inl ⟨by rfl, x⟩) y z) ?_
 refine pu_ (fun x y z => pure_ (i := 2) (N := some 13) (bz 18 5) rfl rfl (any_of HT_.out kr_) (fun _ _ _ h => h) (Or.inl ⟨by rfl, x⟩) y z) ?_
 refine pu_ (fun x y z => pure_ (i := 5) (N := some 16) (bz 18 37) rfl rfl (any_of HT_.out kr_) (fun _ _ _ h => h) (Or.inl ⟨by rfl, x⟩) y z) ?_
 refine pu_ (fun x y z => pure_ (i := 6) (N := some 17) (bz 18 101) rfl rfl (any_of HT_.out kr_) (fun _ _ _ h => h) (Or.inl ⟨by rfl, x⟩) y z) ?_
 refine pu_ (fun x y z => pure_ (i := 7) (N := some 18) (bz 18 229) rfl rfl (any_of HT_.out kr_) (fun _ _ _ h => h) (Or.inl ⟨by rfl, x⟩) y z) ?_
 refine pu_ (fun x y z => pure_ (i := 9) (N := some 20) (bz 18 741) rfl rfl (any_of HT_.out kr_) (fun _ _ _ h => h) (Or.inl ⟨by rfl, x⟩) y z) ?_
 refine pu_ (fun x y z => pure_ (i := 12) (N := some 23) (bz 18 4837) rfl rfl (any_of HT_.out kr_) (fun _ _ _ h => h) (Or.inl ⟨by rfl, x⟩) y z) ?_
 refine pu_ (fun x y z => pure_ (i := 13) (N := some 24) (bz 18 13029) rfl rfl (any_of HT_.out kr_) (fun _ _ _ h => h) (Or.inl ⟨by rfl, x⟩) y z) ?_
 refine pu_ (fun x y z => pure_ (i := 14) (N := some 25) (bz 18 29413) rfl rfl (any_of HT_.out kr_) (fun _ _ _ h => h) (Or.inl ⟨by rfl, x⟩) y z) ?_
 refine take_ (i := 1) (N := some 12) (v := ?_) (a' := ?_) (bz 18 29415) rfl rfl (take_ofW HT_.out HW_.out kr_) (fun _ _ _ h => h) (Or.inl ⟨by rfl, ?_⟩) hHeld ?_ ?_
 rotate_left
 ·rintro w' ⟨s0, s1, s2, s3⟩
  go_simp
  with_reducible rfl
 rotate_left
 ·simp only [Act.put, List.setIfInBounds_toArray, List.set_cons_zero, List.set_cons_succ, i64_w, i32_w]
  rfl
 refine take_ (i := 3) (N := some 14) (v := ?_) (a' := ?_) (bz 18 29423) rfl rfl (take_ofW HT_.out HW_.out kr_) (fun _ _ _ h => h) (Or.inl ⟨by rfl, ?_⟩) hHeld ?_ ?_
 rotate_left
 ·rintro w' ⟨s0, s1, s2, s3⟩
  go_simp
  with_reducible rfl
 rotate_left
 ·simp only [Act.put, List.setIfInBounds_toArray, List.set_cons_zero, List.set_cons_succ, i64_w, i32_w]
  rfl
 refine take_ (i := 10) (N := some 21) (v := ?_) (a' := ?_) (bz 18 30447) rfl rfl (take_ofW HT_.out HW_.out kr_) (fun _ _ _ h => h) (Or.inl ⟨by rfl, ?_⟩) hHeld ?_ ?_
 rotate_left
 ·rintro w' ⟨s0, s1, s2, s3⟩
  go_simp
  with_reducible rfl
 rotate_left
 ·simp only [Act.put, List.setIfInBounds_toArray, List.set_cons_zero, List.set_cons_succ, i64_w, i32_w]
  rfl
 refine one_ (i := 4) (N := some 15) (bz 18 30463) rfl rfl (one_of HT_.out kr_) (by decide) (fun K hK => ?_)
 refine goes_ Tryz.func103 kr_ rfl #[.slice A0_1 l0_1.length c0_1] (by rfl) rfl rfl ar_ ?_
 with_reducible refine (slices_Clone_string_string.calls _ _ l0_1 t301 _ ?side1 ?side2 A6.out).mono ?_
 (case side1 => exact cl_)
 (case side2 => exact HC0_1.out)
 rintro e w13 ⟨v302, rfl, ho0, hb⟩
 refine ⟨_, rfl, ?_⟩
 have HO303 := am_ (Kd.R_lower ho0 (below_size bl_))
 replace BK299 := am_ (bw_ BK299 hb)
 replace BK300 := am_ (bw_ BK300 hb)
 replace HB := am_ (below_step bl_ hb)
 (try clear hb); (try clear ho0)
 obtain ⟨Ao14, co14, eo14⟩ := Kd.R_slice HO303.out
 (first | subst eo14 | (injection eo14 with f1_ f2_ f3_; have f4_ := f1_.symm; have f5_ := f3_.symm; clear f1_ f2_ f3_; subst f4_; subst f5_))
 refine hK.out _ _ ⟨bc_ BK299 0, bc_ BK299 1, bc_ BK299 2, bc_ BK299 3⟩ (fun hHeld => ?_)
 clear hK K
 refine no_ (some 15) ?_
 refine one_ (i := 8) (N := some 19) (bz 18 30719) rfl rfl (one_of HT_.out kr_) (by decide) (fun K hK => ?_)
 refine goes_ Tryz.func102 kr_ rfl #[.slice Ao14 t301.length co14, .int .i64 a1, .int .i64 a2, .slice A3 l3.length c3] (by rfl) rfl rfl ar_ ?_
 with_reducible refine (slices_Replace_string_string.calls (fun k_ => some k_ = (.slice Ao14 t301.length co14 : Value).ownBlock) (.slice Ao14 t301.length co14) t301 a1 a2 _ _ l3 t304 w _ ?side1 ?side2 ?side3 ?side4 A7.out).mono ?_
 (case side1 => exact bl_)
 (case side2 => exact Kd.R_tight rfl HO303.out)
 (case side3 => exact Kd.C_kept_came Kd.heap_string HR3.out bl_ (fun k_ hs_ => (fun e_ => Kd.R_base HO303.out k_ e_.symm) hs_))
 (case side4 => exact HC3.out)
 rintro e w15 ⟨v305, rfl, ho0, hb, hkp⟩
 refine ⟨_, rfl, ?_⟩
 have HO306 := am_ (Kd.R_mono (ok' := fun k_ => True) ho0 (fun k_ hk_ => trivial))
 replace BK299 := am_ (blk_kept (bx_ BK299) hkp (fun hs_ => (fun e_ => (Kd.R_ne HO303.out BK299.out (by decide)) e_) hs_))
 replace BK300 := am_ (blk_kept (bx_ BK300) hkp (fun hs_ => (fun e_ => (Kd.R_ne HO303.out BK300.out (by decide)) e_) hs_))
 replace HB := am_ (hb)
 clear HO303; (try clear hb)
 (try clear hkp); (try clear ho0)
 refine hK.out _ _ ⟨bc_ BK299 0, bc_ BK299 1, bc_ BK299 2, bc_ BK299 3⟩ (fun hHeld => ?_)
 clear hK K
 refine no_ (some 19) ?_
 refine one_ (i := 11) (N := some 22) (bz 18 32767) rfl rfl (one_of HT_.out kr_) (by decide) (fun K hK => ?_)
 refine goes_ Tryz.func230 kr_ rfl #[.slice A0_3 l0_3.length c0_3] (by rfl) rfl rfl ar_ ?_
 with_reducible refine (slices_Clone_int_int.calls _ _ l0_3 t307 _ ?side1 ?side2 A8.out).mono ?_
 (case side1 => exact cl_)
 (case side2 => exact HC0_3.out)
 rintro e w16 ⟨v308, rfl, ho0, hb⟩
 refine ⟨_, rfl, ?_⟩
 have HO309 := am_ (Kd.R_lower ho0 (below_size bl_))
 replace HO306 := am_ (Kd.R_below (rx_ HO306) hb)
 replace BK299 := am_ (bw_ BK299 hb)
 replace BK300 := am_ (bw_ BK300 hb)
 replace HB := am_ (below_step bl_ hb)
 (try clear hb); (try clear ho0)
 obtain ⟨Ao17, co17, eo17⟩ := Kd.R_slice HO309.out
 (first | subst eo17 | (injection eo17 with f1_ f2_ f3_; have f4_ := f1_.symm; have f5_ := f3_.symm; clear f1_ f2_ f3_; subst f4_; subst f5_))
 refine hK.out _ _ ⟨bc_ BK299 0, bc_ BK299 1, bc_ BK299 2, bc_ BK299 3⟩ (fun hHeld => ?_)
 clear hK K
 refine no_ (some 22) ?_
 refine one_ (i := 15) (N := some 26) (bz 18 65535) rfl rfl (one_of HT_.out kr_) (by decide) (fun K hK => ?_)
 refine goes_ Tryz.func229 kr_ rfl #[.slice Ao17 t307.length co17, .int .i64 a1, .int .i64 a2, .slice A4 l4.length c4] (by rfl) rfl rfl ar_ ?_
 with_reducible refine (slices_Replace_int_int.calls (fun k_ => some k_ = (.slice Ao17 t307.length co17 : Value).ownBlock) (.slice Ao17 t307.length co17) t307 a1 a2 _ _ l4 t310 w _ ?side1 ?side2 ?side3 ?side4 A9.out).mono ?_
 (case side1 => exact bl_)
 (case side2 => exact Kd.R_tight rfl HO309.out)
 (case side3 => exact Kd.C_kept_came (Kd.heap_int .i64) HR4.out bl_ (fun k_ hs_ => (fun e_ => Kd.R_base HO309.out k_ e_.symm) hs_))
 (case side4 => exact HC4.out)
 rintro e w18 ⟨v311, rfl, ho0, hb, hkp⟩
 refine ⟨_, rfl, ?_⟩
 have HO312 := am_ (Kd.R_mono (ok' := fun k_ => True) ho0 (fun k_ hk_ => trivial))
 replace BK299 := am_ (blk_kept (bx_ BK299) hkp (fun hs_ => (fun e_ => (Kd.R_ne HO309.out BK299.out (by decide)) e_) hs_))
 replace BK300 := am_ (blk_kept (bx_ BK300) hkp (fun hs_ => (fun e_ => (Kd.R_ne HO309.out BK300.out (by decide)) e_) hs_))
 replace HO306 := am_ (Kd.R_mono (ok' := fun k_ => True) (Kd.R_keptB ((Kd.R_apart' HO306.out (Kd.R_typed HO309.out) (by decide))) hkp (fun k_ hk_ hs_ => (hk_.2) hs_)) (fun k_ hk_ => trivial))
 replace HB := am_ (hb)
 clear HO309; (try clear hb)
 (try clear hkp); (try clear ho0)
 obtain ⟨Ao19, co19, eo19⟩ := Kd.R_slice HO312.out
 (first | subst eo19 | (injection eo19 with f1_ f2_ f3_; have f4_ := f1_.symm; have f5_ := f3_.symm; clear f1_ f2_ f3_; subst f4_; subst f5_))
 obtain ⟨Ao20, co20, eo20⟩ := Kd.R_slice HO306.out
 (first | subst eo20 | (injection eo20 with f1_ f2_ f3_; have f4_ := f1_.symm; have f5_ := f3_.symm; clear f1_ f2_ f3_; subst f4_; subst f5_))
 refine hK.out _ _ ⟨bc_ BK299 0, bc_ BK299 1, bc_ BK299 2, bc_ BK299 3⟩ (fun hHeld => ?_)
 clear hK K
 refine no_ (some 26) ?_
 refine pu_ (fun x y z => pure_ (i := 16) (N := some 27) (bz 18 131071) rfl rfl (any_of HT_.out kr_) (fun _ _ _ h => h) (Or.inl ⟨by rfl, x⟩) y z) ?_
 refine one_ (i := 17) (N := none) (bz 18 262143) rfl rfl (one_of HT_.out kr_) (by decide) (fun K hK => ?_)
 have hs21 : w18.cell? ⟨gb300, 0, none⟩ = some (.int .i64 0) := bc_ BK300 0
 have hfs21 := blk_frozen BK300.out 0
 have hns21_0 := NB299_300.out
 have hms21_0 := NB300_299.out
 have hs22 : w18.cell? ⟨gb300, 1, none⟩ = some (.slice none 0 0) := bc_ BK300 1
 have hfs22 := blk_frozen BK300.out 1
 have hns22_0 := NB299_300.out
 have hms22_0 := NB300_299.out
 have hs23 : w18.cell? ⟨gb300, 2, none⟩ = some (.slice none 0 0) := bc_ BK300 2
 have hfs23 := blk_frozen BK300.out 2
 have hns23_0 := NB299_300.out
 have hms23_0 := NB300_299.out
 have hs24 : w18.cell? ⟨gb300, 3, none⟩ = some (.slice none 0 0) := bc_ BK300 3
 have hfs24 := blk_frozen BK300.out 3
 have hns24_0 := NB299_300.out
 have hms24_0 := NB300_299.out
 refine skip_ (w1 := ?_) (by rfl) rfl ?_ ?_
 rotate_left
 ·go_simp
  rfl
 refine hK.out _ _ ⟨((cell_far (p := ⟨gb300, _, none⟩) NB299_300.out _).trans (((cell_far (p := ⟨gb300, _, none⟩) NB299_300.out _).trans (((cell_far (p := ⟨gb300, _, none⟩) NB299_300.out _).trans (((cell_far (p := ⟨gb300, _, none⟩) NB299_300.out _).trans (hHeld.1)))))))), ((cell_far (p := ⟨gb300, _, none⟩) NB299_300.out _).trans (((cell_far (p := ⟨gb300, _, none⟩) NB299_300.out _).trans (((cell_far (p := ⟨gb300, _, none⟩) NB299_300.out _).trans (((cell_far (p := ⟨gb300, _, none⟩) NB299_300.out _).trans (hHeld.2.1)))))))), ((cell_far (p := ⟨gb300, _, none⟩) NB299_300.out _).trans (((cell_far (p := ⟨gb300, _, none⟩) NB299_300.out _).trans (((cell_far (p := ⟨gb300, _, none⟩) NB299_300.out _).trans (((cell_far (p := ⟨gb300, _, none⟩) NB299_300.out _).trans (hHeld.2.2.1)))))))), ((cell_far (p := ⟨gb300, _, none⟩) NB299_300.out _).trans (((cell_far (p := ⟨gb300, _, none⟩) NB299_300.out _).trans (((cell_far (p := ⟨gb300, _, none⟩) NB299_300.out _).trans (((cell_far (p := ⟨gb300, _, none⟩) NB299_300.out _).trans (hHeld.2.2.2))))))))⟩ (fun hHeld => ?_)
 clear hK K
 refine done_ (done_of HT_.out kr_) ?_
 try go_wp2
 refine bodyPost_ret (results_cell_row rfl _ _ gb300 149 #[.int .i64 a0_0, .slice Ao20 t304.length co20, .slice none 0 0, .slice Ao19 t310.length co19] (0, 0) _ rfl (bp_ BK300) Tryz.underlying149 rfl kr_) rfl ?_
 exact ⟨_, _, _, er_, by (with_reducible repeat (first | apply Kd.R_alloc | apply Kd.R_drewN | apply Kd.R_drew)); exact Kd.R_mono (Kd.R_far (p := ⟨gb300, 3, none⟩) (Kd.R_far (p := ⟨gb300, 2, none⟩) (Kd.R_far (p := ⟨gb300, 1, none⟩) (Kd.R_far (p := ⟨gb300, 0, none⟩) (Kd.R_types HO306.out BK300.out (by decide)) (fun _ hk => hk.2) (.int .i64 a0_0)) (fun _ hk => hk.2) (.slice Ao20 t304.length co20)) (fun _ hk => hk.2) (.slice none 0 0)) (fun _ hk => hk.2) (.slice Ao19 t310.length co19)) (fun _ hk => (by simp [Value.ownBlock])), ni_, by (with_reducible repeat (first | apply Kd.R_alloc | apply Kd.R_drewN | apply Kd.R_drew)); exact Kd.R_mono (Kd.R_far (p := ⟨gb300, 3, none⟩) (Kd.R_far (p := ⟨gb300, 2, none⟩) (Kd.R_far (p := ⟨gb300, 1, none⟩) (Kd.R_far (p := ⟨gb300, 0, none⟩) (Kd.R_types HO312.out BK300.out (by decide)) (fun _ hk => hk.2) (.int .i64 a0_0)) (fun _ hk => hk.2) (.slice Ao20 t304.length co20)) (fun _ hk => hk.2) (.slice none 0 0)) (fun _ hk => hk.2) (.slice Ao19 t310.length co19)) (fun _ hk => trivial), by exact bl_⟩

end Go.Proofs.YtendgmblgdkiaaaGreat.PNd

namespace Go.Proofs.YtendgmblgdkiaaaGreat.PNd
open Go.RowKit Go.Proofs.YtendgmblgdkiaaaGreatW.PrintWords Go.Proofs.YtendgmblgdkiaaaGreatW.PrintLast Go.Proofs.YtendgmblgdkiaaaGreatW.PrintMore
attribute [local go_sem] max2_int min2_int max_two min_two
set_option linter.unusedVariables false
set_option linter.unusedSimpArgs false

theorem cap_cell {w W : World} {p : Addr} {v : Value} (h : Below w.heap.size w W) (hp : w.cell? p = some v) : W.cell? p = some v := (h.cell (World.block_lt_of_cell? w _ hp)).trans hp
/-! ### tree_Tree_PutLam1: function 100 -/
def tree_Tree_PutLam1.j0 : Nat → ByteArray → ByteArray → Int → Int → Int → List ByteArray → List ByteArray → List Int → Option (Int × List ByteArray × List ByteArray × List Int)
 | 0, _, _, _, _, _, _, _, _ => none
 | k + 1, x1, x2, x5, x7, x314000, x314001, x314002, x314003 => (slices_Clone_string_string.f x314001).bind fun t317 => ((slices_Replace_string_string.f t317 x5 x7 (([x1] : List ByteArray))).bind fun t323 => ((slices_Clone_string_string.f x314002).bind fun t326 => ((slices_Replace_string_string.f t326 x5 x7 (([x2] : List ByteArray))).bind fun t332 => (some (x314000, t323, t332, ([] : List Int))))))
def tree_Tree_PutLam1.f (k : Nat) (a0_0 : Int) (l0_1 : List ByteArray) (l0_2 : List ByteArray) (l0_3 : List Int) (a1 : ByteArray) (a2 : ByteArray) : Option (Int × List ByteArray × List ByteArray × List Int) := (node_Node_Find.f k a0_0 l0_1 l0_2 l0_3 a1).bind fun bt315 => (if bt315.2 = true then (tree_Tree_PutLam1.j0 k a1 a2 bt315.1 (wrap64 (bt315.1 + 1)) a0_0 l0_1 l0_2 l0_3) else (tree_Tree_PutLam1.j0 k a1 a2 bt315.1 bt315.1 a0_0 l0_1 l0_2 l0_3))
end Go.Proofs.YtendgmblgdkiaaaGreat.PNd

namespace Go.Proofs.YtendgmblgdkiaaaGreat.PNd
open Go.RowKit Go.Proofs.YtendgmblgdkiaaaGreatW.PrintWords Go.Proofs.YtendgmblgdkiaaaGreatW.PrintLast Go.Proofs.YtendgmblgdkiaaaGreatW.PrintMore
attribute [local go_sem] max2_int min2_int max_two min_two
set_option linter.unusedVariables false
set_option linter.unusedSimpArgs false

/-! ### slices_Delete_string_string: function 107 -/
def slices_Delete_string_string.f (l0 : List ByteArray) (a1 : Int) (a2 : Int) : Option (List ByteArray) := delF l0 a1 a2
set_option maxHeartbeats 8000000 in
set_option maxRecDepth 100000 in
theorem slices_Delete_string_string.calls (P0_ : Nat → Prop) (u9000_ : Value) (l0 : List ByteArray) (a1 : Int) (a2 : Int) (r : List ByteArray) (w0 w : World) (hB : Below w0.heap.size w0 w) (ho0 : Kd.R Kd.string 9 w w0.heap.size P0_ u9000_ l0) (h : slices_Delete_string_string.f l0 a1 a2 = some r) :
  Calls Tryz.prog 107 #[u9000_, .int .i64 a1, .int .i64 a2] w fun e w' => ∃ v0_ : Value, e = .returned (v0_) ∧ Kd.R Kd.string 9 w' w0.heap.size (fun k_ => (P0_ k_ ∨ w.heap.size ≤ k_)) v0_ r ∧ Below w0.heap.size w0 w' ∧ Kept w w' (fun k_ => P0_ k_) := delete_own P0_ u9000_ l0 a1 a2 r w0 w hB ho0 h

/-! ### tree_Tree_DeleteLam1: function 106 -/
def tree_Tree_DeleteLam1.f (k : Nat) (a0_0 : Int) (l0_1 : List ByteArray) (l0_2 : List ByteArray) (l0_3 : List Int) (a1 : ByteArray) : Option (Int × List ByteArray × List ByteArray × List Int) := (node_Node_Find.f k a0_0 l0_1 l0_2 l0_3 a1).bind fun bt340 => ((slices_Clone_string_string.f l0_1).bind fun t342 => ((slices_Delete_string_string.f t342 bt340.1 (wrap64 (bt340.1 + 1))).bind fun t345 => ((slices_Clone_string_string.f l0_2).bind fun t348 => ((slices_Delete_string_string.f t348 bt340.1 (wrap64 (bt340.1 + 1))).bind fun t351 => (some (a0_0, t345, t351, ([] : List Int)))))))
def tree_Tree_DeleteLam1.T2 : Bool × List (List Nat × List Nat) := (true, [([], []), ([0], [0]), ([], []), ([2], [2]), ([3], [3]), ([], []), ([], []), ([6], [6]), ([4, 5, 7, 4], [4, 5, 7]), ([], []), ([9], [9]), ([10, 8], [10]), ([], []), ([], []), ([13], [13]), ([11, 12, 14, 11], [11, 12, 14]), ([1, 8, 15], [1, 8, 15]), ([16, 15, 0, 1, 2, 3, 4, 5, 6, 7, 8, 9, 10, 11, 12, 13, 14, 15, 16], [16])])
def tree_Tree_DeleteLam1.B2 : List Nat := [0, 1, 0, 4, 12, 0, 0, 64, 252, 0, 512, 2044, 0, 0, 8192, 32764, 65535, 131071]
theorem tree_Tree_DeleteLam1.tab2 : rtab .any (opsOf Tryz.f106 2) = tree_Tree_DeleteLam1.T2 := by kernel_rfl
theorem tree_Tree_DeleteLam1.bits2 : waitsOk tree_Tree_DeleteLam1.T2.2 tree_Tree_DeleteLam1.B2 = true := by kernel_rfl
set_option maxHeartbeats 8000000 in
set_option maxRecDepth 100000 in
theorem tree_Tree_DeleteLam1.calls (k : Nat) (a0_0 : Int) (A0_1 : Option Addr) (c0_1 : Nat) (l0_1 : List ByteArray) (A0_2 : Option Addr) (c0_2 : Nat) (l0_2 : List ByteArray) (A0_3 : Option Addr) (c0_3 : Nat) (l0_3 : List Int) (a1 : ByteArray) (r1 : Int) (r2 : List ByteArray) (r3 : List ByteArray) (r4 : List Int) (p1_ : Addr) (w : World) (hp1_ : w.cell? p1_ = some (.string a1)) (hr0_1 : Kd.C Kd.string w A0_1 l0_1.length l0_1) (hc0_1 : l0_1.length ≤ c0_1) (hr0_2 : Kd.C Kd.string w A0_2 l0_2.length l0_2) (hc0_2 : l0_2.length ≤ c0_2) (hr0_3 : Kd.C (Kd.int .i64) w A0_3 l0_3.length l0_3) (hc0_3 : l0_3.length ≤ c0_3) (h : tree_Tree_DeleteLam1.f k a0_0 l0_1 l0_2 l0_3 a1 = some (r1, r2, r3, r4)) :
  Calls Tryz.prog 106 #[.agg #[.int .i64 a0_0, .slice A0_1 l0_1.length c0_1, .slice A0_2 l0_2.length c0_2, .slice A0_3 l0_3.length c0_3], .pointer (some p1_)] w fun e w' => ∃ v1_ v2_ v3_ : Value, e = .returned (.agg #[.int .i64 r1, v1_, v2_, v3_]) ∧ Kd.R Kd.string 9 w' w.heap.size (fun k_ => some k_ ≠ (v2_ : Value).ownBlock) v1_ r2 ∧ Kd.R Kd.string 9 w' w.heap.size (fun k_ => some k_ ≠ (v1_ : Value).ownBlock) v2_ r3 ∧ Kd.R (Kd.int .i64) 3 w' w.heap.size (fun _ => True) v3_ r4 ∧ Below w.heap.size w w' := by
 have hu149 := Tryz.underlying149
 have HR0_1 := am_ hr0_1
 have HC0_1 := am_ hc0_1
 clear hr0_1 hc0_1
 have HR0_2 := am_ hr0_2
 have HC0_2 := am_ hc0_2
 clear hr0_2 hc0_2
 have HR0_3 := am_ hr0_3
 have HC0_3 := am_ hc0_3
 clear hr0_3 hc0_3
 have HB := am_ (Below.refl w.heap.size w)
 have HP1_ := am_ hp1_; clear hp1_
 have hcp1_ := cap_cell HB.out HP1_.out
 have H : ((node_Node_Find.f k a0_0 l0_1 l0_2 l0_3 a1).bind fun bt340 => ((slices_Clone_string_string.f l0_1).bind fun t342 => ((slices_Delete_string_string.f t342 bt340.1 (wrap64 (bt340.1 + 1))).bind fun t345 => ((slices_Clone_string_string.f l0_2).bind fun t348 => ((slices_Delete_string_string.f t348 bt340.1 (wrap64 (bt340.1 + 1))).bind fun t351 => (some (a0_0, t345, t351, ([] : List Int)))))))) = some (r1, r2, r3, r4) := h
 clear h
 obtain ⟨⟨t340, t341⟩, A3, H⟩ := bi_ H
 try dsimp only at H
 obtain ⟨t342, A4, H⟩ := bi_ H
 try dsimp only at H
 obtain ⟨t345, A5, H⟩ := bi_ H
 try dsimp only at H
 obtain ⟨t348, A6, H⟩ := bi_ H
 try dsimp only at H
 obtain ⟨t351, A7, H⟩ := bi_ H
 try dsimp only at H
 simp only [Option.some.injEq, Prod.mk.injEq] at H
 obtain ⟨rfl, rfl, rfl, rfl⟩ := H
 go_enter Tryz.func106, Tryz.ntmps106
 try go_wp2_with (first | ((with_reducible refine gate_dst (N := 2) rfl ?_); refine be_ (N := 2) (cs := #[.int .i64 a0_0, .slice A0_1 l0_1.length c0_1, .slice A0_2 l0_2.length c0_2, .slice A0_3 l0_3.length c0_3]) (t := 149) ?_; intro gb338 hg w8 hbox hb; have BK338 := am_ (hbox); have GW338 := am_ ((sz_ hg : w.heap.size ≤ gb338)); have GE338 := am_ ((sz_ hg : w.heap.size ≤ gb338)); replace HB := am_ (below_step bl_ hb); have hcp1_ := cap_cell HB.out HP1_.out; clear hb hbox hg) | ((with_reducible refine gate_dst (N := 3) rfl ?_); refine be_ (N := 3) (cs := #[.int .i64 0, .slice none 0 0, .slice none 0 0, .slice none 0 0]) (t := 149) ?_; intro gb339 hg w9 hbox hb; have BK339 := am_ (hbox); have GW339 := am_ ((sz_ hg : w.heap.size ≤ gb339)); have GE339 := am_ ((sz_ hg : w.heap.size ≤ gb339)); have NB338_339 := am_ ((nl_ hg BK338 : gb338 ≠ gb339)); have NB339_338 := am_ ((ng_ hg BK338 : gb339 ≠ gb338)); replace BK338 := am_ (bw_ BK338 hb); replace HB := am_ (below_step bl_ hb); have hcp1_ := cap_cell HB.out HP1_.out; clear hb hbox hg; have hnb10 := NB338_339.out; have hnc10 := NB339_338.out; have hcz11_0 : w9.cell? ⟨gb338, 0, none⟩ = some (.int .i64 a0_0) := bc_ BK338 0; have hcz11_1 : w9.cell? ⟨gb338, 1, none⟩ = some (.slice A0_1 l0_1.length c0_1) := bc_ BK338 1; have hcz11_2 : w9.cell? ⟨gb338, 2, none⟩ = some (.slice A0_2 l0_2.length c0_2) := bc_ BK338 2; have hcz11_3 : w9.cell? ⟨gb338, 3, none⟩ = some (.slice A0_3 l0_3.length c0_3) := bc_ BK338 3; have hfz11_0 := blk_frozen BK338.out 0; have hfz11_1 := blk_frozen BK338.out 1; have hfz11_2 := blk_frozen BK338.out 2; have hfz11_3 := blk_frozen BK338.out 3) | ((with_reducible refine gate_callee (f := 101) rfl ?_); refine goesL_ (some 9) rfl rfl Tryz.func101 kr_ rfl #[.agg #[.int .i64 a0_0, .slice A0_1 l0_1.length c0_1, .slice A0_2 l0_2.length c0_2, .slice A0_3 l0_3.length c0_3], .string a1] rfl ar_ ?_; (with_reducible refine (node_Node_Find.calls k a0_0 _ _ l0_1 _ _ l0_2 _ _ l0_3 a1 t340 t341 _ ?side1 ?side2 ?side3 ?side4 ?side5 ?side6 A3.out).mono ?_); (case side1 => exact cl_); (case side2 => exact HC0_1.out); (case side3 => exact cl_); (case side4 => exact HC0_2.out); (case side5 => exact cl_); (case side6 => exact HC0_3.out); rintro e w12 ⟨rfl, hb⟩; refine ⟨_, rfl, ?_⟩; replace BK338 := am_ (bw_ BK338 hb); replace BK339 := am_ (bw_ BK339 hb); replace HB := am_ (below_step bl_ hb); have hcp1_ := cap_cell HB.out HP1_.out; (try clear hb); (try clear hb2); (try clear hk); (try clear hi)))
 replace BK338 := am_ (blk_drew BK338.out)
 replace BK339 := am_ (blk_drew BK339.out)
 replace HB := am_ (below_drew1 HB.out)
 have hcp1_ := cap_cell HB.out HP1_.out
 refine start_ (n := 18) (S := fun w' => w'.cell? ⟨gb338, 0, none⟩ = some (.int .i64 a0_0) ∧ w'.cell? ⟨gb338, 1, none⟩ = some (.slice A0_1 l0_1.length c0_1) ∧ w'.cell? ⟨gb338, 2, none⟩ = some (.slice A0_2 l0_2.length c0_2) ∧ w'.cell? ⟨gb338, 3, none⟩ = some (.slice A0_3 l0_3.length c0_3)) (ds := []) (bz 18 0) kr_ rfl rfl ⟨bc_ BK338 0, bc_ BK338 1, bc_ BK338 2, bc_ BK338 3⟩ (fun hHeld => ?_); refine with_tabW tree_Tree_DeleteLam1.tab2 tree_Tree_DeleteLam1.bits2 (fun HT_ HW_ => ?_)
 generalize w12.drew = w13 at BK338 BK339 HB hHeld ⊢
 refine pu_ (fun x y z => pure_ (i := 0) (N := some 12) (bz 18 1) rfl rfl (any_of HT_.out kr_) (fun _ _ _ h => h) (Or.inl ⟨by rfl, x⟩) y z) ?_
 refine pu_ (fun x y z => pure_ (i := 2) (N := some 14) (bz 18 5) rfl rfl (any_of HT_.out kr_) (fun _ _ _ h => h) (Or.inl ⟨by rfl, x⟩) y z) ?_
 refine pu_ (fun x y z => pure_ (i := 5) (N := some 17) (bz 18 37) rfl rfl (any_of HT_.out kr_) (fun _ _ _ h => h) (Or.inl ⟨by rfl, x⟩) y z) ?_
 refine pu_ (fun x y z => pure_ (i := 6) (N := some 18) (bz 18 101) rfl rfl (any_of HT_.out kr_) (fun _ _ _ h => h) (Or.inl ⟨by rfl, x⟩) y z) ?_
 refine pu_ (fun x y z => pure_ (i := 7) (N := some 19) (bz 18 229) rfl rfl (any_of HT_.out kr_) (fun _ _ _ h => h) (Or.inl ⟨by rfl, x⟩) y z) ?_
 refine pu_ (fun x y z => pure_ (i := 9) (N := some 21) (bz 18 741) rfl rfl (any_of HT_.out kr_) (fun _ _ _ h => h) (Or.inl ⟨by rfl, x⟩) y z) ?_
 refine pu_ (fun x y z => pure_ (i := 12) (N := some 24) (bz 18 4837) rfl rfl (any_of HT_.out kr_) (fun _ _ _ h => h) (Or.inl ⟨by rfl, x⟩) y z) ?_
 refine pu_ (fun x y z => pure_ (i := 13) (N := some 25) (bz 18 13029) rfl rfl (any_of HT_.out kr_) (fun _ _ _ h => h) (Or.inl ⟨by rfl, x⟩) y z) ?_
 refine pu_ (fun x y z => pure_ (i := 14) (N := some 26) (bz 18 29413) rfl rfl (any_of HT_.out kr_) (fun _ _ _ h => h) (Or.inl ⟨by rfl, x⟩) y z) ?_
 refine take_ (i := 1) (N := some 13) (v := ?_) (a' := ?_) (bz 18 29415) rfl rfl (take_ofW HT_.out HW_.out kr_) (fun _ _ _ h => h) (Or.inl ⟨by rfl, ?_⟩) hHeld ?_ ?_
 rotate_left
 ·rintro w' ⟨s0, s1, s2, s3⟩
  go_simp
  with_reducible rfl
 rotate_left
 ·simp only [Act.put, List.setIfInBounds_toArray, List.set_cons_zero, List.set_cons_succ, i64_w, i32_w]
  rfl
 refine take_ (i := 3) (N := some 15) (v := ?_) (a' := ?_) (bz 18 29423) rfl rfl (take_ofW HT_.out HW_.out kr_) (fun _ _ _ h => h) (Or.inl ⟨by rfl, ?_⟩) hHeld ?_ ?_
 rotate_left
 ·rintro w' ⟨s0, s1, s2, s3⟩
  go_simp
  with_reducible rfl
 rotate_left
 ·simp only [Act.put, List.setIfInBounds_toArray, List.set_cons_zero, List.set_cons_succ, i64_w, i32_w]
  rfl
 refine take_ (i := 10) (N := some 22) (v := ?_) (a' := ?_) (bz 18 30447) rfl rfl (take_ofW HT_.out HW_.out kr_) (fun _ _ _ h => h) (Or.inl ⟨by rfl, ?_⟩) hHeld ?_ ?_
 rotate_left
 ·rintro w' ⟨s0, s1, s2, s3⟩
  go_simp
  with_reducible rfl
 rotate_left
 ·simp only [Act.put, List.setIfInBounds_toArray, List.set_cons_zero, List.set_cons_succ, i64_w, i32_w]
  rfl
 refine one_ (i := 4) (N := some 16) (bz 18 30463) rfl rfl (one_of HT_.out kr_) (by decide) (fun K hK => ?_)
 refine goes_ Tryz.func103 kr_ rfl #[.slice A0_1 l0_1.length c0_1] (by rfl) rfl rfl ar_ ?_
 with_reducible refine (slices_Clone_string_string.calls _ _ l0_1 t342 _ ?side1 ?side2 A4.out).mono ?_
 (case side1 => exact cl_)
 (case side2 => exact HC0_1.out)
 rintro e w14 ⟨v343, rfl, ho0, hb⟩
 refine ⟨_, rfl, ?_⟩
 have HO344 := am_ (Kd.R_lower ho0 (below_size bl_))
 replace BK338 := am_ (bw_ BK338 hb)
 replace BK339 := am_ (bw_ BK339 hb)
 replace HB := am_ (below_step bl_ hb)
 have hcp1_ := cap_cell HB.out HP1_.out
 (try clear hb); (try clear hb2); (try clear hk); (try clear hi); (try clear ho0)
 obtain ⟨Ao15, co15, eo15⟩ := Kd.R_slice HO344.out
 (first | subst eo15 | (injection eo15 with f1_ f2_ f3_; have f4_ := f1_.symm; have f5_ := f3_.symm; clear f1_ f2_ f3_; subst f4_; subst f5_))
 refine hK.out _ _ ⟨bc_ BK338 0, bc_ BK338 1, bc_ BK338 2, bc_ BK338 3⟩ (fun hHeld => ?_)
 clear hK K
 refine no_ (some 16) ?_
 refine one_ (i := 8) (N := some 20) (bz 18 30719) rfl rfl (one_of HT_.out kr_) (by decide) (fun K hK => ?_)
 refine goes_ Tryz.func107 kr_ rfl #[.slice Ao15 t342.length co15, .int .i64 t340, .int .i64 (wrap64 (t340 + 1))] (by rfl) rfl rfl ar_ ?_
 with_reducible refine (slices_Delete_string_string.calls (fun k_ => some k_ = (.slice Ao15 t342.length co15 : Value).ownBlock) (.slice Ao15 t342.length co15) t342 t340 (wrap64 (t340 + 1)) t345 w _ ?side1 ?side2 A5.out).mono ?_
 (case side1 => exact bl_)
 (case side2 => exact Kd.R_tight rfl HO344.out)
 rintro e w16 ⟨v346, rfl, ho0, hb, hkp⟩
 refine ⟨_, rfl, ?_⟩
 have HO347 := am_ (Kd.R_mono (ok' := fun k_ => True) ho0 (fun k_ hk_ => trivial))
 replace BK338 := am_ (blk_kept (bx_ BK338) hkp (fun hs_ => (fun e_ => (Kd.R_ne HO344.out BK338.out (by decide)) e_) hs_))
 replace BK339 := am_ (blk_kept (bx_ BK339) hkp (fun hs_ => (fun e_ => (Kd.R_ne HO344.out BK339.out (by decide)) e_) hs_))
 replace HB := am_ (hb)
 clear HO344
 have hcp1_ := cap_cell HB.out HP1_.out
 (try clear hb); (try clear hkp); (try clear ho0)
 refine hK.out _ _ ⟨bc_ BK338 0, bc_ BK338 1, bc_ BK338 2, bc_ BK338 3⟩ (fun hHeld => ?_)
 clear hK K
 refine no_ (some 20) ?_
 refine one_ (i := 11) (N := some 23) (bz 18 32767) rfl rfl (one_of HT_.out kr_) (by decide) (fun K hK => ?_)
 refine goes_ Tryz.func103 kr_ rfl #[.slice A0_2 l0_2.length c0_2] (by rfl) rfl rfl ar_ ?_
 with_reducible refine (slices_Clone_string_string.calls _ _ l0_2 t348 _ ?side1 ?side2 A6.out).mono ?_
 (case side1 => exact cl_)
 (case side2 => exact HC0_2.out)
 rintro e w17 ⟨v349, rfl, ho0, hb⟩
 refine ⟨_, rfl, ?_⟩
 have HO350 := am_ (Kd.R_lower (Kd.R_new' ho0 (Kd.R_lt (rx_ HO347))) (below_size bl_))
 replace HO347 := am_ (Kd.R_elder' (rx_ HO347) (Kd.R_base ho0) hb)
 replace BK338 := am_ (bw_ BK338 hb)
 replace BK339 := am_ (bw_ BK339 hb)
 replace HB := am_ (below_step bl_ hb)
 have hcp1_ := cap_cell HB.out HP1_.out
 (try clear hb); (try clear hb2); (try clear hk); (try clear hi); (try clear ho0)
 obtain ⟨Ao18, co18, eo18⟩ := Kd.R_slice HO350.out
 (first | subst eo18 | (injection eo18 with f1_ f2_ f3_; have f4_ := f1_.symm; have f5_ := f3_.symm; clear f1_ f2_ f3_; subst f4_; subst f5_))
 refine hK.out _ _ ⟨bc_ BK338 0, bc_ BK338 1, bc_ BK338 2, bc_ BK338 3⟩ (fun hHeld => ?_)
 clear hK K
 refine no_ (some 23) ?_
 refine one_ (i := 15) (N := some 27) (bz 18 65535) rfl rfl (one_of HT_.out kr_) (by decide) (fun K hK => ?_)
 refine goes_ Tryz.func107 kr_ rfl #[.slice Ao18 t348.length co18, .int .i64 t340, .int .i64 (wrap64 (t340 + 1))] (by rfl) rfl rfl ar_ ?_
 with_reducible refine (slices_Delete_string_string.calls (fun k_ => some k_ = (.slice Ao18 t348.length co18 : Value).ownBlock) (.slice Ao18 t348.length co18) t348 t340 (wrap64 (t340 + 1)) t351 w _ ?side1 ?side2 A7.out).mono ?_
 (case side1 => exact bl_)
 (case side2 => exact Kd.R_tight rfl HO350.out)
 rintro e w19 ⟨v352, rfl, ho0, hb, hkp⟩
 refine ⟨_, rfl, ?_⟩
 have HO353 := am_ (Kd.R_mono (ok' := fun k_ => some k_ ≠ (v346 : Value).ownBlock) ho0 (fun k_ hk_ => Or.elim hk_ (fun hs_ => fun e_ => (((HO347.out).1 k_ e_.symm).2) hs_) (fun hn_ => (Kd.fresh' (Kd.R_lt (rx_ HO347)) k_ hn_))))
 replace BK338 := am_ (blk_kept (bx_ BK338) hkp (fun hs_ => (fun e_ => (Kd.R_ne HO350.out BK338.out (by decide)) e_) hs_))
 replace BK339 := am_ (blk_kept (bx_ BK339) hkp (fun hs_ => (fun e_ => (Kd.R_ne HO350.out BK339.out (by decide)) e_) hs_))
 replace HO347 := am_ (Kd.R_mono (ok' := fun k_ => some k_ ≠ (v352 : Value).ownBlock) (Kd.R_keptB (HO347.out) hkp (fun k_ hk_ hs_ => (hk_.2) hs_)) (fun k_ hk_ => fun e_ => Or.elim (ho0.1 k_ e_.symm) (fun hs_ => hk_.2.1 hs_) (fun hn_ => Nat.not_le.2 hk_.2.2 hn_)))
 replace HB := am_ (hb)
 clear HO350
 have hcp1_ := cap_cell HB.out HP1_.out
 (try clear hb); (try clear hkp); (try clear ho0)
 obtain ⟨Ao20, co20, eo20⟩ := Kd.R_slice HO353.out
 (first | subst eo20 | (injection eo20 with f1_ f2_ f3_; have f4_ := f1_.symm; have f5_ := f3_.symm; clear f1_ f2_ f3_; subst f4_; subst f5_))
 obtain ⟨Ao21, co21, eo21⟩ := Kd.R_slice HO347.out
 (first | subst eo21 | (injection eo21 with f1_ f2_ f3_; have f4_ := f1_.symm; have f5_ := f3_.symm; clear f1_ f2_ f3_; subst f4_; subst f5_))
 refine hK.out _ _ ⟨bc_ BK338 0, bc_ BK338 1, bc_ BK338 2, bc_ BK338 3⟩ (fun hHeld => ?_)
 clear hK K
 refine no_ (some 27) ?_
 refine pu_ (fun x y z => pure_ (i := 16) (N := some 28) (bz 18 131071) rfl rfl (any_of HT_.out kr_) (fun _ _ _ h => h) (Or.inl ⟨by rfl, x⟩) y z) ?_
 refine one_ (i := 17) (N := none) (bz 18 262143) rfl rfl (one_of HT_.out kr_) (by decide) (fun K hK => ?_)
 have hs22 : w19.cell? ⟨gb339, 0, none⟩ = some (.int .i64 0) := bc_ BK339 0
 have hfs22 := blk_frozen BK339.out 0
 have hns22_0 := NB338_339.out
 have hms22_0 := NB339_338.out
 have hs23 : w19.cell? ⟨gb339, 1, none⟩ = some (.slice none 0 0) := bc_ BK339 1
 have hfs23 := blk_frozen BK339.out 1
 have hns23_0 := NB338_339.out
 have hms23_0 := NB339_338.out
 have hs24 : w19.cell? ⟨gb339, 2, none⟩ = some (.slice none 0 0) := bc_ BK339 2
 have hfs24 := blk_frozen BK339.out 2
 have hns24_0 := NB338_339.out
 have hms24_0 := NB339_338.out
 have hs25 : w19.cell? ⟨gb339, 3, none⟩ = some (.slice none 0 0) := bc_ BK339 3
 have hfs25 := blk_frozen BK339.out 3
 have hns25_0 := NB338_339.out
 have hms25_0 := NB339_338.out
 refine skip_ (w1 := ?_) (by rfl) rfl ?_ ?_
 rotate_left
 ·go_simp
  rfl
 refine hK.out _ _ ⟨((cell_far (p := ⟨gb339, _, none⟩) NB338_339.out _).trans (((cell_far (p := ⟨gb339, _, none⟩) NB338_339.out _).trans (((cell_far (p := ⟨gb339, _, none⟩) NB338_339.out _).trans (((cell_far (p := ⟨gb339, _, none⟩) NB338_339.out _).trans (hHeld.1)))))))), ((cell_far (p := ⟨gb339, _, none⟩) NB338_339.out _).trans (((cell_far (p := ⟨gb339, _, none⟩) NB338_339.out _).trans (((cell_far (p := ⟨gb339, _, none⟩) NB338_339.out _).trans (((cell_far (p := ⟨gb339, _, none⟩) NB338_339.out _).trans (hHeld.2.1)))))))), ((cell_far (p := ⟨gb339, _, none⟩) NB338_339.out _).trans (((cell_far (p := ⟨gb339, _, none⟩) NB338_339.out _).trans (((cell_far (p := ⟨gb339, _, none⟩) NB338_339.out _).trans (((cell_far (p := ⟨gb339, _, none⟩) NB338_339.out _).trans (hHeld.2.2.1)))))))), ((cell_far (p := ⟨gb339, _, none⟩) NB338_339.out _).trans (((cell_far (p := ⟨gb339, _, none⟩) NB338_339.out _).trans (((cell_far (p := ⟨gb339, _, none⟩) NB338_339.out _).trans (((cell_far (p := ⟨gb339, _, none⟩) NB338_339.out _).trans (hHeld.2.2.2))))))))⟩ (fun hHeld => ?_)
 clear hK K
 refine done_ (done_of HT_.out kr_) ?_
 try go_wp2
 refine bodyPost_ret (results_cell_row rfl _ _ gb339 149 #[.int .i64 a0_0, .slice Ao21 t345.length co21, .slice Ao20 t351.length co20, .slice none 0 0] (0, 0) _ rfl (bp_ BK339) Tryz.underlying149 rfl kr_) rfl ?_
 exact ⟨_, _, _, er_, by (with_reducible repeat (first | apply Kd.R_alloc | apply Kd.R_drewN | apply Kd.R_drew)); exact Kd.R_mono (Kd.R_far (p := ⟨gb339, 3, none⟩) (Kd.R_far (p := ⟨gb339, 2, none⟩) (Kd.R_far (p := ⟨gb339, 1, none⟩) (Kd.R_far (p := ⟨gb339, 0, none⟩) (Kd.R_types HO347.out BK339.out (by decide)) (fun _ hk => hk.2) (.int .i64 a0_0)) (fun _ hk => hk.2) (.slice Ao21 t345.length co21)) (fun _ hk => hk.2) (.slice Ao20 t351.length co20)) (fun _ hk => hk.2) (.slice none 0 0)) (fun _ hk => hk.1), by (with_reducible repeat (first | apply Kd.R_alloc | apply Kd.R_drewN | apply Kd.R_drew)); exact Kd.R_mono (Kd.R_far (p := ⟨gb339, 3, none⟩) (Kd.R_far (p := ⟨gb339, 2, none⟩) (Kd.R_far (p := ⟨gb339, 1, none⟩) (Kd.R_far (p := ⟨gb339, 0, none⟩) (Kd.R_types HO353.out BK339.out (by decide)) (fun _ hk => hk.2) (.int .i64 a0_0)) (fun _ hk => hk.2) (.slice Ao21 t345.length co21)) (fun _ hk => hk.2) (.slice Ao20 t351.length co20)) (fun _ hk => hk.2) (.slice none 0 0)) (fun _ hk => hk.1), ni_, by exact bl_⟩

/-! ### dowserref10_Put: function 27 -/
/-! ### dowserref10_Delete: function 33 -/
/-! ### dowserref10_Most: function 104 -/
end Go.Proofs.YtendgmblgdkiaaaGreat.PNd

namespace Go.Proofs.YtendgmblgdkiaaaGreat
open Go.RowKit
open Go.Proofs.YtendgmblgdkiaaaGreatW
open PrintWords (rd rdOf bt mx shl)
set_option linter.unusedVariables false
set_option linter.unusedSimpArgs false

abbrev BA := ByteArray
/-- How many keys are less. -/
def lb (key : BA) : List BA → Nat
 | [] => 0
 | a :: r => if blt a key then lb key r + 1 else 0
theorem lb_le (key : BA) : ∀ l, lb key l ≤ l.length
 | [] => Nat.le_refl _
 | a :: r => by
  unfold lb
  split
  ·have := lb_le key r; simp; omega
  ·simp
theorem rising_cons {a : BA} {l : List BA} (h : rising (a :: l) = true) : rising l = true := by
 cases l with
 | nil => rfl
 | cons b r => rw [rising, Bool.and_eq_true] at h; exact h.2
theorem rising_head {a : BA} : ∀ {l : List BA}, rising (a :: l) = true → ∀ x ∈ l, blt a x = true
 | [], _, _, h => by cases h
 | b :: r, h, x, hx => by
  have h' := h
  rw [rising, Bool.and_eq_true] at h'
  rcases List.mem_cons.1 hx with rfl | hx
  ·exact h'.1
  ·exact blt_trans h'.1 (rising_head h'.2 x hx)
theorem lb_below (key : BA) : ∀ (l : List BA) (i : Nat), i < lb key l → blt (l.getD i ByteArray.empty) key = true
 | [], i, h => by simp [lb] at h
 | a :: r, i, h => by
  unfold lb at h
  split at h
  ·rename_i ha
   cases i with
   | zero => exact ha
   | succ i => exact lb_below key r i om_
  ·omega
theorem lb_above (key : BA) : ∀ (l : List BA), rising l = true → ∀ (i : Nat), lb key l ≤ i → i < l.length → blt (l.getD i ByteArray.empty) key = false
 | [], _, i, _, h => by simp at h
 | a :: r, hr, i, h, hi => by
  unfold lb at h
  split at h
  ·rename_i ha
   cases i with
   | zero => omega
   | succ i => exact lb_above key r (rising_cons hr) i om_ (by simpa using hi)
  ·rename_i ha
   have ha : blt a key = false := by simpa using ha
   cases i with
   | zero => exact ha
   | succ i =>
    have hi' : i < r.length := by simpa using hi
    have hm : (a :: r).getD (i + 1) ByteArray.empty ∈ r := by
     simp only [List.getD_cons_succ]
     rw [List.getD_eq_getElem?_getD, List.getElem?_eq_getElem hi']
     exact List.getElem_mem hi'
    have h1 := rising_head hr _ hm
    cases hb : blt ((a :: r).getD (i + 1) ByteArray.empty) key with
    | false => rfl
    | true => rw [blt_trans h1 hb] at ha; cases ha
def isAt (key : BA) (l : List BA) : Bool := decide (lb key l < l.length) && (l.getD (lb key l) ByteArray.empty).toList == key.toList

theorem less_f (a b : BA) : PNd.cmp_Less_string.f a b = some (blt a b) := by
 unfold PNd.cmp_Less_string.f PNd.cmp_isNaN_string.f
 simp [blt]
theorem nan_f (a : BA) : PNd.slices_isNaN_string.f a = some false := by
 unfold PNd.slices_isNaN_string.f
 simp
theorem half_of (x y : Nat) (h : x + y ≤ 100000000) : wrap64 ((IntKind.u64.wrap (wrap64 ((x : Int) + (y : Int)))) / 2) = (((x + y) / 2 : Nat) : Int) := by
 have e1 : wrap64 ((x : Int) + (y : Int)) = ((x + y : Nat) : Int) := by unfold wrap64; omega
 have e2 : IntKind.u64.wrap ((x + y : Nat) : Int) = ((x + y : Nat) : Int) := by show ((x + y : Nat) : Int) % 18446744073709551616 = _; omega
 rw [e1, e2]
 unfold wrap64
 omega
theorem succ_of (x : Nat) (h : x ≤ 100000000) : wrap64 ((x : Int) + 1) = ((x + 1 : Nat) : Int) := by unfold wrap64; omega
theorem pred_of (x : Nat) (h : x ≤ 100000000) : mx (wrap64 ((x : Int) - 1)) 0 = ((x - 1 : Nat) : Int) := by
 unfold wrap64 mx
 split <;> omega
theorem bs_l (key : BA) (l : List BA) (hr : rising l = true) (hn : l.length ≤ 1000000) : ∀ (k lo hi : Nat), lo ≤ lb key l → lb key l ≤ hi → hi ≤ l.length → hi - lo < k →
  PNd.slices_BinarySearch_string_string.l0 k l key (l.length : Int) (lo : Int) (hi : Int) = some ((lb key l : Int), isAt key l)
 | 0, _, _, _, _, _, h => by omega
 | k + 1, lo, hi, h1, h2, h3, h => by
  unfold PNd.slices_BinarySearch_string_string.l0
  by_cases hlt : lo < hi
  ·rw [half_of lo hi (by omega), if_pos (by omega), if_pos (by omega), if_pos (by omega), rdOf_nat, less_f]
   simp only [Option.bind_some]
   by_cases hm : (lo + hi) / 2 < lb key l
   ·rw [lb_below key l _ hm, if_pos rfl, succ_of _ (by omega)]
    exact bs_l key l hr hn k _ hi om_ h2 h3 om_
   ·rw [lb_above key l hr _ (by omega) (by omega), if_neg (by simp)]
    exact bs_l key l hr hn k lo _ h1 om_ om_ om_
  ·have e : lo = lb key l := by omega
   rw [if_neg (by omega), e]
   unfold isAt
   by_cases hl : lb key l < l.length
   ·rw [if_pos (by omega), if_pos (by omega), if_pos (by omega), rdOf_nat]
    by_cases hk : (l.getD (lb key l) ByteArray.empty).toList = key.toList
    ·rw [if_pos hk, hk, decide_eq_true hl]; simp
    ·rw [if_neg hk, nan_f, decide_eq_true hl, Bool.true_and, beq_eq_false_iff_ne.2 hk]; simp
   ·rw [if_neg (by omega)]; simp [hl]
theorem find_f (kind : Int) (keys vals : List BA) (kids : List Int) (key : BA) (hr : rising keys = true) (hn : keys.length ≤ 1000000) (k : Nat) (hk : keys.length < k) :
  PNd.node_Node_Find.f k kind keys vals kids key = some ((lb key keys : Int), isAt key keys) := by
 unfold PNd.node_Node_Find.f PNd.slices_BinarySearch_string_string.f
 have := bs_l key keys hr hn k 0 keys.length om_ (lb_le key keys) (Nat.le_refl _) om_
 rw [show ((0 : Nat) : Int) = 0 from rfl] at this
 rw [this]
 rfl
def childAt (key : BA) (keys : List BA) : Nat := if isAt key keys then lb key keys else lb key keys - 1
theorem child_f (kind : Int) (keys vals : List BA) (kids : List Int) (key : BA) (hr : rising keys = true) (hn : keys.length ≤ 1000000) (k : Nat) (hk : keys.length < k) :
  PNd.tree_child.f k kind keys vals kids key = some ((childAt key keys : Nat) : Int) := by
 have hl := lb_le key keys
 unfold PNd.tree_child.f childAt
 rw [find_f kind keys vals kids key hr hn k hk]
 simp only [Option.bind_some]
 cases isAt key keys
 ·rw [if_neg (by simp), pred_of _ (by omega), if_neg (by simp)]
 ·rw [if_pos rfl, if_pos rfl]
/-- What an entry's place is taken by. -/
def cutIn {α : Type} (l : List α) (i j : Nat) (m : List α) : List α := l.take i ++ m ++ l.drop j
theorem clone_s (l : List BA) (h : l.length ≤ 1000000) : PNd.slices_Clone_string_string.f l = some l := by
 show PCl.slices_Clone_string_string.f l = some l
 unfold PCl.slices_Clone_string_string.f
 simp only [Option.bind_some, List.length_nil, List.nil_append]
 rw [if_pos (by omega)]
theorem clone_i (l : List Int) (h : l.length ≤ 1000000) : PNd.slices_Clone_int_int.f l = some l := by
 show PCl.slices_Clone_int_int.f l = some l
 unfold PCl.slices_Clone_int_int.f
 simp only [Option.bind_some, List.length_nil, List.nil_append]
 rw [if_pos (by omega)]
theorem repl_f {α : Type} (l : List α) (i j : Nat) (m : List α) (hij : i ≤ j) (hj : j ≤ l.length) (hm : 0 < m.length) (hs : l.length + m.length ≤ 1000000) : replF l (i : Int) (j : Int) m = some (cutIn l i j m) := by
 unfold replF cutIn
 rw [if_pos ⟨by omega, by omega, by omega, hm, hs⟩]
 simp
def putKeys (key : BA) (keys : List BA) : List BA := cutIn keys (lb key keys) (if isAt key keys then lb key keys + 1 else lb key keys) [key]
def putVals (key value : BA) (keys vals : List BA) : List BA := cutIn vals (lb key keys) (if isAt key keys then lb key keys + 1 else lb key keys) [value]
theorem isAt_lt {key : BA} {l : List BA} (h : isAt key l = true) : lb key l < l.length ∧ l.getD (lb key l) ByteArray.empty = key := by
 unfold isAt at h
 rw [Bool.and_eq_true, decide_eq_true_eq, beq_iff_eq] at h
 exact ⟨h.1, ba_inj h.2⟩
theorem put_f (kind : Int) (keys vals : List BA) (kids : List Int) (key value : BA) (hr : rising keys = true) (hv : vals.length = keys.length) (hn : keys.length ≤ 100000) (k : Nat) (hk : keys.length < k) :
  PNd.tree_Tree_PutLam1.f k kind keys vals kids key value = some (kind, putKeys key keys, putVals key value keys vals, []) := by
 have hl := lb_le key keys
 obtain ⟨k, rfl⟩ : ∃ m, k = m + 1 := ⟨k - 1, by omega⟩
 have hj : ∀ j : Nat, lb key keys ≤ j → j ≤ keys.length → PNd.tree_Tree_PutLam1.j0 (k + 1) key value (lb key keys : Int) (j : Int) kind keys vals kids = some (kind, cutIn keys (lb key keys) j [key], cutIn vals (lb key keys) j [value], []) := by
  intro j h1 h2
  rw [PNd.tree_Tree_PutLam1.j0, clone_s keys (by omega), clone_s vals (by omega)]
  simp only [Option.bind_some]
  have e1 : PNd.slices_Replace_string_string.f keys (lb key keys : Int) (j : Int) [key] = some (cutIn keys (lb key keys) j [key]) := repl_f keys _ j [key] h1 h2 (by simp) (by simp; omega)
  have e2 : PNd.slices_Replace_string_string.f vals (lb key keys : Int) (j : Int) [value] = some (cutIn vals (lb key keys) j [value]) := repl_f vals _ j [value] h1 om_ (by simp) (by simp; omega)
  rw [e1]
  simp only [Option.bind_some]
  rw [e2]
  rfl
 unfold PNd.tree_Tree_PutLam1.f putKeys putVals
 rw [find_f kind keys vals kids key hr (by omega) _ hk]
 simp only [Option.bind_some]
 cases hi : isAt key keys
 ·rw [if_neg (by simp), if_neg (by simp)]
  exact hj _ (Nat.le_refl _) hl
 ·have := (isAt_lt hi).1
  rw [if_pos rfl, if_pos rfl, succ_of _ (by omega)]
  exact hj _ om_ om_
def delAt {α : Type} (l : List α) (i : Nat) : List α := l.take i ++ l.drop (i + 1)
theorem del_f (kind : Int) (keys vals : List BA) (kids : List Int) (key : BA) (hr : rising keys = true) (hv : vals.length = keys.length) (hn : keys.length ≤ 100000) (hi : isAt key keys = true) (k : Nat) (hk : keys.length < k) :
  PNd.tree_Tree_DeleteLam1.f k kind keys vals kids key = some (kind, delAt keys (lb key keys), delAt vals (lb key keys), []) := by
 have hl := (isAt_lt hi).1
 have hd : ∀ l : List BA, l.length = keys.length → PNd.slices_Delete_string_string.f l (lb key keys : Int) ((lb key keys + 1 : Nat) : Int) = some (delAt l (lb key keys)) := by
  intro l h
  show delF l _ _ = _
  unfold delF delAt
  rw [if_pos ⟨by omega, by omega, by omega, by omega⟩]
  simp
 unfold PNd.tree_Tree_DeleteLam1.f
 rw [find_f kind keys vals kids key hr (by omega) _ hk]
 simp only [Option.bind_some]
 rw [clone_s keys (by omega), clone_s vals (by omega), succ_of _ (by omega)]
 simp only [Option.bind_some]
 rw [hd keys rfl]
 simp only [Option.bind_some]
 rw [hd vals hv]
 rfl
theorem swap_f (kind : Int) (keys vals : List BA) (kids : List Int) (i j : Nat) (ks : List BA) (cs : List Int) (hij : i ≤ j) (hj : j ≤ keys.length) (hc : kids.length = keys.length) (h0 : 0 < ks.length) (hk : cs.length = ks.length) (hn : keys.length + ks.length ≤ 100000) :
  PNd.tree_swap.f kind keys vals kids (i : Int) (j : Int) ks cs = some (kind, cutIn keys i j ks, [], cutIn kids i j cs) := by
 unfold PNd.tree_swap.f
 rw [clone_s keys (by omega), clone_i kids (by omega)]
 simp only [Option.bind_some]
 have e1 : PNd.slices_Replace_string_string.f keys (i : Int) (j : Int) ks = some (cutIn keys i j ks) := repl_f keys i j ks hij hj h0 om_
 have e2 : PNd.slices_Replace_int_int.f kids (i : Int) (j : Int) cs = some (cutIn kids i j cs) := repl_f kids i j cs hij om_ om_ om_
 rw [e1]
 simp only [Option.bind_some]
 rw [e2]
 rfl
end Go.Proofs.YtendgmblgdkiaaaGreat

namespace Go.Proofs.YtendgmblgdkiaaaGreat.PNd
open Go.RowKit Go.Proofs.YtendgmblgdkiaaaGreatW.PrintWords Go.Proofs.YtendgmblgdkiaaaGreatW.PrintLast Go.Proofs.YtendgmblgdkiaaaGreatW.PrintMore
attribute [local go_sem] max2_int min2_int max_two min_two
set_option linter.unusedVariables false
set_option linter.unusedSimpArgs false

/-! ### node_Node_cut: function 235 -/
def node_Node_cut.f (a0_0 : Int) (l0_1 : List ByteArray) (l0_2 : List ByteArray) (l0_3 : List Int) (a1 : Int) (a2 : Int) : Option (Int × List ByteArray × List ByteArray × List Int) := if 0 ≤ a1 then (if a1 ≤ a2 then (if a2 ≤ (l0_1.length : Int) then ((slices_Clone_string_string.f ((l0_1.take (a2 : Int).toNat).drop (a1 : Int).toNat)).bind fun t200 => (if a0_0 = 1 then (if a2 ≤ (l0_2.length : Int) then ((slices_Clone_string_string.f ((l0_2.take (a2 : Int).toNat).drop (a1 : Int).toNat)).bind fun t205 => (some (a0_0, t200, t205, ([] : List Int)))) else (none)) else (if a2 ≤ (l0_3.length : Int) then ((slices_Clone_int_int.f ((l0_3.take (a2 : Int).toNat).drop (a1 : Int).toNat)).bind fun t209 => (some (a0_0, t200, ([] : List ByteArray), t209))) else (none)))) else (none)) else (none)) else (none)
def node_Node_cut.T1 : Bool × List (List Nat × List Nat) := (true, [([], []), ([0], [0]), ([], []), ([2], [2]), ([], []), ([], []), ([3, 4, 5], [3, 4, 5]), ([6], [6]), ([1, 7], [1, 7]), ([], []), ([9, 8, 7, 0, 1, 2, 3, 4, 5, 6, 7, 8, 9], [8, 9])])
def node_Node_cut.B1 : List Nat := [0, 1, 0, 4, 0, 0, 60, 124, 255, 0, 1023]
theorem node_Node_cut.tab1 : rtab .any (opsOf Tryz.f235 1) = node_Node_cut.T1 := by kernel_rfl
theorem node_Node_cut.bits1 : waitsOk node_Node_cut.T1.2 node_Node_cut.B1 = true := by kernel_rfl
set_option maxHeartbeats 8000000 in
set_option maxRecDepth 100000 in
theorem node_Node_cut.calls (a0_0 : Int) (A0_1 : Option Addr) (c0_1 : Nat) (l0_1 : List ByteArray) (A0_2 : Option Addr) (c0_2 : Nat) (l0_2 : List ByteArray) (A0_3 : Option Addr) (c0_3 : Nat) (l0_3 : List Int) (a1 : Int) (a2 : Int) (r1 : Int) (r2 : List ByteArray) (r3 : List ByteArray) (r4 : List Int) (w : World) (hr0_1 : Kd.C Kd.string w A0_1 l0_1.length l0_1) (hc0_1 : l0_1.length ≤ c0_1) (hr0_2 : Kd.C Kd.string w A0_2 l0_2.length l0_2) (hc0_2 : l0_2.length ≤ c0_2) (hr0_3 : Kd.C (Kd.int .i64) w A0_3 l0_3.length l0_3) (hc0_3 : l0_3.length ≤ c0_3) (h : node_Node_cut.f a0_0 l0_1 l0_2 l0_3 a1 a2 = some (r1, r2, r3, r4)) :
  Calls Tryz.prog 235 #[.agg #[.int .i64 a0_0, .slice A0_1 l0_1.length c0_1, .slice A0_2 l0_2.length c0_2, .slice A0_3 l0_3.length c0_3], .int .i64 a1, .int .i64 a2] w fun e w' => ∃ v1_ v2_ v3_ : Value, e = .returned (.agg #[.int .i64 r1, v1_, v2_, v3_]) ∧ Kd.R Kd.string 9 w' w.heap.size (fun k_ => some k_ ≠ (v2_ : Value).ownBlock) v1_ r2 ∧ Kd.R Kd.string 9 w' w.heap.size (fun k_ => some k_ ≠ (v1_ : Value).ownBlock) v2_ r3 ∧ Kd.R (Kd.int .i64) 3 w' w.heap.size (fun _ => True) v3_ r4 ∧ Below w.heap.size w w' := by
 have hu149 := Tryz.underlying149
 have HR0_1 := am_ hr0_1
 have HC0_1 := am_ hc0_1
 clear hr0_1 hc0_1
 have HR0_2 := am_ hr0_2
 have HC0_2 := am_ hc0_2
 clear hr0_2 hc0_2
 have HR0_3 := am_ hr0_3
 have HC0_3 := am_ hc0_3
 clear hr0_3 hc0_3
 have HB := am_ (Below.refl w.heap.size w)
 have H : (if 0 ≤ a1 then (if a1 ≤ a2 then (if a2 ≤ (l0_1.length : Int) then ((slices_Clone_string_string.f ((l0_1.take (a2 : Int).toNat).drop (a1 : Int).toNat)).bind fun t200 => (if a0_0 = 1 then (if a2 ≤ (l0_2.length : Int) then ((slices_Clone_string_string.f ((l0_2.take (a2 : Int).toNat).drop (a1 : Int).toNat)).bind fun t205 => (some (a0_0, t200, t205, ([] : List Int)))) else (none)) else (if a2 ≤ (l0_3.length : Int) then ((slices_Clone_int_int.f ((l0_3.take (a2 : Int).toNat).drop (a1 : Int).toNat)).bind fun t209 => (some (a0_0, t200, ([] : List ByteArray), t209))) else (none)))) else (none)) else (none)) else (none)) = some (r1, r2, r3, r4) := h
 clear h
 by_cases c4 : 0 ≤ a1
 ·rw [if_pos c4] at H
  have c4b0 := eq_true c4
  have c4b1 : decide (0 ≤ a1) = true := decide_eq_true c4
  clear c4
  by_cases c5 : a1 ≤ a2
  ·rw [if_pos c5] at H
   have c5b0 := eq_true c5
   have c5b1 : decide (a1 ≤ a2) = true := decide_eq_true c5
   clear c5
   by_cases c6 : a2 ≤ (l0_1.length : Int)
   ·rw [if_pos c6] at H
    have c6b0 := eq_true c6
    have c6b1 : decide (a2 ≤ (l0_1.length : Int)) = true := decide_eq_true c6
    clear c6
    obtain ⟨t200, A7, H⟩ := bi_ H
    try dsimp only at H
    by_cases c8 : a0_0 = 1
    ·rw [if_pos c8] at H
     have c8b0 : (a0_0 == 1) = true := beq_iff_eq.mpr c8
     have c8b1 : (a0_0 != 1) = false := bne_eq_false_iff_eq.mpr c8
     clear c8
     have c9b0 := eq_true (of_decide_eq_true as_ : 0 ≤ a1)
     have c10b0 := eq_true (of_decide_eq_true as_ : a1 ≤ a2)
     by_cases c11 : a2 ≤ (l0_2.length : Int)
     ·rw [if_pos c11] at H
      have c11b0 := eq_true c11
      have c11b1 : decide (a2 ≤ (l0_2.length : Int)) = true := decide_eq_true c11
      clear c11
      obtain ⟨t205, A12, H⟩ := bi_ H
      try dsimp only at H
      simp only [Option.some.injEq, Prod.mk.injEq] at H
      obtain ⟨rfl, rfl, rfl, rfl⟩ := H
      go_enter Tryz.func235, Tryz.ntmps235
      try go_wp2_with (first | ((with_reducible refine gate_dst (N := 3) rfl ?_); refine be_ (N := 3) (cs := #[.int .i64 a0_0, .slice A0_1 l0_1.length c0_1, .slice A0_2 l0_2.length c0_2, .slice A0_3 l0_3.length c0_3]) (t := 149) ?_; intro gb197 hg w13 hbox hb; have BK197 := am_ (hbox); have GW197 := am_ ((sz_ hg : w.heap.size ≤ gb197)); have GE197 := am_ ((sz_ hg : w.heap.size ≤ gb197)); replace HB := am_ (below_step bl_ hb); clear hb hbox hg) | ((with_reducible refine gate_dst (N := 6) rfl ?_); refine be_ (N := 6) (cs := #[.int .i64 0, .slice none 0 0, .slice none 0 0, .slice none 0 0]) (t := 149) ?_; intro gb198 hg w14 hbox hb; have BK198 := am_ (hbox); have GW198 := am_ ((sz_ hg : w.heap.size ≤ gb198)); have GE198 := am_ ((sz_ hg : w.heap.size ≤ gb198)); have NB197_198 := am_ ((nl_ hg BK197 : gb197 ≠ gb198)); have NB198_197 := am_ ((ng_ hg BK197 : gb198 ≠ gb197)); replace BK197 := am_ (bw_ BK197 hb); replace HB := am_ (below_step bl_ hb); clear hb hbox hg))
      replace BK197 := am_ (blk_drew BK197.out)
      replace BK198 := am_ (blk_drew BK198.out)
      replace HB := am_ (below_drew1 HB.out)
      obtain ⟨i016, hi016, _, hsz16, _⟩ := info_parts info9
      obtain ⟨A16, hcut16, hA16, hC16⟩ := print_mid_of (P := Tryz.prog) Value.string (⟨#[]⟩ : ByteArray) 22 9 .i64 .i64 Tryz.underlying22 hi016 hsz16 A0_1 c0_1 l0_1 a1 a2 (of_decide_eq_true as_) (by first | omega | exact of_decide_eq_true as_) (of_decide_eq_true as_) HC0_1.out
      have HR199 := am_ (Kd.C_of_reads (h1 := fun _ => rfl) (hA16 _ (Kd.reads_of_C HR0_1.out)))
      have HC199 := am_ hC16
      clear hA16 hC16 hi016 hsz16
      refine start_ (n := 11) (S := fun w' => w'.cell? ⟨gb197, 0, none⟩ = some (.int .i64 a0_0) ∧ w'.cell? ⟨gb197, 1, none⟩ = some (.slice A0_1 l0_1.length c0_1) ∧ w'.cell? ⟨gb197, 2, none⟩ = some (.slice A0_2 l0_2.length c0_2) ∧ w'.cell? ⟨gb197, 3, none⟩ = some (.slice A0_3 l0_3.length c0_3)) (ds := []) (bz 11 0) kr_ rfl rfl ⟨bc_ BK197 0, bc_ BK197 1, bc_ BK197 2, bc_ BK197 3⟩ (fun hHeld => ?_); refine with_tabW node_Node_cut.tab1 node_Node_cut.bits1 (fun HT_ HW_ => ?_)
      generalize w14.drew = w15 at BK197 BK198 HB HR199 hHeld ⊢
      refine pu_ (fun x y z => pure_ (i := 0) (N := some 8) (bz 11 1) rfl rfl (any_of HT_.out kr_) (fun _ _ _ h => h) (Or.inl ⟨by rfl, x⟩) y z) ?_
      refine pu_ (fun x y z => pure_ (i := 2) (N := some 10) (bz 11 5) rfl rfl (any_of HT_.out kr_) (fun _ _ _ h => h) (Or.inl ⟨by rfl, x⟩) y z) ?_
      refine pu_ (fun x y z => pure_ (i := 4) (N := some 12) (bz 11 21) rfl rfl (any_of HT_.out kr_) (fun _ _ _ h => h) (Or.inl ⟨by rfl, x⟩) y z) ?_
      refine pu_ (fun x y z => pure_ (i := 5) (N := some 13) (bz 11 53) rfl rfl (any_of HT_.out kr_) (fun _ _ _ h => h) (Or.inl ⟨by rfl, x⟩) y z) ?_
      refine take_ (i := 1) (N := some 9) (v := ?_) (a' := ?_) (bz 11 55) rfl rfl (take_ofW HT_.out HW_.out kr_) (fun _ _ _ h => h) (Or.inl ⟨by rfl, ?_⟩) hHeld ?_ ?_
      rotate_left
      ·rintro w' ⟨s0, s1, s2, s3⟩
       go_simp
       with_reducible rfl
      rotate_left
      ·simp only [Act.put, List.setIfInBounds_toArray, List.set_cons_zero, List.set_cons_succ, i64_w, i32_w]
       rfl
      refine take_ (i := 3) (N := some 11) (v := ?_) (a' := ?_) (bz 11 63) rfl rfl (take_ofW HT_.out HW_.out kr_) (fun _ _ _ h => h) (Or.inl ⟨by rfl, ?_⟩) hHeld ?_ ?_
      rotate_left
      ·rintro w' ⟨s0, s1, s2, s3⟩
       go_simp
       with_reducible rfl
      rotate_left
      ·simp only [Act.put, List.setIfInBounds_toArray, List.set_cons_zero, List.set_cons_succ, i64_w, i32_w]
       rfl
      refine pu_ (fun x y z => pure_ (i := 6) (N := some 14) (bz 11 127) rfl rfl (any_of HT_.out kr_) (fun _ _ _ h => h) (Or.inl ⟨by rfl, x⟩) y z) ?_
      refine join_ (σ := Value × Nat) 1 (bz 11 1023) (fun s_ => [(15, s_.1), (7, .pointer (some ⟨s_.2, 0, none⟩)), (16, .agg #[.int .i64 a0_0, s_.1, .slice none 0 0, .slice none 0 0])]) (fun s_ w' => (w'.cell? ⟨gb197, 0, none⟩ = some (.int .i64 a0_0) ∧ w'.cell? ⟨gb197, 1, none⟩ = some (.slice A0_1 l0_1.length c0_1) ∧ w'.cell? ⟨gb197, 2, none⟩ = some (.slice A0_2 l0_2.length c0_2) ∧ w'.cell? ⟨gb197, 3, none⟩ = some (.slice A0_3 l0_3.length c0_3)) ∧ (Kd.R Kd.string 9 w' w.heap.size (fun _ => True) s_.1 t200) ∧ (w'.heap[gb197]? = some (.cells #[.int .i64 a0_0, .slice A0_1 l0_1.length c0_1, .slice A0_2 l0_2.length c0_2, .slice A0_3 l0_3.length c0_3] 149 (0, 0))) ∧ (w'.heap[gb198]? = some (.cells #[.int .i64 0, .slice none 0 0, .slice none 0 0, .slice none 0 0] 149 (0, 0))) ∧ (w'.heap[s_.2]? = some (.cells #[.int .i64 0, .slice none 0 0, .slice none 0 0, .slice none 0 0] 149 (0, 0))) ∧ (w.heap.size ≤ s_.2) ∧ (w.heap.size ≤ s_.2) ∧ (gb197 ≠ s_.2) ∧ (s_.2 ≠ gb197) ∧ (gb198 ≠ s_.2) ∧ (s_.2 ≠ gb198) ∧ (Below w.heap.size w w')) ?_ ?_
      rotate_left
      ·intro hCont
       refine two_ (i := 7) (j := 9) (Ni := some 15) (Nj := some 7) (bz 11 255) (bz 11 639) rfl rfl rfl rfl (two_of HT_.out kr_) (by decide) (by decide) (fun K hK => ?_) (fun K hK => ?_)
       ·skip
        refine goes_ Tryz.func103 kr_ rfl #[.slice A16 ((l0_1.take (a2 : Int).toNat).drop (a1 : Int).toNat).length (c0_1 - a1.toNat)] (by rfl) rfl rfl (by (try simp only [List.map_toArray, List.map_cons, List.map_nil]); first | done | (rw [show ((l0_1.take (a2 : Int).toNat).drop (a1 : Int).toNat).length = (a2.toNat - a1.toNat) from (by rw [List.length_drop, List.length_take]; have h_ : (a2 : Int) ≤ (l0_1.length : Int) := of_decide_eq_true as_; omega)] <;> rfl) | rfl | (simp only [List.length_drop, List.length_take]; rfl)) ?_
        with_reducible refine (slices_Clone_string_string.calls _ _ ((l0_1.take (a2 : Int).toNat).drop (a1 : Int).toNat) t200 _ ?side1 ?side2 A7.out).mono ?_
        (case side1 => repeat (first | exact (Kd.C_below HR199.out HB.out) | (with_reducible refine Kd.C_alloc ?_ _) | (with_reducible refine Kd.C_drewN ?_ _) | (with_reducible refine Kd.C_drew ?_)))
        (case side2 => exact HC199.out)
        rintro e w17 ⟨v201, rfl, ho0, hb⟩
        refine ⟨_, rfl, ?_⟩
        have HO202 := am_ (Kd.R_lower ho0 (below_size bl_))
        replace BK197 := am_ (bw_ BK197 hb)
        replace BK198 := am_ (bw_ BK198 hb)
        replace HB := am_ (below_step bl_ hb)
        (try clear hb); (try clear ho0)
        obtain ⟨Ao18, co18, eo18⟩ := Kd.R_slice HO202.out
        (first | subst eo18 | (injection eo18 with f1_ f2_ f3_; have f4_ := f1_.symm; have f5_ := f3_.symm; clear f1_ f2_ f3_; subst f4_; subst f5_))
        refine hK.out _ _ ⟨bc_ BK197 0, bc_ BK197 1, bc_ BK197 2, bc_ BK197 3⟩ (fun hHeld => ?_)
        clear hK K
        refine no_ (some 15) ?_
        refine pu_ (fun x y z => pure_ (i := 8) (N := some 16) (bz 11 511) rfl rfl (any_of HT_.out kr_) (fun _ _ _ h => h) (Or.inl ⟨by rfl, x⟩) y z) ?_
        refine one_ (i := 9) (N := some 7) (bz 11 1023) rfl rfl (one_of HT_.out kr_) (by decide) (fun K hK => ?_)
        refine box_step ?hg (N := 7) ?hd (cs := #[.int .i64 0, .slice none 0 0, .slice none 0 0, .slice none 0 0]) (t := 149) ?hr ?_; (case hd => rfl); (case hg => rfl); (case hr => first | (go_simp; done) | (go_simp; rfl))
        intro gb203 hg w19 hbox hb
        have BK203 := am_ (hbox)
        have GW203 := am_ ((sz_ hg : w.heap.size ≤ gb203))
        have GE203 := am_ ((sz_ hg : w.heap.size ≤ gb203))
        have NB197_203 := am_ ((nl_ hg BK197 : gb197 ≠ gb203))
        have NB203_197 := am_ ((ng_ hg BK197 : gb203 ≠ gb197))
        have NB198_203 := am_ ((nl_ hg BK198 : gb198 ≠ gb203))
        have NB203_198 := am_ ((ng_ hg BK198 : gb203 ≠ gb198))
        replace HO202 := am_ (Kd.R_below (rx_ HO202) hb)
        replace BK197 := am_ (bw_ BK197 hb)
        replace BK198 := am_ (bw_ BK198 hb)
        replace HB := am_ (below_step bl_ hb)
        clear hb hbox hg
        refine hK.out _ _ ⟨bc_ BK197 0, bc_ BK197 1, bc_ BK197 2, bc_ BK197 3⟩ (fun hHeld => ?_)
        clear hK K
        refine no_ (some 7) ?_
        exact norm_ (by simp only [putAll, Act.put, List.setIfInBounds_toArray, List.set_cons_zero, List.set_cons_succ]) (hCont (.slice Ao18 t200.length co18, gb203) _ ⟨hHeld, (rx_ HO202), (bx_ BK197), (bx_ BK198), (bx_ BK203), GW203.out, GE203.out, NB197_203.out, NB203_197.out, NB198_203.out, NB203_198.out, bl_⟩)
       ·skip
        refine box_step ?hg (N := 7) ?hd (cs := #[.int .i64 0, .slice none 0 0, .slice none 0 0, .slice none 0 0]) (t := 149) ?hr ?_; (case hd => rfl); (case hg => rfl); (case hr => first | (go_simp; done) | (go_simp; rfl))
        intro gb203 hg w17 hbox hb
        have BK203 := am_ (hbox)
        have GW203 := am_ ((sz_ hg : w.heap.size ≤ gb203))
        have GE203 := am_ ((sz_ hg : w.heap.size ≤ gb203))
        have NB197_203 := am_ ((nl_ hg BK197 : gb197 ≠ gb203))
        have NB203_197 := am_ ((ng_ hg BK197 : gb203 ≠ gb197))
        have NB198_203 := am_ ((nl_ hg BK198 : gb198 ≠ gb203))
        have NB203_198 := am_ ((ng_ hg BK198 : gb203 ≠ gb198))
        replace BK197 := am_ (bw_ BK197 hb)
        replace BK198 := am_ (bw_ BK198 hb)
        replace HB := am_ (below_step bl_ hb)
        clear hb hbox hg
        refine hK.out _ _ ⟨bc_ BK197 0, bc_ BK197 1, bc_ BK197 2, bc_ BK197 3⟩ (fun hHeld => ?_)
        clear hK K
        refine no_ (some 7) ?_
        refine one_ (i := 7) (N := some 15) (bz 11 767) rfl rfl (one_of HT_.out kr_) (by decide) (fun K hK => ?_)
        refine goes_ Tryz.func103 kr_ rfl #[.slice A16 ((l0_1.take (a2 : Int).toNat).drop (a1 : Int).toNat).length (c0_1 - a1.toNat)] (by rfl) rfl rfl (by (try simp only [List.map_toArray, List.map_cons, List.map_nil]); first | done | (rw [show ((l0_1.take (a2 : Int).toNat).drop (a1 : Int).toNat).length = (a2.toNat - a1.toNat) from (by rw [List.length_drop, List.length_take]; have h_ : (a2 : Int) ≤ (l0_1.length : Int) := of_decide_eq_true as_; omega)] <;> rfl) | rfl | (simp only [List.length_drop, List.length_take]; rfl)) ?_
        with_reducible refine (slices_Clone_string_string.calls _ _ ((l0_1.take (a2 : Int).toNat).drop (a1 : Int).toNat) t200 _ ?side1 ?side2 A7.out).mono ?_
        (case side1 => repeat (first | exact (Kd.C_below HR199.out HB.out) | (with_reducible refine Kd.C_alloc ?_ _) | (with_reducible refine Kd.C_drewN ?_ _) | (with_reducible refine Kd.C_drew ?_)))
        (case side2 => exact HC199.out)
        rintro e w18 ⟨v201, rfl, ho0, hb⟩
        refine ⟨_, rfl, ?_⟩
        have HO202 := am_ (Kd.R_lower ho0 (below_size bl_))
        replace BK197 := am_ (bw_ BK197 hb)
        replace BK198 := am_ (bw_ BK198 hb)
        replace BK203 := am_ (bw_ BK203 hb)
        replace HB := am_ (below_step bl_ hb)
        (try clear hb); (try clear ho0)
        obtain ⟨Ao19, co19, eo19⟩ := Kd.R_slice HO202.out
        (first | subst eo19 | (injection eo19 with f1_ f2_ f3_; have f4_ := f1_.symm; have f5_ := f3_.symm; clear f1_ f2_ f3_; subst f4_; subst f5_))
        refine hK.out _ _ ⟨bc_ BK197 0, bc_ BK197 1, bc_ BK197 2, bc_ BK197 3⟩ (fun hHeld => ?_)
        clear hK K
        refine no_ (some 15) ?_
        refine pu_ (fun x y z => pure_ (i := 8) (N := some 16) (bz 11 1023) rfl rfl (any_of HT_.out kr_) (fun _ _ _ h => h) (Or.inl ⟨by rfl, x⟩) y z) ?_
        exact norm_ (by simp only [putAll, Act.put, List.setIfInBounds_toArray, List.set_cons_zero, List.set_cons_succ]) (hCont (.slice Ao19 t200.length co19, gb203) _ ⟨hHeld, (rx_ HO202), (bx_ BK197), (bx_ BK198), (bx_ BK203), GW203.out, GE203.out, NB197_203.out, NB203_197.out, NB198_203.out, NB203_198.out, bl_⟩)
      rintro ⟨v201, gb203⟩ w20 ⟨hS_, h0_, h1_, h2_, h3_, h4_, h5_, h6_, h7_, h8_, h9_, h10_⟩
      have n0_ : Aside0 (Kd.R Kd.string 9 w20 w.heap.size (fun _ => True) v201 t200) := ⟨h0_⟩
      have n1_ : Aside0 (w20.heap[gb197]? = some (.cells #[.int .i64 a0_0, .slice A0_1 l0_1.length c0_1, .slice A0_2 l0_2.length c0_2, .slice A0_3 l0_3.length c0_3] 149 (0, 0))) := ⟨h1_⟩
      have n2_ : Aside0 (w20.heap[gb198]? = some (.cells #[.int .i64 0, .slice none 0 0, .slice none 0 0, .slice none 0 0] 149 (0, 0))) := ⟨h2_⟩
      have n3_ : Aside0 (w20.heap[gb203]? = some (.cells #[.int .i64 0, .slice none 0 0, .slice none 0 0, .slice none 0 0] 149 (0, 0))) := ⟨h3_⟩
      have n4_ : Aside0 (w.heap.size ≤ gb203) := ⟨h4_⟩
      have n5_ : Aside0 (w.heap.size ≤ gb203) := ⟨h5_⟩
      have n6_ : Aside0 (gb197 ≠ gb203) := ⟨h6_⟩
      have n7_ : Aside0 (gb203 ≠ gb197) := ⟨h7_⟩
      have n8_ : Aside0 (gb198 ≠ gb203) := ⟨h8_⟩
      have n9_ : Aside0 (gb203 ≠ gb198) := ⟨h9_⟩
      have n10_ : Aside0 (Below w.heap.size w w20) := ⟨h10_⟩
      clear BK197 BK198 HB h0_ h1_ h2_ h3_ h4_ h5_ h6_ h7_ h8_ h9_ h10_
      have HO202 := n0_
      have BK197 := n1_
      have BK198 := n2_
      have BK203 := n3_
      have GW203 := n4_
      have GE203 := n5_
      have NB197_203 := n6_
      have NB203_197 := n7_
      have NB198_203 := n8_
      have NB203_198 := n9_
      have HB := n10_
      clear n0_ n1_ n2_ n3_ n4_ n5_ n6_ n7_ n8_ n9_ n10_
      have hHeld : w20.cell? ⟨gb197, 0, none⟩ = some (.int .i64 a0_0) ∧ w20.cell? ⟨gb197, 1, none⟩ = some (.slice A0_1 l0_1.length c0_1) ∧ w20.cell? ⟨gb197, 2, none⟩ = some (.slice A0_2 l0_2.length c0_2) ∧ w20.cell? ⟨gb197, 3, none⟩ = some (.slice A0_3 l0_3.length c0_3) := hS_
      obtain ⟨Ao21, co21, eo21⟩ := Kd.R_slice HO202.out
      (first | subst eo21 | (injection eo21 with f1_ f2_ f3_; have f4_ := f1_.symm; have f5_ := f3_.symm; clear f1_ f2_ f3_; subst f4_; subst f5_))
      refine norm_ (a' := ?_) ?_ ?_
      rotate_left
      ·simp only [putAll, Act.put, List.setIfInBounds_toArray, List.set_cons_zero, List.set_cons_succ]
       rfl
      refine one_ (i := 10) (N := none) (bz 11 2047) rfl rfl (one_of HT_.out kr_) (by decide) (fun K hK => ?_)
      have hs22 : w20.cell? ⟨gb203, 0, none⟩ = some (.int .i64 0) := bc_ BK203 0
      have hfs22 := blk_frozen BK203.out 0
      have hns22_0 := NB197_203.out
      have hns22_1 := NB198_203.out
      have hms22_0 := NB203_197.out
      have hms22_1 := NB203_198.out
      have hs23 : w20.cell? ⟨gb203, 1, none⟩ = some (.slice none 0 0) := bc_ BK203 1
      have hfs23 := blk_frozen BK203.out 1
      have hns23_0 := NB197_203.out
      have hns23_1 := NB198_203.out
      have hms23_0 := NB203_197.out
      have hms23_1 := NB203_198.out
      have hs24 : w20.cell? ⟨gb203, 2, none⟩ = some (.slice none 0 0) := bc_ BK203 2
      have hfs24 := blk_frozen BK203.out 2
      have hns24_0 := NB197_203.out
      have hns24_1 := NB198_203.out
      have hms24_0 := NB203_197.out
      have hms24_1 := NB203_198.out
      have hs25 : w20.cell? ⟨gb203, 3, none⟩ = some (.slice none 0 0) := bc_ BK203 3
      have hfs25 := blk_frozen BK203.out 3
      have hns25_0 := NB197_203.out
      have hns25_1 := NB198_203.out
      have hms25_0 := NB203_197.out
      have hms25_1 := NB203_198.out
      refine skip_ (w1 := ?_) (by rfl) rfl ?_ ?_
      rotate_left
      ·go_simp
       rfl
      refine hK.out _ _ ⟨((cell_far (p := ⟨gb203, _, none⟩) NB197_203.out _).trans (((cell_far (p := ⟨gb203, _, none⟩) NB197_203.out _).trans (((cell_far (p := ⟨gb203, _, none⟩) NB197_203.out _).trans (((cell_far (p := ⟨gb203, _, none⟩) NB197_203.out _).trans (hHeld.1)))))))), ((cell_far (p := ⟨gb203, _, none⟩) NB197_203.out _).trans (((cell_far (p := ⟨gb203, _, none⟩) NB197_203.out _).trans (((cell_far (p := ⟨gb203, _, none⟩) NB197_203.out _).trans (((cell_far (p := ⟨gb203, _, none⟩) NB197_203.out _).trans (hHeld.2.1)))))))), ((cell_far (p := ⟨gb203, _, none⟩) NB197_203.out _).trans (((cell_far (p := ⟨gb203, _, none⟩) NB197_203.out _).trans (((cell_far (p := ⟨gb203, _, none⟩) NB197_203.out _).trans (((cell_far (p := ⟨gb203, _, none⟩) NB197_203.out _).trans (hHeld.2.2.1)))))))), ((cell_far (p := ⟨gb203, _, none⟩) NB197_203.out _).trans (((cell_far (p := ⟨gb203, _, none⟩) NB197_203.out _).trans (((cell_far (p := ⟨gb203, _, none⟩) NB197_203.out _).trans (((cell_far (p := ⟨gb203, _, none⟩) NB197_203.out _).trans (hHeld.2.2.2))))))))⟩ (fun hHeld => ?_)
      clear hK K
      refine done_ (done_of HT_.out kr_) ?_
      have hnb26 := NB197_198.out
      have hnc26 := NB198_197.out
      have hnb27 := NB197_203.out
      have hnc27 := NB203_197.out
      have hcz28_0 : w20.cell? ⟨gb197, 0, none⟩ = some (.int .i64 a0_0) := bc_ BK197 0
      have hcz28_1 : w20.cell? ⟨gb197, 1, none⟩ = some (.slice A0_1 l0_1.length c0_1) := bc_ BK197 1
      have hcz28_2 : w20.cell? ⟨gb197, 2, none⟩ = some (.slice A0_2 l0_2.length c0_2) := bc_ BK197 2
      have hcz28_3 : w20.cell? ⟨gb197, 3, none⟩ = some (.slice A0_3 l0_3.length c0_3) := bc_ BK197 3
      have hfz28_0 := blk_frozen BK197.out 0
      have hfz28_1 := blk_frozen BK197.out 1
      have hfz28_2 := blk_frozen BK197.out 2
      have hfz28_3 := blk_frozen BK197.out 3
      obtain ⟨i029, hi029, _, hsz29, _⟩ := info_parts info9
      obtain ⟨A29, hcut29, hA29, hC29⟩ := print_mid_of (P := Tryz.prog) Value.string (⟨#[]⟩ : ByteArray) 22 9 .i64 .i64 Tryz.underlying22 hi029 hsz29 A0_2 c0_2 l0_2 a1 a2 (of_decide_eq_true as_) (by first | omega | exact of_decide_eq_true as_) (of_decide_eq_true as_) HC0_2.out
      have HR204 := am_ (Kd.C_of_reads (h1 := fun _ => rfl) (hA29 _ (Kd.reads_of_C HR0_2.out)))
      have HC204 := am_ hC29
      clear hA29 hC29 hi029 hsz29
      try go_wp2_with (first | ((with_reducible refine gate_callee (f := 103) rfl ?_); refine goesL_ (some 25) rfl rfl Tryz.func103 kr_ rfl #[.slice A29 ((l0_2.take (a2 : Int).toNat).drop (a1 : Int).toNat).length (c0_2 - a1.toNat)] rfl (by (try simp only [List.map_toArray, List.map_cons, List.map_nil]); first | done | (rw [show ((l0_2.take (a2 : Int).toNat).drop (a1 : Int).toNat).length = (a2.toNat - a1.toNat) from (by rw [List.length_drop, List.length_take]; have h_ : (a2 : Int) ≤ (l0_2.length : Int) := of_decide_eq_true as_; omega)] <;> rfl) | rfl | (simp only [List.length_drop, List.length_take]; rfl)) ?_; (with_reducible refine (slices_Clone_string_string.calls _ _ ((l0_2.take (a2 : Int).toNat).drop (a1 : Int).toNat) t205 _ ?side1 ?side2 A12.out).mono ?_); (case side1 => exact Kd.C_below HR204.out bl_); (case side2 => exact HC204.out); rintro e w30 ⟨v206, rfl, ho0, hb⟩; refine ⟨_, rfl, ?_⟩; have HO207 := am_ (Kd.R_lower (Kd.R_new' ho0 (Kd.R_lt (by (with_reducible repeat (first | apply Kd.R_alloc | apply Kd.R_drewN | apply Kd.R_drew)); exact (Kd.R_mono (Kd.R_far (p := ⟨gb203, 3, none⟩) (Kd.R_far (p := ⟨gb203, 2, none⟩) (Kd.R_far (p := ⟨gb203, 1, none⟩) (Kd.R_far (p := ⟨gb203, 0, none⟩) (Kd.R_types HO202.out BK203.out (by decide)) (fun _ hk => hk.2) (.int .i64 a0_0)) (fun _ hk => hk.2) (.slice Ao21 t200.length co21)) (fun _ hk => hk.2) (.slice none 0 0)) (fun _ hk => hk.2) (.slice none 0 0)) (fun _ h_ => h_.1))))) (below_size bl_)); replace HO202 := am_ (Kd.R_elder' (by (with_reducible repeat (first | apply Kd.R_alloc | apply Kd.R_drewN | apply Kd.R_drew)); exact (Kd.R_mono (Kd.R_far (p := ⟨gb203, 3, none⟩) (Kd.R_far (p := ⟨gb203, 2, none⟩) (Kd.R_far (p := ⟨gb203, 1, none⟩) (Kd.R_far (p := ⟨gb203, 0, none⟩) (Kd.R_types HO202.out BK203.out (by decide)) (fun _ hk => hk.2) (.int .i64 a0_0)) (fun _ hk => hk.2) (.slice Ao21 t200.length co21)) (fun _ hk => hk.2) (.slice none 0 0)) (fun _ hk => hk.2) (.slice none 0 0)) (fun _ h_ => h_.1))) (Kd.R_base ho0) hb); replace BK197 := am_ (blk_below (g := gb197) (o := .cells #[.int .i64 a0_0, .slice A0_1 l0_1.length c0_1, .slice A0_2 l0_2.length c0_2, .slice A0_3 l0_3.length c0_3] 149 (0, 0)) (bf_ NB197_203 BK197) hb); replace BK198 := am_ (blk_below (g := gb198) (o := .cells #[.int .i64 0, .slice none 0 0, .slice none 0 0, .slice none 0 0] 149 (0, 0)) (bf_ NB198_203 BK198) hb); replace BK203 := am_ (blk_below (g := gb203) (o := .cells #[.int .i64 a0_0, .slice Ao21 t200.length co21, .slice none 0 0, .slice none 0 0] 149 (0, 0)) (bp_ BK203) hb); replace HB := am_ (below_step bl_ hb); (try clear hb); (try clear hb2); (try clear hk); (try clear hi); (try clear ho0); obtain ⟨Ao31, co31, eo31⟩ := Kd.R_slice HO207.out; subst eo31; have hnb32 := NB203_198.out; have hnc32 := NB198_203.out; have hcz33_0 : w30.cell? ⟨gb203, 0, none⟩ = some (.int .i64 a0_0) := bc_ BK203 0; have hcz33_1 : w30.cell? ⟨gb203, 1, none⟩ = some (.slice Ao21 t200.length co21) := bc_ BK203 1; have hcz33_2 : w30.cell? ⟨gb203, 2, none⟩ = some (.slice none 0 0) := bc_ BK203 2; have hcz33_3 : w30.cell? ⟨gb203, 3, none⟩ = some (.slice none 0 0) := bc_ BK203 3; have hfz33_0 := blk_frozen BK203.out 0; have hfz33_1 := blk_frozen BK203.out 1; have hfz33_2 := blk_frozen BK203.out 2; have hfz33_3 := blk_frozen BK203.out 3; have hcz34_0 : w30.cell? ⟨gb198, 0, none⟩ = some (.int .i64 0) := bc_ BK198 0; have hcz34_1 : w30.cell? ⟨gb198, 1, none⟩ = some (.slice none 0 0) := bc_ BK198 1; have hcz34_2 : w30.cell? ⟨gb198, 2, none⟩ = some (.slice none 0 0) := bc_ BK198 2; have hcz34_3 : w30.cell? ⟨gb198, 3, none⟩ = some (.slice none 0 0) := bc_ BK198 3; have hfz34_0 := blk_frozen BK198.out 0; have hfz34_1 := blk_frozen BK198.out 1; have hfz34_2 := blk_frozen BK198.out 2; have hfz34_3 := blk_frozen BK198.out 3))
      refine bodyPost_ret (results_cell_row rfl _ _ gb198 149 #[.int .i64 a0_0, .slice Ao21 t200.length co21, .slice Ao31 t205.length co31, .slice none 0 0] (0, 0) _ rfl (by (with_reducible repeat (first | refine blk_drewN ?_ _ | refine blk_drew ?_ | refine blk_alloc ?_ _)); refine blk_put (cs := #[.int .i64 a0_0, .slice Ao21 t200.length co21, .slice Ao31 t205.length co31, .slice none 0 0]) ?_ 3 _ rfl; (with_reducible repeat (first | refine blk_drewN ?_ _ | refine blk_drew ?_ | refine blk_alloc ?_ _)); refine blk_put (cs := #[.int .i64 a0_0, .slice Ao21 t200.length co21, .slice none 0 0, .slice none 0 0]) ?_ 2 _ rfl; (with_reducible repeat (first | refine blk_drewN ?_ _ | refine blk_drew ?_ | refine blk_alloc ?_ _)); refine blk_put (cs := #[.int .i64 a0_0, .slice none 0 0, .slice none 0 0, .slice none 0 0]) ?_ 1 _ rfl; (with_reducible repeat (first | refine blk_drewN ?_ _ | refine blk_drew ?_ | refine blk_alloc ?_ _)); refine blk_put (cs := #[.int .i64 0, .slice none 0 0, .slice none 0 0, .slice none 0 0]) ?_ 0 _ rfl; (with_reducible repeat (first | refine blk_drewN ?_ _ | refine blk_drew ?_ | refine blk_alloc ?_ _)); refine blk_far ?_ NB198_203.out _; (with_reducible repeat (first | refine blk_drewN ?_ _ | refine blk_drew ?_ | refine blk_alloc ?_ _)); exact BK198.out) Tryz.underlying149 rfl kr_) rfl ?_
      exact ⟨_, _, _, er_, by (with_reducible repeat (first | apply Kd.R_alloc | apply Kd.R_drewN | apply Kd.R_drew)); exact Kd.R_mono (Kd.R_far (p := ⟨gb198, 3, none⟩) (Kd.R_far (p := ⟨gb198, 2, none⟩) (Kd.R_far (p := ⟨gb198, 1, none⟩) (Kd.R_far (p := ⟨gb198, 0, none⟩) (Kd.R_far (p := ⟨gb203, 2, none⟩) (Kd.R_types (Kd.R_types HO202.out BK203.out (by decide)) BK198.out (by decide)) (fun _ hk => hk.1.2) (.slice Ao31 t205.length co31)) (fun _ hk => hk.2) (.int .i64 a0_0)) (fun _ hk => hk.2) (.slice Ao21 t200.length co21)) (fun _ hk => hk.2) (.slice Ao31 t205.length co31)) (fun _ hk => hk.2) (.slice none 0 0)) (fun _ hk => hk.1.1.2), by (with_reducible repeat (first | apply Kd.R_alloc | apply Kd.R_drewN | apply Kd.R_drew)); exact Kd.R_mono (Kd.R_far (p := ⟨gb198, 3, none⟩) (Kd.R_far (p := ⟨gb198, 2, none⟩) (Kd.R_far (p := ⟨gb198, 1, none⟩) (Kd.R_far (p := ⟨gb198, 0, none⟩) (Kd.R_far (p := ⟨gb203, 2, none⟩) (Kd.R_types (Kd.R_types HO207.out BK203.out (by decide)) BK198.out (by decide)) (fun _ hk => hk.1.2) (.slice Ao31 t205.length co31)) (fun _ hk => hk.2) (.int .i64 a0_0)) (fun _ hk => hk.2) (.slice Ao21 t200.length co21)) (fun _ hk => hk.2) (.slice Ao31 t205.length co31)) (fun _ hk => hk.2) (.slice none 0 0)) (fun _ hk => hk.1.1.2), ni_, by exact bl_⟩
     ·rw [if_neg c11] at H
      exact absurd H (by simp)
    ·rw [if_neg c8] at H
     have c8b0 : (a0_0 == 1) = false := beq_eq_false_iff_ne.mpr c8
     have c8b1 : (a0_0 != 1) = true := bne_iff_ne.mpr c8
     have c35b0 := eq_true (of_decide_eq_true as_ : 0 ≤ a1)
     have c36b0 := eq_true (of_decide_eq_true as_ : a1 ≤ a2)
     by_cases c37 : a2 ≤ (l0_3.length : Int)
     ·rw [if_pos c37] at H
      have c37b0 := eq_true c37
      have c37b1 : decide (a2 ≤ (l0_3.length : Int)) = true := decide_eq_true c37
      clear c37
      obtain ⟨t209, A38, H⟩ := bi_ H
      try dsimp only at H
      simp only [Option.some.injEq, Prod.mk.injEq] at H
      obtain ⟨rfl, rfl, rfl, rfl⟩ := H
      go_enter Tryz.func235, Tryz.ntmps235
      try go_wp2_with (first | ((with_reducible refine gate_dst (N := 3) rfl ?_); refine be_ (N := 3) (cs := #[.int .i64 a0_0, .slice A0_1 l0_1.length c0_1, .slice A0_2 l0_2.length c0_2, .slice A0_3 l0_3.length c0_3]) (t := 149) ?_; intro gb197 hg w39 hbox hb; have BK197 := am_ (hbox); have GW197 := am_ ((sz_ hg : w.heap.size ≤ gb197)); have GE197 := am_ ((sz_ hg : w.heap.size ≤ gb197)); replace HB := am_ (below_step bl_ hb); clear hb hbox hg) | ((with_reducible refine gate_dst (N := 6) rfl ?_); refine be_ (N := 6) (cs := #[.int .i64 0, .slice none 0 0, .slice none 0 0, .slice none 0 0]) (t := 149) ?_; intro gb198 hg w40 hbox hb; have BK198 := am_ (hbox); have GW198 := am_ ((sz_ hg : w.heap.size ≤ gb198)); have GE198 := am_ ((sz_ hg : w.heap.size ≤ gb198)); have NB197_198 := am_ ((nl_ hg BK197 : gb197 ≠ gb198)); have NB198_197 := am_ ((ng_ hg BK197 : gb198 ≠ gb197)); replace BK197 := am_ (bw_ BK197 hb); replace HB := am_ (below_step bl_ hb); clear hb hbox hg))
      replace BK197 := am_ (blk_drew BK197.out)
      replace BK198 := am_ (blk_drew BK198.out)
      replace HB := am_ (below_drew1 HB.out)
      obtain ⟨i042, hi042, _, hsz42, _⟩ := info_parts info9
      obtain ⟨A42, hcut42, hA42, hC42⟩ := print_mid_of (P := Tryz.prog) Value.string (⟨#[]⟩ : ByteArray) 22 9 .i64 .i64 Tryz.underlying22 hi042 hsz42 A0_1 c0_1 l0_1 a1 a2 (of_decide_eq_true as_) (by first | omega | exact of_decide_eq_true as_) (of_decide_eq_true as_) HC0_1.out
      have HR199 := am_ (Kd.C_of_reads (h1 := fun _ => rfl) (hA42 _ (Kd.reads_of_C HR0_1.out)))
      have HC199 := am_ hC42
      clear hA42 hC42 hi042 hsz42
      refine start_ (n := 11) (S := fun w' => w'.cell? ⟨gb197, 0, none⟩ = some (.int .i64 a0_0) ∧ w'.cell? ⟨gb197, 1, none⟩ = some (.slice A0_1 l0_1.length c0_1) ∧ w'.cell? ⟨gb197, 2, none⟩ = some (.slice A0_2 l0_2.length c0_2) ∧ w'.cell? ⟨gb197, 3, none⟩ = some (.slice A0_3 l0_3.length c0_3)) (ds := []) (bz 11 0) kr_ rfl rfl ⟨bc_ BK197 0, bc_ BK197 1, bc_ BK197 2, bc_ BK197 3⟩ (fun hHeld => ?_); refine with_tabW node_Node_cut.tab1 node_Node_cut.bits1 (fun HT_ HW_ => ?_)
      generalize w40.drew = w41 at BK197 BK198 HB HR199 hHeld ⊢
      refine pu_ (fun x y z => pure_ (i := 0) (N := some 8) (bz 11 1) rfl rfl (any_of HT_.out kr_) (fun _ _ _ h => h) (Or.inl ⟨by rfl, x⟩) y z) ?_
      refine pu_ (fun x y z => pure_ (i := 2) (N := some 10) (bz 11 5) rfl rfl (any_of HT_.out kr_) (fun _ _ _ h => h) (Or.inl ⟨by rfl, x⟩) y z) ?_
      refine pu_ (fun x y z => pure_ (i := 4) (N := some 12) (bz 11 21) rfl rfl (any_of HT_.out kr_) (fun _ _ _ h => h) (Or.inl ⟨by rfl, x⟩) y z) ?_
      refine pu_ (fun x y z => pure_ (i := 5) (N := some 13) (bz 11 53) rfl rfl (any_of HT_.out kr_) (fun _ _ _ h => h) (Or.inl ⟨by rfl, x⟩) y z) ?_
      refine take_ (i := 1) (N := some 9) (v := ?_) (a' := ?_) (bz 11 55) rfl rfl (take_ofW HT_.out HW_.out kr_) (fun _ _ _ h => h) (Or.inl ⟨by rfl, ?_⟩) hHeld ?_ ?_
      rotate_left
      ·rintro w' ⟨s0, s1, s2, s3⟩
       go_simp
       with_reducible rfl
      rotate_left
      ·simp only [Act.put, List.setIfInBounds_toArray, List.set_cons_zero, List.set_cons_succ, i64_w, i32_w]
       rfl
      refine take_ (i := 3) (N := some 11) (v := ?_) (a' := ?_) (bz 11 63) rfl rfl (take_ofW HT_.out HW_.out kr_) (fun _ _ _ h => h) (Or.inl ⟨by rfl, ?_⟩) hHeld ?_ ?_
      rotate_left
      ·rintro w' ⟨s0, s1, s2, s3⟩
       go_simp
       with_reducible rfl
      rotate_left
      ·simp only [Act.put, List.setIfInBounds_toArray, List.set_cons_zero, List.set_cons_succ, i64_w, i32_w]
       rfl
      refine pu_ (fun x y z => pure_ (i := 6) (N := some 14) (bz 11 127) rfl rfl (any_of HT_.out kr_) (fun _ _ _ h => h) (Or.inl ⟨by rfl, x⟩) y z) ?_
      refine join_ (σ := Value × Nat) 1 (bz 11 1023) (fun s_ => [(15, s_.1), (7, .pointer (some ⟨s_.2, 0, none⟩)), (16, .agg #[.int .i64 a0_0, s_.1, .slice none 0 0, .slice none 0 0])]) (fun s_ w' => (w'.cell? ⟨gb197, 0, none⟩ = some (.int .i64 a0_0) ∧ w'.cell? ⟨gb197, 1, none⟩ = some (.slice A0_1 l0_1.length c0_1) ∧ w'.cell? ⟨gb197, 2, none⟩ = some (.slice A0_2 l0_2.length c0_2) ∧ w'.cell? ⟨gb197, 3, none⟩ = some (.slice A0_3 l0_3.length c0_3)) ∧ (Kd.R Kd.string 9 w' w.heap.size (fun _ => True) s_.1 t200) ∧ (w'.heap[gb197]? = some (.cells #[.int .i64 a0_0, .slice A0_1 l0_1.length c0_1, .slice A0_2 l0_2.length c0_2, .slice A0_3 l0_3.length c0_3] 149 (0, 0))) ∧ (w'.heap[gb198]? = some (.cells #[.int .i64 0, .slice none 0 0, .slice none 0 0, .slice none 0 0] 149 (0, 0))) ∧ (w'.heap[s_.2]? = some (.cells #[.int .i64 0, .slice none 0 0, .slice none 0 0, .slice none 0 0] 149 (0, 0))) ∧ (w.heap.size ≤ s_.2) ∧ (w.heap.size ≤ s_.2) ∧ (gb197 ≠ s_.2) ∧ (s_.2 ≠ gb197) ∧ (gb198 ≠ s_.2) ∧ (s_.2 ≠ gb198) ∧ (Below w.heap.size w w')) ?_ ?_
      rotate_left
      ·intro hCont
       refine two_ (i := 7) (j := 9) (Ni := some 15) (Nj := some 7) (bz 11 255) (bz 11 639) rfl rfl rfl rfl (two_of HT_.out kr_) (by decide) (by decide) (fun K hK => ?_) (fun K hK => ?_)
       ·skip
        refine goes_ Tryz.func103 kr_ rfl #[.slice A42 ((l0_1.take (a2 : Int).toNat).drop (a1 : Int).toNat).length (c0_1 - a1.toNat)] (by rfl) rfl rfl (by (try simp only [List.map_toArray, List.map_cons, List.map_nil]); first | done | (rw [show ((l0_1.take (a2 : Int).toNat).drop (a1 : Int).toNat).length = (a2.toNat - a1.toNat) from (by rw [List.length_drop, List.length_take]; have h_ : (a2 : Int) ≤ (l0_1.length : Int) := of_decide_eq_true as_; omega)] <;> rfl) | rfl | (simp only [List.length_drop, List.length_take]; rfl)) ?_
        with_reducible refine (slices_Clone_string_string.calls _ _ ((l0_1.take (a2 : Int).toNat).drop (a1 : Int).toNat) t200 _ ?side1 ?side2 A7.out).mono ?_
        (case side1 => repeat (first | exact (Kd.C_below HR199.out HB.out) | (with_reducible refine Kd.C_alloc ?_ _) | (with_reducible refine Kd.C_drewN ?_ _) | (with_reducible refine Kd.C_drew ?_)))
        (case side2 => exact HC199.out)
        rintro e w43 ⟨v201, rfl, ho0, hb⟩
        refine ⟨_, rfl, ?_⟩
        have HO202 := am_ (Kd.R_lower ho0 (below_size bl_))
        replace BK197 := am_ (bw_ BK197 hb)
        replace BK198 := am_ (bw_ BK198 hb)
        replace HB := am_ (below_step bl_ hb)
        (try clear hb); (try clear ho0)
        obtain ⟨Ao44, co44, eo44⟩ := Kd.R_slice HO202.out
        (first | subst eo44 | (injection eo44 with f1_ f2_ f3_; have f4_ := f1_.symm; have f5_ := f3_.symm; clear f1_ f2_ f3_; subst f4_; subst f5_))
        refine hK.out _ _ ⟨bc_ BK197 0, bc_ BK197 1, bc_ BK197 2, bc_ BK197 3⟩ (fun hHeld => ?_)
        clear hK K
        refine no_ (some 15) ?_
        refine pu_ (fun x y z => pure_ (i := 8) (N := some 16) (bz 11 511) rfl rfl (any_of HT_.out kr_) (fun _ _ _ h => h) (Or.inl ⟨by rfl, x⟩) y z) ?_
        refine one_ (i := 9) (N := some 7) (bz 11 1023) rfl rfl (one_of HT_.out kr_) (by decide) (fun K hK => ?_)
        refine box_step ?hg (N := 7) ?hd (cs := #[.int .i64 0, .slice none 0 0, .slice none 0 0, .slice none 0 0]) (t := 149) ?hr ?_; (case hd => rfl); (case hg => rfl); (case hr => first | (go_simp; done) | (go_simp; rfl))
        intro gb203 hg w45 hbox hb
        have BK203 := am_ (hbox)
        have GW203 := am_ ((sz_ hg : w.heap.size ≤ gb203))
        have GE203 := am_ ((sz_ hg : w.heap.size ≤ gb203))
        have NB197_203 := am_ ((nl_ hg BK197 : gb197 ≠ gb203))
        have NB203_197 := am_ ((ng_ hg BK197 : gb203 ≠ gb197))
        have NB198_203 := am_ ((nl_ hg BK198 : gb198 ≠ gb203))
        have NB203_198 := am_ ((ng_ hg BK198 : gb203 ≠ gb198))
        replace HO202 := am_ (Kd.R_below (rx_ HO202) hb)
        replace BK197 := am_ (bw_ BK197 hb)
        replace BK198 := am_ (bw_ BK198 hb)
        replace HB := am_ (below_step bl_ hb)
        clear hb hbox hg
        refine hK.out _ _ ⟨bc_ BK197 0, bc_ BK197 1, bc_ BK197 2, bc_ BK197 3⟩ (fun hHeld => ?_)
        clear hK K
        refine no_ (some 7) ?_
        exact norm_ (by simp only [putAll, Act.put, List.setIfInBounds_toArray, List.set_cons_zero, List.set_cons_succ]) (hCont (.slice Ao44 t200.length co44, gb203) _ ⟨hHeld, (rx_ HO202), (bx_ BK197), (bx_ BK198), (bx_ BK203), GW203.out, GE203.out, NB197_203.out, NB203_197.out, NB198_203.out, NB203_198.out, bl_⟩)
       ·skip
        refine box_step ?hg (N := 7) ?hd (cs := #[.int .i64 0, .slice none 0 0, .slice none 0 0, .slice none 0 0]) (t := 149) ?hr ?_; (case hd => rfl); (case hg => rfl); (case hr => first | (go_simp; done) | (go_simp; rfl))
        intro gb203 hg w43 hbox hb
        have BK203 := am_ (hbox)
        have GW203 := am_ ((sz_ hg : w.heap.size ≤ gb203))
        have GE203 := am_ ((sz_ hg : w.heap.size ≤ gb203))
        have NB197_203 := am_ ((nl_ hg BK197 : gb197 ≠ gb203))
        have NB203_197 := am_ ((ng_ hg BK197 : gb203 ≠ gb197))
        have NB198_203 := am_ ((nl_ hg BK198 : gb198 ≠ gb203))
        have NB203_198 := am_ ((ng_ hg BK198 : gb203 ≠ gb198))
        replace BK197 := am_ (bw_ BK197 hb)
        replace BK198 := am_ (bw_ BK198 hb)
        replace HB := am_ (below_step bl_ hb)
        clear hb hbox hg
        refine hK.out _ _ ⟨bc_ BK197 0, bc_ BK197 1, bc_ BK197 2, bc_ BK197 3⟩ (fun hHeld => ?_)
        clear hK K
        refine no_ (some 7) ?_
        refine one_ (i := 7) (N := some 15) (bz 11 767) rfl rfl (one_of HT_.out kr_) (by decide) (fun K hK => ?_)
        refine goes_ Tryz.func103 kr_ rfl #[.slice A42 ((l0_1.take (a2 : Int).toNat).drop (a1 : Int).toNat).length (c0_1 - a1.toNat)] (by rfl) rfl rfl (by (try simp only [List.map_toArray, List.map_cons, List.map_nil]); first | done | (rw [show ((l0_1.take (a2 : Int).toNat).drop (a1 : Int).toNat).length = (a2.toNat - a1.toNat) from (by rw [List.length_drop, List.length_take]; have h_ : (a2 : Int) ≤ (l0_1.length : Int) := of_decide_eq_true as_; omega)] <;> rfl) | rfl | (simp only [List.length_drop, List.length_take]; rfl)) ?_
        with_reducible refine (slices_Clone_string_string.calls _ _ ((l0_1.take (a2 : Int).toNat).drop (a1 : Int).toNat) t200 _ ?side1 ?side2 A7.out).mono ?_
        (case side1 => repeat (first | exact (Kd.C_below HR199.out HB.out) | (with_reducible refine Kd.C_alloc ?_ _) | (with_reducible refine Kd.C_drewN ?_ _) | (with_reducible refine Kd.C_drew ?_)))
        (case side2 => exact HC199.out)
        rintro e w44 ⟨v201, rfl, ho0, hb⟩
        refine ⟨_, rfl, ?_⟩
        have HO202 := am_ (Kd.R_lower ho0 (below_size bl_))
        replace BK197 := am_ (bw_ BK197 hb)
        replace BK198 := am_ (bw_ BK198 hb)
        replace BK203 := am_ (bw_ BK203 hb)
        replace HB := am_ (below_step bl_ hb)
        (try clear hb); (try clear ho0)
        obtain ⟨Ao45, co45, eo45⟩ := Kd.R_slice HO202.out
        (first | subst eo45 | (injection eo45 with f1_ f2_ f3_; have f4_ := f1_.symm; have f5_ := f3_.symm; clear f1_ f2_ f3_; subst f4_; subst f5_))
        refine hK.out _ _ ⟨bc_ BK197 0, bc_ BK197 1, bc_ BK197 2, bc_ BK197 3⟩ (fun hHeld => ?_)
        clear hK K
        refine no_ (some 15) ?_
        refine pu_ (fun x y z => pure_ (i := 8) (N := some 16) (bz 11 1023) rfl rfl (any_of HT_.out kr_) (fun _ _ _ h => h) (Or.inl ⟨by rfl, x⟩) y z) ?_
        exact norm_ (by simp only [putAll, Act.put, List.setIfInBounds_toArray, List.set_cons_zero, List.set_cons_succ]) (hCont (.slice Ao45 t200.length co45, gb203) _ ⟨hHeld, (rx_ HO202), (bx_ BK197), (bx_ BK198), (bx_ BK203), GW203.out, GE203.out, NB197_203.out, NB203_197.out, NB198_203.out, NB203_198.out, bl_⟩)
      rintro ⟨v201, gb203⟩ w46 ⟨hS_, h0_, h1_, h2_, h3_, h4_, h5_, h6_, h7_, h8_, h9_, h10_⟩
      have n0_ : Aside0 (Kd.R Kd.string 9 w46 w.heap.size (fun _ => True) v201 t200) := ⟨h0_⟩
      have n1_ : Aside0 (w46.heap[gb197]? = some (.cells #[.int .i64 a0_0, .slice A0_1 l0_1.length c0_1, .slice A0_2 l0_2.length c0_2, .slice A0_3 l0_3.length c0_3] 149 (0, 0))) := ⟨h1_⟩
      have n2_ : Aside0 (w46.heap[gb198]? = some (.cells #[.int .i64 0, .slice none 0 0, .slice none 0 0, .slice none 0 0] 149 (0, 0))) := ⟨h2_⟩
      have n3_ : Aside0 (w46.heap[gb203]? = some (.cells #[.int .i64 0, .slice none 0 0, .slice none 0 0, .slice none 0 0] 149 (0, 0))) := ⟨h3_⟩
      have n4_ : Aside0 (w.heap.size ≤ gb203) := ⟨h4_⟩
      have n5_ : Aside0 (w.heap.size ≤ gb203) := ⟨h5_⟩
      have n6_ : Aside0 (gb197 ≠ gb203) := ⟨h6_⟩
      have n7_ : Aside0 (gb203 ≠ gb197) := ⟨h7_⟩
      have n8_ : Aside0 (gb198 ≠ gb203) := ⟨h8_⟩
      have n9_ : Aside0 (gb203 ≠ gb198) := ⟨h9_⟩
      have n10_ : Aside0 (Below w.heap.size w w46) := ⟨h10_⟩
      clear BK197 BK198 HB h0_ h1_ h2_ h3_ h4_ h5_ h6_ h7_ h8_ h9_ h10_
      have HO202 := n0_
      have BK197 := n1_
      have BK198 := n2_
      have BK203 := n3_
      have GW203 := n4_
      have GE203 := n5_
      have NB197_203 := n6_
      have NB203_197 := n7_
      have NB198_203 := n8_
      have NB203_198 := n9_
      have HB := n10_
      clear n0_ n1_ n2_ n3_ n4_ n5_ n6_ n7_ n8_ n9_ n10_
      have hHeld : w46.cell? ⟨gb197, 0, none⟩ = some (.int .i64 a0_0) ∧ w46.cell? ⟨gb197, 1, none⟩ = some (.slice A0_1 l0_1.length c0_1) ∧ w46.cell? ⟨gb197, 2, none⟩ = some (.slice A0_2 l0_2.length c0_2) ∧ w46.cell? ⟨gb197, 3, none⟩ = some (.slice A0_3 l0_3.length c0_3) := hS_
      obtain ⟨Ao47, co47, eo47⟩ := Kd.R_slice HO202.out
      (first | subst eo47 | (injection eo47 with f1_ f2_ f3_; have f4_ := f1_.symm; have f5_ := f3_.symm; clear f1_ f2_ f3_; subst f4_; subst f5_))
      refine norm_ (a' := ?_) ?_ ?_
      rotate_left
      ·simp only [putAll, Act.put, List.setIfInBounds_toArray, List.set_cons_zero, List.set_cons_succ]
       rfl
      refine one_ (i := 10) (N := none) (bz 11 2047) rfl rfl (one_of HT_.out kr_) (by decide) (fun K hK => ?_)
      have hs48 : w46.cell? ⟨gb203, 0, none⟩ = some (.int .i64 0) := bc_ BK203 0
      have hfs48 := blk_frozen BK203.out 0
      have hns48_0 := NB197_203.out
      have hns48_1 := NB198_203.out
      have hms48_0 := NB203_197.out
      have hms48_1 := NB203_198.out
      have hs49 : w46.cell? ⟨gb203, 1, none⟩ = some (.slice none 0 0) := bc_ BK203 1
      have hfs49 := blk_frozen BK203.out 1
      have hns49_0 := NB197_203.out
      have hns49_1 := NB198_203.out
      have hms49_0 := NB203_197.out
      have hms49_1 := NB203_198.out
      have hs50 : w46.cell? ⟨gb203, 2, none⟩ = some (.slice none 0 0) := bc_ BK203 2
      have hfs50 := blk_frozen BK203.out 2
      have hns50_0 := NB197_203.out
      have hns50_1 := NB198_203.out
      have hms50_0 := NB203_197.out
      have hms50_1 := NB203_198.out
      have hs51 : w46.cell? ⟨gb203, 3, none⟩ = some (.slice none 0 0) := bc_ BK203 3
      have hfs51 := blk_frozen BK203.out 3
      have hns51_0 := NB197_203.out
      have hns51_1 := NB198_203.out
      have hms51_0 := NB203_197.out
      have hms51_1 := NB203_198.out
      refine skip_ (w1 := ?_) (by rfl) rfl ?_ ?_
      rotate_left
      ·go_simp
       rfl
      refine hK.out _ _ ⟨((cell_far (p := ⟨gb203, _, none⟩) NB197_203.out _).trans (((cell_far (p := ⟨gb203, _, none⟩) NB197_203.out _).trans (((cell_far (p := ⟨gb203, _, none⟩) NB197_203.out _).trans (((cell_far (p := ⟨gb203, _, none⟩) NB197_203.out _).trans (hHeld.1)))))))), ((cell_far (p := ⟨gb203, _, none⟩) NB197_203.out _).trans (((cell_far (p := ⟨gb203, _, none⟩) NB197_203.out _).trans (((cell_far (p := ⟨gb203, _, none⟩) NB197_203.out _).trans (((cell_far (p := ⟨gb203, _, none⟩) NB197_203.out _).trans (hHeld.2.1)))))))), ((cell_far (p := ⟨gb203, _, none⟩) NB197_203.out _).trans (((cell_far (p := ⟨gb203, _, none⟩) NB197_203.out _).trans (((cell_far (p := ⟨gb203, _, none⟩) NB197_203.out _).trans (((cell_far (p := ⟨gb203, _, none⟩) NB197_203.out _).trans (hHeld.2.2.1)))))))), ((cell_far (p := ⟨gb203, _, none⟩) NB197_203.out _).trans (((cell_far (p := ⟨gb203, _, none⟩) NB197_203.out _).trans (((cell_far (p := ⟨gb203, _, none⟩) NB197_203.out _).trans (((cell_far (p := ⟨gb203, _, none⟩) NB197_203.out _).trans (hHeld.2.2.2))))))))⟩ (fun hHeld => ?_)
      clear hK K
      refine done_ (done_of HT_.out kr_) ?_
      have hnb52 := NB197_198.out
      have hnc52 := NB198_197.out
      have hnb53 := NB197_203.out
      have hnc53 := NB203_197.out
      have hcz54_0 : w46.cell? ⟨gb197, 0, none⟩ = some (.int .i64 a0_0) := bc_ BK197 0
      have hcz54_1 : w46.cell? ⟨gb197, 1, none⟩ = some (.slice A0_1 l0_1.length c0_1) := bc_ BK197 1
      have hcz54_2 : w46.cell? ⟨gb197, 2, none⟩ = some (.slice A0_2 l0_2.length c0_2) := bc_ BK197 2
      have hcz54_3 : w46.cell? ⟨gb197, 3, none⟩ = some (.slice A0_3 l0_3.length c0_3) := bc_ BK197 3
      have hfz54_0 := blk_frozen BK197.out 0
      have hfz54_1 := blk_frozen BK197.out 1
      have hfz54_2 := blk_frozen BK197.out 2
      have hfz54_3 := blk_frozen BK197.out 3
      obtain ⟨i055, hi055, _, hsz55, _⟩ := info_parts info3
      obtain ⟨A55, hcut55, hA55, hC55⟩ := print_mid_of (P := Tryz.prog) (Value.int .i64) 0 84 3 .i64 .i64 Tryz.underlying84 hi055 hsz55 A0_3 c0_3 l0_3 a1 a2 (of_decide_eq_true as_) (by first | omega | exact of_decide_eq_true as_) (of_decide_eq_true as_) HC0_3.out
      have HR208 := am_ (Kd.C_of_reads (h1 := fun _ => rfl) (hA55 _ (Kd.reads_of_C HR0_3.out)))
      have HC208 := am_ hC55
      clear hA55 hC55 hi055 hsz55
      try go_wp2_with (first | ((with_reducible refine gate_callee (f := 230) rfl ?_); refine goesL_ (some 32) rfl rfl Tryz.func230 kr_ rfl #[.slice A55 ((l0_3.take (a2 : Int).toNat).drop (a1 : Int).toNat).length (c0_3 - a1.toNat)] rfl (by (try simp only [List.map_toArray, List.map_cons, List.map_nil]); first | done | (rw [show ((l0_3.take (a2 : Int).toNat).drop (a1 : Int).toNat).length = (a2.toNat - a1.toNat) from (by rw [List.length_drop, List.length_take]; have h_ : (a2 : Int) ≤ (l0_3.length : Int) := of_decide_eq_true as_; omega)] <;> rfl) | rfl | (simp only [List.length_drop, List.length_take]; rfl)) ?_; (with_reducible refine (slices_Clone_int_int.calls _ _ ((l0_3.take (a2 : Int).toNat).drop (a1 : Int).toNat) t209 _ ?side1 ?side2 A38.out).mono ?_); (case side1 => exact Kd.C_below HR208.out bl_); (case side2 => exact HC208.out); rintro e w56 ⟨v210, rfl, ho0, hb⟩; refine ⟨_, rfl, ?_⟩; have HO211 := am_ (Kd.R_lower ho0 (below_size bl_)); replace HO202 := am_ (Kd.R_below (by (with_reducible repeat (first | apply Kd.R_alloc | apply Kd.R_drewN | apply Kd.R_drew)); exact (Kd.R_mono (Kd.R_far (p := ⟨gb203, 3, none⟩) (Kd.R_far (p := ⟨gb203, 2, none⟩) (Kd.R_far (p := ⟨gb203, 1, none⟩) (Kd.R_far (p := ⟨gb203, 0, none⟩) (Kd.R_types HO202.out BK203.out (by decide)) (fun _ hk => hk.2) (.int .i64 a0_0)) (fun _ hk => hk.2) (.slice Ao47 t200.length co47)) (fun _ hk => hk.2) (.slice none 0 0)) (fun _ hk => hk.2) (.slice none 0 0)) (fun _ h_ => h_.1))) hb); replace BK197 := am_ (blk_below (g := gb197) (o := .cells #[.int .i64 a0_0, .slice A0_1 l0_1.length c0_1, .slice A0_2 l0_2.length c0_2, .slice A0_3 l0_3.length c0_3] 149 (0, 0)) (bf_ NB197_203 BK197) hb); replace BK198 := am_ (blk_below (g := gb198) (o := .cells #[.int .i64 0, .slice none 0 0, .slice none 0 0, .slice none 0 0] 149 (0, 0)) (bf_ NB198_203 BK198) hb); replace BK203 := am_ (blk_below (g := gb203) (o := .cells #[.int .i64 a0_0, .slice Ao47 t200.length co47, .slice none 0 0, .slice none 0 0] 149 (0, 0)) (bp_ BK203) hb); replace HB := am_ (below_step bl_ hb); (try clear hb); (try clear hb2); (try clear hk); (try clear hi); (try clear ho0); obtain ⟨Ao57, co57, eo57⟩ := Kd.R_slice HO211.out; subst eo57; have hnb58 := NB203_198.out; have hnc58 := NB198_203.out; have hcz59_0 : w56.cell? ⟨gb203, 0, none⟩ = some (.int .i64 a0_0) := bc_ BK203 0; have hcz59_1 : w56.cell? ⟨gb203, 1, none⟩ = some (.slice Ao47 t200.length co47) := bc_ BK203 1; have hcz59_2 : w56.cell? ⟨gb203, 2, none⟩ = some (.slice none 0 0) := bc_ BK203 2; have hcz59_3 : w56.cell? ⟨gb203, 3, none⟩ = some (.slice none 0 0) := bc_ BK203 3; have hfz59_0 := blk_frozen BK203.out 0; have hfz59_1 := blk_frozen BK203.out 1; have hfz59_2 := blk_frozen BK203.out 2; have hfz59_3 := blk_frozen BK203.out 3; have hcz60_0 : w56.cell? ⟨gb198, 0, none⟩ = some (.int .i64 0) := bc_ BK198 0; have hcz60_1 : w56.cell? ⟨gb198, 1, none⟩ = some (.slice none 0 0) := bc_ BK198 1; have hcz60_2 : w56.cell? ⟨gb198, 2, none⟩ = some (.slice none 0 0) := bc_ BK198 2; have hcz60_3 : w56.cell? ⟨gb198, 3, none⟩ = some (.slice none 0 0) := bc_ BK198 3; have hfz60_0 := blk_frozen BK198.out 0; have hfz60_1 := blk_frozen BK198.out 1; have hfz60_2 := blk_frozen BK198.out 2; have hfz60_3 := blk_frozen BK198.out 3))
      refine bodyPost_ret (results_cell_row rfl _ _ gb198 149 #[.int .i64 a0_0, .slice Ao47 t200.length co47, .slice none 0 0, .slice Ao57 t209.length co57] (0, 0) _ rfl (by (with_reducible repeat (first | refine blk_drewN ?_ _ | refine blk_drew ?_ | refine blk_alloc ?_ _)); refine blk_put (cs := #[.int .i64 a0_0, .slice Ao47 t200.length co47, .slice none 0 0, .slice none 0 0]) ?_ 3 _ rfl; (with_reducible repeat (first | refine blk_drewN ?_ _ | refine blk_drew ?_ | refine blk_alloc ?_ _)); refine blk_put (cs := #[.int .i64 a0_0, .slice Ao47 t200.length co47, .slice none 0 0, .slice none 0 0]) ?_ 2 _ rfl; (with_reducible repeat (first | refine blk_drewN ?_ _ | refine blk_drew ?_ | refine blk_alloc ?_ _)); refine blk_put (cs := #[.int .i64 a0_0, .slice none 0 0, .slice none 0 0, .slice none 0 0]) ?_ 1 _ rfl; (with_reducible repeat (first | refine blk_drewN ?_ _ | refine blk_drew ?_ | refine blk_alloc ?_ _)); refine blk_put (cs := #[.int .i64 0, .slice none 0 0, .slice none 0 0, .slice none 0 0]) ?_ 0 _ rfl; (with_reducible repeat (first | refine blk_drewN ?_ _ | refine blk_drew ?_ | refine blk_alloc ?_ _)); refine blk_far ?_ NB198_203.out _; (with_reducible repeat (first | refine blk_drewN ?_ _ | refine blk_drew ?_ | refine blk_alloc ?_ _)); exact BK198.out) Tryz.underlying149 rfl kr_) rfl ?_
      exact ⟨_, _, _, er_, by (with_reducible repeat (first | apply Kd.R_alloc | apply Kd.R_drewN | apply Kd.R_drew)); exact Kd.R_mono (Kd.R_far (p := ⟨gb198, 3, none⟩) (Kd.R_far (p := ⟨gb198, 2, none⟩) (Kd.R_far (p := ⟨gb198, 1, none⟩) (Kd.R_far (p := ⟨gb198, 0, none⟩) (Kd.R_far (p := ⟨gb203, 3, none⟩) (Kd.R_types (Kd.R_types HO202.out BK203.out (by decide)) BK198.out (by decide)) (fun _ hk => hk.1.2) (.slice Ao57 t209.length co57)) (fun _ hk => hk.2) (.int .i64 a0_0)) (fun _ hk => hk.2) (.slice Ao47 t200.length co47)) (fun _ hk => hk.2) (.slice none 0 0)) (fun _ hk => hk.2) (.slice Ao57 t209.length co57)) (fun _ hk => (by simp [Value.ownBlock])), ni_, by (with_reducible repeat (first | apply Kd.R_alloc | apply Kd.R_drewN | apply Kd.R_drew)); exact Kd.R_mono (Kd.R_far (p := ⟨gb198, 3, none⟩) (Kd.R_far (p := ⟨gb198, 2, none⟩) (Kd.R_far (p := ⟨gb198, 1, none⟩) (Kd.R_far (p := ⟨gb198, 0, none⟩) (Kd.R_far (p := ⟨gb203, 3, none⟩) (Kd.R_types (Kd.R_types HO211.out BK203.out (by decide)) BK198.out (by decide)) (fun _ hk => hk.1.2) (.slice Ao57 t209.length co57)) (fun _ hk => hk.2) (.int .i64 a0_0)) (fun _ hk => hk.2) (.slice Ao47 t200.length co47)) (fun _ hk => hk.2) (.slice none 0 0)) (fun _ hk => hk.2) (.slice Ao57 t209.length co57)) (fun _ hk => trivial), by exact bl_⟩
     ·rw [if_neg c37] at H
      exact absurd H (by simp)
   ·rw [if_neg c6] at H
    exact absurd H (by simp)
  ·rw [if_neg c5] at H
   exact absurd H (by simp)
 ·rw [if_neg c4] at H
  exact absurd H (by simp)

end Go.Proofs.YtendgmblgdkiaaaGreat.PNd

namespace Go.Proofs.YtendgmblgdkiaaaGreat.PNd
open Go.RowKit Go.Proofs.YtendgmblgdkiaaaGreatW.PrintWords Go.Proofs.YtendgmblgdkiaaaGreatW.PrintLast Go.Proofs.YtendgmblgdkiaaaGreatW.PrintMore
attribute [local go_sem] max2_int min2_int max_two min_two
set_option linter.unusedVariables false
set_option linter.unusedSimpArgs false

/-! ### node_Node_Split: function 203 -/
-- NOT PRINTED: function 155 (slices_overlaps_string)

end Go.Proofs.YtendgmblgdkiaaaGreat.PNd

namespace Go.Proofs.YtendgmblgdkiaaaGreat
open Go.RowKit
open Go.Proofs.YtendgmblgdkiaaaGreatW
open PrintWords (rd rdOf bt mx shl LeO more_rounds)
set_option linter.unusedVariables false
set_option linter.unusedSimpArgs false

structure Nd where
 kind : Int
 keys : List BA
 vals : List BA
 kids : List Int
namespace Nd
def pack (n : Nd) : ByteArray := packOf n.kind n.keys n.vals n.kids
def fine (n : Nd) : Bool := packFine n.kind n.keys n.vals n.kids
def ok (n : Nd) : Bool := nodeOk n.kind n.keys n.vals n.kids
def ent (n : Nd) (i : Nat) : Nat := (entryOf n.kind (n.keys.getD i ByteArray.empty) (n.vals.getD i ByteArray.empty) (n.kids.getD i 0)).size
def S (n : Nd) (i : Nat) : Nat := (entriesOf n.kind n.keys n.vals n.kids i).size
def cut (n : Nd) (i j : Nat) : Nd := ⟨n.kind, (n.keys.take j).drop i, (n.vals.take j).drop i, (n.kids.take j).drop i⟩
theorem S_succ (n : Nd) (i : Nat) : n.S (i + 1) = n.S i + n.ent i := ByteArray.size_append
theorem S_zero (n : Nd) : n.S 0 = 0 := rfl
theorem S_le (n : Nd) (i : Nat) : ∀ d, n.S i ≤ n.S (i + d)
 | 0 => Nat.le_refl _
 | d + 1 => by have := S_le n i d; have := n.S_succ (i + d); rw [Nat.add_assoc] at this; omega
theorem pack_size (n : Nd) : n.pack.size = (vNum n.keys.length).size + n.S n.keys.length := ByteArray.size_append
/-- Just the lists that its kind has. -/
def Shape (n : Nd) : Prop := n.kind = 1 ∧ n.vals.length = n.keys.length ∧ n.kids = [] ∨ n.kind = 2 ∧ n.kids.length = n.keys.length ∧ n.vals = []
end Nd

theorem entry_f {n : Nd} (F : n.fine = true) {i : Nat} (hi : i < n.keys.length) (k : Nat) (hk : 10 ≤ k) :
  ∃ s : ByteArray, PNd.node_Node_entry.f k n.kind n.keys n.vals n.kids (i : Int) = some s ∧ s.size = n.ent i := by
 obtain ⟨j, rfl⟩ := Nat.exists_eq_add_of_le hk
 exact ⟨_, more_rounds (g := fun k => PNd.node_Node_entry.f k n.kind n.keys n.vals n.kids (i : Int)) (fun k => PNd.node_Node_entry.mono _ _ _ _ _ k) 10 j _ (node_entry (packFine_out F) hi), rfl⟩

theorem cut_f (n : Nd) (hs : n.Shape) (i j : Nat) (hij : i ≤ j) (hj : j ≤ n.keys.length) (hn : n.keys.length ≤ 1000000) :
  PNd.node_Node_cut.f n.kind n.keys n.vals n.kids (i : Int) (j : Int) = some ((n.cut i j).kind, (n.cut i j).keys, (n.cut i j).vals, (n.cut i j).kids) := by
 have hl : ∀ {α : Type} (l : List α), l.length ≤ 1000000 → ((l.take j).drop i).length ≤ 1000000 := by
  intro α l h
  simp only [List.length_drop, List.length_take]
  omega
 unfold PNd.node_Node_cut.f
 simp only [Int.toNat_natCast]
 rw [if_pos (by omega), if_pos (by omega), if_pos (by omega), clone_s _ (hl _ hn)]
 simp only [Option.bind_some]
 rcases hs with ⟨h1, h2, h3⟩ | ⟨h1, h2, h3⟩
 ·rw [if_pos h1, if_pos (by omega), clone_s _ (hl _ (by omega))]
  simp [Nd.cut, h3]
 ·rw [if_neg (by omega), if_pos (by omega), clone_i _ (hl _ (by omega))]
  simp [Nd.cut, h3]

def Nd.out (n : Nd) (c : Nat) : Int × List ByteArray × List ByteArray × List Int × Int × List ByteArray × List ByteArray × List Int :=
 ((n.cut 0 c).kind, (n.cut 0 c).keys, (n.cut 0 c).vals, (n.cut 0 c).kids, (n.cut c n.keys.length).kind, (n.cut c n.keys.length).keys, (n.cut c n.keys.length).vals, (n.cut c n.keys.length).kids)
/-- What fits. -/
theorem fits_f (n : Nd) (F : n.fine = true) : PNd.node_Node_Fits.f n.kind n.keys n.vals n.kids = some (decide ((n.pack.size : Int) ≤ 240)) := by
 unfold PNd.node_Node_Fits.f PNd.node_Node_Size.f PNd.node_Node_Pack.f
 rw [if_pos (show packFine n.kind n.keys n.vals n.kids = true from F)]
 rfl
end Go.Proofs.YtendgmblgdkiaaaGreat
