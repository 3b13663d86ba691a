/- A row of the tree's calls (dowserlaw10.Act) among the arguments, opened; what each says. What TreeKeeps keeps: rows of roots and of lists. dowserlaw10.TreeKeeps, walked. -/
import Derived.Test.YtendgmblgdkiaaaGreatGTreeKeeps0
import Derived.Test.YtendgmblgdkiaaaGreatGTreeKeeps36
import Derived.Test.YtendgmblgdkiaaaGreatGTreeKeeps31
import Derived.ChangeSlices
import Derived.SliceStrings
import Derived.Deep.Strs
import Derived.Deep.Grids
import Derived.Lib.SmallJoins
import Derived.Test.YtendgmblgdkiaaaGreatGTreeKeeps35
import Derived.Deep.RegionHeld3
namespace Go.Proofs.YtendgmblgdkiaaaGreat
open Go.RowKit Go.ChangeShapes Go.WideShapes Go.Joins
open Go.Proofs.YtendgmblgdkiaaaGreatW
open PrintWords PrintLast PrintMore
set_option linter.unusedVariables false
set_option linter.unusedSimpArgs false

/-- A call. -/
structure TAct where
 kind : Int
 key : BA
 val : BA
instance : Inhabited TAct := ⟨⟨0, ByteArray.empty, ByteArray.empty⟩⟩
structure TActCells (w : World) (b off : Nat) (A : TAct) : Prop where
 c0 : w.cell? ⟨b, off, none⟩ = some (.int .i64 A.kind)
 c1 : w.cell? ⟨b, off + 1, none⟩ = some (.string A.key)
 c2 : w.cell? ⟨b, off + 2, none⟩ = some (.string A.val)
def TActsAt (w : World) (v : Value) (l : List TAct) : Prop :=
 ∃ a c, v = .slice a l.length c ∧ l.length ≤ 9223372036854775807 ∧ ∀ i (hi : i < l.length), ∃ b off, a = some ⟨b, off, none⟩ ∧ TActCells w b (off + i * 3) l[i]
theorem bel_cells {w w' : World} (h : Below w.heap.size w w') : ∀ p x, w.cell? p = some x → w'.cell? p = some x := by
 intro p x hx
 rw [World.cell?_of_block (w := w) (h.block p.block (World.block_lt_of_cell? w _ hx))]
 exact hx
theorem TActCells.below {w w' : World} {b off : Nat} {A : TAct} (h : TActCells w b off A) (k : Below w.heap.size w w') : TActCells w' b off A :=
 ⟨bel_cells k _ _ h.c0, bel_cells k _ _ h.c1, bel_cells k _ _ h.c2⟩
theorem TActsAt.below {w w' : World} {v : Value} {l : List TAct} (h : TActsAt w v l) (k : Below w.heap.size w w') : TActsAt w' v l := by
 obtain ⟨a, c, hv, hl, hc⟩ := h
 exact ⟨a, c, hv, hl, fun i hi => by obtain ⟨b, off, ha, h⟩ := hc i hi; exact ⟨b, off, ha, h.below k⟩⟩

variable {H : Type} {enc : TypeId × Value → H} {w : World}
theorem list3 {α : Type} {l : List α} (h : l.length = 3) : ∃ a b c, l = [a, b, c] := by
 match l, h with
 | [a, b, c], _ => exact ⟨a, b, c, rfl⟩
theorem add_flat (b o i : Nat) : (⟨b, o, none⟩ : Addr).add i = ⟨b, o + i, none⟩ := by simp [Addr.add]
theorem open_tact {fuel b off : Nat} {cs : List Value} {x : DataW H × List MemPlace} (hc : w.cells? 0 ⟨b, off, none⟩ 3 = some cs) (h : DataW.trod enc Tryz.prog w 0 (fun _ => true) true fuel 47 cs = some x) :
  ∃ A, TActCells w b off A := by
 obtain ⟨y0, y1, y2, n, hx, hlen, h0, h1, h2⟩ := Deep.trod_struct3 Tryz.underlying47 h
 have hl : cs.length = 3 := hlen.trans kr_
 obtain ⟨v0, v1, v2, rfl⟩ := list3 hl
 have k1 : Tryz.prog.cellsOf 3 = 1 := by kernel_rfl
 have k2 : Tryz.prog.cellsOf 9 = 1 := by kernel_rfl
 simp only [k1, k2, List.drop, List.take] at h0 h1 h2
 obtain ⟨m0, e0, _, _⟩ := DataW.trod_int Tryz.underlying3 h0
 obtain ⟨s1, e1, _, _⟩ := DataW.trod_string Tryz.underlying9 h1
 obtain ⟨s2, e2, _, _⟩ := DataW.trod_string Tryz.underlying9 h2
 obtain ⟨_, _, hcell⟩ := World.cells?_some hc
 have e0' : v0 = .int .i64 m0 := by simpa using e0
 have e1' : v1 = .string s1 := by simpa using e1
 have e2' : v2 = .string s2 := by simpa using e2
 subst e0' e1' e2'
 have q0 := hcell 0 om_
 have q1 := hcell 1 om_
 have q2 := hcell 2 om_
 rw [add_flat] at q0 q1 q2
 exact ⟨⟨m0, s1, s2⟩, q0, q1, q2⟩
theorem open_tacts {fuel : Nat} {v : Value} {x : DataW H × List MemPlace} (h : DataW.trod enc Tryz.prog w 0 (fun _ => true) true fuel 42 [v] = some x) : ∃ l, TActsAt w v l := by
 rcases DataW.trod_slice Tryz.underlying42 h with ⟨hcs, hx⟩ | ⟨a, len, cap, elems, rest, n, _, hcs, hx, hb, hl, hm, hlen, hel, hsp, hns⟩
 ·obtain rfl : v = .slice none 0 0 := by simpa using hcs
  exact ⟨[], none, 0, rfl, by simp, fun i hi => by simp at hi⟩
 ·obtain rfl : v = .slice (some a) len cap := by simpa using hcs
  have hm' : cap ≤ 9223372036854775807 := by have : maxLen = 9223372036854775807 := rfl; omega
  have kc : Tryz.prog.cellsOf 47 = 3 := by kernel_rfl
  have hel' : ∀ i, i < len → ∃ cs y, w.cells? 0 (a.add (i * 3)) 3 = some cs ∧ DataW.trod enc Tryz.prog w 0 (fun _ => true) true n 47 cs = some y := by
   intro i hi
   have h1 := hel i hi
   rw [kc, List.getElem?_eq_getElem (by omega), Option.bind_eq_some_iff] at h1
   obtain ⟨cs', hcs', hy⟩ := h1
   exact ⟨cs', _, hcs', hy⟩
  have each : ∀ i, i < len → ∃ A : TAct, ∃ b off, a = ⟨b, off, none⟩ ∧ TActCells w b (off + i * 3) A := by
   intro i hi
   obtain ⟨cs', y, hcs', hy⟩ := hel' i hi
   obtain ⟨b, off, spot⟩ := a
   have hs : spot = none := by
    obtain ⟨cs0, _, hcs0, _⟩ := hel' 0 om_
    obtain ⟨_, hl', hc⟩ := World.cells?_some hcs0
    have h0 := hc 0 om_
    rw [List.getElem?_eq_getElem (by omega)] at h0
    simpa [Addr.add] using World.cell?_spot h0
   subst hs
   rw [add_flat] at hcs'
   obtain ⟨A, hA⟩ := open_tact hcs' hy
   exact ⟨A, b, off, rfl, hA⟩
  obtain ⟨f, hf⟩ := Deep.choose_lt (p := fun i (A : TAct) => ∃ b off, a = ⟨b, off, none⟩ ∧ TActCells w b (off + i * 3) A) each
  refine ⟨(List.range len).map f, some a, cap, by simp, by simp; omega, fun i hi => ?_⟩
  have hi' : i < len := by simpa using hi
  obtain ⟨b, off, ha, hA⟩ := hf i hi'
  exact ⟨b, off, by rw [ha], by simpa using hA⟩

/-- A call's key and value, a little longer than may be. -/
theorem act_Text (A : TAct) (w : World) : Calls Tryz.prog 31 #[.agg #[.int .i64 A.kind, .string A.key, .string A.val]] w fun e w' => e = .returned (.tuple #[.string (cutB A.key 18), .string (cutB A.val 34)]) ∧ Below w.heap.size w w' := by
 have h : PNd.dowserlaw10_Act_Text.f A.kind A.key A.val = some (cutB A.key 18, cutB A.val 34) := by
  unfold PNd.dowserlaw10_Act_Text.f
  rw [show (18 : Int) = ((18 : Nat) : Int) from rfl, show (34 : Int) = ((34 : Nat) : Int) from rfl, cut_f1, cut_f1]
  rfl
 exact PNd.dowserlaw10_Act_Text.calls A.kind A.key A.val _ _ w h
theorem law_Cut (s : BA) (n : Nat) (w : World) : Calls Tryz.prog 25 #[.string s, .int .i64 (n : Int)] w fun e w' => e = .returned (.string (cutB s n)) ∧ Below w.heap.size w w' :=
 (PNd.dowserlaw01_Cut.calls s n (cutB s n) w (cut_f1 s n)).mono fun _ _ ⟨he, hd⟩ => ⟨he, hd.below⟩
/-- The key and the value as most laws take them. -/
def TAct.k (A : TAct) : BA := (⟨#[107]⟩ : BA) ++ cutB (cutB A.key 18) 15
def TAct.v (A : TAct) : BA := cutB (cutB A.val 34) 32
theorem TAct.k_ok (A : TAct) : keyOk A.k = true := by
 have := cutB_size (cutB A.key 18) 15
 have h1 : (⟨#[107]⟩ : BA).size = 1 := rfl
 exact decide_eq_true (by unfold TAct.k; rw [ByteArray.size_append, h1]; omega)
theorem TAct.v_ok (A : TAct) : valOk A.v = true := decide_eq_true (cutB_size _ _)
end Go.Proofs.YtendgmblgdkiaaaGreat

namespace Go.Proofs.YtendgmblgdkiaaaGreat
open Go.RowKit
open Go.Proofs.YtendgmblgdkiaaaGreatW
open PrintWords PrintLast PrintMore
set_option linter.unusedVariables false
set_option linter.unusedSimpArgs false

def kRt : Kd Rt := Kd.iso (Kd.pair (Kd.int .i64) (Kd.pair (Kd.int .i64) (Kd.int .i64))) (fun r : Rt => (r.page, r.count, r.height))
theorem kRt_open {w : World} {x : Rt} {cs : List Value} (h : kRt.K w x cs) : cs = [.int .i64 x.page, .int .i64 x.count, .int .i64 x.height] := by
 obtain ⟨_, _, rfl, rfl, _, _, rfl, rfl, rfl⟩ := h
 rfl
theorem kRt_mkM (w : World) (base : Nat) (ok : Nat → Prop) (x : Rt) : kRt.M w base ok x [.int .i64 x.page, .int .i64 x.count, .int .i64 x.height] := ⟨[.int .i64 x.page], [.int .i64 x.count, .int .i64 x.height], rfl, rfl, ⟨[.int .i64 x.count], [.int .i64 x.height], rfl, rfl, rfl⟩⟩
abbrev kLs : Kd (List PNd.S65) := Kd.slice 65 PNd.k65
theorem info_rt : (Tryz.prog.info? 31).map (fun i => (i.zero, i.size, i.bytes)) = some (some (.agg #[.int .i64 0, .int .i64 0, .int .i64 0]), 3, 24) := by kernel_rfl
theorem info_ls : (Tryz.prog.info? 35).map (fun i => (i.zero, i.size, i.bytes)) = some (some (.slice none 0 0), 1, 24) := by kernel_rfl
theorem roots1 (w : World) (p c h : Int) :
  (Instr.buildSlice 43 1 #[(0, .agg #[.int .i64 p, .int .i64 c, .int .i64 h])]).run Tryz.prog w = .ok (.slice (some ⟨w.heap.size, 0, none⟩) 1 1) (w.alloc (.cells #[.int .i64 p, .int .i64 c, .int .i64 h] 31 (0, 0))) := by
 obtain ⟨ie, hie, hz⟩ := Option.map_eq_some_iff.1 info_rt
 simp only [Prod.mk.injEq] at hz
 refine run_buildSlice w 43 31 1 _ _ ie _ Tryz.underlying43 hie hz.1 (by rw [hz.2.1]; omega) (by rw [hz.2.1]; omega) ?_
 rw [hz.2.1]
 first | kernel_rfl | simp [Instr.fill, Value.cells]
theorem lists1 (w : World) (A : Option Addr) (n c : Nat) :
  (Instr.buildSlice 44 1 #[(0, .slice A n c)]).run Tryz.prog w = .ok (.slice (some ⟨w.heap.size, 0, none⟩) 1 1) (w.alloc (.cells #[.slice A n c] 35 (0, 0))) := by
 obtain ⟨ie, hie, hz⟩ := Option.map_eq_some_iff.1 info_ls
 simp only [Prod.mk.injEq] at hz
 refine run_buildSlice w 44 35 1 _ _ ie _ Tryz.underlying44 hie hz.1 (by rw [hz.2.1]; omega) (by rw [hz.2.1]; omega) ?_
 rw [hz.2.1]
 first | kernel_rfl | simp [Instr.fill, Value.cells]
/-- A row stays where what is written is below it, or of another type. -/
theorem R_keepU {α : Type} {d : Kd α} {e base u tt : Nat} {cells : Array Value} {w1 w2 : World} {v : Value} {xs : List α} {F : Nat → Prop} (h : d.R e w1 base (fun _ => True) v xs) (k : Keep F w1 w2) (hu : w1.heap[u]? = some (.cells cells tt (0, 0))) (ht : ∀ q, q ∈ e :: d.E → q ≠ tt) (hF : ∀ k, F k → k < base ∨ k = u) : d.R e w2 base (fun _ => True) v xs :=
 Kd.R_mono (Kd.R_step (Kd.R_bound (Kd.R_types h hu ht)) (fun i hi hl => k.block i hl (fun hf => by rcases hF i hf with h1 | h1; (have := hi.2.1; omega); exact hi.1.2 h1))) (fun _ _ => trivial)

theorem below_keepK {F : Nat → Prop} {w wr w' : World} (h : Below w.heap.size w wr) (k : Keep F wr w') (hF : ∀ i, F i → w.heap.size ≤ i) : Below w.heap.size w w' :=
 ((Keep.below (F := fun _ => False) h).andThen k (fun i hi hf => by have := hF i hf; omega)).toBelow
theorem row_addr {W : World} {B e : Nat} {ok : Nat → Prop} {A : Option Addr} {n c : Nat} {xs : List Rt} (h : Kd.R kRt e W B ok (.slice A n c) xs) (h0 : 0 < xs.length) : ∃ b o, A = some ⟨b, o, none⟩ := by
 obtain ⟨-, -, hC⟩ := Kd.R_reads' h
 obtain ⟨⟨b, o, sp⟩, cs, rfl, -, hK, hcell⟩ := Kd.C_get hC ⟨0, 0, 0⟩ 0 om_ om_
 obtain rfl := kRt_open hK
 have h1 := hcell 0 _ rfl
 have : sp = none := by simpa [Addr.add] using World.cell?_spot h1
 subst this
 exact ⟨b, o, rfl⟩
theorem row_cells {W : World} {B e : Nat} {ok : Nat → Prop} {b o n c : Nat} {xs : List Rt} (h : Kd.R kRt e W B ok (.slice (some ⟨b, o, none⟩) n c) xs) {i : Nat} {r : Rt} (hi : xs[i]? = some r) :
  W.cell? ⟨b, o + i * 3, none⟩ = some (.int .i64 r.page) ∧ W.cell? ⟨b, o + i * 3 + 1, none⟩ = some (.int .i64 r.count) ∧ W.cell? ⟨b, o + i * 3 + 2, none⟩ = some (.int .i64 r.height) := by
 have hlt := (List.getElem?_eq_some_iff.1 hi).1
 obtain ⟨-, -, hC⟩ := Kd.R_reads' h
 obtain ⟨ad, cs, e, -, hK, hcell⟩ := Kd.C_get hC ⟨0, 0, 0⟩ (i : Int) om_ om_
 cases e
 have hg : xs.getD (i : Int).toNat ⟨0, 0, 0⟩ = r := by rw [Int.toNat_natCast, List.getD_eq_getElem?_getD, hi]; rfl
 rw [hg] at hK
 obtain rfl := kRt_open hK
 have h1 := hcell 0 _ rfl
 have h2 := hcell 1 _ rfl
 have h3 := hcell 2 _ rfl
 simp only [Int.toNat_natCast, Addr.add_lit] at h1 h2 h3
 exact ⟨h1, h2, h3⟩
theorem list_cell {W : World} {B e : Nat} {ok : Nat → Prop} {A : Option Addr} {n c : Nat} {xs : List (List PNd.S65)} (h : Kd.R kLs e W B ok (.slice A n c) xs) {i : Nat} {l : List PNd.S65} (hi : xs[i]? = some l) :
  ∃ ad A' c', A = some ad ∧ W.cell? (ad.add i) = some (.slice A' l.length c') ∧ Kd.C PNd.k65 W A' l.length l := by
 have hlt := (List.getElem?_eq_some_iff.1 hi).1
 obtain ⟨-, -, hC⟩ := Kd.R_reads' h
 obtain ⟨ad, cs, e, -, hK, hcell⟩ := Kd.C_get hC [] (i : Int) om_ om_
 have hg : xs.getD (i : Int).toNat [] = l := by rw [Int.toNat_natCast, List.getD_eq_getElem?_getD, hi]; rfl
 rw [hg] at hK
 obtain ⟨A', c', rfl, -, hC'⟩ := hK
 have h1 := hcell 0 _ rfl
 simp only [Int.toNat_natCast] at h1
 exact ⟨ad, A', c', e, by simpa [Kd.slice] using h1, hC'⟩
/-- A tree on pages, in the law's world. -/
structure Kps (w0 : World) (B : Nat) (L : Loc) (b t : Nat) (D : Dk) (P : List Pg) (r : Rt) (kvs : List KV) (wr : World) : Prop where
 ts : TS B wr t b L 0 D P r
 live : D.Live
 tc : TreeC P r kvs
 bel : Below w0.heap.size w0 wr
 hi : ∀ k, (L.foot k ∨ k = b) ∨ k = t → w0.heap.size ≤ k
 hB : w0.heap.size ≤ B
 sz : B ≤ wr.heap.size
 room : D.room = 1000
namespace Kps
variable {w0 : World} {B : Nat} {L : Loc} {b t : Nat} {D : Dk} {P : List Pg} {r : Rt} {kvs : List KV} {wr wx : World}
theorem lo (H : Kps w0 B L b t D P r kvs wr) : ∀ k, (L.foot k ∨ k = b) ∨ k = t → k < B := fun k hk => by
 rcases hk with h | rfl
 ·exact H.ts.lo k h
 ·exact H.ts.tl
theorem below (H : Kps w0 B L b t D P r kvs wr) (hb : Below wr.heap.size wr wx) : Kps w0 B L b t D P r kvs wx :=
 ⟨H.ts.below hb, H.live, H.tc, H.bel.trans (hb.mono H.bel.size), H.hi, H.hB, Nat.le_trans H.sz hb.size, H.room⟩
theorem up (H : Kps w0 B L b t D P r kvs wr) (k : Keep (fun k => B ≤ k) wr wx) : Kps w0 B L b t D P r kvs wx :=
 ⟨H.ts.hi k, H.live, H.tc, below_keepK H.bel k (fun i hi => Nat.le_trans H.hB hi), H.hi, H.hB, Nat.le_trans H.sz k.size, H.room⟩
theorem done {D' : Dk} {P' : List Pg} {r' : Rt} {kv' : List KV} (H : Kps w0 B L b t D P r kvs wr) (Dn : Done wr wx t b L 0 D P r D' P' r' kv') : Kps w0 B L b t D' P' r' kv' wx :=
 ⟨⟨Dn.st, Dn.tr, H.ts.lo, H.ts.tl⟩, Dn.live, Dn.tc, below_keepK H.bel Dn.keep (fun i hi => H.hi i hi), H.hi, H.hB, Nat.le_trans H.sz Dn.keep.size, Dn.app.wr.room.trans H.room⟩
/-- Another tree on the same pages has gone on. -/
theorem other {u : Nat} {D' : Dk} {P' : List Pg} {r' : Rt} {kv' : List KV} (H : Kps w0 B L b t D P r kvs wr) (hu : B ≤ u) (Dn : Done wr wx u b L 0 D P r D' P' r' kv') : Kps w0 B L b t D' P' r kvs wx := by
 obtain ⟨X, hX⟩ := Dn.app.pre
 refine ⟨⟨Dn.st, H.ts.tr.keep Dn.keep (fun hf => ?_), H.ts.lo, H.ts.tl⟩, Dn.live, by rw [hX]; exact H.tc.pre, below_keepK H.bel Dn.keep (fun i hi => ?_), H.hi, H.hB, Nat.le_trans H.sz Dn.keep.size, Dn.app.wr.room.trans H.room⟩
 ·rcases hf with h | h
  ·exact H.ts.tr.foot H.ts.st h
  ·have := H.ts.tl; omega
 ·rcases hi with h | h
  ·exact H.hi i (.inl h)
  ·have := H.hB; omega
end Kps
/-- What was kept: roots over pages that are still there. -/
def Kept (P : List Pg) (rs : List (Rt × List KV)) : Prop := ∀ x ∈ rs, TreeC P x.1 x.2 ∧ x.2.length ≤ 60
theorem Kept.app {h : Nat} {D D' : Dk} {P P' : List Pg} {rs : List (Rt × List KV)} (K : Kept P rs) (A : AppOk h D P D' P') : Kept P' rs := by
 obtain ⟨X, rfl⟩ := A.pre
 exact fun x hx => ⟨(K x hx).1.pre, (K x hx).2⟩
theorem low_60 {P : List Pg} {r : Rt} {kvs : List KV} (h : TreeC P r kvs) (hn : kvs.length ≤ 63) : 0 ≤ r.height ∧ r.height ≤ 6 := h.low (m := 6) om_
end Go.Proofs.YtendgmblgdkiaaaGreat

namespace Go.Proofs.YtendgmblgdkiaaaGreat
open Go.RowKit
open Go.Proofs.YtendgmblgdkiaaaGreatW
open PrintWords PrintLast PrintMore
set_option linter.unusedVariables false
set_option linter.unusedSimpArgs false
attribute [-go_sem] Instr.buildSlice
attribute [local go_sem] roots1 lists1

/-- Where a round stands. -/
structure KSt (w0 : World) (B : Nat) (L : Loc) (b t i : Nat) (D : Dk) (P : List Pg) (r : Rt) (kvs : List KV) (rs : List (Rt × List KV)) (v6 v7 v8 : Value) (wr : World) : Prop where
 k : Kps w0 B L b t D P r kvs wr
 kept : Kept P rs
 r6 : Kd.R PNd.k65 65 wr B (fun _ => True) v6 (kvs.map toP)
 r7 : Kd.R kRt 31 wr B (fun _ => True) v7 (rs.map (·.1))
 r8 : Kd.R kLs 35 wr B (fun _ => True) v8 (rs.map fun x => x.2.map toP)
 len : kvs.length ≤ i
 lp : P.length ≤ 13 * i
 lr : rs.length ≤ i
theorem KSt.below {w0 : World} {B : Nat} {L : Loc} {b t i : Nat} {D : Dk} {P : List Pg} {r : Rt} {kvs : List KV} {rs : List (Rt × List KV)} {v6 v7 v8 : Value} {wr wx : World} (H : KSt w0 B L b t i D P r kvs rs v6 v7 v8 wr) (hb : Below wr.heap.size wr wx) : KSt w0 B L b t i D P r kvs rs v6 v7 v8 wx :=
 ⟨H.k.below hb, H.kept, Kd.R_below H.r6 hb, Kd.R_below H.r7 hb, Kd.R_below H.r8 hb, H.len, H.lp, H.lr⟩
theorem KSt.done {w0 : World} {B : Nat} {L : Loc} {b t i : Nat} {D : Dk} {P : List Pg} {r : Rt} {kvs : List KV} {rs : List (Rt × List KV)} {v6 v7 v8 : Value} {wr wx : World} {D' : Dk} {P' : List Pg} {r' : Rt} {kv' : List KV} (H : KSt w0 B L b t i D P r kvs rs v6 v7 v8 wr) (Dn : Done wr wx t b L 0 D P r D' P' r' kv') (hl : kv'.length ≤ i + 1) (hh : r.height ≤ 6) :
  Kps w0 B L b t D' P' r' kv' wx ∧ Kept P' rs ∧ Kd.R PNd.k65 65 wx B (fun _ => True) v6 (kvs.map toP) ∧ Kd.R kRt 31 wx B (fun _ => True) v7 (rs.map (·.1)) ∧ Kd.R kLs 35 wx B (fun _ => True) v8 (rs.map fun x => x.2.map toP) ∧ P'.length ≤ 13 * (i + 1) :=
 ⟨H.k.done Dn, H.kept.app Dn.app, R_keepF H.r6 Dn.keep H.k.lo, R_keepF H.r7 Dn.keep H.k.lo, R_keepF H.r8 Dn.keep H.k.lo, by have := Dn.most; have := H.lp; omega⟩

set_option maxHeartbeats 4000000 in
set_option maxRecDepth 100000 in
theorem keeps_walk (w : World) (v : Value) (acts : List TAct) (hA : TActsAt w v acts) :
  Calls Tryz.prog 4 #[v] w fun e w' => e = .returned (.bool true) ∧ Below w.heap.size w w' := by
 have HA0 := hi_ hA
 obtain ⟨aA, cA, rfl, hmax, -⟩ := hA
 have HA := HA0
 clear HA0
 go_enter Tryz.func4, Tryz.ntmps4
 go_wp2_with fail
 refine (awake10 w).mono ?_
 rintro e w1 ⟨rfl, hb⟩
 have B1 := hi_ hb
 clear hb
 go_wp2_with fail
 refine (law_Half w1 1000 om_).mono ?_
 rintro e w2 ⟨L, b, D, rfl, hP, hr, hnew, hb⟩
 have HP := hi_ hP
 have HR := hi_ hr
 have HN := hi_ (show ∀ k, L.foot k ∨ k = b → w.heap.size ≤ k from fun k hk => Nat.le_trans B1.out.size (hnew k hk))
 have B2 := hi_ (below_then B1.out B1.out.size hb)
 clear hP hr hnew hb B1
 go_wp2_with fail
 refine (tree_Empty w2).mono ?_
 rintro e w3 ⟨rfl, hb⟩
 have B3 := hi_ (below_then B2.out B2.out.size hb)
 have HP3 := hi_ (HP.out.below hb)
 clear hb HP B2
 go_wp2_with fail
 refine (tree_Open w3 b ⟨-1, 0, 0⟩).mono ?_
 rintro e w4 ⟨t, rfl, hT, ht, hb⟩
 have TW := hi_ (show KSt w w4.heap.size L b t 0 D [] ⟨-1, 0, 0⟩ [] [] (.slice none 0 0) (.slice none 0 0) (.slice none 0 0) w4 from
  ⟨⟨⟨(HP3.out.below hb).st, hT, by
   rintro k ((rfl | rfl | rfl) | rfl)
   ·exact (HP3.out.below hb).st.d.lt_a
   ·exact (HP3.out.below hb).st.d.lt_n
   ·exact (HP3.out.below hb).st.d.lt_m
   ·exact lt_of_heap (HP3.out.below hb).st.p, hT.lt⟩, HP3.out.live, rootC_none [], below_then B3.out B3.out.size hb, by
   rintro k (h | rfl)
   ·exact HN.out k h
   ·exact Nat.le_trans B3.out.size ht, (below_then B3.out B3.out.size hb).size, Nat.le_refl _, HR.out⟩, (fun x hx => by cases hx), Kd.R_nil _ _ _ _ _, Kd.R_nil _ _ _ _ _, Kd.R_nil _ _ _ _ _, by simp, by simp, by simp⟩)
 obtain ⟨B, hB⟩ : ∃ B, B = w4.heap.size := ⟨_, rfl⟩
 rw [← hB] at TW
 clear hb hT ht HP3 B3 HN HR hB
 go_wp2_with fail
 go_loopw [9, 6, 7, 8] (fun i v6 v7 v8 wr => ∃ (j : Nat) (D' : Dk) (P' : List Pg) (r' : Rt) (kvs : List KV) (rs : List (Rt × List KV)), j ≤ 60 ∧ j ≤ acts.length ∧ i = .int .i64 (j : Int) ∧ Hid (KSt w B L b t j D' P' r' kvs rs v6 v7 v8 wr)) (fun i _ _ _ _ => acts.length - (intOf i).toNat)
 case atStart => exact ⟨0, D, [], ⟨-1, 0, 0⟩, [], [], by omega, Nat.zero_le _, rfl, TW⟩
 case round =>
  clear TW
  obtain ⟨j, D', P', r', kvs, rs, hj1, hj2, rfl, ST⟩ := hrel
  by_cases hgo : (j : Int) < (acts.length : Int) ∧ (j : Int) < 60
  ·obtain ⟨hlt, h60⟩ := hgo
   ·have hj0 : (0 : Int) ≤ (j : Int) := by omega
    obtain ⟨a1, c1, e1, hmx, hcell⟩ := HA.out.below ST.out.k.bel
    obtain ⟨bA, oA, eA, AC⟩ := hcell j om_
    obtain ⟨A, hAe⟩ : ∃ A, A = acts[j] := ⟨_, rfl⟩
    rw [← hAe] at AC
    simp only [Value.slice.injEq, true_and] at e1
    obtain ⟨rfl, rfl⟩ := e1
    subst eA
    have AC := hi_ AC
    have c0 := AC.out.c0
    have c1 := AC.out.c1
    have c2 := AC.out.c2
    clear hcell hAe hmx
    go_wp2_with fail
    refine (act_Text A wr).mono ?_
    rintro e x1 ⟨rfl, hb⟩
    replace ST := hi_ (ST.out.below hb)
    replace AC := hi_ (AC.out.below hb)
    clear hb c0 c1 c2
    go_wp2_with fail
    refine (law_Cut (cutB A.key 18) 15 x1).mono ?_
    rintro e x2 ⟨rfl, hb⟩
    replace ST := hi_ (ST.out.below hb)
    replace AC := hi_ (AC.out.below hb)
    clear hb
    have hz := cutB_size (cutB A.key 18) 15
    go_wp2_with fail
    refine (law_Cut (cutB A.val 34) 32 x2).mono ?_
    rintro e x3 ⟨rfl, hb⟩
    replace ST := hi_ (ST.out.below hb)
    replace AC := hi_ (AC.out.below hb)
    clear hb hz
    obtain ⟨K, hK⟩ : ∃ K, K = A.k := ⟨_, rfl⟩
    obtain ⟨X, hX⟩ : ∃ X, X = A.v := ⟨_, rfl⟩
    have hko := hi_ (show keyOk K = true by rw [hK]; exact A.k_ok)
    have hvo := hi_ (show valOk X = true by rw [hX]; exact A.v_ok)
    have c0 := AC.out.c0
    have hK2 : ({ data := #[107] } : BA) ++ cutB (cutB A.key 18) 15 = K := hK.symm
    have hX2 : cutB (cutB A.val 34) 32 = X := hX.symm
    rw [hX2]
    try rw [hK2]
    have HK := hi_ hK
    clear hK hX hK2 hX2
    obtain ⟨kd, hkd⟩ : ∃ kd, kd = A.kind := ⟨_, rfl⟩
    rw [← hkd] at c0
    clear hkd AC
    have HB := hi_ (show kvs.length ≤ 60 ∧ P'.length ≤ 13 * 59 ∧ D'.room = 1000 by have := ST.out.len; have := ST.out.lp; have := ST.out.k.room; omega)
    have hh := hi_ (low_60 ST.out.k.tc (by have := HB.out; omega))
    by_cases h2 : kd = 2
    ·as_aux_lemma =>
     subst h2
     go_wp2_with fail
     refine (tree_Delete x3 t b L 0 D' P' r' K kvs ST.out.k.ts.st ST.out.k.ts.tr ST.out.k.live ST.out.k.tc hko.out (by have := HB.out; omega) (by have := HB.out; have := hh.out; omega)).mono ?_
     rintro e x4 ⟨rfl, D2, P2, r2, Dn⟩
     have KK := hi_ (ST.out.done Dn (Nat.le_trans (ed_len K none kvs) (by have := ST.out.len; omega)) hh.out.2)
     have HSrt := hi_ ST.out.k.tc.good.1
     have HSZ := hi_ ST.out.k.sz
     have HLR := hi_ (show (ed K none kvs).length ≤ j + 1 ∧ rs.length ≤ j + 1 from ⟨Nat.le_trans (ed_len K none kvs) (by have := ST.out.len; omega), by have := ST.out.lr; omega⟩)
     clear ST Dn c0
     obtain ⟨VA, vc, hv⟩ := Kd.R_slice KK.out.2.2.1
     subst hv
     obtain ⟨lA, hlA⟩ : ∃ lA, lA = kvs.map toP := ⟨_, rfl⟩
     rw [← hlA] at KK ⊢
     have HLA := hi_ hlA
     clear hlA
     go_wp2_with fail
     obtain ⟨-, hcc, hCl⟩ := Kd.R_reads' KK.out.2.2.1
     refine (PNd.dowserref10_Delete.calls (kvs.length + 1) VA vc lA K ((ed K none kvs).map toP) (isAt K (kvs.map (·.1))) x4 hCl hcc (by rw [HLA.out]; exact del_f10 _ _ HSrt.out (by have := HB.out; omega) _ (Nat.le_refl _))).mono ?_
     rintro e x5 ⟨v0, rfl, hR, hb⟩
     have ST2 := hi_ (show KSt w B L b t (j + 1) D2 P2 r2 (ed K none kvs) rs v0 u7 u8 x5 from
      ⟨KK.out.1.below hb, KK.out.2.1, Kd.R_lower hR (KK.out.1.sz), Kd.R_below KK.out.2.2.2.1 hb, Kd.R_below KK.out.2.2.2.2.1 hb, HLR.out.1, KK.out.2.2.2.2.2, HLR.out.2⟩)
     clear hb hR hcc hCl KK
     go_wp2_with fail
     go_roundw
     case rel => exact ⟨j + 1, D2, P2, r2, _, rs, by omega, by omega, by go_num, ST2⟩
     case measure => simp [intOf]; omega
    by_cases h3 : kd = 3
    ·subst h3
     go_wp2_with fail
     refine (tree_Root x3 t b _ ST.out.k.ts.tr).mono ?_
     rintro e x4 ⟨rfl, hb⟩
     replace ST := hi_ (ST.out.below hb)
     clear hb c0
     have KP := hi_ ST.out.k
     have KE := hi_ ST.out.kept
     have R6 := hi_ ST.out.r6
     have R7 := hi_ ST.out.r7
     have R8 := hi_ ST.out.r8
     have HL := hi_ (show kvs.length ≤ j ∧ P'.length ≤ 13 * j ∧ rs.length ≤ j from ⟨ST.out.len, ST.out.lp, ST.out.lr⟩)
     clear ST
     obtain ⟨lA, hlA⟩ : ∃ lA, lA = kvs.map toP := ⟨_, rfl⟩
     rw [← hlA] at R6
     obtain ⟨lR, hlR⟩ : ∃ lR, lR = rs.map (·.1) := ⟨_, rfl⟩
     rw [← hlR] at R7
     obtain ⟨lL, hlL⟩ : ∃ lL, lL = rs.map fun x => x.2.map toP := ⟨_, rfl⟩
     rw [← hlL] at R8
     have HLN := hi_ (show lA.length = kvs.length ∧ lR.length = rs.length ∧ lL.length = rs.length by rw [hlA, hlR, hlL]; simp)
     have HLA := hi_ hlA
     have HLR := hi_ hlR
     have HLL := hi_ hlL
     clear hlA hlR hlL
     obtain ⟨A6, c6, hv⟩ := Kd.R_slice R6.out
     subst hv
     obtain ⟨A7, c7, hv⟩ := Kd.R_slice R7.out
     subst hv
     obtain ⟨A8, c8, hv⟩ := Kd.R_slice R8.out
     subst hv
     unfold rootV
     have ty1 : ∀ q, q ∈ 65 :: (PNd.k65).E → q ≠ 31 := by decide
     have ty2 : ∀ q, q ∈ 35 :: kLs.E → q ≠ 31 := by decide
     have ty3 : ∀ q, q ∈ 65 :: (PNd.k65).E → q ≠ 35 := by decide
     have ty4 : ∀ q, q ∈ 31 :: kRt.E → q ≠ 35 := by decide
     go_wp2_with (first
      | ((with_reducible refine gate_builtin (b := .append) (xs := #[.tmp 86, .tmp 89]) rfl ?_); at_builtin; refine Kd.R_append kRt (w0 := x4) B rfl (.tmp 86) (.tmp 89) 43 31 (.agg #[.int .i64 0, .int .i64 0, .int .i64 0]) 24 rfl Tryz.underlying43 info_rt rfl (by decide) om_ (.slice A7 lR.length c7) lR r' [.int .i64 r'.page, .int .i64 r'.count, .int .i64 r'.height] (fun _ => True) (fun _ => False) rfl rfl (kRt_mkM _ _ _ r') (fun _ hk => hk.elim) (fun _ _ => trivial) R7.out (Below.refl _ _) KP.out.sz (by have := HLN.out; have := HL.out; omega) ?_; intro v7 x5 ho hb hg hat; have R6b := hi_ (Kd.R_over' R6.out (Kd.R_typed R7.out) ty1 hg); have R8b := hi_ (Kd.R_over' R8.out (Kd.R_typed R7.out) ty2 hg); have KP2 := hi_ (KP.out.up (R_grownKeep R7.out hg)); have R7b := hi_ ho; clear ho hb hg hat R6 R7 R8 KP)
      | ((with_reducible refine gate_builtin (b := .append) (xs := #[.tmp 91, .tmp 93]) rfl ?_); at_builtin; refine Kd.R_append kLs (w0 := x5) B rfl (.tmp 91) (.tmp 93) 44 35 (.slice none 0 0) 24 rfl Tryz.underlying44 info_ls rfl (by decide) om_ (.slice A8 lL.length c8) lL lA [.slice A6 lA.length c6] (fun _ => True) (fun k => some k ≠ (Value.slice A8 lL.length c8).ownBlock) rfl rfl ⟨_, rfl, R_apart2 R8b.out R6b.out ty3⟩ (fun _ hk => ⟨trivial, hk⟩) (fun _ _ => trivial) R8b.out (Below.refl _ _) KP2.out.sz (by have := HLN.out; have := HL.out; omega) ?_; intro v8 x6 ho hb hg hat; have R6c := hi_ (Kd.R_over' R6b.out (Kd.R_typed R8b.out) ty3 hg); have R7c := hi_ (Kd.R_over' R7b.out (Kd.R_typed R8b.out) ty4 hg); have KP3 := hi_ (KP2.out.up (R_grownKeep R8b.out hg)); have R8c := hi_ ho; clear ho hb hg hat R6b R7b R8b KP2 ty1 ty2 ty3 ty4))
     refine (tree_Clone x6 t b r' KP3.out.ts.tr).mono ?_
     rintro e x7 ⟨u, rfl, hU, hu, hb⟩
     have KP4 := hi_ (KP3.out.below hb)
     have R6d := Kd.R_below R6c.out hb
     have R7d := Kd.R_below R7c.out hb
     have R8d := Kd.R_below R8c.out hb
     have HUB := hi_ (show B ≤ u from Nat.le_trans KP3.out.sz hu)
     have HU := hi_ hU
     have hlA := HLA.out
     obtain ⟨lR2, hlR2⟩ : ∃ lR2, lR2 = lR ++ [r'] := ⟨_, rfl⟩
     rw [← hlR2] at R7d
     obtain ⟨lL2, hlL2⟩ : ∃ lL2, lL2 = lL ++ [lA] := ⟨_, rfl⟩
     rw [← hlL2] at R8d
     have hn2 : lR2.length = lR.length + 1 := by rw [hlR2]; simp
     have hR2 : lR2 = (rs ++ [(r', kvs)]).map (·.1) := by rw [hlR2, HLR.out]; simp
     have hL2 : lL2 = (rs ++ [(r', kvs)]).map fun x => x.2.map toP := by rw [hlL2, HLL.out, HLA.out]; simp
     have hat : lR2[lR.length]? = some r' := by rw [hlR2]; simp
     obtain ⟨A7', c7', hv⟩ := Kd.R_slice R7d
     subst hv
     obtain ⟨b7, o7, rfl⟩ := row_addr R7d om_
     obtain ⟨A8', c8', hv⟩ := Kd.R_slice R8d
     subst hv
     have hkept : Kept P' (rs ++ [(r', kvs)]) := fun y hy => by
      rcases List.mem_append.1 hy with h | h
      ·exact KE.out y h
      ·rw [List.mem_singleton.1 h]
       exact ⟨KP4.out.tc, HB.out.1⟩
     obtain ⟨J, hJ⟩ : ∃ J : World → Prop, J = fun W => ∃ D2 P2, KSt w B L b t (j + 1) D2 P2 r' kvs (rs ++ [(r', kvs)]) (.slice A6 lA.length c6) (.slice (some ⟨b7, o7, none⟩) lR2.length c7') (.slice A8' lL2.length c8') W := ⟨_, rfl⟩
     have JC : Hid (∀ W, J W → W.cell? ⟨b7, o7 + lR.length * 3, none⟩ = some (.int .i64 r'.page) ∧ W.cell? ⟨b7, o7 + lR.length * 3 + 1, none⟩ = some (.int .i64 r'.count) ∧ W.cell? ⟨b7, o7 + lR.length * 3 + 2, none⟩ = some (.int .i64 r'.height)) := hi_ (fun W h => by
      rw [hJ] at h
      obtain ⟨D2, P2, h⟩ := h
      exact row_cells h.r7 (by rw [← hR2]; exact hat))
     have CP : Hid (∀ W, Below x7.heap.size x7 W → Calls Tryz.prog 26 #[.pointer (some ⟨u, 0, none⟩), .string ⟨#[111, 116, 104, 101, 114]⟩, .string ⟨#[120]⟩] W fun e w' => e = .returned (.int .i64 0) ∧ J w' ∧ (w'.cell? ⟨b7, o7 + lR.length * 3, none⟩ = some (.int .i64 r'.page) ∧ w'.cell? ⟨b7, o7 + lR.length * 3 + 1, none⟩ = some (.int .i64 r'.count) ∧ w'.cell? ⟨b7, o7 + lR.length * 3 + 2, none⟩ = some (.int .i64 r'.height))) := hi_ (fun W hW => by
      have K4 := KP4.out.below hW
      have U4 := HU.out.below hW
      refine (tree_Put W u b L 0 D' P' r' ⟨#[111, 116, 104, 101, 114]⟩ ⟨#[120]⟩ kvs K4.ts.st U4 K4.live K4.tc (by decide) (by decide) (by have := HB.out; omega) (by have := HB.out; have := hh.out; omega)).mono ?_
      rintro e w' ⟨rfl, D2, P2, r2, Dn, -⟩
      have hF : ∀ k, ((L.foot k ∨ k = b) ∨ k = u) → k < B ∨ k = u := fun k hk => by
       rcases hk with h | h
       ·exact .inl (K4.lo k (.inl h))
       ·exact .inr h
      have hj : J w' := by
       rw [hJ]
       exact ⟨D2, P2, K4.other HUB.out Dn, hkept.app Dn.app, by rw [← hlA]; exact R_keepU (Kd.R_below R6d hW) Dn.keep U4 (by decide) hF, by rw [← hR2]; exact R_keepU (Kd.R_below R7d hW) Dn.keep U4 (by decide) hF, by rw [← hL2]; exact R_keepU (Kd.R_below R8d hW) Dn.keep U4 (by decide) hF, by have := HL.out; omega, by have := Dn.most; have := hh.out; have := HL.out; omega, by have := HL.out; simp; omega⟩
      exact ⟨rfl, hj, JC.out _ hj⟩)
     have CR : Hid (∀ W, J W → Calls Tryz.prog 30 #[.pointer (some ⟨t, 0, none⟩)] W fun e w' => e = .returned (.agg #[.int .i64 r'.page, .int .i64 r'.count, .int .i64 r'.height]) ∧ J w' ∧ (w'.cell? ⟨b7, o7 + lR.length * 3, none⟩ = some (.int .i64 r'.page) ∧ w'.cell? ⟨b7, o7 + lR.length * 3 + 1, none⟩ = some (.int .i64 r'.count) ∧ w'.cell? ⟨b7, o7 + lR.length * 3 + 2, none⟩ = some (.int .i64 r'.height))) := hi_ (fun W h => by
      rw [hJ] at h
      obtain ⟨D2, P2, h⟩ := h
      refine (tree_Root W t b r' h.k.ts.tr).mono ?_
      rintro e w' ⟨rfl, hb⟩
      have hj : J w' := by rw [hJ]; exact ⟨D2, P2, h.below hb⟩
      exact ⟨rfl, hj, JC.out _ hj⟩)
     have HJ := hi_ hJ
     have S7 := hi_ (row_cells R7d hat)
     have HB7 := hi_ (Below.refl x7.heap.size x7)
     have hw1 : IntKind.i64.wrap ((lR2.length : Int) - 1) = (lR.length : Int) := by rw [IntWalk.i64_in _ (by have := HL.out; have := HLN.out; omega)]; omega
     have hb0 : (0 : Int) ≤ (lR.length : Int) := by omega
     have hb1 : (lR.length : Int) < (lR2.length : Int) := by omega
     clear hJ R6d R7d R8d hb hU hu hkept hat hR2 hL2 hlR2 hlL2 hn2 hlA KP3 KP4 R6c R7c R8c
     go_wp2_with fail
     go_region_held3 (fun w' => w'.cell? ⟨b7, o7 + lR.length * 3, none⟩ = some (.int .i64 r'.page) ∧ w'.cell? ⟨b7, o7 + lR.length * 3 + 1, none⟩ = some (.int .i64 r'.count) ∧ w'.cell? ⟨b7, o7 + lR.length * 3 + 2, none⟩ = some (.int .i64 r'.height))
      (first | exact S7.out | (with_reducible assumption))
      (first
       | (go_at_call 26; (with_reducible refine (CP.out _ ?_).mono ?_); (repeat (first | (with_reducible assumption) | exact HB7.out | refine bel_drewN ?_ _ | refine bel_drew ?_)); rintro e x8 ⟨rfl, hJ8, hS8⟩)
       | (go_at_call 30; (with_reducible refine (CR.out _ ?_).mono ?_); (with_reducible assumption); rintro e x9 ⟨rfl, hJ9, hS9⟩))
     have hJ := hJ9
     rw [HJ.out] at hJ
     obtain ⟨D2, P2, ST2⟩ := hJ
     replace ST2 := hi_ ST2
     go_wp2_with fail
     exact ⟨⟨j + 1, D2, P2, r', kvs, _, by omega, by omega, by go_num, ST2⟩, by simp only [intOf]; omega⟩
    ·as_aux_lemma =>
     go_wp2_with fail
     refine (tree_Put x3 t b L 0 D' P' r' K X kvs ST.out.k.ts.st ST.out.k.ts.tr ST.out.k.live ST.out.k.tc hko.out hvo.out (by have := HB.out; omega) (by have := HB.out; have := hh.out; omega)).mono ?_
     rintro e x4 ⟨rfl, D2, P2, r2, Dn, -⟩
     have KK := hi_ (ST.out.done Dn (Nat.le_trans (ed_len K (some X) kvs) (by have := ST.out.len; omega)) hh.out.2)
     have HSrt := hi_ ST.out.k.tc.good.1
     have HLR := hi_ (show (ed K (some X) kvs).length ≤ j + 1 ∧ rs.length ≤ j + 1 from ⟨Nat.le_trans (ed_len K (some X) kvs) (by have := ST.out.len; omega), by have := ST.out.lr; omega⟩)
     clear ST Dn c0
     obtain ⟨VA, vc, hv⟩ := Kd.R_slice KK.out.2.2.1
     subst hv
     obtain ⟨lA, hlA⟩ : ∃ lA, lA = kvs.map toP := ⟨_, rfl⟩
     rw [← hlA] at KK ⊢
     have HLA := hi_ hlA
     clear hlA
     go_wp2_with fail
     obtain ⟨-, hcc, hCl⟩ := Kd.R_reads' KK.out.2.2.1
     refine (PNd.dowserref10_Put.calls (2 * kvs.length + 2) VA vc lA K X ((ed K (some X) kvs).map toP) x4 hCl hcc (by rw [HLA.out]; exact put_f10 _ _ _ HSrt.out (by have := HB.out; omega) _ (Nat.le_refl _))).mono ?_
     rintro e x5 ⟨v0, rfl, hR, hb⟩
     have ST2 := hi_ (show KSt w B L b t (j + 1) D2 P2 r2 (ed K (some X) kvs) rs v0 u7 u8 x5 from
      ⟨KK.out.1.below hb, KK.out.2.1, Kd.R_lower hR (KK.out.1.sz), Kd.R_below KK.out.2.2.2.1 hb, Kd.R_below KK.out.2.2.2.2.1 hb, HLR.out.1, KK.out.2.2.2.2.2, HLR.out.2⟩)
     clear hb hR hcc hCl KK
     go_wp2_with fail
     go_roundw
     case rel => exact ⟨j + 1, D2, P2, r2, _, rs, by omega, by omega, by go_num, ST2⟩
     case measure => simp [intOf]; omega
  ·have hcase : ¬ (j : Int) < (acts.length : Int) ∨ ((j : Int) < (acts.length : Int) ∧ ¬ (j : Int) < 60) := by omega
   have HB := hi_ (show kvs.length ≤ 60 ∧ rs.length ≤ 60 by have := ST.out.len; have := ST.out.lr; omega)
   clear hgo hj1 hj2
   obtain ⟨A6, c6, hv⟩ := Kd.R_slice ST.out.r6
   subst hv
   obtain ⟨A7, c7, hv⟩ := Kd.R_slice ST.out.r7
   subst hv
   obtain ⟨A8, c8, hv⟩ := Kd.R_slice ST.out.r8
   subst hv
   obtain ⟨lA, hlA⟩ : ∃ lA, lA = kvs.map toP := ⟨_, rfl⟩
   obtain ⟨lR, hlR⟩ : ∃ lR, lR = rs.map (·.1) := ⟨_, rfl⟩
   obtain ⟨lL, hlL⟩ : ∃ lL, lL = rs.map fun x => x.2.map toP := ⟨_, rfl⟩
   have HLN := hi_ (show lR.length = rs.length by rw [hlR]; simp)
   rw [← hlA, ← hlR, ← hlL] at ST ⊢
   have HLA := hi_ hlA
   have HLR := hi_ hlR
   have HLL := hi_ hlL
   clear hlA hlR hlL
   rcases hcase with hc | ⟨hc, hc2⟩
   all_goals
    go_wp2_with fail
    go_loopw [117] (fun i wr => ∃ (m : Nat), m ≤ lR.length ∧ i = .int .i64 (m : Int) ∧ Hid (KSt w B L b t j D' P' r' kvs rs (.slice A6 lA.length c6) (.slice A7 lR.length c7) (.slice A8 lL.length c8) wr)) (fun i _ => lR.length - (intOf i).toNat)
    case atStart => exact ⟨0, Nat.zero_le _, rfl, ST⟩
    case round =>
     clear ST
     obtain ⟨m, hm, rfl, ST⟩ := hrel
     by_cases hlm : (m : Int) < (lR.length : Int)
     ·have hm0 : (0 : Int) ≤ (m : Int) := by omega
      have hmb : (m : Int) ≤ 60 := by have := HLN.out; have := HB.out; omega
      have h0 : 0 < (rs.map (·.1)).length := by have := HLN.out; simp; omega
      obtain ⟨b7, o7, rfl⟩ := row_addr ST.out.r7 h0
      obtain ⟨x, hx⟩ : ∃ x, rs[m]? = some x := ⟨_, List.getElem?_eq_getElem (by have := HLN.out; omega)⟩
      obtain ⟨y0, y1, y2⟩ := row_cells ST.out.r7 (show (rs.map (·.1))[m]? = some x.1 by simp [hx])
      have HX := hi_ hx
      clear h0 hx
      go_wp2_with fail
      have X5 := hi_ (blk_new wr (.cells #[.int .i64 x.1.page, .int .i64 x.1.count, .int .i64 x.1.height] 31 (0, 0)))
      replace ST := hi_ (ST.out.below (below_alloc (Below.refl wr.heap.size wr) (.cells #[.int .i64 x.1.page, .int .i64 x.1.count, .int .i64 x.1.height] 31 (0, 0))))
      obtain ⟨gx, hgx⟩ : ∃ gx, gx = wr.heap.size := ⟨_, rfl⟩
      rw [← hgx] at X5 ⊢
      clear hgx y0 y1 y2
      generalize wr.alloc (.cells #[.int .i64 x.1.page, .int .i64 x.1.count, .int .i64 x.1.height] 31 (0, 0)) = w5 at *
      refine (tree_Open w5 b x.1).mono ?_
      rintro e w6 ⟨u, rfl, hU, hu, hb⟩
      replace ST := hi_ (ST.out.below hb)
      replace X5 := hi_ (blk_below X5.out hb)
      have U6 := hi_ hU
      clear hU hu hb
      have hLm : lL[m]? = some (x.2.map toP) := by rw [HLL.out]; simp [HX.out]
      have hbL : (m : Int) < (lL.length : Int) := by have := (List.getElem?_eq_some_iff.1 hLm).1; omega
      have r8 := ST.out.r8
      rw [← HLL.out] at r8
      obtain ⟨ad8, Al, cl, rfl, z8, hCl⟩ := list_cell r8 hLm
      have HCl := hi_ hCl
      have KX := hi_ (ST.out.kept x (List.mem_of_getElem? HX.out))
      obtain ⟨l, hl⟩ : ∃ l, l = x.2.map toP := ⟨_, rfl⟩
      rw [← hl] at z8 HCl
      have HL := hi_ hl
      have z0 := blk_cell X5.out 0
      have z1 := blk_cell X5.out 1
      have z2 := blk_cell X5.out 2
      clear hl hCl hLm r8
      go_wp2_with fail
      have CH := law_Has w6 u b L 0 D' P' x.1 x.2 Al cl ST.out.k.ts.st U6.out ST.out.k.live.1 KX.out.1 (by have := KX.out.2; omega) (by rw [← HL.out]; exact HCl.out)
      rw [← HL.out] at CH
      refine CH.mono ?_
      clear CH
      rintro e w7 ⟨rfl, hb⟩
      replace ST := hi_ (ST.out.below hb)
      replace X5 := hi_ (blk_below X5.out hb)
      clear hb z0 z1 z2 z8 U6 HCl
      have z0 := blk_cell X5.out 0
      have z1 := blk_cell X5.out 1
      have z2 := blk_cell X5.out 2
      go_wp2_with fail
      refine (law_Formed w7 b L 0 _ _ x.1 x.2 ST.out.k.ts.st ST.out.k.live.1 KX.out.1 (by have := KX.out.2; omega)).mono ?_
      rintro e w8 ⟨rfl, hb⟩
      replace ST := hi_ (ST.out.below hb)
      clear hb z0 z1 z2 X5
      go_wp2_with fail
      go_roundw
      case rel => exact ⟨m + 1, by omega, by go_num, ST⟩
      case measure => simp [intOf]; omega
     ·obtain rfl : m = lR.length := by omega
      clear hlm hm
      go_wp2_with fail
      have CH := law_Has wr t b L 0 D' P' r' kvs A6 c6 ST.out.k.ts.st ST.out.k.ts.tr ST.out.k.live.1 ST.out.k.tc (by have := HB.out; omega) (Kd.R_reads' (show Kd.R _ _ _ _ _ (.slice A6 lA.length c6) (kvs.map toP) from ST.out.r6)).2.2
      rw [← HLA.out] at CH
      refine CH.mono ?_
      clear CH
      rintro e w8 ⟨rfl, hb⟩
      replace ST := hi_ (ST.out.below hb)
      clear hb
      go_wp2_with fail
      go_ret
      exact ⟨rfl, ST.out.k.bel⟩
end Go.Proofs.YtendgmblgdkiaaaGreat
