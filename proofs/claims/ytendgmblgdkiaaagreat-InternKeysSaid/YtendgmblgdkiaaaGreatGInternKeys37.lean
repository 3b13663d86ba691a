/- A row of the tree's calls (dowserlaw10.Act) among the arguments, opened; what each says. dowserlaw14.InternKeys, walked. -/
import Derived.Test.YtendgmblgdkiaaaGreatGInternKeys0
import Derived.Test.YtendgmblgdkiaaaGreatGInternKeys36
import Derived.Test.YtendgmblgdkiaaaGreatGInternKeys31
import Derived.ChangeSlices
import Derived.SliceStrings
import Derived.Deep.Strs
import Derived.Deep.Grids
import Derived.Lib.SmallJoins
import Derived.Test.YtendgmblgdkiaaaGreatGInternKeys35
import Derived.Test.YtendgmblgdkiaaaGreatGInternKeys18
namespace Go.Proofs.YtendgmblgdkiaaaGreat
open Go.RowKit Go.ChangeShapes Go.WideShapes Go.Joins
open Go.Proofs.YtendgmblgdkiaaaGreatW
open PrintWords PrintLast PrintMore
set_option linter.unusedVariables false
set_option linter.unusedSimpArgs false

/-- A call. -/
structure TAct where
 kind : Int
 key : BA
 val : BA
instance : Inhabited TAct := ⟨⟨0, ByteArray.empty, ByteArray.empty⟩⟩
structure TActCells (w : World) (b off : Nat) (A : TAct) : Prop where
 c0 : w.cell? ⟨b, off, none⟩ = some (.int .i64 A.kind)
 c1 : w.cell? ⟨b, off + 1, none⟩ = some (.string A.key)
 c2 : w.cell? ⟨b, off + 2, none⟩ = some (.string A.val)
def TActsAt (w : World) (v : Value) (l : List TAct) : Prop :=
 ∃ a c, v = .slice a l.length c ∧ l.length ≤ 9223372036854775807 ∧ ∀ i (hi : i < l.length), ∃ b off, a = some ⟨b, off, none⟩ ∧ TActCells w b (off + i * 3) l[i]
theorem bel_cells {w w' : World} (h : Below w.heap.size w w') : ∀ p x, w.cell? p = some x → w'.cell? p = some x := by
 intro p x hx
 rw [World.cell?_of_block (w := w) (h.block p.block (World.block_lt_of_cell? w _ hx))]
 exact hx
theorem TActCells.below {w w' : World} {b off : Nat} {A : TAct} (h : TActCells w b off A) (k : Below w.heap.size w w') : TActCells w' b off A :=
 ⟨bel_cells k _ _ h.c0, bel_cells k _ _ h.c1, bel_cells k _ _ h.c2⟩
theorem TActsAt.below {w w' : World} {v : Value} {l : List TAct} (h : TActsAt w v l) (k : Below w.heap.size w w') : TActsAt w' v l := by
 obtain ⟨a, c, hv, hl, hc⟩ := h
 exact ⟨a, c, hv, hl, fun i hi => by obtain ⟨b, off, ha, h⟩ := hc i hi; exact ⟨b, off, ha, h.below k⟩⟩

variable {H : Type} {enc : TypeId × Value → H} {w : World}
theorem law_Cut (s : BA) (n : Nat) (w : World) : Calls Tryz.prog 25 #[.string s, .int .i64 (n : Int)] w fun e w' => e = .returned (.string (cutB s n)) ∧ Below w.heap.size w w' :=
 (PNd.dowserlaw01_Cut.calls s n (cutB s n) w (cut_f1 s n)).mono fun _ _ ⟨he, hd⟩ => ⟨he, hd.below⟩
/-- The key and the value as most laws take them. -/
def TAct.k (A : TAct) : BA := (⟨#[107]⟩ : BA) ++ cutB (cutB A.key 18) 15
def TAct.v (A : TAct) : BA := cutB (cutB A.val 34) 32
end Go.Proofs.YtendgmblgdkiaaaGreat

namespace Go.Proofs.YtendgmblgdkiaaaGreat
open Go.RowKit
open Go.Proofs.YtendgmblgdkiaaaGreatW
open PrintWords PrintLast PrintMore
set_option linter.unusedVariables false
set_option linter.unusedSimpArgs false

theorem u32_or (a c : Nat) (ha : a < 16777216) (hc : c < 256) : Go.bits .or .u32 ((a * 256 : Nat) : Int) (c : Int) = ((a * 256 + c : Nat) : Int) := by
 simp only [Go.bits]
 have h : (BitVec.ofInt IntKind.u32.bits ((a * 256 : Nat) : Int) ||| BitVec.ofInt IntKind.u32.bits (c : Int)).toNat = a * 256 + c := by
  rw [BitVec.toNat_or, BitVec.toNat_ofInt, BitVec.toNat_ofInt]
  show ((((a * 256 : Nat) : Int) % (2 ^ 32 : Nat)).toNat ||| ((c : Int) % (2 ^ 32 : Nat)).toNat) = _
  have e1 : (((a * 256 : Nat) : Int) % (2 ^ 32 : Nat)).toNat = a * 256 := by omega
  have e2 : ((c : Int) % (2 ^ 32 : Nat)).toNat = c := by omega
  rw [e1, e2, Nat.mul_comm a 256]
  exact (Nat.two_pow_add_eq_or_of_lt (i := 8) hc a).symm
 rw [h]
 have := IntKind.wrap_u32 ((a * 256 + c : Nat) : Int)
 rw [this]
 omega
theorem of_j (k : Nat) (x : BA) (b : Bool) : PIt.intern_Of.j0 (k + 1) x b = if b = true then some (0, 0, false) else PIt.intern_Of.l0 k x 0 1 := by rw [PIt.intern_Of.j0]
theorem of_l (k : Nat) (x0 : BA) (x4 x5 : Int) : PIt.intern_Of.l0 (k + 1) x0 x4 x5 = if x5 < 5 then (if 0 ≤ x5 then (if x5 < (x0.size : Int) then (PIt.intern_Of.l0 k x0 (Go.bits .or .u32 ((x4 * 256) % 4294967296) ((bt x0 x5) % 4294967296)) (wrap64 (x5 + 1))) else (none)) else (none)) else (if 5 < (x0.size : Int) then (some (x4, wrap64 (bt x0 5), true)) else (none)) := by rw [PIt.intern_Of.l0]
/-- A place's key read back: what its bytes say. -/
theorem of_no {k : Nat} {s : BA} (h : ¬ (s.size = 6 ∧ s.data.toList.head? = some 115)) (hk : 2 ≤ k) : PIt.intern_Of.f k s = some (0, 0, false) := by
 obtain ⟨k, rfl⟩ := Nat.exists_eq_add_of_le hk
 rw [show 2 + k = k + 1 + 1 from by omega]
 unfold PIt.intern_Of.f
 by_cases h6 : s.size = 6
 ·rw [if_pos (by omega), if_pos (by omega), if_pos (by omega)]
  rw [of_j, if_pos]
  obtain ⟨⟨l⟩⟩ := s
  have hl : l.length = 6 := h6
  rcases l with _ | ⟨c, r⟩
  ·cases hl
  ·rw [bne_iff_ne, ByteArray.toList_eq]
   intro e
   refine h ⟨h6, ?_⟩
   have e' : ((⟨⟨c :: r⟩⟩ : BA).extract 0 1).data.toList = [c] := by simp
   rw [e'] at e
   simp only [List.cons.injEq, and_true] at e
   simp [e]
 ·rw [if_neg (by omega)]
  rw [of_j, if_pos rfl]
theorem of_yes {k : Nat} {s : BA} (hs : s.size = 6) (h0 : s.data.toList.head? = some 115) (hk : 8 ≤ k) : ∃ (x : Nat) (n : Nat), n < 256 ∧ x < 4294967296 ∧ PIt.intern_Of.f k s = some ((x : Int), (n : Int), true) ∧ keyOf x n = s := by
 obtain ⟨k, rfl⟩ := Nat.exists_eq_add_of_le hk
 rw [show 8 + k = k + 1 + 1 + 1 + 1 + 1 + 1 + 1 + 1 from by omega]
 obtain ⟨⟨l⟩⟩ := s
 have hl : l.length = 6 := hs
 obtain ⟨c0, c1, c2, c3, c4, c5, rfl⟩ : ∃ c0 c1 c2 c3 c4 c5, l = [c0, c1, c2, c3, c4, c5] := by
  rcases l with _ | ⟨c0, _ | ⟨c1, _ | ⟨c2, _ | ⟨c3, _ | ⟨c4, _ | ⟨c5, _ | ⟨c6, r⟩⟩⟩⟩⟩⟩⟩
  all_goals first | exact ⟨_, _, _, _, _, _, rfl⟩ | (simp at hl)
 simp only [List.head?_cons, Option.some.injEq] at h0
 subst h0
 have b1 : bt ⟨⟨[115, c1, c2, c3, c4, c5]⟩⟩ 1 = (c1.toNat : Int) := rfl
 have b2 : bt ⟨⟨[115, c1, c2, c3, c4, c5]⟩⟩ 2 = (c2.toNat : Int) := rfl
 have b3 : bt ⟨⟨[115, c1, c2, c3, c4, c5]⟩⟩ 3 = (c3.toNat : Int) := rfl
 have b4 : bt ⟨⟨[115, c1, c2, c3, c4, c5]⟩⟩ 4 = (c4.toNat : Int) := rfl
 have b5 : bt ⟨⟨[115, c1, c2, c3, c4, c5]⟩⟩ 5 = (c5.toNat : Int) := rfl
 have n1 := c1.toNat_lt
 have n2 := c2.toNat_lt
 have n3 := c3.toNat_lt
 have n4 := c4.toNat_lt
 have n5 := c5.toNat_lt
 have hz : (⟨⟨[115, c1, c2, c3, c4, c5]⟩⟩ : BA).size = 6 := rfl
 refine ⟨((c1.toNat * 256 + c2.toNat) * 256 + c3.toNat) * 256 + c4.toNat, c5.toNat, by omega, by omega, ?_, ?_⟩
 ·have e1 : Go.bits .or .u32 ((0 * 256) % 4294967296) ((c1.toNat : Int) % 4294967296) = (c1.toNat : Int) := by
   have := u32_or 0 c1.toNat om_ om_
   rw [show ((c1.toNat : Int) % 4294967296) = (c1.toNat : Int) from by omega]
   simpa using this
  have e2 : Go.bits .or .u32 (((c1.toNat : Int) * 256) % 4294967296) ((c2.toNat : Int) % 4294967296) = ((c1.toNat * 256 + c2.toNat : Nat) : Int) := by
   have := u32_or c1.toNat c2.toNat om_ om_
   rw [show ((c2.toNat : Int) % 4294967296) = (c2.toNat : Int) from by omega, show (((c1.toNat : Int) * 256) % 4294967296) = ((c1.toNat * 256 : Nat) : Int) from by omega]
   exact this
  have e3 : Go.bits .or .u32 ((((c1.toNat * 256 + c2.toNat : Nat) : Int) * 256) % 4294967296) ((c3.toNat : Int) % 4294967296) = (((c1.toNat * 256 + c2.toNat) * 256 + c3.toNat : Nat) : Int) := by
   have := u32_or (c1.toNat * 256 + c2.toNat) c3.toNat om_ om_
   rw [show ((c3.toNat : Int) % 4294967296) = (c3.toNat : Int) from by omega, show ((((c1.toNat * 256 + c2.toNat : Nat) : Int) * 256) % 4294967296) = (((c1.toNat * 256 + c2.toNat) * 256 : Nat) : Int) from by omega]
   exact this
  have e4 : Go.bits .or .u32 (((((c1.toNat * 256 + c2.toNat) * 256 + c3.toNat : Nat) : Int) * 256) % 4294967296) ((c4.toNat : Int) % 4294967296) = ((((c1.toNat * 256 + c2.toNat) * 256 + c3.toNat) * 256 + c4.toNat : Nat) : Int) := by
   have := u32_or ((c1.toNat * 256 + c2.toNat) * 256 + c3.toNat) c4.toNat om_ om_
   rw [show ((c4.toNat : Int) % 4294967296) = (c4.toNat : Int) from by omega, show (((((c1.toNat * 256 + c2.toNat) * 256 + c3.toNat : Nat) : Int) * 256) % 4294967296) = ((((c1.toNat * 256 + c2.toNat) * 256 + c3.toNat) * 256 : Nat) : Int) from by omega]
   exact this
  have w5 : wrap64 (c5.toNat : Int) = (c5.toNat : Int) := by unfold wrap64; omega
  have w (i : Int) (h : 0 ≤ i ∧ i < 10) : wrap64 i = i := by unfold wrap64; omega
  unfold PIt.intern_Of.f
  rw [hz, if_pos (by omega), if_pos (by omega), if_pos (by omega)]
  rw [of_j, if_neg (by
   have e' : ((⟨⟨[115, c1, c2, c3, c4, c5]⟩⟩ : BA).extract 0 1).data.toList = [115] := by simp
   rw [ByteArray.toList_eq, e']
   simp)]
  rw [of_l, if_pos (by omega), if_pos (by omega), if_pos (by rw [hz]; omega), b1, e1, w _ (by omega)]
  rw [of_l, if_pos (by omega), if_pos (by omega), if_pos (by rw [hz]; omega), show (1 + 1 : Int) = 2 from rfl, b2, e2, w _ (by omega)]
  rw [of_l, if_pos (by omega), if_pos (by omega), if_pos (by rw [hz]; omega), show (2 + 1 : Int) = 3 from rfl, b3, e3, w _ (by omega)]
  rw [of_l, if_pos (by omega), if_pos (by omega), if_pos (by rw [hz]; omega), show (3 + 1 : Int) = 4 from rfl, b4, e4, w _ (by omega)]
  rw [of_l, if_neg (by omega), if_pos (by rw [hz]; omega), b5, w5]
 ·apply bytes_ext
  simp only [keyOf, bytes_app, four, strOfNums_data, List.map_cons, List.map_nil]
  have f : ∀ (c : UInt8) (x : Int), x.toNat = c.toNat → UInt8.ofNat x.toNat = c := fun c x h => by rw [h]; simp
  rw [f c1 _ (by omega), f c2 _ (by omega), f c3 _ (by omega), f c4 _ (by omega), f c5 _ (by omega)]
  rfl
theorem and255 (x : Int) : bits .and .i64 x 255 = x % 256 := by
 simp only [bits]
 have h : (BitVec.ofInt IntKind.i64.bits x &&& BitVec.ofInt IntKind.i64.bits 255).toNat = (x % 256).toNat := by
  rw [BitVec.toNat_and]
  have e : (BitVec.ofInt IntKind.i64.bits 255).toNat = 2 ^ 8 - 1 := by decide
  rw [e, Nat.and_two_pow_sub_one_eq_mod, BitVec.toNat_ofInt]
  show (x % (2 ^ 64 : Nat)).toNat % 2 ^ 8 = _
  omega
 rw [h, IntKind.wrap_i64]
 omega
theorem int_Of_key (s : Int) (n : Nat) (hs : 0 ≤ s ∧ s < 4294967296) (hn : n < 256) (w : World) :
  Calls Tryz.prog 55 #[.string (keyOf s n)] w fun e w' => e = .returned (.tuple #[.agg #[.int .u32 s, .int .i64 (n : Int)], .bool true]) ∧ Below w.heap.size w w' := by
 obtain ⟨x, m, hm, hx, hf, hk⟩ := of_yes (k := 8) (keyOf_size s n) (by simp [keyOf, bytes_app]) om_
 obtain ⟨h4, rfl⟩ := keyOf_inj hm hn hk
 have h4' : (four x).data.toList = (four s).data.toList := by rw [h4]
 simp only [four, strOfNums_data, List.map_cons, List.map_nil, List.cons.injEq, and_true] at h4'
 obtain ⟨a1, a2, a3, a4⟩ := h4'
 have f : ∀ x y : Int, 0 ≤ x ∧ x < 256 → 0 ≤ y ∧ y < 256 → UInt8.ofNat x.toNat = UInt8.ofNat y.toNat → x = y := fun x y hx hy h => by
  have := congrArg UInt8.toNat h
  simp only [UInt8.toNat_ofNat'] at this
  omega
 have a1 := f _ _ om_ om_ a1
 have a2 := f _ _ om_ om_ a2
 have a3 := f _ _ om_ om_ a3
 have a4 := f _ _ om_ om_ a4
 have hxs : (x : Int) = s := by omega
 rw [hxs] at hf
 exact PIt.intern_Of.calls 8 _ _ _ _ w hf
theorem head_get {K : BA} (h : 0 < K.size) : K.data.toList.head? = some (K[0]'h) := by
 obtain ⟨⟨l⟩⟩ := K
 rcases l with _ | ⟨c, r⟩
 ·exact absurd h (by decide)
 ·rfl
theorem of_case (s : BA) : ∃ (x : Nat) (n : Nat) (b : Bool), n < 256 ∧ PIt.intern_Of.f 8 s = some ((x : Int), (n : Int), b) ∧ ((b = true ∧ s.size = 6 ∧ s.data.toList.head? = some 115 ∧ keyOf x n = s) ∨ (b = false ∧ x = 0 ∧ n = 0 ∧ ¬ (s.size = 6 ∧ s.data.toList.head? = some 115))) := by
 by_cases h : s.size = 6 ∧ s.data.toList.head? = some 115
 ·obtain ⟨x, n, hn, -, hf, hk⟩ := of_yes (k := 8) h.1 h.2 om_
  exact ⟨x, n, true, hn, hf, .inl ⟨rfl, h.1, h.2, hk⟩⟩
 ·exact ⟨0, 0, false, by omega, of_no h om_, .inr ⟨rfl, rfl, rfl, h⟩⟩
theorem ref_Four (s : Int) (hs : 0 ≤ s ∧ s < 4294967296) (w : World) : Calls Tryz.prog 57 #[.int .u32 s] w fun e w' => e = .returned (.string (four s)) ∧ Below w.heap.size w w' := by
 refine PIf.dowserref02_Four.calls s (four s) w ?_
 unfold PIf.dowserref02_Four.f four
 rw [Int.tdiv_eq_ediv_of_nonneg hs.1, Int.tdiv_eq_ediv_of_nonneg hs.1, Int.tdiv_eq_ediv_of_nonneg hs.1, Int.tmod_eq_emod_of_nonneg hs.1]
 have e1 : s / 16777216 % 4294967296 % 256 = s / 16777216 % 256 := by omega
 have e2 : s / 65536 % 4294967296 % 256 = s / 65536 % 256 := by omega
 have e3 : s / 256 % 4294967296 % 256 = s / 256 % 256 := by omega
 have e4 : s % 256 % 256 = s % 256 := by omega
 rw [e1, e2, e3, e4]

theorem conv1 (W : World) (b : Nat) (a : Int) (h : W.heap[b]? = some (.cells #[.int .u8 a] 5 (0, 0))) : (convert 55 9 (.slice (some ⟨b, 0, none⟩) 1 1)).run Tryz.prog W = .ok (.string (strOfNums [a])) W := by
 refine run_convert_bytes_arg (P := Tryz.prog) _ 55 5 Tryz.underlying55 Tryz.underlying5 b 0 1 1 [a] rfl ?_ 9 Tryz.underlying9
 intro i hi
 rw [cell_of_heap h]
 have hi' : i = 0 := by simp at hi; omega
 subst hi'
 rfl
/-- Two boxes with places, beside what was there. -/
structure Two14 (w : World) (g h : Nat) (s : Int) (n : Nat) (W : World) : Prop where
 x : W.heap[g]? = some (.cells #[.int .u32 s, .int .i64 (n : Int)] 77 (0, 0))
 y : W.heap[h]? = some (.cells #[.int .u32 s, .int .i64 (n : Int)] 77 (0, 0))
 bel : Below w.heap.size w W
namespace Two14
variable {w W W' : World} {g h : Nat} {s : Int} {n : Nat}
theorem below (H : Two14 w g h s n W) (hb : Below W.heap.size W W') : Two14 w g h s n W' := ⟨blk_below H.x hb, blk_below H.y hb, below_then H.bel H.bel.size hb⟩
theorem alloc (H : Two14 w g h s n W) (o : Obj) : Two14 w g h s n (W.alloc o) := H.below (below_alloc (Below.refl _ _) o)
theorem drew (H : Two14 w g h s n W) : Two14 w g h s n W.drew := ⟨H.x, H.y, bel_drew H.bel⟩
theorem drewN (H : Two14 w g h s n W) (m : Nat) : Two14 w g h s n (W.drewN m) := ⟨H.x, H.y, bel_drewN H.bel m⟩
theorem four (H : Two14 w g h s n W) : W.cell? ⟨g, 0, none⟩ = some (.int .u32 s) ∧ W.cell? ⟨g, 1, none⟩ = some (.int .i64 (n : Int)) ∧ W.cell? ⟨h, 0, none⟩ = some (.int .u32 s) ∧ W.cell? ⟨h, 1, none⟩ = some (.int .i64 (n : Int)) :=
 ⟨(blk_cell H.x 0).trans rfl, (blk_cell H.x 1).trans rfl, (blk_cell H.y 0).trans rfl, (blk_cell H.y 1).trans rfl⟩
end Two14

set_option maxHeartbeats 1000000 in
set_option maxRecDepth 100000 in
theorem keys14_walk (w : World) (s i : Int) (key : BA) (hs : 0 ≤ s ∧ s < 4294967296) (hi : -9223372036854775808 ≤ i ∧ i ≤ 9223372036854775807) :
  Calls Tryz.prog 12 #[.agg #[.int .u32 s, .int .i64 i], .string key] w fun e w' => e = .returned (.bool true) ∧ Below w.heap.size w w' := by
 obtain ⟨n, hn, hni⟩ : ∃ n : Nat, n < 256 ∧ (i % 256 : Int) = n := ⟨(i % 256).toNat, by omega, by omega⟩
 have HI := hi_ hi
 have HSS := hi_ hs
 have HNI := hi_ (show bits .and .i64 i 255 = (n : Int) by rw [and255, hni])
 have HN := hi_ hn
 clear hi hs hn hni
 go_enter Tryz.func12, Tryz.ntmps12
 go_wp2_with fail
 have hF : Below w.heap.size w (w.alloc (.cells #[.int .u32 s, .int .i64 i] 77 (0, 0))) := below_alloc (Below.refl _ _) _
 have X := blk_new w (.cells #[.int .u32 s, .int .i64 i] 77 (0, 0))
 refine (awake14 _).mono ?_
 rintro e w1 ⟨rfl, hb⟩
 have X1 := hi_ (blk_below X hb)
 have B1 := hi_ (hF.trans (hb.mono hF.size))
 have hz1 : Hid (w.heap.size < w1.heap.size) := hi_ (blk_lt X1.out)
 clear hF X hb
 have x0 := blk_cell X1.out 0
 have x1 := blk_cell X1.out 1
 have hni := HNI.out
 have f0 := blk_frozen X1.out 1
 go_wp2_with fail
 have X2 := hi_ (blk_put X1.out 1 (.int .i64 (n : Int)) rfl)
 have B2 := hi_ (below_set (g := w.heap.size) (j := 1) (v := .int .i64 (n : Int)) B1.out (Nat.le_refl _))
 clear X1 B1 x0 x1 f0 hni
 generalize w1.setCell ⟨w.heap.size, 1, none⟩ (.int .i64 (n : Int)) = w2 at *
 refine (ref_Key s n w2).mono ?_
 rintro e w3 ⟨rfl, hb⟩
 have X3 := hi_ (blk_below X2.out hb)
 have B3 := hi_ (below_then B2.out B2.out.size hb)
 clear hb X2 B2
 go_wp2_with fail
 refine (int_Of_key s n HSS.out HN.out w3).mono ?_
 rintro e w4 ⟨rfl, hb⟩
 have X4 := hi_ (blk_below X3.out hb)
 have B4 := hi_ (below_then B3.out B3.out.size hb)
 clear hb X3 B3
 go_wp2_with fail
 have X5 := hi_ (blk_alloc X4.out (.cells #[.int .u32 s, .int .i64 (n : Int)] 77 (0, 0)))
 have Y5 := hi_ (blk_new w4 (.cells #[.int .u32 s, .int .i64 (n : Int)] 77 (0, 0)))
 have B5 := hi_ (below_alloc B4.out (.cells #[.int .u32 s, .int .i64 (n : Int)] 77 (0, 0)))
 have K5 := hi_ (show Two14 w w.heap.size w4.heap.size s n _ from ⟨X5.out, Y5.out, B5.out⟩)
 have hke : keyOf s n = ((⟨#[115]⟩ : BA) ++ four s) ++ strOfNums [(n : Int)] := by have := HN.out; unfold keyOf; rw [show ((n % 256 : Nat) : Int) = (n : Int) from by omega]
 have hwr : IntKind.u8.wrap (n : Int) = (n : Int) := by have := HN.out; rw [IntKind.wrap_u8]; omega
 have hwr2 : (n : Int) % 256 = (n : Int) := by have := HN.out; omega
 have CK := hi_ (fun W => ref_Key s n W)
 rw [hke] at CK
 clear hke
 have CF := hi_ (fun W => ref_Four s HSS.out W)
 clear X5 Y5 B5 X4 B4
 generalize w4.alloc (.cells #[.int .u32 s, .int .i64 (n : Int)] 77 (0, 0)) = w5 at *
 obtain ⟨h5, hh5⟩ : ∃ h5, h5 = w4.heap.size := ⟨_, rfl⟩
 rw [← hh5] at K5 ⊢
 clear hh5
 obtain ⟨g5, hg5⟩ : ∃ g5, g5 = w.heap.size := ⟨_, rfl⟩
 rw [← hg5] at K5 ⊢
 clear hg5
 have hz4 : (four s).size = 4 := four_size s
 have hz1 : ∀ a : Int, (strOfNums [a]).size = 1 := fun a => strOfNums_size [a]
 have hz5 : ((⟨#[115]⟩ : BA) ++ four s).size = 5 := by rw [ByteArray.size_append, four_size]; rfl
 -- the region, printed by genk14.py
 refine start_ (n := 22) (S := fun w' => w'.cell? ⟨g5, 0, none⟩ = some (.int .u32 s) ∧ w'.cell? ⟨g5, 1, none⟩ = some (.int .i64 (n : Int)) ∧ w'.cell? ⟨h5, 0, none⟩ = some (.int .u32 s) ∧ w'.cell? ⟨h5, 1, none⟩ = some (.int .i64 (n : Int))) (ds := []) (bz 22 0) kr_ rfl rfl (K5.out.drew.four) (fun hHeld => ?_)
 replace K5 := hi_ K5.out.drew
 generalize w5.drew = w6 at *
 refine pure_ (i := 0) (N := some 25) (v := ?_) (a' := ?_) (bz 22 1) rfl rfl kr_ (fun _ _ _ h => h) (Or.inl ⟨by rfl, ?_⟩) ?_ ?_
 rotate_left
 ·intro w'
  go_simp
  with_reducible rfl
 rotate_left
 ·simp only [Act.put, List.setIfInBounds_toArray, List.set_cons_zero, List.set_cons_succ, i64_w, i32_w]
  rfl
 refine pure_ (i := 1) (N := some 26) (v := ?_) (a' := ?_) (bz 22 3) rfl rfl kr_ (fun _ _ _ h => h) (Or.inl ⟨by rfl, ?_⟩) ?_ ?_
 rotate_left
 ·intro w'
  go_simp
  with_reducible rfl
 rotate_left
 ·simp only [Act.put, List.setIfInBounds_toArray, List.set_cons_zero, List.set_cons_succ, i64_w, i32_w]
  rfl
 refine pure_ (i := 2) (N := some 27) (v := ?_) (a' := ?_) (bz 22 7) rfl rfl kr_ (fun _ _ _ h => h) (Or.inl ⟨by rfl, ?_⟩) ?_ ?_
 rotate_left
 ·intro w'
  go_simp
  with_reducible rfl
 rotate_left
 ·simp only [Act.put, List.setIfInBounds_toArray, List.set_cons_zero, List.set_cons_succ, i64_w, i32_w]
  rfl
 refine take_ (i := 3) (N := some 28) (v := ?_) (a' := ?_) (bz 22 15) rfl rfl kr_ (fun _ _ _ h => h) (Or.inl ⟨by rfl, ?_⟩) hHeld ?_ ?_
 rotate_left
 ·rintro w' ⟨s0, s1, s2, s3⟩
  go_simp
  with_reducible rfl
 rotate_left
 ·simp only [Act.put, List.setIfInBounds_toArray, List.set_cons_zero, List.set_cons_succ, i64_w, i32_w]
  rfl
 refine take_ (i := 4) (N := some 29) (v := ?_) (a' := ?_) (bz 22 31) rfl rfl kr_ (fun _ _ _ h => h) (Or.inl ⟨by rfl, ?_⟩) hHeld ?_ ?_
 rotate_left
 ·rintro w' ⟨s0, s1, s2, s3⟩
  go_simp
  with_reducible rfl
 rotate_left
 ·simp only [Act.put, List.setIfInBounds_toArray, List.set_cons_zero, List.set_cons_succ, i64_w, i32_w]
  rfl
 refine pure_ (i := 5) (N := some 30) (v := ?_) (a' := ?_) (bz 22 63) rfl rfl kr_ (fun _ _ _ h => h) (Or.inl ⟨by rfl, ?_⟩) ?_ ?_
 rotate_left
 ·intro w'
  go_simp
  with_reducible rfl
 rotate_left
 ·simp only [Act.put, List.setIfInBounds_toArray, List.set_cons_zero, List.set_cons_succ, i64_w, i32_w]
  rfl
 refine pure_ (i := 6) (N := some 31) (v := ?_) (a' := ?_) (bz 22 127) rfl rfl kr_ (fun _ _ _ h => h) (Or.inl ⟨by rfl, ?_⟩) ?_ ?_
 rotate_left
 ·intro w'
  go_simp
  with_reducible rfl
 rotate_left
 ·simp only [Act.put, List.setIfInBounds_toArray, List.set_cons_zero, List.set_cons_succ, i64_w, i32_w]
  rfl
 refine pure_ (i := 7) (N := some 32) (v := ?_) (a' := ?_) (bz 22 255) rfl rfl kr_ (fun _ _ _ h => h) (Or.inl ⟨by rfl, ?_⟩) ?_ ?_
 rotate_left
 ·intro w'
  go_simp
  with_reducible rfl
 rotate_left
 ·simp only [Act.put, List.setIfInBounds_toArray, List.set_cons_zero, List.set_cons_succ, i64_w, i32_w]
  rfl
 refine take_ (i := 8) (N := some 33) (v := ?_) (a' := ?_) (bz 22 511) rfl rfl kr_ (fun _ _ _ h => h) (Or.inl ⟨by rfl, ?_⟩) hHeld ?_ ?_
 rotate_left
 ·rintro w' ⟨s0, s1, s2, s3⟩
  go_simp
  with_reducible rfl
 rotate_left
 ·simp only [Act.put, List.setIfInBounds_toArray, List.set_cons_zero, List.set_cons_succ, i64_w, i32_w]
  rfl
 refine pure_ (i := 10) (N := some 35) (v := ?_) (a' := ?_) (bz 22 1535) rfl rfl kr_ (fun _ _ _ h => h) (Or.inl ⟨by rfl, ?_⟩) ?_ ?_
 rotate_left
 ·intro w'
  go_simp
  with_reducible rfl
 rotate_left
 ·simp only [Act.put, List.setIfInBounds_toArray, List.set_cons_zero, List.set_cons_succ, i64_w, i32_w]
  rfl
 refine take_ (i := 11) (N := some 36) (v := ?_) (a' := ?_) (bz 22 3583) rfl rfl kr_ (fun _ _ _ h => h) (Or.inl ⟨by rfl, ?_⟩) hHeld ?_ ?_
 rotate_left
 ·rintro w' ⟨s0, s1, s2, s3⟩
  go_simp
  with_reducible rfl
 rotate_left
 ·simp only [Act.put, List.setIfInBounds_toArray, List.set_cons_zero, List.set_cons_succ, i64_w, i32_w]
  rfl
 refine pure_ (i := 14) (N := some 39) (v := ?_) (a' := ?_) (bz 22 19967) rfl rfl kr_ (fun _ _ _ h => h) (Or.inl ⟨by rfl, ?_⟩) ?_ ?_
 rotate_left
 ·intro w'
  go_simp
  with_reducible rfl
 rotate_left
 ·simp only [Act.put, List.setIfInBounds_toArray, List.set_cons_zero, List.set_cons_succ, i64_w, i32_w]
  rfl
 refine take_ (i := 15) (N := some 40) (v := ?_) (a' := ?_) (bz 22 52735) rfl rfl kr_ (fun _ _ _ h => h) (Or.inl ⟨by rfl, ?_⟩) hHeld ?_ ?_
 rotate_left
 ·rintro w' ⟨s0, s1, s2, s3⟩
  go_simp
  with_reducible rfl
 rotate_left
 ·simp only [Act.put, List.setIfInBounds_toArray, List.set_cons_zero, List.set_cons_succ, i64_w, i32_w]
  rfl
 refine pure_ (i := 16) (N := some 41) (v := ?_) (a' := ?_) (bz 22 118271) rfl rfl kr_ (fun _ _ _ h => h) (Or.inl ⟨by rfl, ?_⟩) ?_ ?_
 rotate_left
 ·intro w'
  go_simp
  with_reducible rfl
 rotate_left
 ·simp only [Act.put, List.setIfInBounds_toArray, List.set_cons_zero, List.set_cons_succ, i64_w, i32_w]
  rfl
 refine join_ (σ := Value) 3 (bz 22 524287) (fun s_ => [(34, .string (((⟨#[115]⟩ : BA) ++ four s) ++ strOfNums [(n : Int)])), (37, .string (four s)), (38, .string ((⟨#[115]⟩ : BA) ++ four s)), (42, s_), (43, .string (strOfNums [(n : Int)]))]) (fun s_ w' => (w'.cell? ⟨g5, 0, none⟩ = some (.int .u32 s) ∧ w'.cell? ⟨g5, 1, none⟩ = some (.int .i64 (n : Int)) ∧ w'.cell? ⟨h5, 0, none⟩ = some (.int .u32 s) ∧ w'.cell? ⟨h5, 1, none⟩ = some (.int .i64 (n : Int))) ∧ Two14 w g5 h5 s n w') ?_ (fun hCont => ?_)
 rotate_left
 ·skip
  refine two_ (i := 9) (j := 17) (Ni := some 34) (Nj := some 42) (bz 22 118783) (bz 22 249343) rfl rfl rfl rfl kr_ (by decide) (by decide) (fun K hK => ?_) (fun K hK => ?_)
  ·skip
   refine goes_ Tryz.func56 kr_ rfl #[.agg #[.int .u32 s, .int .i64 (n : Int)]] (by rfl) rfl rfl (by (try simp only [List.map_toArray, List.map_cons, List.map_nil]); first | done | rfl) ?_
   with_reducible refine (CK.out _).mono ?_
   rintro e x_1 ⟨rfl, hb⟩
   refine ⟨_, rfl, ?_⟩
   have n0_ := hi_ (K5.out.below hb)
   clear K5 hb
   have K5 := n0_
   clear n0_
   refine hK.out _ _ (K5.out.four) (fun hHeld => ?_)
   clear hK K
   refine norm_ (a' := ?_) ?_ ?_
   rotate_left
   ·show Act.put _ (some 34) _ = _
    simp only [Act.put, List.setIfInBounds_toArray, List.set_cons_zero, List.set_cons_succ, i64_w, i32_w]
    rfl
   refine two_ (i := 12) (j := 17) (Ni := some 37) (Nj := some 42) (bz 22 122879) (bz 22 249855) rfl rfl rfl rfl kr_ (by decide) (by decide) (fun K hK => ?_) (fun K hK => ?_)
   ·skip
    refine goes_ Tryz.func57 kr_ rfl #[.int .u32 s] (by rfl) rfl rfl (by (try simp only [List.map_toArray, List.map_cons, List.map_nil]); first | done | rfl) ?_
    with_reducible refine (CF.out _).mono ?_
    rintro e x_2 ⟨rfl, hb⟩
    refine ⟨_, rfl, ?_⟩
    have n0_ := hi_ (K5.out.below hb)
    clear K5 hb
    have K5 := n0_
    clear n0_
    refine hK.out _ _ (K5.out.four) (fun hHeld => ?_)
    clear hK K
    refine norm_ (a' := ?_) ?_ ?_
    rotate_left
    ·show Act.put _ (some 37) _ = _
     simp only [Act.put, List.setIfInBounds_toArray, List.set_cons_zero, List.set_cons_succ, i64_w, i32_w]
     rfl
    refine pure_ (i := 13) (N := some 38) (v := ?_) (a' := ?_) (bz 22 131071) rfl rfl kr_ (fun _ _ _ h => h) (Or.inl ⟨by rfl, ?_⟩) ?_ ?_
    rotate_left
    ·intro w'
     go_simp
     with_reducible rfl
    rotate_left
    ·simp only [Act.put, List.setIfInBounds_toArray, List.set_cons_zero, List.set_cons_succ, i64_w, i32_w]
     rfl
    refine one_ (i := 17) (N := some 42) (bz 22 262143) rfl rfl kr_ (by decide) (fun K hK => ?_)
    refine value_ (w1 := ?_) (v := ?_) (by rfl) rfl ?_ ?_
    rotate_left 2
    ·go_simp
     constructor
     ·rfl
     ·rfl
    have n0_ := hi_ (K5.out.alloc (.cells #[.int .u8 (n : Int)] 5))
    have HL := hi_ (blk_new x_2 (.cells #[.int .u8 (n : Int)] 5))
    generalize x_2.alloc (.cells #[.int .u8 (n : Int)] 5) = x_3 at HL n0_ ⊢
    clear K5
    have K5 := n0_
    clear n0_
    refine hK.out _ _ (K5.out.four) (fun hHeld => ?_)
    clear hK K
    refine norm_ (a' := ?_) ?_ ?_
    rotate_left
    ·show Act.put _ (some 42) _ = _
     simp only [Act.put, List.setIfInBounds_toArray, List.set_cons_zero, List.set_cons_succ, i64_w, i32_w]
     rfl
    refine one_ (i := 18) (N := some 43) (bz 22 524287) rfl rfl kr_ (by decide) (fun K hK => ?_)
    have hcv_ := conv1 _ _ _ HL.out
    refine value_ (w1 := ?_) (v := ?_) (by rfl) rfl ?_ ?_
    rotate_left 2
    ·go_simp
     constructor
     ·rfl
     ·rfl
    clear hcv_
    refine hK.out _ _ (K5.out.four) (fun hHeld => ?_)
    clear hK K
    refine norm_ (a' := ?_) ?_ ?_
    rotate_left
    ·show Act.put _ (some 43) _ = _
     simp only [Act.put, List.setIfInBounds_toArray, List.set_cons_zero, List.set_cons_succ, i64_w, i32_w]
     rfl
    exact norm_ (by simp only [putAll, Act.put, List.setIfInBounds_toArray, List.set_cons_zero, List.set_cons_succ]) (hCont (.slice (some ⟨x_2.heap.size, 0, none⟩) 1 1) _ ⟨hHeld, K5.out⟩)
   ·skip
    refine value_ (w1 := ?_) (v := ?_) (by rfl) rfl ?_ ?_
    rotate_left 2
    ·go_simp
     constructor
     ·rfl
     ·rfl
    have n0_ := hi_ (K5.out.alloc (.cells #[.int .u8 (n : Int)] 5))
    have HL := hi_ (blk_new x_1 (.cells #[.int .u8 (n : Int)] 5))
    generalize x_1.alloc (.cells #[.int .u8 (n : Int)] 5) = x_5 at HL n0_ ⊢
    clear K5
    have K5 := n0_
    clear n0_
    refine hK.out _ _ (K5.out.four) (fun hHeld => ?_)
    clear hK K
    refine norm_ (a' := ?_) ?_ ?_
    rotate_left
    ·show Act.put _ (some 42) _ = _
     simp only [Act.put, List.setIfInBounds_toArray, List.set_cons_zero, List.set_cons_succ, i64_w, i32_w]
     rfl
    refine two_ (i := 12) (j := 18) (Ni := some 37) (Nj := some 43) (bz 22 253951) (bz 22 511999) rfl rfl rfl rfl kr_ (by decide) (by decide) (fun K hK => ?_) (fun K hK => ?_)
    ·skip
     refine goes_ Tryz.func57 kr_ rfl #[.int .u32 s] (by rfl) rfl rfl (by (try simp only [List.map_toArray, List.map_cons, List.map_nil]); first | done | rfl) ?_
     with_reducible refine (CF.out _).mono ?_
     rintro e x_6 ⟨rfl, hb⟩
     refine ⟨_, rfl, ?_⟩
     have n0_ := hi_ (K5.out.below hb)
     have n1_ := hi_ (blk_below HL.out hb)
     clear HL
     have HL := n1_
     clear n1_
     clear K5 hb
     have K5 := n0_
     clear n0_
     refine hK.out _ _ (K5.out.four) (fun hHeld => ?_)
     clear hK K
     refine norm_ (a' := ?_) ?_ ?_
     rotate_left
     ·show Act.put _ (some 37) _ = _
      simp only [Act.put, List.setIfInBounds_toArray, List.set_cons_zero, List.set_cons_succ, i64_w, i32_w]
      rfl
     refine pure_ (i := 13) (N := some 38) (v := ?_) (a' := ?_) (bz 22 262143) rfl rfl kr_ (fun _ _ _ h => h) (Or.inl ⟨by rfl, ?_⟩) ?_ ?_
     rotate_left
     ·intro w'
      go_simp
      with_reducible rfl
     rotate_left
     ·simp only [Act.put, List.setIfInBounds_toArray, List.set_cons_zero, List.set_cons_succ, i64_w, i32_w]
      rfl
     refine one_ (i := 18) (N := some 43) (bz 22 524287) rfl rfl kr_ (by decide) (fun K hK => ?_)
     have hcv_ := conv1 _ _ _ HL.out
     refine value_ (w1 := ?_) (v := ?_) (by rfl) rfl ?_ ?_
     rotate_left 2
     ·go_simp
      constructor
      ·rfl
      ·rfl
     clear hcv_
     refine hK.out _ _ (K5.out.four) (fun hHeld => ?_)
     clear hK K
     refine norm_ (a' := ?_) ?_ ?_
     rotate_left
     ·show Act.put _ (some 43) _ = _
      simp only [Act.put, List.setIfInBounds_toArray, List.set_cons_zero, List.set_cons_succ, i64_w, i32_w]
      rfl
     exact norm_ (by simp only [putAll, Act.put, List.setIfInBounds_toArray, List.set_cons_zero, List.set_cons_succ]) (hCont (.slice (some ⟨x_1.heap.size, 0, none⟩) 1 1) _ ⟨hHeld, K5.out⟩)
    ·skip
     have hcv_ := conv1 _ _ _ HL.out
     refine value_ (w1 := ?_) (v := ?_) (by rfl) rfl ?_ ?_
     rotate_left 2
     ·go_simp
      constructor
      ·rfl
      ·rfl
     clear hcv_
     refine hK.out _ _ (K5.out.four) (fun hHeld => ?_)
     clear hK K
     refine norm_ (a' := ?_) ?_ ?_
     rotate_left
     ·show Act.put _ (some 43) _ = _
      simp only [Act.put, List.setIfInBounds_toArray, List.set_cons_zero, List.set_cons_succ, i64_w, i32_w]
      rfl
     refine one_ (i := 12) (N := some 37) (bz 22 516095) rfl rfl kr_ (by decide) (fun K hK => ?_)
     refine goes_ Tryz.func57 kr_ rfl #[.int .u32 s] (by rfl) rfl rfl (by (try simp only [List.map_toArray, List.map_cons, List.map_nil]); first | done | rfl) ?_
     with_reducible refine (CF.out _).mono ?_
     rintro e x_9 ⟨rfl, hb⟩
     refine ⟨_, rfl, ?_⟩
     have n0_ := hi_ (K5.out.below hb)
     have n1_ := hi_ (blk_below HL.out hb)
     clear HL
     have HL := n1_
     clear n1_
     clear K5 hb
     have K5 := n0_
     clear n0_
     refine hK.out _ _ (K5.out.four) (fun hHeld => ?_)
     clear hK K
     refine norm_ (a' := ?_) ?_ ?_
     rotate_left
     ·show Act.put _ (some 37) _ = _
      simp only [Act.put, List.setIfInBounds_toArray, List.set_cons_zero, List.set_cons_succ, i64_w, i32_w]
      rfl
     refine pure_ (i := 13) (N := some 38) (v := ?_) (a' := ?_) (bz 22 524287) rfl rfl kr_ (fun _ _ _ h => h) (Or.inl ⟨by rfl, ?_⟩) ?_ ?_
     rotate_left
     ·intro w'
      go_simp
      with_reducible rfl
     rotate_left
     ·simp only [Act.put, List.setIfInBounds_toArray, List.set_cons_zero, List.set_cons_succ, i64_w, i32_w]
      rfl
     exact norm_ (by simp only [putAll, Act.put, List.setIfInBounds_toArray, List.set_cons_zero, List.set_cons_succ]) (hCont (.slice (some ⟨x_1.heap.size, 0, none⟩) 1 1) _ ⟨hHeld, K5.out⟩)
  ·skip
   refine value_ (w1 := ?_) (v := ?_) (by rfl) rfl ?_ ?_
   rotate_left 2
   ·go_simp
    constructor
    ·rfl
    ·rfl
   have n0_ := hi_ (K5.out.alloc (.cells #[.int .u8 (n : Int)] 5))
   have HL := hi_ (blk_new w6 (.cells #[.int .u8 (n : Int)] 5))
   generalize w6.alloc (.cells #[.int .u8 (n : Int)] 5) = x_10 at HL n0_ ⊢
   clear K5
   have K5 := n0_
   clear n0_
   refine hK.out _ _ (K5.out.four) (fun hHeld => ?_)
   clear hK K
   refine norm_ (a' := ?_) ?_ ?_
   rotate_left
   ·show Act.put _ (some 42) _ = _
    simp only [Act.put, List.setIfInBounds_toArray, List.set_cons_zero, List.set_cons_succ, i64_w, i32_w]
    rfl
   refine two_ (i := 9) (j := 18) (Ni := some 34) (Nj := some 43) (bz 22 249855) (bz 22 511487) rfl rfl rfl rfl kr_ (by decide) (by decide) (fun K hK => ?_) (fun K hK => ?_)
   ·skip
    refine goes_ Tryz.func56 kr_ rfl #[.agg #[.int .u32 s, .int .i64 (n : Int)]] (by rfl) rfl rfl (by (try simp only [List.map_toArray, List.map_cons, List.map_nil]); first | done | rfl) ?_
    with_reducible refine (CK.out _).mono ?_
    rintro e x_11 ⟨rfl, hb⟩
    refine ⟨_, rfl, ?_⟩
    have n0_ := hi_ (K5.out.below hb)
    have n1_ := hi_ (blk_below HL.out hb)
    clear HL
    have HL := n1_
    clear n1_
    clear K5 hb
    have K5 := n0_
    clear n0_
    refine hK.out _ _ (K5.out.four) (fun hHeld => ?_)
    clear hK K
    refine norm_ (a' := ?_) ?_ ?_
    rotate_left
    ·show Act.put _ (some 34) _ = _
     simp only [Act.put, List.setIfInBounds_toArray, List.set_cons_zero, List.set_cons_succ, i64_w, i32_w]
     rfl
    refine two_ (i := 12) (j := 18) (Ni := some 37) (Nj := some 43) (bz 22 253951) (bz 22 511999) rfl rfl rfl rfl kr_ (by decide) (by decide) (fun K hK => ?_) (fun K hK => ?_)
    ·skip
     refine goes_ Tryz.func57 kr_ rfl #[.int .u32 s] (by rfl) rfl rfl (by (try simp only [List.map_toArray, List.map_cons, List.map_nil]); first | done | rfl) ?_
     with_reducible refine (CF.out _).mono ?_
     rintro e x_12 ⟨rfl, hb⟩
     refine ⟨_, rfl, ?_⟩
     have n0_ := hi_ (K5.out.below hb)
     have n1_ := hi_ (blk_below HL.out hb)
     clear HL
     have HL := n1_
     clear n1_
     clear K5 hb
     have K5 := n0_
     clear n0_
     refine hK.out _ _ (K5.out.four) (fun hHeld => ?_)
     clear hK K
     refine norm_ (a' := ?_) ?_ ?_
     rotate_left
     ·show Act.put _ (some 37) _ = _
      simp only [Act.put, List.setIfInBounds_toArray, List.set_cons_zero, List.set_cons_succ, i64_w, i32_w]
      rfl
     refine pure_ (i := 13) (N := some 38) (v := ?_) (a' := ?_) (bz 22 262143) rfl rfl kr_ (fun _ _ _ h => h) (Or.inl ⟨by rfl, ?_⟩) ?_ ?_
     rotate_left
     ·intro w'
      go_simp
      with_reducible rfl
     rotate_left
     ·simp only [Act.put, List.setIfInBounds_toArray, List.set_cons_zero, List.set_cons_succ, i64_w, i32_w]
      rfl
     refine one_ (i := 18) (N := some 43) (bz 22 524287) rfl rfl kr_ (by decide) (fun K hK => ?_)
     have hcv_ := conv1 _ _ _ HL.out
     refine value_ (w1 := ?_) (v := ?_) (by rfl) rfl ?_ ?_
     rotate_left 2
     ·go_simp
      constructor
      ·rfl
      ·rfl
     clear hcv_
     refine hK.out _ _ (K5.out.four) (fun hHeld => ?_)
     clear hK K
     refine norm_ (a' := ?_) ?_ ?_
     rotate_left
     ·show Act.put _ (some 43) _ = _
      simp only [Act.put, List.setIfInBounds_toArray, List.set_cons_zero, List.set_cons_succ, i64_w, i32_w]
      rfl
     exact norm_ (by simp only [putAll, Act.put, List.setIfInBounds_toArray, List.set_cons_zero, List.set_cons_succ]) (hCont (.slice (some ⟨w6.heap.size, 0, none⟩) 1 1) _ ⟨hHeld, K5.out⟩)
    ·skip
     have hcv_ := conv1 _ _ _ HL.out
     refine value_ (w1 := ?_) (v := ?_) (by rfl) rfl ?_ ?_
     rotate_left 2
     ·go_simp
      constructor
      ·rfl
      ·rfl
     clear hcv_
     refine hK.out _ _ (K5.out.four) (fun hHeld => ?_)
     clear hK K
     refine norm_ (a' := ?_) ?_ ?_
     rotate_left
     ·show Act.put _ (some 43) _ = _
      simp only [Act.put, List.setIfInBounds_toArray, List.set_cons_zero, List.set_cons_succ, i64_w, i32_w]
      rfl
     refine one_ (i := 12) (N := some 37) (bz 22 516095) rfl rfl kr_ (by decide) (fun K hK => ?_)
     refine goes_ Tryz.func57 kr_ rfl #[.int .u32 s] (by rfl) rfl rfl (by (try simp only [List.map_toArray, List.map_cons, List.map_nil]); first | done | rfl) ?_
     with_reducible refine (CF.out _).mono ?_
     rintro e x_15 ⟨rfl, hb⟩
     refine ⟨_, rfl, ?_⟩
     have n0_ := hi_ (K5.out.below hb)
     have n1_ := hi_ (blk_below HL.out hb)
     clear HL
     have HL := n1_
     clear n1_
     clear K5 hb
     have K5 := n0_
     clear n0_
     refine hK.out _ _ (K5.out.four) (fun hHeld => ?_)
     clear hK K
     refine norm_ (a' := ?_) ?_ ?_
     rotate_left
     ·show Act.put _ (some 37) _ = _
      simp only [Act.put, List.setIfInBounds_toArray, List.set_cons_zero, List.set_cons_succ, i64_w, i32_w]
      rfl
     refine pure_ (i := 13) (N := some 38) (v := ?_) (a' := ?_) (bz 22 524287) rfl rfl kr_ (fun _ _ _ h => h) (Or.inl ⟨by rfl, ?_⟩) ?_ ?_
     rotate_left
     ·intro w'
      go_simp
      with_reducible rfl
     rotate_left
     ·simp only [Act.put, List.setIfInBounds_toArray, List.set_cons_zero, List.set_cons_succ, i64_w, i32_w]
      rfl
     exact norm_ (by simp only [putAll, Act.put, List.setIfInBounds_toArray, List.set_cons_zero, List.set_cons_succ]) (hCont (.slice (some ⟨w6.heap.size, 0, none⟩) 1 1) _ ⟨hHeld, K5.out⟩)
   ·skip
    have hcv_ := conv1 _ _ _ HL.out
    refine value_ (w1 := ?_) (v := ?_) (by rfl) rfl ?_ ?_
    rotate_left 2
    ·go_simp
     constructor
     ·rfl
     ·rfl
    clear hcv_
    refine hK.out _ _ (K5.out.four) (fun hHeld => ?_)
    clear hK K
    refine norm_ (a' := ?_) ?_ ?_
    rotate_left
    ·show Act.put _ (some 43) _ = _
     simp only [Act.put, List.setIfInBounds_toArray, List.set_cons_zero, List.set_cons_succ, i64_w, i32_w]
     rfl
    refine one_ (i := 9) (N := some 34) (bz 22 511999) rfl rfl kr_ (by decide) (fun K hK => ?_)
    refine goes_ Tryz.func56 kr_ rfl #[.agg #[.int .u32 s, .int .i64 (n : Int)]] (by rfl) rfl rfl (by (try simp only [List.map_toArray, List.map_cons, List.map_nil]); first | done | rfl) ?_
    with_reducible refine (CK.out _).mono ?_
    rintro e x_17 ⟨rfl, hb⟩
    refine ⟨_, rfl, ?_⟩
    have n0_ := hi_ (K5.out.below hb)
    have n1_ := hi_ (blk_below HL.out hb)
    clear HL
    have HL := n1_
    clear n1_
    clear K5 hb
    have K5 := n0_
    clear n0_
    refine hK.out _ _ (K5.out.four) (fun hHeld => ?_)
    clear hK K
    refine norm_ (a' := ?_) ?_ ?_
    rotate_left
    ·show Act.put _ (some 34) _ = _
     simp only [Act.put, List.setIfInBounds_toArray, List.set_cons_zero, List.set_cons_succ, i64_w, i32_w]
     rfl
    refine one_ (i := 12) (N := some 37) (bz 22 516095) rfl rfl kr_ (by decide) (fun K hK => ?_)
    refine goes_ Tryz.func57 kr_ rfl #[.int .u32 s] (by rfl) rfl rfl (by (try simp only [List.map_toArray, List.map_cons, List.map_nil]); first | done | rfl) ?_
    with_reducible refine (CF.out _).mono ?_
    rintro e x_18 ⟨rfl, hb⟩
    refine ⟨_, rfl, ?_⟩
    have n0_ := hi_ (K5.out.below hb)
    have n1_ := hi_ (blk_below HL.out hb)
    clear HL
    have HL := n1_
    clear n1_
    clear K5 hb
    have K5 := n0_
    clear n0_
    refine hK.out _ _ (K5.out.four) (fun hHeld => ?_)
    clear hK K
    refine norm_ (a' := ?_) ?_ ?_
    rotate_left
    ·show Act.put _ (some 37) _ = _
     simp only [Act.put, List.setIfInBounds_toArray, List.set_cons_zero, List.set_cons_succ, i64_w, i32_w]
     rfl
    refine pure_ (i := 13) (N := some 38) (v := ?_) (a' := ?_) (bz 22 524287) rfl rfl kr_ (fun _ _ _ h => h) (Or.inl ⟨by rfl, ?_⟩) ?_ ?_
    rotate_left
    ·intro w'
     go_simp
     with_reducible rfl
    rotate_left
    ·simp only [Act.put, List.setIfInBounds_toArray, List.set_cons_zero, List.set_cons_succ, i64_w, i32_w]
     rfl
    exact norm_ (by simp only [putAll, Act.put, List.setIfInBounds_toArray, List.set_cons_zero, List.set_cons_succ]) (hCont (.slice (some ⟨w6.heap.size, 0, none⟩) 1 1) _ ⟨hHeld, K5.out⟩)
 rintro x42 W ⟨hHeld, K6⟩
 replace K6 := hi_ K6
 clear K5
 refine norm_ (a' := ?_) ?_ ?_
 rotate_left
 ·simp only [putAll, Act.put, List.setIfInBounds_toArray, List.set_cons_zero, List.set_cons_succ]
  rfl
 refine pure_ (i := 19) (N := some 44) (v := ?_) (a' := ?_) (bz 22 1048575) rfl rfl kr_ (fun _ _ _ h => h) (Or.inl ⟨by rfl, ?_⟩) ?_ ?_
 rotate_left
 ·intro w'
  go_simp
  with_reducible rfl
 rotate_left
 ·simp only [Act.put, List.setIfInBounds_toArray, List.set_cons_zero, List.set_cons_succ, i64_w, i32_w]
  rfl
 refine pure_ (i := 20) (N := some 45) (v := ?_) (a' := ?_) (bz 22 2097151) rfl rfl kr_ (fun _ _ _ h => h) (Or.inl ⟨by rfl, ?_⟩) ?_ ?_
 rotate_left
 ·intro w'
  go_simp
  with_reducible rfl
 rotate_left
 ·simp only [Act.put, List.setIfInBounds_toArray, List.set_cons_zero, List.set_cons_succ, i64_w, i32_w]
  rfl
 refine pure_ (i := 21) (N := some 46) (v := ?_) (a' := ?_) (bz 22 4194303) rfl rfl kr_ (fun _ _ _ h => h) (Or.inl ⟨by rfl, ?_⟩) ?_ ?_
 rotate_left
 ·intro w'
  go_simp
  with_reducible rfl
 rotate_left
 ·simp only [Act.put, List.setIfInBounds_toArray, List.set_cons_zero, List.set_cons_succ, i64_w, i32_w]
  rfl
 refine done_ kr_ ?_
 -- behind the region
 clear CK CF
 go_wp2_with fail
 refine (law_Cut key 9 W).mono ?_
 rintro e w7 ⟨rfl, hb⟩
 have B7 := hi_ (below_then K6.out.bel K6.out.bel.size hb)
 clear hb K6
 obtain ⟨K, hK⟩ : ∃ K, K = cutB key 9 := ⟨_, rfl⟩
 rw [← hK]
 clear hK
 obtain ⟨x, m, q, hm, hf, hcase⟩ := of_case K
 have HM := hi_ hm
 have HCS := hi_ hcase
 go_wp2_with fail
 refine (PIt.intern_Of.calls 8 K x m q w7 hf).mono ?_
 clear hf hm hcase
 rintro e w8 ⟨rfl, hb⟩
 have B8 := hi_ (below_then B7.out B7.out.size hb)
 clear hb B7
 rcases HCS.out with ⟨rfl, h6, h0, hkey⟩ | ⟨rfl, rfl, rfl, hno⟩
 ·have h6' : (K.size : Int) = 6 := by omega
  have hk0 : (((K[0]'om_).toNat : Int)) = 115 := by
   have := head_get (K := K) om_
   rw [h0] at this
   rw [← Option.some.inj this]
   rfl
  have HKEY := hi_ hkey
  clear HCS hkey
  go_wp2_with fail
  have X8 := hi_ (blk_new w8 (.cells #[.int .u32 (x : Int), .int .i64 (m : Int)] 77 (0, 0)))
  have B9 := hi_ (below_alloc B8.out (.cells #[.int .u32 (x : Int), .int .i64 (m : Int)] 77 (0, 0)))
  clear B8
  generalize w8.alloc (.cells #[.int .u32 (x : Int), .int .i64 (m : Int)] 77 (0, 0)) = w9 at *
  refine (law_made w9 4 om_).mono ?_
  rintro e w10 ⟨L, b, t, D, rfl, M, hr⟩
  have X10 := hi_ (blk_below X8.out M.bel)
  have B10 := hi_ (below_then B9.out B9.out.size M.bel)
  have M10 := hi_ M
  clear M hr X8 B9
  have x0 := blk_cell X10.out 0
  have x1 := blk_cell X10.out 1
  go_wp2_with fail
  refine (int_Get_none w10 t b L 0 D [] ⟨-1, 0, 0⟩ M10.out.pg.st M10.out.tr M10.out.pg.live.1 [] M10.out.tc (by decide) x m (by have := HM.out; omega) (fun v h => by cases h)).mono ?_
  rintro e w11 ⟨rfl, hb⟩
  have X11 := hi_ (blk_below X10.out hb)
  have B11 := hi_ (below_then B10.out B10.out.size hb)
  clear hb X10 B10 M10 x0 x1
  have x0 := blk_cell X11.out 0
  have x1 := blk_cell X11.out 1
  go_wp2_with fail
  refine (ref_Key (x : Int) m w11).mono ?_
  rintro e w12 ⟨rfl, hb⟩
  have B12 := hi_ (below_then B11.out B11.out.size hb)
  clear hb X11 B11 x0 x1
  rw [HKEY.out]
  go_wp2_with fail
  go_ret
  exact ⟨rfl, B12.out⟩
 ·by_cases h6 : K.size = 6
  ·as_aux_lemma =>
   have h6' : (K.size : Int) = 6 := by omega
   have hk0 : (((K[0]'om_).toNat : Int) == 115) = false := by
    rw [beq_eq_false_iff_ne]
    intro h
    refine hno ⟨h6, ?_⟩
    rw [head_get (by omega)]
    congr 1
    apply UInt8.toNat_inj.1
    show _ = 115
    omega
   clear HCS hno
   go_wp2_with fail
   have X8 := hi_ (blk_new w8 (.cells #[.int .u32 0, .int .i64 0] 77 (0, 0)))
   have B9 := hi_ (below_alloc B8.out (.cells #[.int .u32 0, .int .i64 0] 77 (0, 0)))
   clear B8
   generalize w8.alloc (.cells #[.int .u32 0, .int .i64 0] 77 (0, 0)) = w9 at *
   refine (law_made w9 4 om_).mono ?_
   rintro e w10 ⟨L, b, t, D, rfl, M, hr⟩
   have X10 := hi_ (blk_below X8.out M.bel)
   have B10 := hi_ (below_then B9.out B9.out.size M.bel)
   have M10 := hi_ M
   clear M hr X8 B9
   have x0 := blk_cell X10.out 0
   have x1 := blk_cell X10.out 1
   go_wp2_with fail
   refine (int_Get_none w10 t b L 0 D [] ⟨-1, 0, 0⟩ M10.out.pg.st M10.out.tr M10.out.pg.live.1 [] M10.out.tc (by decide) 0 0 om_ (fun v h => by cases h)).mono ?_
   rintro e w11 ⟨rfl, hb⟩
   have X11 := hi_ (blk_below X10.out hb)
   have B11 := hi_ (below_then B10.out B10.out.size hb)
   clear hb X10 B10 M10 x0 x1
   have x0 := blk_cell X11.out 0
   have x1 := blk_cell X11.out 1
   go_wp2_with fail
   go_ret
   exact ⟨rfl, B11.out⟩
  ·as_aux_lemma =>
   have h6' : ¬ (K.size : Int) = 6 := by omega
   clear HCS hno
   go_wp2_with fail
   have X8 := hi_ (blk_new w8 (.cells #[.int .u32 0, .int .i64 0] 77 (0, 0)))
   have B9 := hi_ (below_alloc B8.out (.cells #[.int .u32 0, .int .i64 0] 77 (0, 0)))
   clear B8
   generalize w8.alloc (.cells #[.int .u32 0, .int .i64 0] 77 (0, 0)) = w9 at *
   refine (law_made w9 4 om_).mono ?_
   rintro e w10 ⟨L, b, t, D, rfl, M, hr⟩
   have X10 := hi_ (blk_below X8.out M.bel)
   have B10 := hi_ (below_then B9.out B9.out.size M.bel)
   have M10 := hi_ M
   clear M hr X8 B9
   have x0 := blk_cell X10.out 0
   have x1 := blk_cell X10.out 1
   go_wp2_with fail
   refine (int_Get_none w10 t b L 0 D [] ⟨-1, 0, 0⟩ M10.out.pg.st M10.out.tr M10.out.pg.live.1 [] M10.out.tc (by decide) 0 0 om_ (fun v h => by cases h)).mono ?_
   rintro e w11 ⟨rfl, hb⟩
   have X11 := hi_ (blk_below X10.out hb)
   have B11 := hi_ (below_then B10.out B10.out.size hb)
   clear hb X10 B10 M10 x0 x1
   have x0 := blk_cell X11.out 0
   have x1 := blk_cell X11.out 1
   go_wp2_with fail
   go_ret
   exact ⟨rfl, B11.out⟩
end Go.Proofs.YtendgmblgdkiaaaGreat
