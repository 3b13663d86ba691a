/- slices.Replace at []string, at the row's end and in a new row; the contract. slices.Replace at []string, in a new row; slices.Insert; the contract of both. slices.Insert at []string, where i < len(s); the contract of Replace. slices.Replace at []int, at the row's end and in a new row; the contract.  -/
import Derived.Test.YtendgmblgdkiaaaGreatGInternFull0
import Derived.Test.YtendgmblgdkiaaaGreatGInternFull28
import Derived.Lib.AppendZeros
import Derived.Lib.AppendZerosOnto
namespace Go.Proofs.YtendgmblgdkiaaaGreat
open Go.RowKit
open Go.Proofs.YtendgmblgdkiaaaGreatW
open PrintWords (Kd)
set_option linter.unusedVariables false
set_option linter.unusedSimpArgs false

set_option maxHeartbeats 4000000 in
set_option maxRecDepth 100000 in
theorem rpl_E2_s (b c i n m vc : Nat) (av : Addr) (cs vs : List Value) (w : World) (R : RowIs w b 9 c cs) (hn : cs.length = n) (hm : vs.length = m) (hx : i + m < n)
  (hvs : ∀ k v, vs[k]? = some v → w.cell? (av.add k) = some v) (h1v : ∀ v ∈ vs, v.oneCell' = true) :
  Calls Tryz.prog 102 #[.slice (some ⟨b, 0, none⟩) n c, .int .i64 i, .int .i64 n, .slice (some av) m vc] w fun e w' =>
   e = .returned (.slice (some ⟨b, 0, none⟩) (i + m) c) ∧ RowIs w' b 9 c (cs.take i ++ vs) ∧ PrintWords.Kept w w' (fun k => k = b) ∧ (∀ B w0, Below B w0 w → B ≤ b → Below B w0 w') := by
 have hcap := R.cap
 have hlen := R.len
 obtain ⟨cur, hb, hs⟩ := R.blk
 rw [hn] at hlen
 obtain ⟨i0, hi0, hz0, hzs, hzb⟩ := info_parts rpinfo_s
 have hbw := R.lt
 have hap : ∀ ty, (Builtin.append_ #[22, 22] ty #[.slice (some ⟨b, 0, none⟩) i c, .slice (some av) m vc]).run Tryz.prog w = .ok (.slice (some ⟨b, 0, none⟩) (i + m) c) (w.setRow b (cur.toList.take (i * i0.size) ++ vs ++ cur.toList.drop (i * i0.size + vs.length)).toArray) := fun ty =>
  run_append_room w 22 ty 9 i0 Tryz.underlying22 hi0 b i c cur hb av m vc vs (by rw [hm, hzs, Nat.mul_one]) hvs h1v om_ (by rw [hzs, hm, Nat.mul_one]; omega)
 rw [hzs, Nat.mul_one] at hap
 obtain ⟨row, hrow⟩ : ∃ row, row = (cur.toList.take i ++ vs ++ cur.toList.drop (i + vs.length)).toArray := ⟨_, rfl⟩
 rw [← hrow] at hap
 have hrs : row.size = c := by rw [hrow]; simp; omega
 obtain ⟨W1, hW1⟩ : ∃ W1, W1 = w.setRow b row := ⟨_, rfl⟩
 rw [← hW1] at hap
 have hb1 : W1.heap[b]? = some (.cells row 9 (0, 0)) := by rw [hW1]; exact setRow_heap w b cur row _ _ hb
 have hrc : ∀ (k : Nat) (v : Value), (cs.take i ++ vs)[k]? = some v → row[k]? = some v := by
  intro k v hk
  rw [hrow]
  have hlt := (List.getElem?_eq_some_iff.1 hk).1
  simp only [List.length_append, List.length_take, hn, hm] at hlt
  rw [List.getElem?_toArray, List.append_assoc]
  by_cases hki : k < i
  ·rw [List.getElem?_append_left (by simp; omega)] at hk ⊢
   rw [List.getElem?_take_of_lt hki] at hk ⊢
   have := R.cell k v hk
   rw [cell_of_heap hb k] at this
   simpa using this
  ·rw [List.getElem?_append_right (by simp; omega)] at hk ⊢
   simp only [List.length_take, hn, Array.length_toList, hs] at hk ⊢
   rw [show min i c = min i n by omega, List.getElem?_append_left (by omega)]
   exact hk
 have hcl : ∀ ty, (Builtin.clear_ #[22] ty #[.slice (some ⟨b, i + m, none⟩) (n - (i + m)) (c - (i + m))]).run Tryz.prog W1 = .ok (.tuple #[]) (W1.setCells b (i + m) (List.replicate (n - (i + m)) (Value.string ⟨#[]⟩))) := fun ty =>
  Lib.run_clear_slice W1 _ _ ty _ Tryz.underlying22 Tryz.zeroValue9 rfl rfl b _ _ _ om_ (fun k hk => by rw [cell_of_heap hb1, Array.getElem?_eq_getElem (by omega)]; rfl) (fun k hk => frozen_of_heap hb1 _)
 have HF : Hid (RowIs (W1.setCells b (i + m) (List.replicate (n - (i + m)) (Value.string ⟨#[]⟩))) b 9 c (cs.take i ++ vs) ∧ PrintWords.Kept w (W1.setCells b (i + m) (List.replicate (n - (i + m)) (Value.string ⟨#[]⟩))) (fun k => k = b) ∧ (∀ B w0, Below B w0 w → B ≤ b → Below B w0 (W1.setCells b (i + m) (List.replicate (n - (i + m)) (Value.string ⟨#[]⟩))))) := by
  refine hi_ ⟨⟨hcap, by simp; omega, ?_, fun k v hk => ?_⟩, kept_setCells (w := w) (w1 := W1) (P := fun k => k = b) ⟨by rw [hW1]; simp [World.setRow], fun k _ hk => by rw [hW1]; exact setRow_other w b k row hk⟩ (.inl rfl) _ _, fun B w0 h hB => below_setCells ?_ hB _ _⟩
  ·obtain ⟨cur2, h1, h2⟩ := row_setCells b 9 (List.replicate (n - (i + m)) (Value.string ⟨#[]⟩)) (i + m) W1 row hb1
   exact ⟨cur2, h1, by omega⟩
  ·have hlt := (List.getElem?_eq_some_iff.1 hk).1
   simp only [List.length_append, List.length_take, hn, hm] at hlt
   rw [World.cell?_setCells_out b _ _ _ _ (fun _ _ => Or.inl (by show k < i + m; omega)), cell_of_heap hb1]
   exact hrc k v hk
  ·exact ⟨by rw [hW1]; exact h.os, by rw [hW1]; exact h.tape, by rw [hW1]; exact h.output, by rw [hW1]; simp [World.setRow]; exact h.size, fun k hk => by rw [hW1]; exact (setRow_other w b k row om_).trans (h.block k hk)⟩
 have HN := hi_ hn
 clear hn hb hb1 hrc hrow hW1 hs hrs hzs hzb hz0 hi0
 have t0 : ¬ ((i : Int) = (n : Int)) := by omega
 have t2 : (i : Int) ≤ (n : Int) := by omega
 have t5 : (n : Int) ≤ (c : Int) := by omega
 have t6 : (i : Int) ≤ (c : Int) := by omega
 have t7 : i + m < n := hx
 have hb2 : ¬ (c = i + m) := by omega
 go_enter Tryz.func102, Tryz.ntmps102
 go_wp2_with (at_builtin; refine Lib.wpList_append_run _ rfl _ _ _ _ rfl _ _ rfl rfl _ _ (hap _) ?_)
 go_ret
 exact ⟨rfl, HF.out⟩
end Go.Proofs.YtendgmblgdkiaaaGreat

namespace Go.Proofs.YtendgmblgdkiaaaGreat
open Go.RowKit
open Go.Proofs.YtendgmblgdkiaaaGreatW
open PrintWords (Kd)
set_option linter.unusedVariables false
set_option linter.unusedSimpArgs false

theorem R_enc_s {w : World} {base : Nat} {P0 : Nat → Prop} {v : Value} {xs : List ByteArray} (h : w.ownsRow base 9 1 v xs.length (xs.map Value.string)) (hok : ∀ k, v.ownBlock = some k → P0 k) : Kd.R Kd.string 9 w base P0 v xs := Kd.R_of_own h hok

set_option maxHeartbeats 4000000 in
set_option maxRecDepth 100000 in
theorem rpl_E1_s (b c i n m vc : Nat) (A : Option Addr) (xs ys : List ByteArray) (w0 w : World) (P0 : Nat → Prop) (HB : Below w0.heap.size w0 w) (hl : xs.length = n)
  (HO : Kd.R Kd.string 9 w w0.heap.size P0 (.slice (some ⟨b, 0, none⟩) n c) xs) (hf : ∀ k, w.heap.size ≤ k → P0 k) (hi : i < n) (hm : ys.length = m) (hC : Kd.C Kd.string w A m ys) (hx : n ≤ i + m) (hs : (i + m) * 16 ≤ 140737488355328) (hc : n ≤ c) (hc2 : c ≤ 9223372036854775807) :
  Calls Tryz.prog 102 #[.slice (some ⟨b, 0, none⟩) n c, .int .i64 i, .int .i64 n, .slice A m vc] w fun e w' => ∃ v : Value,
   e = .returned v ∧ Kd.R Kd.string 9 w' w0.heap.size P0 v (xs.take i ++ ys) ∧ Below w0.heap.size w0 w' ∧ PrintWords.Kept w w' P0 := by
 have HT := hi_ (Kd.R_take HO (show i ≤ xs.length by omega))
 have HP : Hid (P0 b) := hi_ (HO.1 b rfl)
 have HC := hi_ hC
 have HB0 := hi_ HB
 have HF := hi_ hf
 have hsz : Hid (w0.heap.size ≤ w.heap.size) := hi_ HB.size
 have hlen : (xs.take i ++ ys).length = i + m := by rw [List.length_append, List.length_take, hm]; omega
 have hti : (xs.take i).length = i := by rw [List.length_take]; omega
 have HTI := hi_ hti
 have HL := hi_ hlen
 have hx' : ¬ (((xs.take i ++ ys).length : Int) < (n : Int)) := by rw [hlen]; omega
 have HX := hi_ hx'
 clear HO HB hC hf hl hm hx hlen hti hx'
 have t0 : ¬ ((i : Int) = (n : Int)) := by omega
 have t2 : (i : Int) ≤ (n : Int) := by omega
 have t5 : (n : Int) ≤ (c : Int) := by omega
 have t6 : (i : Int) ≤ (c : Int) := by omega
 go_enter Tryz.func102, Tryz.ntmps102
 go_wp2_with (at_builtin; refine Kd.R_append_rows Kd.string (w0 := w0) w0.heap.size rfl (.tmp 32) (.tmp 33) 22 9 (Value.string ⟨#[]⟩) 16 rfl Tryz.underlying22 rpinfo_s rfl (by decide) om_ (.slice (some ⟨b, 0, none⟩) i c) (xs.take i) ys A m vc P0 (fun _ => False) rfl rfl HT.out HC.out (fun _ _ h => h) (fun _ h => h.elim) HF.out HB0.out hsz.out (by rw [HTI.out]; exact hs) ?_)
 intro v1 w1 hR hB hg hat
 obtain ⟨zs, hzs⟩ : ∃ zs, zs = xs.take i ++ ys := ⟨_, rfl⟩
 rw [← hzs] at hR
 have hx' : ¬ ((zs.length : Int) < (n : Int)) := by have := HX.out; rw [hzs]; omega
 have HZ := hi_ hzs
 clear hzs
 obtain ⟨A1, c1, rfl⟩ := Kd.R_slice hR
 have HR := hi_ hR
 have HB1 := hi_ hB
 have HK : Hid (PrintWords.Kept w w1 P0) := hi_ ⟨hg.size, fun k hk hn => hg.block k hk (fun e => hn (by
  have : k = b := by simpa [Value.ownBlock] using e
  subst this
  exact HP.out))⟩
 clear hR hB hg hat
 go_wp2
 go_ret
 exact ⟨_, rfl, HZ.out ▸ HR.out, HB1.out, HK.out⟩

set_option maxHeartbeats 4000000 in
set_option maxRecDepth 100000 in
theorem ins_end_s (v : Value) (n m vc : Nat) (A : Option Addr) (xs ys : List ByteArray) (w0 w : World) (P0 : Nat → Prop) (HB : Below w0.heap.size w0 w) (hl : xs.length = n)
  (HO : Kd.R Kd.string 9 w w0.heap.size P0 v xs) (hf : ∀ k, w.heap.size ≤ k → P0 k) (hm : ys.length = m) (hC : Kd.C Kd.string w A m ys) (hm0 : 0 < m) (hs : (n + m) * 16 ≤ 140737488355328) :
  Calls Tryz.prog 154 #[v, .int .i64 n, .slice A m vc] w fun e w' => ∃ v : Value,
   e = .returned v ∧ Kd.R Kd.string 9 w' w0.heap.size P0 v (xs ++ ys) ∧ Below w0.heap.size w0 w' ∧ PrintWords.Kept w w' P0 := by
 obtain ⟨A0, c0, hv, hlc, _⟩ := Kd.R_reads HO
 subst hv
 rw [hl] at hlc HO ⊢
 have HO' := hi_ HO
 have HC := hi_ hC
 have HB0 := hi_ HB
 have HF := hi_ hf
 have hsz : Hid (w0.heap.size ≤ w.heap.size) := hi_ HB.size
 have HL := hi_ hl
 have hc2 : (n : Int) ≤ 9223372036854775807 := by omega
 have hcI : (n : Int) ≤ (c0 : Int) := by omega
 clear HO HB hC hf hl hm
 have t0 : ¬ ((m : Int) = 0) := by omega
 go_enter Tryz.func154, Tryz.ntmps154
 go_wp2_with (at_builtin; refine Kd.R_append_rows Kd.string (w0 := w0) w0.heap.size rfl (.tmp 23) (.tmp 24) 22 9 (Value.string ⟨#[]⟩) 16 rfl Tryz.underlying22 rpinfo_s rfl (by decide) om_ (.slice A0 n c0) xs ys A m vc P0 (fun _ => False) rfl rfl HO'.out HC.out (fun _ _ h => h) (fun _ h => h.elim) HF.out HB0.out hsz.out (by rw [HL.out]; exact hs) ?_)
 all_goals
  intro v1 w1 hR hB hg hat
  obtain ⟨A1, c1, rfl⟩ := Kd.R_slice hR
  have HR := hi_ hR
  have HB1 := hi_ hB
  have HK : Hid (PrintWords.Kept w w1 P0) := hi_ ⟨hg.size, fun k hk hn => hg.block k hk (fun e => hn (HO'.out.1 k (by cases A0 <;> simpa [Value.ownBlock] using e.symm)))⟩
  clear hR hB hg hat
  go_wp2
  go_ret
  exact ⟨_, rfl, HR.out, HB1.out, HK.out⟩

set_option maxHeartbeats 4000000 in
set_option maxRecDepth 100000 in
theorem rpl_G_s (b c i j m vc : Nat) (av : Addr) (cs vs : List Value) (w : World) (R : RowIs w b 9 c cs) (hij : i < j) (hj : j < cs.length) (hm : vs.length = m) (hroom : c < i + m + (cs.length - j)) (hbig : (i + m + (cs.length - j)) * 16 ≤ 140737488355328)
  (hvs : ∀ k v, vs[k]? = some v → w.cell? (av.add k) = some v) (hvb : 0 < m → av.block < w.heap.size) (h1v : ∀ v ∈ vs, v.oneCell' = true) (h1c : ∀ v ∈ cs, v.oneCell' = true) :
  Calls Tryz.prog 102 #[.slice (some ⟨b, 0, none⟩) cs.length c, .int .i64 i, .int .i64 j, .slice (some av) m vc] w fun e w' => ∃ g G,
   e = .returned (.slice (some ⟨g, 0, none⟩) (i + m + (cs.length - j)) G) ∧ w.heap.size ≤ g ∧ RowIs w' g 9 G (cs.take i ++ vs ++ cs.drop j) ∧ Below w.heap.size w w' := by
 obtain ⟨n, hn⟩ : ∃ n, n = cs.length := ⟨_, rfl⟩
 have hcap := R.cap
 have hlen := R.len
 have hbw := R.lt
 rw [← hn] at hj hlen hroom hbig ⊢
 replace hn := hn.symm
 obtain ⟨i0, hi0, hz0, hzs, hzb⟩ := info_parts rpinfo_s
 have HN := hi_ hn
 have HR := hi_ R
 have HV := hi_ hvs
 have H1V := hi_ h1v
 have H1C := hi_ h1c
 have HI0 := hi_ (And.intro hi0 (And.intro hz0 (And.intro hzs hzb)))
 clear hn R hvs h1v h1c hi0 hz0 hzs hzb
 have hw1 : IntKind.i64.wrap ((i : Int) + (m : Int)) = (i : Int) + (m : Int) := by rw [IntKind.wrap_i64]; omega
 have hw2 : IntKind.i64.wrap ((i : Int) + (m : Int) + ((n - j : Nat) : Int)) = ((i + m + (n - j) : Nat) : Int) := by rw [IntKind.wrap_i64]; omega
 have hmI : (i : Int) + (m : Int) ≤ 9223372036854775807 := by omega
 have t0 : ¬ ((i : Int) = (j : Int)) := by omega
 have t1 : ¬ ((j : Int) = (n : Int)) := by omega
 have t2 : (i : Int) ≤ (j : Int) := by omega
 have t3 : (j : Int) ≤ (c : Int) := by omega
 have t4 : (j : Int) ≤ (n : Int) := by omega
 have t5 : (i : Int) ≤ (n : Int) := by omega
 have t6 : (i : Int) ≤ (c : Int) := by omega
 have t7 : (c : Int) < (i : Int) + (m : Int) + ((n - j : Nat) : Int) := by omega
 go_enter Tryz.func102, Tryz.ntmps102
 go_wp2
 go_quiet (fail)
 obtain ⟨W0, hW0⟩ : ∃ W0, W0 = w.drewN nq := ⟨_, rfl⟩
 rw [← hW0]
 have hs0 : W0.heap.size = w.heap.size := by rw [hW0]; rfl
 have hc0 : ∀ x, W0.cell? x = w.cell? x := fun x => by rw [hW0]; rfl
 have HW0 := hi_ hW0
 clear hW0
 obtain ⟨hi0, hz0, hzs, hzb⟩ := HI0.out
 have hn := HN.out
 have hik : i + (m + (n - j)) = i + m + (n - j) := by omega
 have hold : (Builtin.firstCells i0.size i (.slice (some ⟨b, 0, none⟩) i c)).run Tryz.prog W0.drew = .ok (cs.take i).toArray W0.drew := by
  rw [hzs]
  exact run_firstCells_some W0.drew 1 i ⟨b, 0, none⟩ i c (cs.take i) (by rw [List.length_take]; omega) (fun k v hk => by
   rw [Addr.add_lit, Nat.zero_add]
   rw [List.getElem?_take] at hk
   split at hk
   ·exact (hc0 _).trans (HR.out.cell k v hk)
   ·cases hk)
 have hrz : ∀ ty, (Builtin.append_ #[22, 3] ty #[.slice (some ⟨b, 0, none⟩) i c, .int .i64 ((i : Int) + (m : Int) + ((n - j : Nat) : Int) - (i : Int))]).run Tryz.prog W0 =
   .ok (.slice (some ⟨W0.heap.size, 0, none⟩) (i + m + (n - j)) (grownCap W0 (i + m + (n - j)) c 9)) (W0.drew.alloc (.cells ((cs.take i).toArray ++ Builtin.zeroCells (Value.cells (Value.string ⟨#[]⟩)) (m + (n - j)) ++ Builtin.zeroCells (Value.cells (Value.string ⟨#[]⟩)) (grownCap W0 (i + m + (n - j)) c 9 - (i + m + (n - j)))) 9 (0, 0))) := fun ty => by
  have h := Lib.run_append_grow_zeros W0 22 3 ty 9 i0 _ .i64 .i64 Tryz.underlying22 Tryz.underlying3 hi0 hz0 (some ⟨b, 0, none⟩) i c (cs.take i) hold (m + (n - j)) om_ om_ om_ om_ (by rw [hzb]; omega) (by rw [hzb, hik]; exact growslice_fits hroom hbig)
  rw [hik] at h
  rw [show (i : Int) + (m : Int) + ((n - j : Nat) : Int) - (i : Int) = ((m + (n - j) : Nat) : Int) by omega]
  exact h
 obtain ⟨G, hG⟩ : ∃ G, G = grownCap W0 (i + m + (n - j)) c 9 := ⟨_, rfl⟩
 obtain ⟨row, hrow⟩ : ∃ row : Array Value, row = (cs.take i).toArray ++ Builtin.zeroCells (Value.cells (Value.string ⟨#[]⟩)) (m + (n - j)) ++ Builtin.zeroCells (Value.cells (Value.string ⟨#[]⟩)) (G - (i + m + (n - j))) := ⟨_, rfl⟩
 rw [← hG] at hrz
 rw [← hrow] at hrz
 obtain ⟨g, hg⟩ : ∃ g, g = W0.heap.size := ⟨_, rfl⟩
 rw [← hg] at hrz
 have hGn : i + m + (n - j) ≤ G := by rw [hG]; exact grownCap_ge W0 _ _ _
 have hG63 : G ≤ 9223372036854775807 := by
  have := grownCap_le_maxLen W0 (i + m + (n - j)) c 9 (by unfold maxLen; omega)
  rw [← hG] at this
  unfold maxLen at this
  omega
 have hrs : row.size = G := by rw [hrow]; simp [Builtin.zeroCells, Value.cells]; omega
 obtain ⟨W1, hW1⟩ : ∃ W1, W1 = W0.drew.alloc (.cells row 9 (0, 0)) := ⟨_, rfl⟩
 rw [← hW1] at hrz
 have hb1 : W1.heap[g]? = some (.cells row 9 (0, 0)) := by rw [hW1, hg]; exact heap_alloc_self W0.drew _
 have hold1 : ∀ k, k < w.heap.size → W1.heap[k]? = w.heap[k]? := fun k hk => by rw [hW1, Below.heap_alloc W0.drew _ k (by show k < W0.heap.size; omega)]; rw [HW0.out]; rfl
 have hcw : ∀ x : Addr, x.block < w.heap.size → W1.cell? x = w.cell? x := fun x hx => World.cell?_of_block (hold1 _ hx)
 have hcp1 : ∀ ty dc, (Builtin.copy_ #[22, 22] ty #[.slice (some ⟨g, i, none⟩) (i + m + (n - j) - i) dc, .slice (some av) m vc]).run Tryz.prog W1 = .ok (goInt vs.length) (W1.setCells g i vs) := fun ty dc =>
  run_copy_cells W1 _ _ ty 9 g i (i + m + (n - j) - i) dc av m vc vs Tryz.underlying22 rpsz_s (by rw [hm]; simp only [Nat.min_def]; split <;> omega)
   (fun k v hk => by
    have hb : (av.add k).block = av.block := by unfold Addr.add; split <;> rfl
    rw [hcw _ (by rw [hb]; exact hvb (by have := (List.getElem?_eq_some_iff.1 hk).1; omega))]
    exact HV.out k v hk)
   (fun k hk => by rw [cell_of_heap hb1, Array.getElem?_eq_getElem (by omega)]; rfl) (fun k hk => frozen_of_heap hb1 _) H1V.out
 obtain ⟨W2, hW2⟩ : ∃ W2, W2 = W1.setCells g i vs := ⟨_, rfl⟩
 rw [← hW2] at hcp1
 have hgb : g ≠ b := by omega
 have hcp2 : ∀ (W : World), (∀ x, W.cell? x = W2.cell? x) → (∀ x, W.frozen? x = W2.frozen? x) → ∀ ty dl dc sc, dl = n - j → (Builtin.copy_ #[22, 22] ty #[.slice (some ⟨g, i + m, none⟩) dl dc, .slice (some ⟨b, j, none⟩) (n - j) sc]).run Tryz.prog W = .ok (goInt (cs.drop j).length) (W.setCells g (i + m) (cs.drop j)) := fun W hWc hWf ty dl dc sc hdl =>
  run_copy_cells W _ _ ty 9 g (i + m) dl dc ⟨b, j, none⟩ (n - j) sc (cs.drop j) Tryz.underlying22 rpsz_s (by rw [List.length_drop, hn, hdl]; simp only [Nat.min_def]; split <;> omega)
   (fun k v hk => by
    rw [Addr.add_lit, hWc, hW2, World.cell?_setCells_out _ _ _ _ _ (fun h _ => absurd h.symm hgb), hcw _ hbw]
    exact HR.out.cell (j + k) v (by rwa [List.getElem?_drop] at hk))
   (fun k hk => by
    rw [List.length_drop] at hk
    rw [hWc, hW2]
    exact isSome_setCells _ _ _ _ (fun t ht => by rw [cell_of_heap hb1, Array.getElem?_eq_getElem (by omega)]; rfl) _ (by rw [cell_of_heap hb1, Array.getElem?_eq_getElem (by omega)]; rfl))
   (fun k hk => by rw [hWf, hW2, World.frozen?_setCells]; exact frozen_of_heap hb1 _) (fun v hv => H1C.out v (List.mem_of_mem_drop hv))
 have hrc : ∀ (k : Nat) (v : Value), k < i → cs[k]? = some v → row[k]? = some v := by
  intro k v hk hv
  rw [hrow, Array.append_assoc, Array.getElem?_append_left (by simp; omega)]
  rw [List.getElem?_toArray, List.getElem?_take_of_lt hk]
  exact hv
 have HF : Hid (∀ q, RowIs ((W2.drewN q).setCells g (i + m) (cs.drop j)) g 9 G (cs.take i ++ vs ++ cs.drop j) ∧ Below w.heap.size w ((W2.drewN q).setCells g (i + m) (cs.drop j))) := by
  refine hi_ fun q => ⟨⟨hG63, by simp; omega, ?_, fun k v hk => ?_⟩, below_setCells ?_ om_ _ _⟩
  ·obtain ⟨cur2, h1, h2⟩ := row_setCells g 9 vs i W1 row hb1
   obtain ⟨cur3, h3, h4⟩ := row_setCells g 9 (cs.drop j) (i + m) (W2.drewN q) cur2 (by rw [← hW2] at h1; exact h1)
   exact ⟨cur3, h3, by omega⟩
  ·have hlt := (List.getElem?_eq_some_iff.1 hk).1
   simp only [List.length_append, List.length_take, List.length_drop, hn, hm] at hlt
   rw [cells_drewN_s]
   by_cases h1 : k < i + m
   ·rw [World.cell?_setCells_out _ _ _ _ _ (fun _ _ => Or.inl h1), hW2]
    rw [List.getElem?_append_left (by simp; omega)] at hk
    by_cases h2 : k < i
    ·rw [World.cell?_setCells_out _ _ _ _ _ (fun _ _ => Or.inl h2), cell_of_heap hb1]
     rw [List.getElem?_append_left (by simp; omega), List.getElem?_take_of_lt h2] at hk
     exact hrc k v h2 hk
    ·rw [List.getElem?_append_right (by simp; omega)] at hk
     simp only [List.length_take, hn, Nat.min_eq_left (show i ≤ n by omega)] at hk
     have := cells_in' g vs i W1 (k - i) v hk (fun t ht => by rw [cell_of_heap hb1, Array.getElem?_eq_getElem (by omega)]; rfl)
     rw [show i + (k - i) = k by omega] at this
     exact this
   ·rw [List.getElem?_append_right (by simp; omega)] at hk
    simp only [List.length_append, List.length_take, hn, hm, Nat.min_eq_left (show i ≤ n by omega)] at hk
    have hW2c : ∀ t, t < G → (W2.cell? ⟨g, t, none⟩).isSome = true := fun t ht => by
     rw [hW2]
     exact isSome_setCells _ _ _ _ (fun t ht => by rw [cell_of_heap hb1, Array.getElem?_eq_getElem (by omega)]; rfl) _ (by rw [cell_of_heap hb1, Array.getElem?_eq_getElem (by omega)]; rfl)
    have := cells_in' g (cs.drop j) (i + m) W2 (k - (i + m)) v hk (fun t ht => by rw [List.length_drop] at ht; exact hW2c _ om_)
    rw [show i + m + (k - (i + m)) = k by omega] at this
    exact this
  ·show Below w.heap.size w (W2.drewN q)
   refine PrintWords.pw_below_drewN ?_ q
   rw [hW2]
   refine below_setCells ?_ om_ _ _
   rw [hW1]
   refine PrintWords.below_alloc (PrintWords.below_drew1 ?_) _
   rw [HW0.out]
   exact PrintWords.pw_below_drewN (Below.refl _ _) _
 have hgw : Hid (w.heap.size ≤ g) := hi_ om_
 have E2 := hcp2 W2.drew (fun _ => rfl) (fun _ => rfl) 3 (n - j) (G - (i + m)) (c - j) rfl
 have hb2 : ¬ (G = i + m) := by omega
 have hb4 : ¬ (c = j) := by omega
 have hb5 : ¬ (G = i) := by omega
 have hb6 : (i : Int) + (m : Int) ≤ (i : Int) + (m : Int) + ((n - j : Nat) : Int) := by omega
 have hb7 : (0 : Int) ≤ (i : Int) + (m : Int) := by omega
 have htn : ((i : Int) + (m : Int)).toNat = i + m := by omega
 have hb8 : (i : Int) ≤ (i : Int) + (m : Int) + ((n - j : Nat) : Int) := by omega
 have hrsI : (i : Int) + (m : Int) + ((n - j : Nat) : Int) ≤ (G : Int) := by omega
 clear hW2 hcp2 hrc hW1 hb1 hold1 hcw hrow hrs hold hi0 hz0 hzs hzb hn hik hs0 hc0 hg hG hgb
 go_wp2_with (at_builtin; refine Lib.wpList_append_run _ rfl _ _ _ _ rfl _ _ rfl rfl _ _ (hrz _) ?_)
 go_region
 go_wp2
 go_ret
 exact ⟨_, _, rfl, hgw.out, HF.out 1⟩
end Go.Proofs.YtendgmblgdkiaaaGreat

namespace Go.Proofs.YtendgmblgdkiaaaGreat
open Go.RowKit
open Go.Proofs.YtendgmblgdkiaaaGreatW
open PrintWords (Kd)
set_option linter.unusedVariables false
set_option linter.unusedSimpArgs false

set_option maxHeartbeats 4000000 in
set_option maxRecDepth 100000 in
theorem ins_room_s (b c i m vc : Nat) (av : Addr) (cs vs : List Value) (w : World) (R : RowIs w b 9 c cs) (hj : i < cs.length) (hm : vs.length = m) (hm0 : 0 < m) (hroom : cs.length + m ≤ c) (hne : av.block ≠ b)
  (hvs : ∀ k v, vs[k]? = some v → w.cell? (av.add k) = some v) (h1v : ∀ v ∈ vs, v.oneCell' = true) (h1c : ∀ v ∈ cs, v.oneCell' = true) (hsh : ∃ t k, w.shape? av.block = some (t, k + 1)) :
  Calls Tryz.prog 154 #[.slice (some ⟨b, 0, none⟩) cs.length c, .int .i64 i, .slice (some av) m vc] w fun e w' =>
   e = .returned (.slice (some ⟨b, 0, none⟩) (cs.length + m) c) ∧ ∃ q, w' = ((w.drewN q).setCells b (i + m) (cs.drop i)).setCells b i vs := by
 obtain ⟨n, hn⟩ : ∃ n, n = cs.length := ⟨_, rfl⟩
 obtain ⟨tV, kV, hsV⟩ := hsh
 have hcap := R.cap
 rw [← hn] at hj hroom ⊢
 replace hn := hn.symm
 have hsB := R.shape
 have hov : ∀ lb cb, (callFunc 155 #[.slice (some av) m vc, .slice (some ⟨b, i + m, none⟩) lb cb]).run Tryz.prog w = .ok (.value (.bool false)) w := fun lb cb => by
  rw [run_callFunc_extern Tryz.func155 (by kernel_rfl) (by kernel_rfl) (by kernel_rfl) (e := Extern.SlicesOverlaps.overlaps #[22, 22] #[4]) (by kernel_rfl),
   run_overlaps_apart2 w 22 4 9 Tryz.underlying22 1 rpz_s av ⟨b, i + m, none⟩ m vc lb cb hne tV 9 kV c hsV hsB (R.frz _) (R.frz _)]
  rfl
 have hcp1 : ∀ (W : World), (∀ x, W.cell? x = w.cell? x) → (∀ x, W.frozen? x = w.frozen? x) → ∀ ty dc sc, (Builtin.copy_ #[22, 22] ty #[.slice (some ⟨b, i + m, none⟩) (n - i) dc, .slice (some ⟨b, i, none⟩) (n + m - i) sc]).run Tryz.prog W = .ok (goInt (cs.drop i).length) (W.setCells b (i + m) (cs.drop i)) := fun W hWc hWf ty dc sc =>
  run_copy_cells W _ _ ty 9 b (i + m) (n - i) dc ⟨b, i, none⟩ (n + m - i) sc (cs.drop i) Tryz.underlying22 rpsz_s (by rw [List.length_drop, hn]; simp only [Nat.min_def]; split <;> omega)
   (fun k v hk => by rw [Addr.add_lit, hWc]; exact R.cell (i + k) v (by rwa [List.getElem?_drop] at hk))
   (fun k hk => by rw [List.length_drop] at hk; rw [hWc]; exact R.some_ _ om_) (fun k hk => by rw [hWf]; exact R.frz _) (fun v hv => h1c v (List.mem_of_mem_drop hv))
 have hcpq : (Builtin.copy_ #[22, 22] 3 #[.slice (some ⟨b, i + m, none⟩) (n - i) (c - (i + m)), .slice (some ⟨b, i, none⟩) (n + m - i) (c - i)]).run Tryz.prog w.drew = .ok (goInt (cs.drop i).length) (w.drew.setCells b (i + m) (cs.drop i)) := hcp1 w.drew (fun _ => rfl) (fun _ => rfl) _ _ _
 have hcp2 : ∀ (W : World), (∀ x, W.cell? x = (w.setCells b (i + m) (cs.drop i)).cell? x) → (∀ x, W.frozen? x = w.frozen? x) → ∀ ty dc, (Builtin.copy_ #[22, 22] ty #[.slice (some ⟨b, i, none⟩) (n + m - i) dc, .slice (some av) m vc]).run Tryz.prog W = .ok (goInt vs.length) (W.setCells b i vs) := fun W hWc hWf ty dc =>
  run_copy_cells W _ _ ty 9 b i (n + m - i) dc av m vc vs Tryz.underlying22 rpsz_s (by rw [hm]; simp only [Nat.min_def]; split <;> omega)
   (fun k v hk => by
    rw [hWc, World.cell?_setCells_out b _ _ _ _ (fun h _ => absurd (by rw [← h]; unfold Addr.add; split <;> rfl) hne)]
    exact hvs k v hk)
   (fun k hk => by rw [hWc]; exact isSome_setCells b _ _ _ (fun t ht => by rw [List.length_drop] at ht; exact R.some_ _ om_) _ (R.some_ _ om_))
   (fun k hk => by rw [hWf]; exact R.frz _) h1v
 have hcpq2 : (Builtin.copy_ #[22, 22] 3 #[.slice (some ⟨b, i, none⟩) (n + m - i) (c - i), .slice (some av) m vc]).run Tryz.prog (w.drew.setCells b (i + m) (cs.drop i)) = .ok (goInt vs.length) ((w.drew.setCells b (i + m) (cs.drop i)).setCells b i vs) := hcp2 (w.drew.setCells b (i + m) (cs.drop i)) (fun x => cells_drewN_s b (cs.drop i) (i + m) w 1 x) (fun x => by rw [World.frozen?_setCells]; rfl) _ _
 clear hcp1 hcp2
 have HN := hi_ hn
 clear hn
 have hw1 : IntKind.i64.wrap ((i : Int) + (m : Int)) = (i : Int) + (m : Int) := by rw [IntKind.wrap_i64]; omega
 have hmI : (i : Int) + (m : Int) ≤ 9223372036854775807 := by omega
 have hnI : (n : Int) + (m : Int) ≤ (c : Int) := by omega
 have hb1 : (0 : Int) ≤ (i : Int) + (m : Int) := by omega
 have hb3 : (i : Int) + (m : Int) ≤ (n : Int) + (m : Int) := by omega
 have htn : ((i : Int) + (m : Int)).toNat = i + m := by omega
 have htn2 : ((n : Int) + (m : Int)).toNat = n + m := by omega
 have hle : n + m - (i + m) = n - i := by omega
 have hb2 : ¬ (c = i + m) := by omega
 have hb4 : ¬ (c = i) := by omega
 have t0 : ¬ ((m : Int) = 0) := by omega
 have t1 : ¬ ((i : Int) = (n : Int)) := by omega
 have t2 : (i : Int) ≤ (n : Int) := by omega
 have t3 : (i : Int) ≤ (c : Int) := by omega
 have t4 : (i : Int) ≤ (n : Int) + (m : Int) := by omega
 go_enter Tryz.func154, Tryz.ntmps154
 go_wp2_with (simp only [hov])
 go_region
 go_wp2
 go_ret
 exact ⟨rfl, 1, rfl⟩

set_option maxHeartbeats 4000000 in
set_option maxRecDepth 100000 in
theorem ins_grow_s (b c i m vc : Nat) (av : Addr) (cs vs : List Value) (w : World) (R : RowIs w b 9 c cs) (hj : i < cs.length) (hm : vs.length = m) (hm0 : 0 < m) (hroom : c < cs.length + m) (hbig : (cs.length + m) * 16 ≤ 140737488355328)
  (hvs : ∀ k v, vs[k]? = some v → w.cell? (av.add k) = some v) (hvb : 0 < m → av.block < w.heap.size) (h1v : ∀ v ∈ vs, v.oneCell' = true) (h1c : ∀ v ∈ cs, v.oneCell' = true) :
  Calls Tryz.prog 154 #[.slice (some ⟨b, 0, none⟩) cs.length c, .int .i64 i, .slice (some av) m vc] w fun e w' => ∃ g G,
   e = .returned (.slice (some ⟨g, 0, none⟩) (cs.length + m) G) ∧ w.heap.size ≤ g ∧ RowIs w' g 9 G (cs.take i ++ vs ++ cs.drop i) ∧ Below w.heap.size w w' := by
 obtain ⟨n, hn⟩ : ∃ n, n = cs.length := ⟨_, rfl⟩
 have hcap := R.cap
 have hlen := R.len
 have hbw := R.lt
 rw [← hn] at hj hlen hroom hbig ⊢
 replace hn := hn.symm
 obtain ⟨i0, hi0, hz0, hzs, hzb⟩ := info_parts rpinfo_s
 have HN := hi_ hn
 have HR := hi_ R
 have HV := hi_ hvs
 have H1V := hi_ h1v
 have H1C := hi_ h1c
 have HI0 := hi_ (And.intro hi0 (And.intro hz0 (And.intro hzs hzb)))
 clear hn R hvs h1v h1c hi0 hz0 hzs hzb
 have hmI : (i : Int) + (m : Int) ≤ 9223372036854775807 := by omega
 have hw1 : IntKind.i64.wrap ((i : Int) + (m : Int)) = (i : Int) + (m : Int) := by rw [IntKind.wrap_i64]; omega
 have t0 : ¬ ((m : Int) = 0) := by omega
 have t1 : ¬ ((i : Int) = (n : Int)) := by omega
 have t2 : (i : Int) ≤ (n : Int) := by omega
 have t3 : (i : Int) ≤ (c : Int) := by omega
 have t7 : (c : Int) < (n : Int) + (m : Int) := by omega
 have hnI : (n : Int) + (m : Int) ≤ 9223372036854775807 := by omega
 obtain ⟨W0, hW0⟩ : ∃ W0, W0 = w.drewN 0 := ⟨_, rfl⟩
 have hs0 : W0.heap.size = w.heap.size := by rw [hW0]; rfl
 have hc0 : ∀ x, W0.cell? x = w.cell? x := fun x => by rw [hW0]; rfl
 have HW0 := hi_ hW0
 clear hW0
 obtain ⟨hi0, hz0, hzs, hzb⟩ := HI0.out
 have hn := HN.out
 have hik : i + (n + m - i) = n + m := by omega
 have hold : (Builtin.firstCells i0.size i (.slice (some ⟨b, 0, none⟩) i c)).run Tryz.prog W0.drew = .ok (cs.take i).toArray W0.drew := by
  rw [hzs]
  exact run_firstCells_some W0.drew 1 i ⟨b, 0, none⟩ i c (cs.take i) (by rw [List.length_take]; omega) (fun k v hk => by
   rw [Addr.add_lit, Nat.zero_add]
   rw [List.getElem?_take] at hk
   split at hk
   ·exact (hc0 _).trans (HR.out.cell k v hk)
   ·cases hk)
 have hrz : ∀ ty, (Builtin.append_ #[22, 3] ty #[.slice (some ⟨b, 0, none⟩) i c, .int .i64 ((n : Int) + (m : Int) - (i : Int))]).run Tryz.prog W0 =
   .ok (.slice (some ⟨W0.heap.size, 0, none⟩) (n + m) (grownCap W0 (n + m) c 9)) (W0.drew.alloc (.cells ((cs.take i).toArray ++ Builtin.zeroCells (Value.cells (Value.string ⟨#[]⟩)) (n + m - i) ++ Builtin.zeroCells (Value.cells (Value.string ⟨#[]⟩)) (grownCap W0 (n + m) c 9 - (n + m))) 9 (0, 0))) := fun ty => by
  have h := Lib.run_append_grow_zeros W0 22 3 ty 9 i0 _ .i64 .i64 Tryz.underlying22 Tryz.underlying3 hi0 hz0 (some ⟨b, 0, none⟩) i c (cs.take i) hold (n + m - i) om_ om_ om_ om_ (by rw [hzb]; omega) (by rw [hzb, hik]; exact growslice_fits hroom hbig)
  rw [hik] at h
  rw [show (n : Int) + (m : Int) - (i : Int) = ((n + m - i : Nat) : Int) by omega]
  exact h
 obtain ⟨G, hG⟩ : ∃ G, G = grownCap W0 (n + m) c 9 := ⟨_, rfl⟩
 obtain ⟨row, hrow⟩ : ∃ row : Array Value, row = (cs.take i).toArray ++ Builtin.zeroCells (Value.cells (Value.string ⟨#[]⟩)) (n + m - i) ++ Builtin.zeroCells (Value.cells (Value.string ⟨#[]⟩)) (G - (n + m)) := ⟨_, rfl⟩
 rw [← hG] at hrz
 rw [← hrow] at hrz
 obtain ⟨g, hg⟩ : ∃ g, g = W0.heap.size := ⟨_, rfl⟩
 rw [← hg] at hrz
 have hGn : n + m ≤ G := by rw [hG]; exact grownCap_ge W0 _ _ _
 have hG63 : G ≤ 9223372036854775807 := by
  have := grownCap_le_maxLen W0 (n + m) c 9 (by unfold maxLen; omega)
  rw [← hG] at this
  unfold maxLen at this
  omega
 have hrs : row.size = G := by rw [hrow]; simp [Builtin.zeroCells, Value.cells]; omega
 obtain ⟨W1, hW1⟩ : ∃ W1, W1 = W0.drew.alloc (.cells row 9 (0, 0)) := ⟨_, rfl⟩
 rw [← hW1] at hrz
 have hb1 : W1.heap[g]? = some (.cells row 9 (0, 0)) := by rw [hW1, hg]; exact heap_alloc_self W0.drew _
 have hold1 : ∀ k, k < w.heap.size → W1.heap[k]? = w.heap[k]? := fun k hk => by rw [hW1, Below.heap_alloc W0.drew _ k (by show k < W0.heap.size; omega)]; rw [HW0.out]; rfl
 have hcw : ∀ x : Addr, x.block < w.heap.size → W1.cell? x = w.cell? x := fun x hx => World.cell?_of_block (hold1 _ hx)
 have hcp1 : ∀ ty dc, (Builtin.copy_ #[22, 22] ty #[.slice (some ⟨g, i, none⟩) (n + m - i) dc, .slice (some av) m vc]).run Tryz.prog W1 = .ok (goInt vs.length) (W1.setCells g i vs) := fun ty dc =>
  run_copy_cells W1 _ _ ty 9 g i (n + m - i) dc av m vc vs Tryz.underlying22 rpsz_s (by rw [hm]; simp only [Nat.min_def]; split <;> omega)
   (fun k v hk => by
    have hb : (av.add k).block = av.block := by unfold Addr.add; split <;> rfl
    rw [hcw _ (by rw [hb]; exact hvb (by have := (List.getElem?_eq_some_iff.1 hk).1; omega))]
    exact HV.out k v hk)
   (fun k hk => by rw [cell_of_heap hb1, Array.getElem?_eq_getElem (by omega)]; rfl) (fun k hk => frozen_of_heap hb1 _) H1V.out
 obtain ⟨W2, hW2⟩ : ∃ W2, W2 = W1.setCells g i vs := ⟨_, rfl⟩
 rw [← hW2] at hcp1
 have hgb : g ≠ b := by omega
 have hcp2 : ∀ (W : World), (∀ x, W.cell? x = W2.cell? x) → (∀ x, W.frozen? x = W2.frozen? x) → ∀ ty dl dc sc, dl = n - i → (Builtin.copy_ #[22, 22] ty #[.slice (some ⟨g, i + m, none⟩) dl dc, .slice (some ⟨b, i, none⟩) (n - i) sc]).run Tryz.prog W = .ok (goInt (cs.drop i).length) (W.setCells g (i + m) (cs.drop i)) := fun W hWc hWf ty dl dc sc hdl =>
  run_copy_cells W _ _ ty 9 g (i + m) dl dc ⟨b, i, none⟩ (n - i) sc (cs.drop i) Tryz.underlying22 rpsz_s (by rw [List.length_drop, hn, hdl]; simp only [Nat.min_def]; split <;> omega)
   (fun k v hk => by
    rw [Addr.add_lit, hWc, hW2, World.cell?_setCells_out _ _ _ _ _ (fun h _ => absurd h.symm hgb), hcw _ hbw]
    exact HR.out.cell (i + k) v (by rwa [List.getElem?_drop] at hk))
   (fun k hk => by
    rw [List.length_drop] at hk
    rw [hWc, hW2]
    exact isSome_setCells _ _ _ _ (fun t ht => by rw [cell_of_heap hb1, Array.getElem?_eq_getElem (by omega)]; rfl) _ (by rw [cell_of_heap hb1, Array.getElem?_eq_getElem (by omega)]; rfl))
   (fun k hk => by rw [hWf, hW2, World.frozen?_setCells]; exact frozen_of_heap hb1 _) (fun v hv => H1C.out v (List.mem_of_mem_drop hv))
 have hrc : ∀ (k : Nat) (v : Value), k < i → cs[k]? = some v → row[k]? = some v := by
  intro k v hk hv
  rw [hrow, Array.append_assoc, Array.getElem?_append_left (by simp; omega)]
  rw [List.getElem?_toArray, List.getElem?_take_of_lt hk]
  exact hv
 have HF : Hid (∀ q, RowIs ((W2.drewN q).setCells g (i + m) (cs.drop i)) g 9 G (cs.take i ++ vs ++ cs.drop i) ∧ Below w.heap.size w ((W2.drewN q).setCells g (i + m) (cs.drop i))) := by
  refine hi_ fun q => ⟨⟨hG63, by simp; omega, ?_, fun k v hk => ?_⟩, below_setCells ?_ om_ _ _⟩
  ·obtain ⟨cur2, h1, h2⟩ := row_setCells g 9 vs i W1 row hb1
   obtain ⟨cur3, h3, h4⟩ := row_setCells g 9 (cs.drop i) (i + m) (W2.drewN q) cur2 (by rw [← hW2] at h1; exact h1)
   exact ⟨cur3, h3, by omega⟩
  ·have hlt := (List.getElem?_eq_some_iff.1 hk).1
   simp only [List.length_append, List.length_take, List.length_drop, hn, hm] at hlt
   rw [cells_drewN_s]
   by_cases h1 : k < i + m
   ·rw [World.cell?_setCells_out _ _ _ _ _ (fun _ _ => Or.inl h1), hW2]
    rw [List.getElem?_append_left (by simp; omega)] at hk
    by_cases h2 : k < i
    ·rw [World.cell?_setCells_out _ _ _ _ _ (fun _ _ => Or.inl h2), cell_of_heap hb1]
     rw [List.getElem?_append_left (by simp; omega), List.getElem?_take_of_lt h2] at hk
     exact hrc k v h2 hk
    ·rw [List.getElem?_append_right (by simp; omega)] at hk
     simp only [List.length_take, hn, Nat.min_eq_left (show i ≤ n by omega)] at hk
     have := cells_in' g vs i W1 (k - i) v hk (fun t ht => by rw [cell_of_heap hb1, Array.getElem?_eq_getElem (by omega)]; rfl)
     rw [show i + (k - i) = k by omega] at this
     exact this
   ·rw [List.getElem?_append_right (by simp; omega)] at hk
    simp only [List.length_append, List.length_take, hn, hm, Nat.min_eq_left (show i ≤ n by omega)] at hk
    have hW2c : ∀ t, t < G → (W2.cell? ⟨g, t, none⟩).isSome = true := fun t ht => by
     rw [hW2]
     exact isSome_setCells _ _ _ _ (fun t ht => by rw [cell_of_heap hb1, Array.getElem?_eq_getElem (by omega)]; rfl) _ (by rw [cell_of_heap hb1, Array.getElem?_eq_getElem (by omega)]; rfl)
    have := cells_in' g (cs.drop i) (i + m) W2 (k - (i + m)) v hk (fun t ht => by rw [List.length_drop] at ht; exact hW2c _ om_)
    rw [show i + m + (k - (i + m)) = k by omega] at this
    exact this
  ·show Below w.heap.size w (W2.drewN q)
   refine PrintWords.pw_below_drewN ?_ q
   rw [hW2]
   refine below_setCells ?_ om_ _ _
   rw [hW1]
   refine PrintWords.below_alloc (PrintWords.below_drew1 ?_) _
   rw [HW0.out]
   exact PrintWords.pw_below_drewN (Below.refl _ _) _
 have hgw : Hid (w.heap.size ≤ g) := hi_ om_
 have E2 := hcp2 W2.drew (fun _ => rfl) (fun _ => rfl) 3 (n + m - (i + m)) (G - (i + m)) (c - i) om_
 have hb2 : ¬ (G = i + m) := by omega
 have hb4 : ¬ (c = i) := by omega
 have hb5 : ¬ (G = i) := by omega
 have hb6 : (i : Int) + (m : Int) ≤ (n : Int) + (m : Int) := by omega
 have hb7 : (0 : Int) ≤ (i : Int) + (m : Int) := by omega
 have htn : ((i : Int) + (m : Int)).toNat = i + m := by omega
 have hb8 : (i : Int) ≤ (n : Int) + (m : Int) := by omega
 have hrsI : (n : Int) + (m : Int) ≤ (G : Int) := by omega
 clear hW2 hcp2 hrc hW1 hb1 hold1 hcw hrow hrs hold hi0 hz0 hzs hzb hn hik hs0 hc0 hg hG hgb
 have e0 := HW0.out
 subst e0
 go_enter Tryz.func154, Tryz.ntmps154
 go_wp2_with (at_builtin; refine Lib.wpList_append_run _ rfl _ _ _ _ rfl _ _ rfl rfl _ _ (hrz _) ?_)
 go_region
 go_wp2
 go_ret
 exact ⟨_, _, rfl, hgw.out, HF.out 1⟩
end Go.Proofs.YtendgmblgdkiaaaGreat

namespace Go.Proofs.YtendgmblgdkiaaaGreat
open Go.RowKit
open Go.Proofs.YtendgmblgdkiaaaGreatW
open PrintWords (Kd)
set_option linter.unusedVariables false
set_option linter.unusedSimpArgs false

set_option maxHeartbeats 4000000 in
set_option maxRecDepth 100000 in
theorem rpl_E2_i (b c i n m vc : Nat) (av : Addr) (cs vs : List Value) (w : World) (R : RowIs w b 3 c cs) (hn : cs.length = n) (hm : vs.length = m) (hx : i + m < n)
  (hvs : ∀ k v, vs[k]? = some v → w.cell? (av.add k) = some v) (h1v : ∀ v ∈ vs, v.oneCell' = true) :
  Calls Tryz.prog 229 #[.slice (some ⟨b, 0, none⟩) n c, .int .i64 i, .int .i64 n, .slice (some av) m vc] w fun e w' =>
   e = .returned (.slice (some ⟨b, 0, none⟩) (i + m) c) ∧ RowIs w' b 3 c (cs.take i ++ vs) ∧ PrintWords.Kept w w' (fun k => k = b) ∧ (∀ B w0, Below B w0 w → B ≤ b → Below B w0 w') := by
 have hcap := R.cap
 have hlen := R.len
 obtain ⟨cur, hb, hs⟩ := R.blk
 rw [hn] at hlen
 obtain ⟨i0, hi0, hz0, hzs, hzb⟩ := info_parts rpinfo_i
 have hbw := R.lt
 have hap : ∀ ty, (Builtin.append_ #[84, 84] ty #[.slice (some ⟨b, 0, none⟩) i c, .slice (some av) m vc]).run Tryz.prog w = .ok (.slice (some ⟨b, 0, none⟩) (i + m) c) (w.setRow b (cur.toList.take (i * i0.size) ++ vs ++ cur.toList.drop (i * i0.size + vs.length)).toArray) := fun ty =>
  run_append_room w 84 ty 3 i0 Tryz.underlying84 hi0 b i c cur hb av m vc vs (by rw [hm, hzs, Nat.mul_one]) hvs h1v om_ (by rw [hzs, hm, Nat.mul_one]; omega)
 rw [hzs, Nat.mul_one] at hap
 obtain ⟨row, hrow⟩ : ∃ row, row = (cur.toList.take i ++ vs ++ cur.toList.drop (i + vs.length)).toArray := ⟨_, rfl⟩
 rw [← hrow] at hap
 have hrs : row.size = c := by rw [hrow]; simp; omega
 obtain ⟨W1, hW1⟩ : ∃ W1, W1 = w.setRow b row := ⟨_, rfl⟩
 rw [← hW1] at hap
 have hb1 : W1.heap[b]? = some (.cells row 3 (0, 0)) := by rw [hW1]; exact setRow_heap w b cur row _ _ hb
 have hrc : ∀ (k : Nat) (v : Value), (cs.take i ++ vs)[k]? = some v → row[k]? = some v := by
  intro k v hk
  rw [hrow]
  have hlt := (List.getElem?_eq_some_iff.1 hk).1
  simp only [List.length_append, List.length_take, hn, hm] at hlt
  rw [List.getElem?_toArray, List.append_assoc]
  by_cases hki : k < i
  ·rw [List.getElem?_append_left (by simp; omega)] at hk ⊢
   rw [List.getElem?_take_of_lt hki] at hk ⊢
   have := R.cell k v hk
   rw [cell_of_heap hb k] at this
   simpa using this
  ·rw [List.getElem?_append_right (by simp; omega)] at hk ⊢
   simp only [List.length_take, hn, Array.length_toList, hs] at hk ⊢
   rw [show min i c = min i n by omega, List.getElem?_append_left (by omega)]
   exact hk
 have hcl : ∀ ty, (Builtin.clear_ #[84] ty #[.slice (some ⟨b, i + m, none⟩) (n - (i + m)) (c - (i + m))]).run Tryz.prog W1 = .ok (.tuple #[]) (W1.setCells b (i + m) (List.replicate (n - (i + m)) (Value.int .i64 0))) := fun ty =>
  Lib.run_clear_slice W1 _ _ ty _ Tryz.underlying84 Tryz.zeroValue3 rfl rfl b _ _ _ om_ (fun k hk => by rw [cell_of_heap hb1, Array.getElem?_eq_getElem (by omega)]; rfl) (fun k hk => frozen_of_heap hb1 _)
 have HF : Hid (RowIs (W1.setCells b (i + m) (List.replicate (n - (i + m)) (Value.int .i64 0))) b 3 c (cs.take i ++ vs) ∧ PrintWords.Kept w (W1.setCells b (i + m) (List.replicate (n - (i + m)) (Value.int .i64 0))) (fun k => k = b) ∧ (∀ B w0, Below B w0 w → B ≤ b → Below B w0 (W1.setCells b (i + m) (List.replicate (n - (i + m)) (Value.int .i64 0))))) := by
  refine hi_ ⟨⟨hcap, by simp; omega, ?_, fun k v hk => ?_⟩, kept_setCells (w := w) (w1 := W1) (P := fun k => k = b) ⟨by rw [hW1]; simp [World.setRow], fun k _ hk => by rw [hW1]; exact setRow_other w b k row hk⟩ (.inl rfl) _ _, fun B w0 h hB => below_setCells ?_ hB _ _⟩
  ·obtain ⟨cur2, h1, h2⟩ := row_setCells b 3 (List.replicate (n - (i + m)) (Value.int .i64 0)) (i + m) W1 row hb1
   exact ⟨cur2, h1, by omega⟩
  ·have hlt := (List.getElem?_eq_some_iff.1 hk).1
   simp only [List.length_append, List.length_take, hn, hm] at hlt
   rw [World.cell?_setCells_out b _ _ _ _ (fun _ _ => Or.inl (by show k < i + m; omega)), cell_of_heap hb1]
   exact hrc k v hk
  ·exact ⟨by rw [hW1]; exact h.os, by rw [hW1]; exact h.tape, by rw [hW1]; exact h.output, by rw [hW1]; simp [World.setRow]; exact h.size, fun k hk => by rw [hW1]; exact (setRow_other w b k row om_).trans (h.block k hk)⟩
 have HN := hi_ hn
 clear hn hb hb1 hrc hrow hW1 hs hrs hzs hzb hz0 hi0
 have t0 : ¬ ((i : Int) = (n : Int)) := by omega
 have t2 : (i : Int) ≤ (n : Int) := by omega
 have t5 : (n : Int) ≤ (c : Int) := by omega
 have t6 : (i : Int) ≤ (c : Int) := by omega
 have t7 : i + m < n := hx
 have hb2 : ¬ (c = i + m) := by omega
 go_enter Tryz.func229, Tryz.ntmps229
 go_wp2_with (at_builtin; refine Lib.wpList_append_run _ rfl _ _ _ _ rfl _ _ rfl rfl _ _ (hap _) ?_)
 go_ret
 exact ⟨rfl, HF.out⟩
end Go.Proofs.YtendgmblgdkiaaaGreat

namespace Go.Proofs.YtendgmblgdkiaaaGreat
open Go.RowKit
open Go.Proofs.YtendgmblgdkiaaaGreatW
open PrintWords (Kd)
set_option linter.unusedVariables false
set_option linter.unusedSimpArgs false

theorem R_enc_i {w : World} {base : Nat} {P0 : Nat → Prop} {v : Value} {xs : List Int} (h : w.ownsRow base 3 1 v xs.length (xs.map (Value.int .i64))) (hok : ∀ k, v.ownBlock = some k → P0 k) : Kd.R (Kd.int .i64) 3 w base P0 v xs := Kd.R_of_own h hok

set_option maxHeartbeats 4000000 in
set_option maxRecDepth 100000 in
theorem rpl_E1_i (b c i n m vc : Nat) (A : Option Addr) (xs ys : List Int) (w0 w : World) (P0 : Nat → Prop) (HB : Below w0.heap.size w0 w) (hl : xs.length = n)
  (HO : Kd.R (Kd.int .i64) 3 w w0.heap.size P0 (.slice (some ⟨b, 0, none⟩) n c) xs) (hf : ∀ k, w.heap.size ≤ k → P0 k) (hi : i < n) (hm : ys.length = m) (hC : Kd.C (Kd.int .i64) w A m ys) (hx : n ≤ i + m) (hs : (i + m) * 8 ≤ 140737488355328) (hc : n ≤ c) (hc2 : c ≤ 9223372036854775807) :
  Calls Tryz.prog 229 #[.slice (some ⟨b, 0, none⟩) n c, .int .i64 i, .int .i64 n, .slice A m vc] w fun e w' => ∃ v : Value,
   e = .returned v ∧ Kd.R (Kd.int .i64) 3 w' w0.heap.size P0 v (xs.take i ++ ys) ∧ Below w0.heap.size w0 w' ∧ PrintWords.Kept w w' P0 := by
 have HT := hi_ (Kd.R_take HO (show i ≤ xs.length by omega))
 have HP : Hid (P0 b) := hi_ (HO.1 b rfl)
 have HC := hi_ hC
 have HB0 := hi_ HB
 have HF := hi_ hf
 have hsz : Hid (w0.heap.size ≤ w.heap.size) := hi_ HB.size
 have hlen : (xs.take i ++ ys).length = i + m := by rw [List.length_append, List.length_take, hm]; omega
 have hti : (xs.take i).length = i := by rw [List.length_take]; omega
 have HTI := hi_ hti
 have HL := hi_ hlen
 have hx' : ¬ (((xs.take i ++ ys).length : Int) < (n : Int)) := by rw [hlen]; omega
 have HX := hi_ hx'
 clear HO HB hC hf hl hm hx hlen hti hx'
 have t0 : ¬ ((i : Int) = (n : Int)) := by omega
 have t2 : (i : Int) ≤ (n : Int) := by omega
 have t5 : (n : Int) ≤ (c : Int) := by omega
 have t6 : (i : Int) ≤ (c : Int) := by omega
 go_enter Tryz.func229, Tryz.ntmps229
 go_wp2_with (at_builtin; refine Kd.R_append_rows (Kd.int .i64) (w0 := w0) w0.heap.size rfl (.tmp 32) (.tmp 33) 84 3 (Value.int .i64 0) 8 rfl Tryz.underlying84 rpinfo_i rfl (by decide) om_ (.slice (some ⟨b, 0, none⟩) i c) (xs.take i) ys A m vc P0 (fun _ => False) rfl rfl HT.out HC.out (fun _ _ h => h) (fun _ h => h.elim) HF.out HB0.out hsz.out (by rw [HTI.out]; exact hs) ?_)
 intro v1 w1 hR hB hg hat
 obtain ⟨zs, hzs⟩ : ∃ zs, zs = xs.take i ++ ys := ⟨_, rfl⟩
 rw [← hzs] at hR
 have hx' : ¬ ((zs.length : Int) < (n : Int)) := by have := HX.out; rw [hzs]; omega
 have HZ := hi_ hzs
 clear hzs
 obtain ⟨A1, c1, rfl⟩ := Kd.R_slice hR
 have HR := hi_ hR
 have HB1 := hi_ hB
 have HK : Hid (PrintWords.Kept w w1 P0) := hi_ ⟨hg.size, fun k hk hn => hg.block k hk (fun e => hn (by
  have : k = b := by simpa [Value.ownBlock] using e
  subst this
  exact HP.out))⟩
 clear hR hB hg hat
 go_wp2
 go_ret
 exact ⟨_, rfl, HZ.out ▸ HR.out, HB1.out, HK.out⟩

set_option maxHeartbeats 4000000 in
set_option maxRecDepth 100000 in
theorem ins_end_i (v : Value) (n m vc : Nat) (A : Option Addr) (xs ys : List Int) (w0 w : World) (P0 : Nat → Prop) (HB : Below w0.heap.size w0 w) (hl : xs.length = n)
  (HO : Kd.R (Kd.int .i64) 3 w w0.heap.size P0 v xs) (hf : ∀ k, w.heap.size ≤ k → P0 k) (hm : ys.length = m) (hC : Kd.C (Kd.int .i64) w A m ys) (hm0 : 0 < m) (hs : (n + m) * 8 ≤ 140737488355328) :
  Calls Tryz.prog 248 #[v, .int .i64 n, .slice A m vc] w fun e w' => ∃ v : Value,
   e = .returned v ∧ Kd.R (Kd.int .i64) 3 w' w0.heap.size P0 v (xs ++ ys) ∧ Below w0.heap.size w0 w' ∧ PrintWords.Kept w w' P0 := by
 obtain ⟨A0, c0, hv, hlc, _⟩ := Kd.R_reads HO
 subst hv
 rw [hl] at hlc HO ⊢
 have HO' := hi_ HO
 have HC := hi_ hC
 have HB0 := hi_ HB
 have HF := hi_ hf
 have hsz : Hid (w0.heap.size ≤ w.heap.size) := hi_ HB.size
 have HL := hi_ hl
 have hc2 : (n : Int) ≤ 9223372036854775807 := by omega
 have hcI : (n : Int) ≤ (c0 : Int) := by omega
 clear HO HB hC hf hl hm
 have t0 : ¬ ((m : Int) = 0) := by omega
 go_enter Tryz.func248, Tryz.ntmps248
 go_wp2_with (at_builtin; refine Kd.R_append_rows (Kd.int .i64) (w0 := w0) w0.heap.size rfl (.tmp 23) (.tmp 24) 84 3 (Value.int .i64 0) 8 rfl Tryz.underlying84 rpinfo_i rfl (by decide) om_ (.slice A0 n c0) xs ys A m vc P0 (fun _ => False) rfl rfl HO'.out HC.out (fun _ _ h => h) (fun _ h => h.elim) HF.out HB0.out hsz.out (by rw [HL.out]; exact hs) ?_)
 all_goals
  intro v1 w1 hR hB hg hat
  obtain ⟨A1, c1, rfl⟩ := Kd.R_slice hR
  have HR := hi_ hR
  have HB1 := hi_ hB
  have HK : Hid (PrintWords.Kept w w1 P0) := hi_ ⟨hg.size, fun k hk hn => hg.block k hk (fun e => hn (HO'.out.1 k (by cases A0 <;> simpa [Value.ownBlock] using e.symm)))⟩
  clear hR hB hg hat
  go_wp2
  go_ret
  exact ⟨_, rfl, HR.out, HB1.out, HK.out⟩

set_option maxHeartbeats 4000000 in
set_option maxRecDepth 100000 in
theorem rpl_G_i (b c i j m vc : Nat) (av : Addr) (cs vs : List Value) (w : World) (R : RowIs w b 3 c cs) (hij : i < j) (hj : j < cs.length) (hm : vs.length = m) (hroom : c < i + m + (cs.length - j)) (hbig : (i + m + (cs.length - j)) * 8 ≤ 140737488355328)
  (hvs : ∀ k v, vs[k]? = some v → w.cell? (av.add k) = some v) (hvb : 0 < m → av.block < w.heap.size) (h1v : ∀ v ∈ vs, v.oneCell' = true) (h1c : ∀ v ∈ cs, v.oneCell' = true) :
  Calls Tryz.prog 229 #[.slice (some ⟨b, 0, none⟩) cs.length c, .int .i64 i, .int .i64 j, .slice (some av) m vc] w fun e w' => ∃ g G,
   e = .returned (.slice (some ⟨g, 0, none⟩) (i + m + (cs.length - j)) G) ∧ w.heap.size ≤ g ∧ RowIs w' g 3 G (cs.take i ++ vs ++ cs.drop j) ∧ Below w.heap.size w w' := by
 obtain ⟨n, hn⟩ : ∃ n, n = cs.length := ⟨_, rfl⟩
 have hcap := R.cap
 have hlen := R.len
 have hbw := R.lt
 rw [← hn] at hj hlen hroom hbig ⊢
 replace hn := hn.symm
 obtain ⟨i0, hi0, hz0, hzs, hzb⟩ := info_parts rpinfo_i
 have HN := hi_ hn
 have HR := hi_ R
 have HV := hi_ hvs
 have H1V := hi_ h1v
 have H1C := hi_ h1c
 have HI0 := hi_ (And.intro hi0 (And.intro hz0 (And.intro hzs hzb)))
 clear hn R hvs h1v h1c hi0 hz0 hzs hzb
 have hw1 : IntKind.i64.wrap ((i : Int) + (m : Int)) = (i : Int) + (m : Int) := by rw [IntKind.wrap_i64]; omega
 have hw2 : IntKind.i64.wrap ((i : Int) + (m : Int) + ((n - j : Nat) : Int)) = ((i + m + (n - j) : Nat) : Int) := by rw [IntKind.wrap_i64]; omega
 have hmI : (i : Int) + (m : Int) ≤ 9223372036854775807 := by omega
 have t0 : ¬ ((i : Int) = (j : Int)) := by omega
 have t1 : ¬ ((j : Int) = (n : Int)) := by omega
 have t2 : (i : Int) ≤ (j : Int) := by omega
 have t3 : (j : Int) ≤ (c : Int) := by omega
 have t4 : (j : Int) ≤ (n : Int) := by omega
 have t5 : (i : Int) ≤ (n : Int) := by omega
 have t6 : (i : Int) ≤ (c : Int) := by omega
 have t7 : (c : Int) < (i : Int) + (m : Int) + ((n - j : Nat) : Int) := by omega
 go_enter Tryz.func229, Tryz.ntmps229
 go_wp2
 go_quiet (fail)
 obtain ⟨W0, hW0⟩ : ∃ W0, W0 = w.drewN nq := ⟨_, rfl⟩
 rw [← hW0]
 have hs0 : W0.heap.size = w.heap.size := by rw [hW0]; rfl
 have hc0 : ∀ x, W0.cell? x = w.cell? x := fun x => by rw [hW0]; rfl
 have HW0 := hi_ hW0
 clear hW0
 obtain ⟨hi0, hz0, hzs, hzb⟩ := HI0.out
 have hn := HN.out
 have hik : i + (m + (n - j)) = i + m + (n - j) := by omega
 have hold : (Builtin.firstCells i0.size i (.slice (some ⟨b, 0, none⟩) i c)).run Tryz.prog W0.drew = .ok (cs.take i).toArray W0.drew := by
  rw [hzs]
  exact run_firstCells_some W0.drew 1 i ⟨b, 0, none⟩ i c (cs.take i) (by rw [List.length_take]; omega) (fun k v hk => by
   rw [Addr.add_lit, Nat.zero_add]
   rw [List.getElem?_take] at hk
   split at hk
   ·exact (hc0 _).trans (HR.out.cell k v hk)
   ·cases hk)
 have hrz : ∀ ty, (Builtin.append_ #[84, 3] ty #[.slice (some ⟨b, 0, none⟩) i c, .int .i64 ((i : Int) + (m : Int) + ((n - j : Nat) : Int) - (i : Int))]).run Tryz.prog W0 =
   .ok (.slice (some ⟨W0.heap.size, 0, none⟩) (i + m + (n - j)) (grownCap W0 (i + m + (n - j)) c 3)) (W0.drew.alloc (.cells ((cs.take i).toArray ++ Builtin.zeroCells (Value.cells (Value.int .i64 0)) (m + (n - j)) ++ Builtin.zeroCells (Value.cells (Value.int .i64 0)) (grownCap W0 (i + m + (n - j)) c 3 - (i + m + (n - j)))) 3 (0, 0))) := fun ty => by
  have h := Lib.run_append_grow_zeros W0 84 3 ty 3 i0 _ .i64 .i64 Tryz.underlying84 Tryz.underlying3 hi0 hz0 (some ⟨b, 0, none⟩) i c (cs.take i) hold (m + (n - j)) om_ om_ om_ om_ (by rw [hzb]; omega) (by rw [hzb, hik]; exact growslice_fits hroom hbig)
  rw [hik] at h
  rw [show (i : Int) + (m : Int) + ((n - j : Nat) : Int) - (i : Int) = ((m + (n - j) : Nat) : Int) by omega]
  exact h
 obtain ⟨G, hG⟩ : ∃ G, G = grownCap W0 (i + m + (n - j)) c 3 := ⟨_, rfl⟩
 obtain ⟨row, hrow⟩ : ∃ row : Array Value, row = (cs.take i).toArray ++ Builtin.zeroCells (Value.cells (Value.int .i64 0)) (m + (n - j)) ++ Builtin.zeroCells (Value.cells (Value.int .i64 0)) (G - (i + m + (n - j))) := ⟨_, rfl⟩
 rw [← hG] at hrz
 rw [← hrow] at hrz
 obtain ⟨g, hg⟩ : ∃ g, g = W0.heap.size := ⟨_, rfl⟩
 rw [← hg] at hrz
 have hGn : i + m + (n - j) ≤ G := by rw [hG]; exact grownCap_ge W0 _ _ _
 have hG63 : G ≤ 9223372036854775807 := by
  have := grownCap_le_maxLen W0 (i + m + (n - j)) c 3 (by unfold maxLen; omega)
  rw [← hG] at this
  unfold maxLen at this
  omega
 have hrs : row.size = G := by rw [hrow]; simp [Builtin.zeroCells, Value.cells]; omega
 obtain ⟨W1, hW1⟩ : ∃ W1, W1 = W0.drew.alloc (.cells row 3 (0, 0)) := ⟨_, rfl⟩
 rw [← hW1] at hrz
 have hb1 : W1.heap[g]? = some (.cells row 3 (0, 0)) := by rw [hW1, hg]; exact heap_alloc_self W0.drew _
 have hold1 : ∀ k, k < w.heap.size → W1.heap[k]? = w.heap[k]? := fun k hk => by rw [hW1, Below.heap_alloc W0.drew _ k (by show k < W0.heap.size; omega)]; rw [HW0.out]; rfl
 have hcw : ∀ x : Addr, x.block < w.heap.size → W1.cell? x = w.cell? x := fun x hx => World.cell?_of_block (hold1 _ hx)
 have hcp1 : ∀ ty dc, (Builtin.copy_ #[84, 84] ty #[.slice (some ⟨g, i, none⟩) (i + m + (n - j) - i) dc, .slice (some av) m vc]).run Tryz.prog W1 = .ok (goInt vs.length) (W1.setCells g i vs) := fun ty dc =>
  run_copy_cells W1 _ _ ty 3 g i (i + m + (n - j) - i) dc av m vc vs Tryz.underlying84 rpsz_i (by rw [hm]; simp only [Nat.min_def]; split <;> omega)
   (fun k v hk => by
    have hb : (av.add k).block = av.block := by unfold Addr.add; split <;> rfl
    rw [hcw _ (by rw [hb]; exact hvb (by have := (List.getElem?_eq_some_iff.1 hk).1; omega))]
    exact HV.out k v hk)
   (fun k hk => by rw [cell_of_heap hb1, Array.getElem?_eq_getElem (by omega)]; rfl) (fun k hk => frozen_of_heap hb1 _) H1V.out
 obtain ⟨W2, hW2⟩ : ∃ W2, W2 = W1.setCells g i vs := ⟨_, rfl⟩
 rw [← hW2] at hcp1
 have hgb : g ≠ b := by omega
 have hcp2 : ∀ (W : World), (∀ x, W.cell? x = W2.cell? x) → (∀ x, W.frozen? x = W2.frozen? x) → ∀ ty dl dc sc, dl = n - j → (Builtin.copy_ #[84, 84] ty #[.slice (some ⟨g, i + m, none⟩) dl dc, .slice (some ⟨b, j, none⟩) (n - j) sc]).run Tryz.prog W = .ok (goInt (cs.drop j).length) (W.setCells g (i + m) (cs.drop j)) := fun W hWc hWf ty dl dc sc hdl =>
  run_copy_cells W _ _ ty 3 g (i + m) dl dc ⟨b, j, none⟩ (n - j) sc (cs.drop j) Tryz.underlying84 rpsz_i (by rw [List.length_drop, hn, hdl]; simp only [Nat.min_def]; split <;> omega)
   (fun k v hk => by
    rw [Addr.add_lit, hWc, hW2, World.cell?_setCells_out _ _ _ _ _ (fun h _ => absurd h.symm hgb), hcw _ hbw]
    exact HR.out.cell (j + k) v (by rwa [List.getElem?_drop] at hk))
   (fun k hk => by
    rw [List.length_drop] at hk
    rw [hWc, hW2]
    exact isSome_setCells _ _ _ _ (fun t ht => by rw [cell_of_heap hb1, Array.getElem?_eq_getElem (by omega)]; rfl) _ (by rw [cell_of_heap hb1, Array.getElem?_eq_getElem (by omega)]; rfl))
   (fun k hk => by rw [hWf, hW2, World.frozen?_setCells]; exact frozen_of_heap hb1 _) (fun v hv => H1C.out v (List.mem_of_mem_drop hv))
 have hrc : ∀ (k : Nat) (v : Value), k < i → cs[k]? = some v → row[k]? = some v := by
  intro k v hk hv
  rw [hrow, Array.append_assoc, Array.getElem?_append_left (by simp; omega)]
  rw [List.getElem?_toArray, List.getElem?_take_of_lt hk]
  exact hv
 have HF : Hid (∀ q, RowIs ((W2.drewN q).setCells g (i + m) (cs.drop j)) g 3 G (cs.take i ++ vs ++ cs.drop j) ∧ Below w.heap.size w ((W2.drewN q).setCells g (i + m) (cs.drop j))) := by
  refine hi_ fun q => ⟨⟨hG63, by simp; omega, ?_, fun k v hk => ?_⟩, below_setCells ?_ om_ _ _⟩
  ·obtain ⟨cur2, h1, h2⟩ := row_setCells g 3 vs i W1 row hb1
   obtain ⟨cur3, h3, h4⟩ := row_setCells g 3 (cs.drop j) (i + m) (W2.drewN q) cur2 (by rw [← hW2] at h1; exact h1)
   exact ⟨cur3, h3, by omega⟩
  ·have hlt := (List.getElem?_eq_some_iff.1 hk).1
   simp only [List.length_append, List.length_take, List.length_drop, hn, hm] at hlt
   rw [cells_drewN_i]
   by_cases h1 : k < i + m
   ·rw [World.cell?_setCells_out _ _ _ _ _ (fun _ _ => Or.inl h1), hW2]
    rw [List.getElem?_append_left (by simp; omega)] at hk
    by_cases h2 : k < i
    ·rw [World.cell?_setCells_out _ _ _ _ _ (fun _ _ => Or.inl h2), cell_of_heap hb1]
     rw [List.getElem?_append_left (by simp; omega), List.getElem?_take_of_lt h2] at hk
     exact hrc k v h2 hk
    ·rw [List.getElem?_append_right (by simp; omega)] at hk
     simp only [List.length_take, hn, Nat.min_eq_left (show i ≤ n by omega)] at hk
     have := cells_in' g vs i W1 (k - i) v hk (fun t ht => by rw [cell_of_heap hb1, Array.getElem?_eq_getElem (by omega)]; rfl)
     rw [show i + (k - i) = k by omega] at this
     exact this
   ·rw [List.getElem?_append_right (by simp; omega)] at hk
    simp only [List.length_append, List.length_take, hn, hm, Nat.min_eq_left (show i ≤ n by omega)] at hk
    have hW2c : ∀ t, t < G → (W2.cell? ⟨g, t, none⟩).isSome = true := fun t ht => by
     rw [hW2]
     exact isSome_setCells _ _ _ _ (fun t ht => by rw [cell_of_heap hb1, Array.getElem?_eq_getElem (by omega)]; rfl) _ (by rw [cell_of_heap hb1, Array.getElem?_eq_getElem (by omega)]; rfl)
    have := cells_in' g (cs.drop j) (i + m) W2 (k - (i + m)) v hk (fun t ht => by rw [List.length_drop] at ht; exact hW2c _ om_)
    rw [show i + m + (k - (i + m)) = k by omega] at this
    exact this
  ·show Below w.heap.size w (W2.drewN q)
   refine PrintWords.pw_below_drewN ?_ q
   rw [hW2]
   refine below_setCells ?_ om_ _ _
   rw [hW1]
   refine PrintWords.below_alloc (PrintWords.below_drew1 ?_) _
   rw [HW0.out]
   exact PrintWords.pw_below_drewN (Below.refl _ _) _
 have hgw : Hid (w.heap.size ≤ g) := hi_ om_
 have E2 := hcp2 W2.drew (fun _ => rfl) (fun _ => rfl) 3 (n - j) (G - (i + m)) (c - j) rfl
 have hb2 : ¬ (G = i + m) := by omega
 have hb4 : ¬ (c = j) := by omega
 have hb5 : ¬ (G = i) := by omega
 have hb6 : (i : Int) + (m : Int) ≤ (i : Int) + (m : Int) + ((n - j : Nat) : Int) := by omega
 have hb7 : (0 : Int) ≤ (i : Int) + (m : Int) := by omega
 have htn : ((i : Int) + (m : Int)).toNat = i + m := by omega
 have hb8 : (i : Int) ≤ (i : Int) + (m : Int) + ((n - j : Nat) : Int) := by omega
 have hrsI : (i : Int) + (m : Int) + ((n - j : Nat) : Int) ≤ (G : Int) := by omega
 clear hW2 hcp2 hrc hW1 hb1 hold1 hcw hrow hrs hold hi0 hz0 hzs hzb hn hik hs0 hc0 hg hG hgb
 go_wp2_with (at_builtin; refine Lib.wpList_append_run _ rfl _ _ _ _ rfl _ _ rfl rfl _ _ (hrz _) ?_)
 go_region
 go_wp2
 go_ret
 exact ⟨_, _, rfl, hgw.out, HF.out 1⟩
end Go.Proofs.YtendgmblgdkiaaaGreat

namespace Go.Proofs.YtendgmblgdkiaaaGreat
open Go.RowKit
open Go.Proofs.YtendgmblgdkiaaaGreatW
open PrintWords (Kd)
set_option linter.unusedVariables false
set_option linter.unusedSimpArgs false

set_option maxHeartbeats 4000000 in
set_option maxRecDepth 100000 in
theorem ins_room_i (b c i m vc : Nat) (av : Addr) (cs vs : List Value) (w : World) (R : RowIs w b 3 c cs) (hj : i < cs.length) (hm : vs.length = m) (hm0 : 0 < m) (hroom : cs.length + m ≤ c) (hne : av.block ≠ b)
  (hvs : ∀ k v, vs[k]? = some v → w.cell? (av.add k) = some v) (h1v : ∀ v ∈ vs, v.oneCell' = true) (h1c : ∀ v ∈ cs, v.oneCell' = true) (hsh : ∃ t k, w.shape? av.block = some (t, k + 1)) :
  Calls Tryz.prog 248 #[.slice (some ⟨b, 0, none⟩) cs.length c, .int .i64 i, .slice (some av) m vc] w fun e w' =>
   e = .returned (.slice (some ⟨b, 0, none⟩) (cs.length + m) c) ∧ ∃ q, w' = ((w.drewN q).setCells b (i + m) (cs.drop i)).setCells b i vs := by
 obtain ⟨n, hn⟩ : ∃ n, n = cs.length := ⟨_, rfl⟩
 obtain ⟨tV, kV, hsV⟩ := hsh
 have hcap := R.cap
 rw [← hn] at hj hroom ⊢
 replace hn := hn.symm
 have hsB := R.shape
 have hov : ∀ lb cb, (callFunc 249 #[.slice (some av) m vc, .slice (some ⟨b, i + m, none⟩) lb cb]).run Tryz.prog w = .ok (.value (.bool false)) w := fun lb cb => by
  rw [run_callFunc_extern Tryz.func249 (by kernel_rfl) (by kernel_rfl) (by kernel_rfl) (e := Extern.SlicesOverlaps.overlaps #[84, 84] #[4]) (by kernel_rfl),
   run_overlaps_apart2 w 84 4 3 Tryz.underlying84 1 rpz_i av ⟨b, i + m, none⟩ m vc lb cb hne tV 3 kV c hsV hsB (R.frz _) (R.frz _)]
  rfl
 have hcp1 : ∀ (W : World), (∀ x, W.cell? x = w.cell? x) → (∀ x, W.frozen? x = w.frozen? x) → ∀ ty dc sc, (Builtin.copy_ #[84, 84] ty #[.slice (some ⟨b, i + m, none⟩) (n - i) dc, .slice (some ⟨b, i, none⟩) (n + m - i) sc]).run Tryz.prog W = .ok (goInt (cs.drop i).length) (W.setCells b (i + m) (cs.drop i)) := fun W hWc hWf ty dc sc =>
  run_copy_cells W _ _ ty 3 b (i + m) (n - i) dc ⟨b, i, none⟩ (n + m - i) sc (cs.drop i) Tryz.underlying84 rpsz_i (by rw [List.length_drop, hn]; simp only [Nat.min_def]; split <;> omega)
   (fun k v hk => by rw [Addr.add_lit, hWc]; exact R.cell (i + k) v (by rwa [List.getElem?_drop] at hk))
   (fun k hk => by rw [List.length_drop] at hk; rw [hWc]; exact R.some_ _ om_) (fun k hk => by rw [hWf]; exact R.frz _) (fun v hv => h1c v (List.mem_of_mem_drop hv))
 have hcpq : (Builtin.copy_ #[84, 84] 3 #[.slice (some ⟨b, i + m, none⟩) (n - i) (c - (i + m)), .slice (some ⟨b, i, none⟩) (n + m - i) (c - i)]).run Tryz.prog w.drew = .ok (goInt (cs.drop i).length) (w.drew.setCells b (i + m) (cs.drop i)) := hcp1 w.drew (fun _ => rfl) (fun _ => rfl) _ _ _
 have hcp2 : ∀ (W : World), (∀ x, W.cell? x = (w.setCells b (i + m) (cs.drop i)).cell? x) → (∀ x, W.frozen? x = w.frozen? x) → ∀ ty dc, (Builtin.copy_ #[84, 84] ty #[.slice (some ⟨b, i, none⟩) (n + m - i) dc, .slice (some av) m vc]).run Tryz.prog W = .ok (goInt vs.length) (W.setCells b i vs) := fun W hWc hWf ty dc =>
  run_copy_cells W _ _ ty 3 b i (n + m - i) dc av m vc vs Tryz.underlying84 rpsz_i (by rw [hm]; simp only [Nat.min_def]; split <;> omega)
   (fun k v hk => by
    rw [hWc, World.cell?_setCells_out b _ _ _ _ (fun h _ => absurd (by rw [← h]; unfold Addr.add; split <;> rfl) hne)]
    exact hvs k v hk)
   (fun k hk => by rw [hWc]; exact isSome_setCells b _ _ _ (fun t ht => by rw [List.length_drop] at ht; exact R.some_ _ om_) _ (R.some_ _ om_))
   (fun k hk => by rw [hWf]; exact R.frz _) h1v
 have hcpq2 : (Builtin.copy_ #[84, 84] 3 #[.slice (some ⟨b, i, none⟩) (n + m - i) (c - i), .slice (some av) m vc]).run Tryz.prog (w.drew.setCells b (i + m) (cs.drop i)) = .ok (goInt vs.length) ((w.drew.setCells b (i + m) (cs.drop i)).setCells b i vs) := hcp2 (w.drew.setCells b (i + m) (cs.drop i)) (fun x => cells_drewN_i b (cs.drop i) (i + m) w 1 x) (fun x => by rw [World.frozen?_setCells]; rfl) _ _
 clear hcp1 hcp2
 have HN := hi_ hn
 clear hn
 have hw1 : IntKind.i64.wrap ((i : Int) + (m : Int)) = (i : Int) + (m : Int) := by rw [IntKind.wrap_i64]; omega
 have hmI : (i : Int) + (m : Int) ≤ 9223372036854775807 := by omega
 have hnI : (n : Int) + (m : Int) ≤ (c : Int) := by omega
 have hb1 : (0 : Int) ≤ (i : Int) + (m : Int) := by omega
 have hb3 : (i : Int) + (m : Int) ≤ (n : Int) + (m : Int) := by omega
 have htn : ((i : Int) + (m : Int)).toNat = i + m := by omega
 have htn2 : ((n : Int) + (m : Int)).toNat = n + m := by omega
 have hle : n + m - (i + m) = n - i := by omega
 have hb2 : ¬ (c = i + m) := by omega
 have hb4 : ¬ (c = i) := by omega
 have t0 : ¬ ((m : Int) = 0) := by omega
 have t1 : ¬ ((i : Int) = (n : Int)) := by omega
 have t2 : (i : Int) ≤ (n : Int) := by omega
 have t3 : (i : Int) ≤ (c : Int) := by omega
 have t4 : (i : Int) ≤ (n : Int) + (m : Int) := by omega
 go_enter Tryz.func248, Tryz.ntmps248
 go_wp2_with (simp only [hov])
 go_region
 go_wp2
 go_ret
 exact ⟨rfl, 1, rfl⟩

set_option maxHeartbeats 4000000 in
set_option maxRecDepth 100000 in
theorem ins_grow_i (b c i m vc : Nat) (av : Addr) (cs vs : List Value) (w : World) (R : RowIs w b 3 c cs) (hj : i < cs.length) (hm : vs.length = m) (hm0 : 0 < m) (hroom : c < cs.length + m) (hbig : (cs.length + m) * 8 ≤ 140737488355328)
  (hvs : ∀ k v, vs[k]? = some v → w.cell? (av.add k) = some v) (hvb : 0 < m → av.block < w.heap.size) (h1v : ∀ v ∈ vs, v.oneCell' = true) (h1c : ∀ v ∈ cs, v.oneCell' = true) :
  Calls Tryz.prog 248 #[.slice (some ⟨b, 0, none⟩) cs.length c, .int .i64 i, .slice (some av) m vc] w fun e w' => ∃ g G,
   e = .returned (.slice (some ⟨g, 0, none⟩) (cs.length + m) G) ∧ w.heap.size ≤ g ∧ RowIs w' g 3 G (cs.take i ++ vs ++ cs.drop i) ∧ Below w.heap.size w w' := by
 obtain ⟨n, hn⟩ : ∃ n, n = cs.length := ⟨_, rfl⟩
 have hcap := R.cap
 have hlen := R.len
 have hbw := R.lt
 rw [← hn] at hj hlen hroom hbig ⊢
 replace hn := hn.symm
 obtain ⟨i0, hi0, hz0, hzs, hzb⟩ := info_parts rpinfo_i
 have HN := hi_ hn
 have HR := hi_ R
 have HV := hi_ hvs
 have H1V := hi_ h1v
 have H1C := hi_ h1c
 have HI0 := hi_ (And.intro hi0 (And.intro hz0 (And.intro hzs hzb)))
 clear hn R hvs h1v h1c hi0 hz0 hzs hzb
 have hmI : (i : Int) + (m : Int) ≤ 9223372036854775807 := by omega
 have hw1 : IntKind.i64.wrap ((i : Int) + (m : Int)) = (i : Int) + (m : Int) := by rw [IntKind.wrap_i64]; omega
 have t0 : ¬ ((m : Int) = 0) := by omega
 have t1 : ¬ ((i : Int) = (n : Int)) := by omega
 have t2 : (i : Int) ≤ (n : Int) := by omega
 have t3 : (i : Int) ≤ (c : Int) := by omega
 have t7 : (c : Int) < (n : Int) + (m : Int) := by omega
 have hnI : (n : Int) + (m : Int) ≤ 9223372036854775807 := by omega
 obtain ⟨W0, hW0⟩ : ∃ W0, W0 = w.drewN 0 := ⟨_, rfl⟩
 have hs0 : W0.heap.size = w.heap.size := by rw [hW0]; rfl
 have hc0 : ∀ x, W0.cell? x = w.cell? x := fun x => by rw [hW0]; rfl
 have HW0 := hi_ hW0
 clear hW0
 obtain ⟨hi0, hz0, hzs, hzb⟩ := HI0.out
 have hn := HN.out
 have hik : i + (n + m - i) = n + m := by omega
 have hold : (Builtin.firstCells i0.size i (.slice (some ⟨b, 0, none⟩) i c)).run Tryz.prog W0.drew = .ok (cs.take i).toArray W0.drew := by
  rw [hzs]
  exact run_firstCells_some W0.drew 1 i ⟨b, 0, none⟩ i c (cs.take i) (by rw [List.length_take]; omega) (fun k v hk => by
   rw [Addr.add_lit, Nat.zero_add]
   rw [List.getElem?_take] at hk
   split at hk
   ·exact (hc0 _).trans (HR.out.cell k v hk)
   ·cases hk)
 have hrz : ∀ ty, (Builtin.append_ #[84, 3] ty #[.slice (some ⟨b, 0, none⟩) i c, .int .i64 ((n : Int) + (m : Int) - (i : Int))]).run Tryz.prog W0 =
   .ok (.slice (some ⟨W0.heap.size, 0, none⟩) (n + m) (grownCap W0 (n + m) c 3)) (W0.drew.alloc (.cells ((cs.take i).toArray ++ Builtin.zeroCells (Value.cells (Value.int .i64 0)) (n + m - i) ++ Builtin.zeroCells (Value.cells (Value.int .i64 0)) (grownCap W0 (n + m) c 3 - (n + m))) 3 (0, 0))) := fun ty => by
  have h := Lib.run_append_grow_zeros W0 84 3 ty 3 i0 _ .i64 .i64 Tryz.underlying84 Tryz.underlying3 hi0 hz0 (some ⟨b, 0, none⟩) i c (cs.take i) hold (n + m - i) om_ om_ om_ om_ (by rw [hzb]; omega) (by rw [hzb, hik]; exact growslice_fits hroom hbig)
  rw [hik] at h
  rw [show (n : Int) + (m : Int) - (i : Int) = ((n + m - i : Nat) : Int) by omega]
  exact h
 obtain ⟨G, hG⟩ : ∃ G, G = grownCap W0 (n + m) c 3 := ⟨_, rfl⟩
 obtain ⟨row, hrow⟩ : ∃ row : Array Value, row = (cs.take i).toArray ++ Builtin.zeroCells (Value.cells (Value.int .i64 0)) (n + m - i) ++ Builtin.zeroCells (Value.cells (Value.int .i64 0)) (G - (n + m)) := ⟨_, rfl⟩
 rw [← hG] at hrz
 rw [← hrow] at hrz
 obtain ⟨g, hg⟩ : ∃ g, g = W0.heap.size := ⟨_, rfl⟩
 rw [← hg] at hrz
 have hGn : n + m ≤ G := by rw [hG]; exact grownCap_ge W0 _ _ _
 have hG63 : G ≤ 9223372036854775807 := by
  have := grownCap_le_maxLen W0 (n + m) c 3 (by unfold maxLen; omega)
  rw [← hG] at this
  unfold maxLen at this
  omega
 have hrs : row.size = G := by rw [hrow]; simp [Builtin.zeroCells, Value.cells]; omega
 obtain ⟨W1, hW1⟩ : ∃ W1, W1 = W0.drew.alloc (.cells row 3 (0, 0)) := ⟨_, rfl⟩
 rw [← hW1] at hrz
 have hb1 : W1.heap[g]? = some (.cells row 3 (0, 0)) := by rw [hW1, hg]; exact heap_alloc_self W0.drew _
 have hold1 : ∀ k, k < w.heap.size → W1.heap[k]? = w.heap[k]? := fun k hk => by rw [hW1, Below.heap_alloc W0.drew _ k (by show k < W0.heap.size; omega)]; rw [HW0.out]; rfl
 have hcw : ∀ x : Addr, x.block < w.heap.size → W1.cell? x = w.cell? x := fun x hx => World.cell?_of_block (hold1 _ hx)
 have hcp1 : ∀ ty dc, (Builtin.copy_ #[84, 84] ty #[.slice (some ⟨g, i, none⟩) (n + m - i) dc, .slice (some av) m vc]).run Tryz.prog W1 = .ok (goInt vs.length) (W1.setCells g i vs) := fun ty dc =>
  run_copy_cells W1 _ _ ty 3 g i (n + m - i) dc av m vc vs Tryz.underlying84 rpsz_i (by rw [hm]; simp only [Nat.min_def]; split <;> omega)
   (fun k v hk => by
    have hb : (av.add k).block = av.block := by unfold Addr.add; split <;> rfl
    rw [hcw _ (by rw [hb]; exact hvb (by have := (List.getElem?_eq_some_iff.1 hk).1; omega))]
    exact HV.out k v hk)
   (fun k hk => by rw [cell_of_heap hb1, Array.getElem?_eq_getElem (by omega)]; rfl) (fun k hk => frozen_of_heap hb1 _) H1V.out
 obtain ⟨W2, hW2⟩ : ∃ W2, W2 = W1.setCells g i vs := ⟨_, rfl⟩
 rw [← hW2] at hcp1
 have hgb : g ≠ b := by omega
 have hcp2 : ∀ (W : World), (∀ x, W.cell? x = W2.cell? x) → (∀ x, W.frozen? x = W2.frozen? x) → ∀ ty dl dc sc, dl = n - i → (Builtin.copy_ #[84, 84] ty #[.slice (some ⟨g, i + m, none⟩) dl dc, .slice (some ⟨b, i, none⟩) (n - i) sc]).run Tryz.prog W = .ok (goInt (cs.drop i).length) (W.setCells g (i + m) (cs.drop i)) := fun W hWc hWf ty dl dc sc hdl =>
  run_copy_cells W _ _ ty 3 g (i + m) dl dc ⟨b, i, none⟩ (n - i) sc (cs.drop i) Tryz.underlying84 rpsz_i (by rw [List.length_drop, hn, hdl]; simp only [Nat.min_def]; split <;> omega)
   (fun k v hk => by
    rw [Addr.add_lit, hWc, hW2, World.cell?_setCells_out _ _ _ _ _ (fun h _ => absurd h.symm hgb), hcw _ hbw]
    exact HR.out.cell (i + k) v (by rwa [List.getElem?_drop] at hk))
   (fun k hk => by
    rw [List.length_drop] at hk
    rw [hWc, hW2]
    exact isSome_setCells _ _ _ _ (fun t ht => by rw [cell_of_heap hb1, Array.getElem?_eq_getElem (by omega)]; rfl) _ (by rw [cell_of_heap hb1, Array.getElem?_eq_getElem (by omega)]; rfl))
   (fun k hk => by rw [hWf, hW2, World.frozen?_setCells]; exact frozen_of_heap hb1 _) (fun v hv => H1C.out v (List.mem_of_mem_drop hv))
 have hrc : ∀ (k : Nat) (v : Value), k < i → cs[k]? = some v → row[k]? = some v := by
  intro k v hk hv
  rw [hrow, Array.append_assoc, Array.getElem?_append_left (by simp; omega)]
  rw [List.getElem?_toArray, List.getElem?_take_of_lt hk]
  exact hv
 have HF : Hid (∀ q, RowIs ((W2.drewN q).setCells g (i + m) (cs.drop i)) g 3 G (cs.take i ++ vs ++ cs.drop i) ∧ Below w.heap.size w ((W2.drewN q).setCells g (i + m) (cs.drop i))) := by
  refine hi_ fun q => ⟨⟨hG63, by simp; omega, ?_, fun k v hk => ?_⟩, below_setCells ?_ om_ _ _⟩
  ·obtain ⟨cur2, h1, h2⟩ := row_setCells g 3 vs i W1 row hb1
   obtain ⟨cur3, h3, h4⟩ := row_setCells g 3 (cs.drop i) (i + m) (W2.drewN q) cur2 (by rw [← hW2] at h1; exact h1)
   exact ⟨cur3, h3, by omega⟩
  ·have hlt := (List.getElem?_eq_some_iff.1 hk).1
   simp only [List.length_append, List.length_take, List.length_drop, hn, hm] at hlt
   rw [cells_drewN_i]
   by_cases h1 : k < i + m
   ·rw [World.cell?_setCells_out _ _ _ _ _ (fun _ _ => Or.inl h1), hW2]
    rw [List.getElem?_append_left (by simp; omega)] at hk
    by_cases h2 : k < i
    ·rw [World.cell?_setCells_out _ _ _ _ _ (fun _ _ => Or.inl h2), cell_of_heap hb1]
     rw [List.getElem?_append_left (by simp; omega), List.getElem?_take_of_lt h2] at hk
     exact hrc k v h2 hk
    ·rw [List.getElem?_append_right (by simp; omega)] at hk
     simp only [List.length_take, hn, Nat.min_eq_left (show i ≤ n by omega)] at hk
     have := cells_in' g vs i W1 (k - i) v hk (fun t ht => by rw [cell_of_heap hb1, Array.getElem?_eq_getElem (by omega)]; rfl)
     rw [show i + (k - i) = k by omega] at this
     exact this
   ·rw [List.getElem?_append_right (by simp; omega)] at hk
    simp only [List.length_append, List.length_take, hn, hm, Nat.min_eq_left (show i ≤ n by omega)] at hk
    have hW2c : ∀ t, t < G → (W2.cell? ⟨g, t, none⟩).isSome = true := fun t ht => by
     rw [hW2]
     exact isSome_setCells _ _ _ _ (fun t ht => by rw [cell_of_heap hb1, Array.getElem?_eq_getElem (by omega)]; rfl) _ (by rw [cell_of_heap hb1, Array.getElem?_eq_getElem (by omega)]; rfl)
    have := cells_in' g (cs.drop i) (i + m) W2 (k - (i + m)) v hk (fun t ht => by rw [List.length_drop] at ht; exact hW2c _ om_)
    rw [show i + m + (k - (i + m)) = k by omega] at this
    exact this
  ·show Below w.heap.size w (W2.drewN q)
   refine PrintWords.pw_below_drewN ?_ q
   rw [hW2]
   refine below_setCells ?_ om_ _ _
   rw [hW1]
   refine PrintWords.below_alloc (PrintWords.below_drew1 ?_) _
   rw [HW0.out]
   exact PrintWords.pw_below_drewN (Below.refl _ _) _
 have hgw : Hid (w.heap.size ≤ g) := hi_ om_
 have E2 := hcp2 W2.drew (fun _ => rfl) (fun _ => rfl) 3 (n + m - (i + m)) (G - (i + m)) (c - i) om_
 have hb2 : ¬ (G = i + m) := by omega
 have hb4 : ¬ (c = i) := by omega
 have hb5 : ¬ (G = i) := by omega
 have hb6 : (i : Int) + (m : Int) ≤ (n : Int) + (m : Int) := by omega
 have hb7 : (0 : Int) ≤ (i : Int) + (m : Int) := by omega
 have htn : ((i : Int) + (m : Int)).toNat = i + m := by omega
 have hb8 : (i : Int) ≤ (n : Int) + (m : Int) := by omega
 have hrsI : (n : Int) + (m : Int) ≤ (G : Int) := by omega
 clear hW2 hcp2 hrc hW1 hb1 hold1 hcw hrow hrs hold hi0 hz0 hzs hzb hn hik hs0 hc0 hg hG hgb
 have e0 := HW0.out
 subst e0
 go_enter Tryz.func248, Tryz.ntmps248
 go_wp2_with (at_builtin; refine Lib.wpList_append_run _ rfl _ _ _ _ rfl _ _ rfl rfl _ _ (hrz _) ?_)
 go_region
 go_wp2
 go_ret
 exact ⟨_, _, rfl, hgw.out, HF.out 1⟩
end Go.Proofs.YtendgmblgdkiaaaGreat

namespace Go.Proofs.YtendgmblgdkiaaaGreat
open Go.RowKit
open Go.Proofs.YtendgmblgdkiaaaGreatW
open PrintWords (Kd)
set_option linter.unusedVariables false
set_option linter.unusedSimpArgs false

theorem row_more {w : World} {b c o : Nat} {t : TypeId} {fs zs : List Value} (R : RowIs w b t c fs) (h : fs.length ≤ o) : RowIs (w.setCells b o zs) b t c fs := by
 obtain ⟨cur, hb, hs⟩ := R.blk
 obtain ⟨cur', h1, h2⟩ := row_setCells b t zs o w cur hb
 refine ⟨R.cap, R.len, ⟨cur', h1, by omega⟩, fun k v hk => ?_⟩
 have := (List.getElem?_eq_some_iff.1 hk).1
 rw [World.cell?_setCells_out b _ _ _ _ (fun _ _ => Or.inl (by show k < o; omega))]
 exact R.cell k v hk
theorem kept_drewN_ (w : World) (P : Nat → Prop) (q : Nat) : PrintWords.Kept w (w.drewN q) P := ⟨Nat.le_refl _, fun _ _ _ => rfl⟩
theorem row_drewN {w : World} {b c : Nat} {t : TypeId} {fs : List Value} (R : RowIs w b t c fs) (q : Nat) : RowIs (w.drewN q) b t c fs := ⟨R.cap, R.len, R.blk, R.cell⟩
theorem some_setCells {w : World} {b c o : Nat} {t : TypeId} {fs zs : List Value} (R : RowIs w b t c fs) (k : Nat) (hk : k < c) : ((w.setCells b o zs).cell? ⟨b, k, none⟩).isSome = true := by
 obtain ⟨cur, hb, hs⟩ := R.blk
 obtain ⟨cur', h1, h2⟩ := row_setCells b t zs o w cur hb
 rw [cell_of_heap h1, Array.getElem?_eq_getElem (by omega)]; rfl
/-- The three parts of what is there in the end. -/
theorem three {cs vs : List Value} {i j k m : Nat} {v : Value} (hi : i ≤ cs.length) (hm : vs.length = m) (hk : (cs.take i ++ vs ++ cs.drop j)[k]? = some v) :
  (k < i ∧ cs[k]? = some v) ∨ (i ≤ k ∧ k < i + m ∧ vs[k - i]? = some v) ∨ (i + m ≤ k ∧ (cs.drop j)[k - (i + m)]? = some v) := by
 by_cases h1 : k < i + m
 ·rw [List.getElem?_append_left (by simp; omega)] at hk
  by_cases h2 : k < i
  ·rw [List.getElem?_append_left (by simp; omega), List.getElem?_take_of_lt h2] at hk
   exact .inl ⟨h2, hk⟩
  ·rw [List.getElem?_append_right (by simp; omega)] at hk
   simp only [List.length_take, Nat.min_eq_left hi] at hk
   exact .inr (.inl ⟨by omega, h1, hk⟩)
 ·rw [List.getElem?_append_right (by simp; omega)] at hk
  simp only [List.length_append, List.length_take, hm, Nat.min_eq_left hi] at hk
  exact .inr (.inr ⟨by omega, hk⟩)
theorem row_A {w : World} {b c i j m : Nat} {t : TypeId} {cs vs : List Value} (R : RowIs w b t c cs) (hm : vs.length = m) (hi : i ≤ cs.length) (hroom : i + m + (cs.length - j) ≤ c) : RowIs ((w.setCells b (i + m) (cs.drop j)).setCells b i vs) b t c (cs.take i ++ vs ++ cs.drop j) := by
 obtain ⟨cur, hb, hs⟩ := R.blk
 obtain ⟨cur', h1, h2⟩ := row_setCells b t (cs.drop j) (i + m) w cur hb
 obtain ⟨cur2, h3, h4⟩ := row_setCells b t vs i _ cur' h1
 have hl : (cs.take i ++ vs ++ cs.drop j).length ≤ c := by simp; omega
 refine ⟨R.cap, hl, ⟨cur2, h3, by omega⟩, fun k v hk => ?_⟩
 rcases three hi hm hk with ⟨h, hv⟩ | ⟨h, h', hv⟩ | ⟨h, hv⟩
 ·rw [World.cell?_setCells_out b _ _ _ _ (fun _ _ => Or.inl h), World.cell?_setCells_out b _ _ _ _ (fun _ _ => Or.inl (by show k < i + m; omega))]
  exact R.cell k v hv
 ·have := cells_in' b vs i (w.setCells b (i + m) (cs.drop j)) (k - i) v hv (fun t ht => some_setCells R _ om_)
  rwa [show i + (k - i) = k by omega] at this
 ·rw [World.cell?_setCells_out b _ _ _ _ (fun _ _ => Or.inr (by show i + vs.length ≤ k; omega))]
  have := cells_in' b (cs.drop j) (i + m) w (k - (i + m)) v hv (fun t ht => by rw [List.length_drop] at ht; exact R.some_ _ om_)
  rwa [show i + m + (k - (i + m)) = k by omega] at this
theorem row_B {w : World} {b c i j m : Nat} {t : TypeId} {cs vs : List Value} (R : RowIs w b t c cs) (hm : vs.length = m) (hi : i ≤ cs.length) (hroom : i + m + (cs.length - j) ≤ c) : RowIs ((w.setCells b i vs).setCells b (i + m) (cs.drop j)) b t c (cs.take i ++ vs ++ cs.drop j) := by
 obtain ⟨cur, hb, hs⟩ := R.blk
 obtain ⟨cur', h1, h2⟩ := row_setCells b t vs i w cur hb
 obtain ⟨cur2, h3, h4⟩ := row_setCells b t (cs.drop j) (i + m) _ cur' h1
 have hl : (cs.take i ++ vs ++ cs.drop j).length ≤ c := by simp; omega
 refine ⟨R.cap, hl, ⟨cur2, h3, by omega⟩, fun k v hk => ?_⟩
 rcases three hi hm hk with ⟨h, hv⟩ | ⟨h, h', hv⟩ | ⟨h, hv⟩
 ·rw [World.cell?_setCells_out b _ _ _ _ (fun _ _ => Or.inl (by show k < i + m; omega)), World.cell?_setCells_out b _ _ _ _ (fun _ _ => Or.inl h)]
  exact R.cell k v hv
 ·rw [World.cell?_setCells_out b _ _ _ _ (fun _ _ => Or.inl h')]
  have := cells_in' b vs i w (k - i) v hv (fun t ht => R.some_ _ om_)
  rwa [show i + (k - i) = k by omega] at this
 ·have := cells_in' b (cs.drop j) (i + m) (w.setCells b i vs) (k - (i + m)) v hv (fun t ht => by rw [List.length_drop] at ht; exact some_setCells R _ om_)
  rwa [show i + m + (k - (i + m)) = k by omega] at this
theorem shape_of_cell {w : World} {a : Addr} {v : Value} (h : w.cell? a = some v) : ∃ t k, w.shape? a.block = some (t, k + 1) := by
 unfold World.cell? at h
 split at h
 ·rename_i cs t fr hb
  have : 0 < cs.size := by
   rcases Nat.eq_zero_or_pos cs.size with h0 | h0
   ·have : cs = #[] := Array.eq_empty_of_size_eq_zero h0
    subst this
    simp at h
   ·exact h0
  exact ⟨t, cs.size - 1, by simp [World.shape?, hb]; omega⟩
 ·simp at h
/-- A row that is still read whatever is done to the blocks of P isn't in one. -/
theorem apart_of_kept {α : Type} {enc : α → Value} {d : α} {h1 : ∀ x, (enc x).oneCell' = true} {w : World} {A : Option Addr} {n : Nat} {xs : List α} {P : Nat → Prop} (h : ∀ W, PrintWords.Kept w W P → (Kd.scalar enc h1).C W A n xs) (hn : 0 < n) :
  ∃ ad, A = some ad ∧ ∀ g, P g → ad.block ≠ g := by
 obtain ⟨ad, hA, _⟩ := (Kd.reads_of_C (d := d) (h w (PrintWords.Kept.refl w P))).2.2 hn
 refine ⟨ad, hA, fun g hg e => ?_⟩
 subst e
 obtain ⟨ad', hA', hc⟩ := (Kd.reads_of_C (d := d) (h { w with heap := w.heap.setIfInBounds ad.block (.cells #[] 0 (0, 0)) } ⟨by simp, fun i hi hn => by
  have : ad.block ≠ i := fun e => hn (e ▸ hg)
  simp [Array.getElem?_setIfInBounds, this]⟩)).2.2 hn
 rw [hA] at hA'
 obtain rfl := Option.some.inj hA'
 have h0 := hc 0 hn
 have hb : (ad.add 0).block = ad.block := rfl
 unfold World.cell? at h0
 simp only [hb] at h0
 by_cases hlt : ad.block < w.heap.size
 ·simp [Array.getElem?_setIfInBounds, hlt] at h0
 ·simp [Array.getElem?_setIfInBounds, hlt] at h0
def replF {α : Type} (l : List α) (i j : Int) (v : List α) : Option (List α) :=
 if 0 ≤ i ∧ i ≤ j ∧ j ≤ l.length ∧ 0 < v.length ∧ l.length + v.length ≤ 1000000 then some (l.take i.toNat ++ v ++ l.drop j.toNat) else none
end Go.Proofs.YtendgmblgdkiaaaGreat

namespace Go.Proofs.YtendgmblgdkiaaaGreat
open Go.RowKit
open Go.Proofs.YtendgmblgdkiaaaGreatW
open PrintWords (Kd)
set_option linter.unusedVariables false
set_option linter.unusedSimpArgs false

theorem one_s (l : List ByteArray) : ∀ v ∈ l.map Value.string, v.oneCell' = true := by
 intro v hv
 obtain ⟨x, _, rfl⟩ := List.mem_map.1 hv
 rfl
theorem fin_s {w w' : World} {g c : Nat} {fs : List ByteArray} {w0 : World} {P P' : Nat → Prop} (R : RowIs w' g 9 c (fs.map Value.string)) (hg : w0.heap.size ≤ g) (hP : P' g) (hB : Below w0.heap.size w0 w') (hK : PrintWords.Kept w w' P) :
  Kd.R Kd.string 9 w' w0.heap.size P' (.slice (some ⟨g, 0, none⟩) fs.length c) fs ∧ Below w0.heap.size w0 w' ∧ PrintWords.Kept w w' P := by
 have ho := R.own hg
 rw [List.length_map] at ho
 exact ⟨R_enc_s ho (fun k hk => by
  have : g = k := by simpa [Value.ownBlock] using hk
  subst this
  exact hP), hB, hK⟩

set_option maxHeartbeats 1000000 in
set_option maxRecDepth 100000 in
theorem repl_to_ins_s {T : Value → World → Prop} (A0 : Option Addr) (n c0 i m vc : Nat) (av : Addr) (w : World) (hi : i ≤ n) (hn : n ≤ c0) (hc : c0 ≤ 9223372036854775807)
  (h : Calls Tryz.prog 154 #[.slice A0 n c0, .int .i64 i, .slice (some av) m vc] w fun e w' => ∃ v, e = .returned v ∧ T v w') :
  Calls Tryz.prog 102 #[.slice A0 n c0, .int .i64 i, .int .i64 i, .slice (some av) m vc] w fun e w' => ∃ v, e = .returned v ∧ T v w' := by
 have HC := hi_ h
 clear h
 have t1 : (i : Int) ≤ (n : Int) := by omega
 have t2 : (i : Int) ≤ (c0 : Int) := by omega
 go_enter Tryz.func102, Tryz.ntmps102
 go_wp2_with (go_at_call 154; refine HC.out.mono ?_; rintro e w' ⟨v, rfl, hT⟩)
 all_goals
  have HT := hi_ hT
  clear hT
  go_wp2
  go_ret
  exact ⟨v, rfl, HT.out⟩

theorem replace_own_s (P0_ : Nat → Prop) (u : Value) (l0 : List ByteArray) (a1 a2 : Int) (A3 : Option Addr) (c3 : Nat) (l3 : List ByteArray) (r : List ByteArray) (w0 w : World) (hB : Below w0.heap.size w0 w) (ho0 : Kd.R Kd.string 9 w w0.heap.size P0_ u l0)
  (hr3 : ∀ W_, PrintWords.Kept w W_ (fun k_ => P0_ k_) → Kd.C Kd.string W_ A3 l3.length l3) (hc3 : l3.length ≤ c3) (h : replF l0 a1 a2 l3 = some r) :
  Calls Tryz.prog 102 #[u, .int .i64 a1, .int .i64 a2, .slice A3 l3.length c3] w fun e w' => ∃ v0_ : Value, e = .returned (v0_) ∧ Kd.R Kd.string 9 w' w0.heap.size (fun k_ => (P0_ k_ ∨ w.heap.size ≤ k_)) v0_ r ∧ Below w0.heap.size w0 w' ∧ PrintWords.Kept w w' (fun k_ => P0_ k_) := by
 unfold replF at h
 split at h
 case isFalse => simp at h
 rename_i hc
 obtain ⟨h0, h1, h2, h3, h4⟩ := hc
 obtain rfl := Option.some.inj h
 obtain ⟨i, rfl⟩ := Int.eq_ofNat_of_zero_le h0
 obtain ⟨j, rfl⟩ := Int.eq_ofNat_of_zero_le (Int.le_trans h0 h1)
 have hij : i ≤ j := by omega
 have hjn : j ≤ l0.length := by omega
 simp only [Int.toNat_natCast]
 clear h0 h1 h2 h
 obtain ⟨ad, rfl, hap⟩ := apart_of_kept (d := ByteArray.empty) hr3 h3
 have hC := hr3 w (PrintWords.Kept.refl w _)
 have hcells := (Kd.reads_of_C (d := ByteArray.empty) hC).2.2 h3
 obtain ⟨ad', hA', hcell⟩ := hcells
 obtain rfl := Option.some.inj hA'
 have hvs : ∀ (k : Nat) (v : Value), (l3.map Value.string)[k]? = some v → w.cell? (ad.add k) = some v := by
  intro k v hk
  obtain ⟨hl, he⟩ := List.getElem?_eq_some_iff.1 hk
  rw [List.length_map] at hl
  rw [hcell k hl, List.getD_eq_getElem?_getD, List.getElem?_eq_getElem hl]
  simpa using he
 have hml : (l3.map Value.string).length = l3.length := List.length_map ..
 have hnl : (l0.map Value.string).length = l0.length := List.length_map ..
 have hvb : ad.block < w.heap.size := by
  have := World.block_lt_of_cell? w _ (hcell 0 h3)
  exact this
 have hsh := shape_of_cell (hcell 0 h3)
 have ho' : Kd.R Kd.string 9 w w0.heap.size (fun k_ => (P0_ k_ ∨ w.heap.size ≤ k_)) u l0 := Kd.R_mono ho0 (fun k hk => .inl hk)
 have how : w.ownsRow w0.heap.size 9 1 u l0.length (l0.map Value.string) := Kd.own_of_R ho'
 have hK' : ∀ {w'}, PrintWords.Kept w w' (fun k_ => (P0_ k_ ∨ w.heap.size ≤ k_)) → PrintWords.Kept w w' (fun k_ => P0_ k_) := fun {w'} hk => ⟨hk.1, fun q hq hn => hk.2 q hq (by rintro (h | h); exact hn h; omega)⟩
 have hmap : (l0.take i ++ l3 ++ l0.drop j).map Value.string = (l0.map Value.string).take i ++ l3.map Value.string ++ (l0.map Value.string).drop j := by simp
 have hlen : (l0.take i ++ l3 ++ l0.drop j).length = i + l3.length + (l0.length - j) := by simp; omega
 rcases Nat.eq_or_lt_of_le hij with rfl | hlt
 ·-- i = j: Insert
  obtain ⟨A0, c0, hu, hlc, hCu⟩ := Kd.R_reads ho'
  have hc0 : c0 ≤ 9223372036854775807 := by
   rcases row_of_own how with ⟨hv, _, _⟩ | ⟨g, c, hv, _, _, R⟩
   ·rw [hu] at hv; injection hv with _ _ hv; omega
   ·rw [hu] at hv; injection hv with _ _ hv; rw [hv]; exact R.cap
  by_cases hin : i = l0.length
  ·subst hin
   rw [List.take_length, List.drop_length, List.append_nil]
   have := ins_end_s u l0.length l3.length c3 (some ad) l0 l3 w0 w (fun k_ => (P0_ k_ ∨ w.heap.size ≤ k_)) hB rfl ho' (fun k hk => .inr hk) rfl hC h3 om_
   rw [hu] at this ⊢
   refine (repl_to_ins_s A0 _ c0 _ _ c3 ad w (Nat.le_refl _) hlc hc0 this).mono ?_
   rintro e w' ⟨v, he, hR, hb, hk⟩
   exact ⟨v, he, hR, hb, hK' hk⟩
  ·have hlt : i < l0.length := by omega
   rcases row_of_own how with ⟨hv, hv2, _⟩ | ⟨g, c, hv, _, hg, R⟩
   ·simp at hv2
    subst hv2
    simp at hlt
   ·have hPg : P0_ g := ho0.1 g (by rw [hv]; rfl)
    have hne := hap g hPg
    have hKg : ∀ {w'}, PrintWords.Kept w w' (fun k => k = g) → PrintWords.Kept w w' (fun k_ => P0_ k_) := fun {w'} hk => hk.mono (fun q hq => by subst hq; exact hPg)
    have hlc2 : l0.length ≤ c := by have := R.len; rw [hnl] at this; exact this
    rw [hv, hnl]
    by_cases hroom : l0.length + l3.length ≤ c
    ·have := ins_room_s g c i l3.length c3 ad (l0.map Value.string) (l3.map Value.string) w R om_ hml h3 om_ hne hvs (one_s _) (one_s _) hsh
     rw [hnl] at this
     refine (repl_to_ins_s (some ⟨g, 0, none⟩) _ c i _ c3 ad w om_ hlc2 R.cap (T := fun v w' => Kd.R Kd.string 9 w' w0.heap.size (fun k_ => (P0_ k_ ∨ w.heap.size ≤ k_)) v (l0.take i ++ l3 ++ l0.drop i) ∧ Below w0.heap.size w0 w' ∧ PrintWords.Kept w w' (fun k_ => P0_ k_)) (this.mono ?_)).mono (fun _ _ h => h)
     rintro e w' ⟨rfl, q, rfl⟩
     have RA := row_A (cs := l0.map Value.string) (vs := l3.map Value.string) (i := i) (j := i) (row_drewN R q) hml om_ om_
     rw [← hmap] at RA
     have := fin_s (w := w) (P := fun k_ => P0_ k_) (P' := fun k_ => (P0_ k_ ∨ w.heap.size ≤ k_)) RA hg (.inl hPg) (below_setCells (below_setCells (PrintWords.pw_below_drewN hB q) hg _ _) hg _ _) (kept_setCells (kept_setCells (kept_drewN_ w _ q) (.inl hPg) _ _) (.inl hPg) _ _)
     rw [hlen, show i + l3.length + (l0.length - i) = l0.length + l3.length by omega] at this
     exact ⟨_, rfl, this⟩
    ·have := ins_grow_s g c i l3.length c3 ad (l0.map Value.string) (l3.map Value.string) w R om_ hml h3 om_ om_ hvs (fun _ => hvb) (one_s _) (one_s _)
     rw [hnl] at this
     refine (repl_to_ins_s (some ⟨g, 0, none⟩) _ c i _ c3 ad w om_ hlc2 R.cap (T := fun v w' => Kd.R Kd.string 9 w' w0.heap.size (fun k_ => (P0_ k_ ∨ w.heap.size ≤ k_)) v (l0.take i ++ l3 ++ l0.drop i) ∧ Below w0.heap.size w0 w' ∧ PrintWords.Kept w w' (fun k_ => P0_ k_)) (this.mono ?_)).mono (fun _ _ h => h)
     rintro e w' ⟨g', G, rfl, hgw, RA, hb⟩
     rw [← hmap] at RA
     have := fin_s (w := w) (P := fun k_ => P0_ k_) (P' := fun k_ => (P0_ k_ ∨ w.heap.size ≤ k_)) RA (Nat.le_trans hB.size hgw) (.inr hgw) (hB.trans (hb.mono hB.size)) (PrintWords.Kept.of_below hb _)
     rw [hlen, show i + l3.length + (l0.length - i) = l0.length + l3.length by omega] at this
     exact ⟨_, rfl, this⟩
 ·rcases row_of_own how with ⟨hv, hv2, _⟩ | ⟨g, c, hv, _, hg, R⟩
  ·simp at hv2
   subst hv2
   simp at hjn
   omega
  ·have hPg : P0_ g := ho0.1 g (by rw [hv]; rfl)
   have hne := hap g hPg
   have hlc2 : l0.length ≤ c := by have := R.len; rw [hnl] at this; exact this
   by_cases hjl : j = l0.length
   ·subst hjl
    rw [List.drop_length, List.append_nil]
    rw [hv, hnl] at ho' ⊢
    by_cases hx : i + l3.length < l0.length
    ·refine (rpl_E2_s g c i l0.length l3.length c3 ad (l0.map Value.string) (l3.map Value.string) w R hnl hml hx hvs (one_s _)).mono ?_
     rintro e w' ⟨rfl, RA, hk, hb⟩
     rw [show (l0.map Value.string).take i ++ l3.map Value.string = (l0.take i ++ l3).map Value.string by simp] at RA
     have := fin_s (w := w) (P := fun k_ => P0_ k_) (P' := fun k_ => (P0_ k_ ∨ w.heap.size ≤ k_)) RA hg (.inl hPg) (hb _ _ hB hg) (hk.mono (fun q hq => by subst hq; exact hPg))
     rw [show (l0.take i ++ l3).length = i + l3.length by simp; omega] at this
     exact ⟨_, rfl, this⟩
    ·refine (rpl_E1_s g c i l0.length l3.length c3 (some ad) l0 l3 w0 w (fun k_ => (P0_ k_ ∨ w.heap.size ≤ k_)) hB rfl ho' (fun k hk => .inr hk) hlt rfl hC om_ om_ hlc2 R.cap).mono ?_
     rintro e w' ⟨v, he, hR, hb, hk⟩
     exact ⟨v, he, hR, hb, hK' hk⟩
   ·have hjlt : j < l0.length := by omega
    rw [hv, hnl]
    have hfin : ∀ {w'}, RowIs w' g 9 c ((l0.map Value.string).take i ++ l3.map Value.string ++ (l0.map Value.string).drop j) → Below w0.heap.size w0 w' → PrintWords.Kept w w' (fun k_ => P0_ k_) →
      ∃ v0_ : Value, (Ending.returned (.slice (some ⟨g, 0, none⟩) (i + l3.length + (l0.length - j)) c)) = .returned (v0_) ∧ Kd.R Kd.string 9 w' w0.heap.size (fun k_ => (P0_ k_ ∨ w.heap.size ≤ k_)) v0_ (l0.take i ++ l3 ++ l0.drop j) ∧ Below w0.heap.size w0 w' ∧ PrintWords.Kept w w' (fun k_ => P0_ k_) := by
     intro w' RA hb hk
     rw [← hmap] at RA
     have := fin_s (w := w) (P := fun k_ => P0_ k_) (P' := fun k_ => (P0_ k_ ∨ w.heap.size ≤ k_)) RA hg (.inl hPg) hb hk
     rw [hlen] at this
     exact ⟨_, rfl, this⟩
    by_cases hroom : i + l3.length + (l0.length - j) ≤ c
    ·by_cases hx : j < i + l3.length
     ·have := rpl_M2_s g c i j l3.length c3 ad (l0.map Value.string) (l3.map Value.string) w R hlt om_ hml om_ hx hne hvs (one_s _) (one_s _) hsh
      rw [hnl] at this
      refine this.mono ?_
      rintro e w' ⟨rfl, q, rfl⟩
      exact hfin (row_A (row_drewN R q) hml om_ om_) (below_setCells (below_setCells (PrintWords.pw_below_drewN hB q) hg _ _) hg _ _) (kept_setCells (kept_setCells (kept_drewN_ w _ q) (.inl hPg) _ _) (.inl hPg) _ _)
     ·by_cases hx2 : i + l3.length < j
      ·have := rpl_M1_s g c i j l3.length c3 ad (l0.map Value.string) (l3.map Value.string) w R hlt om_ hml hx2 (fun _ => hne) hvs (one_s _) (one_s _)
       rw [hnl] at this
       refine this.mono ?_
       rintro e w' ⟨rfl, q, rfl⟩
       exact hfin (row_more (row_B (row_drewN R q) hml om_ om_) (by simp; omega)) (below_setCells (below_setCells (below_setCells (PrintWords.pw_below_drewN hB q) hg _ _) hg _ _) hg _ _) (kept_setCells (kept_setCells (kept_setCells (kept_drewN_ w _ q) (.inl hPg) _ _) (.inl hPg) _ _) (.inl hPg) _ _)
      ·have := rpl_M1e_s g c i j l3.length c3 ad (l0.map Value.string) (l3.map Value.string) w R hlt om_ hml om_ (fun _ => hne) hvs (one_s _) (one_s _)
       rw [hnl] at this
       refine this.mono ?_
       rintro e w' ⟨rfl, q, rfl⟩
       exact hfin (row_B (row_drewN R q) hml om_ om_) (below_setCells (below_setCells (PrintWords.pw_below_drewN hB q) hg _ _) hg _ _) (kept_setCells (kept_setCells (kept_drewN_ w _ q) (.inl hPg) _ _) (.inl hPg) _ _)
    ·have := rpl_G_s g c i j l3.length c3 ad (l0.map Value.string) (l3.map Value.string) w R hlt om_ hml om_ om_ hvs (fun _ => hvb) (one_s _) (one_s _)
     rw [hnl] at this
     refine this.mono ?_
     rintro e w' ⟨g', G, rfl, hgw, RA, hb⟩
     rw [← hmap] at RA
     have := fin_s (w := w) (P := fun k_ => P0_ k_) (P' := fun k_ => (P0_ k_ ∨ w.heap.size ≤ k_)) RA (Nat.le_trans hB.size hgw) (.inr hgw) (hB.trans (hb.mono hB.size)) (PrintWords.Kept.of_below hb _)
     rw [hlen] at this
     exact ⟨_, rfl, this⟩
end Go.Proofs.YtendgmblgdkiaaaGreat

namespace Go.Proofs.YtendgmblgdkiaaaGreat
open Go.RowKit
open Go.Proofs.YtendgmblgdkiaaaGreatW
open PrintWords (Kd)
set_option linter.unusedVariables false
set_option linter.unusedSimpArgs false

theorem one_i (l : List Int) : ∀ v ∈ l.map (Value.int .i64), v.oneCell' = true := by
 intro v hv
 obtain ⟨x, _, rfl⟩ := List.mem_map.1 hv
 rfl
theorem fin_i {w w' : World} {g c : Nat} {fs : List Int} {w0 : World} {P P' : Nat → Prop} (R : RowIs w' g 3 c (fs.map (Value.int .i64))) (hg : w0.heap.size ≤ g) (hP : P' g) (hB : Below w0.heap.size w0 w') (hK : PrintWords.Kept w w' P) :
  Kd.R (Kd.int .i64) 3 w' w0.heap.size P' (.slice (some ⟨g, 0, none⟩) fs.length c) fs ∧ Below w0.heap.size w0 w' ∧ PrintWords.Kept w w' P := by
 have ho := R.own hg
 rw [List.length_map] at ho
 exact ⟨R_enc_i ho (fun k hk => by
  have : g = k := by simpa [Value.ownBlock] using hk
  subst this
  exact hP), hB, hK⟩

set_option maxHeartbeats 1000000 in
set_option maxRecDepth 100000 in
theorem repl_to_ins_i {T : Value → World → Prop} (A0 : Option Addr) (n c0 i m vc : Nat) (av : Addr) (w : World) (hi : i ≤ n) (hn : n ≤ c0) (hc : c0 ≤ 9223372036854775807)
  (h : Calls Tryz.prog 248 #[.slice A0 n c0, .int .i64 i, .slice (some av) m vc] w fun e w' => ∃ v, e = .returned v ∧ T v w') :
  Calls Tryz.prog 229 #[.slice A0 n c0, .int .i64 i, .int .i64 i, .slice (some av) m vc] w fun e w' => ∃ v, e = .returned v ∧ T v w' := by
 have HC := hi_ h
 clear h
 have t1 : (i : Int) ≤ (n : Int) := by omega
 have t2 : (i : Int) ≤ (c0 : Int) := by omega
 go_enter Tryz.func229, Tryz.ntmps229
 go_wp2_with (go_at_call 248; refine HC.out.mono ?_; rintro e w' ⟨v, rfl, hT⟩)
 all_goals
  have HT := hi_ hT
  clear hT
  go_wp2
  go_ret
  exact ⟨v, rfl, HT.out⟩

theorem replace_own_i (P0_ : Nat → Prop) (u : Value) (l0 : List Int) (a1 a2 : Int) (A3 : Option Addr) (c3 : Nat) (l3 : List Int) (r : List Int) (w0 w : World) (hB : Below w0.heap.size w0 w) (ho0 : Kd.R (Kd.int .i64) 3 w w0.heap.size P0_ u l0)
  (hr3 : ∀ W_, PrintWords.Kept w W_ (fun k_ => P0_ k_) → Kd.C (Kd.int .i64) W_ A3 l3.length l3) (hc3 : l3.length ≤ c3) (h : replF l0 a1 a2 l3 = some r) :
  Calls Tryz.prog 229 #[u, .int .i64 a1, .int .i64 a2, .slice A3 l3.length c3] w fun e w' => ∃ v0_ : Value, e = .returned (v0_) ∧ Kd.R (Kd.int .i64) 3 w' w0.heap.size (fun k_ => (P0_ k_ ∨ w.heap.size ≤ k_)) v0_ r ∧ Below w0.heap.size w0 w' ∧ PrintWords.Kept w w' (fun k_ => P0_ k_) := by
 unfold replF at h
 split at h
 case isFalse => simp at h
 rename_i hc
 obtain ⟨h0, h1, h2, h3, h4⟩ := hc
 obtain rfl := Option.some.inj h
 obtain ⟨i, rfl⟩ := Int.eq_ofNat_of_zero_le h0
 obtain ⟨j, rfl⟩ := Int.eq_ofNat_of_zero_le (Int.le_trans h0 h1)
 have hij : i ≤ j := by omega
 have hjn : j ≤ l0.length := by omega
 simp only [Int.toNat_natCast]
 clear h0 h1 h2 h
 obtain ⟨ad, rfl, hap⟩ := apart_of_kept (d := (0 : Int)) hr3 h3
 have hC := hr3 w (PrintWords.Kept.refl w _)
 have hcells := (Kd.reads_of_C (d := (0 : Int)) hC).2.2 h3
 obtain ⟨ad', hA', hcell⟩ := hcells
 obtain rfl := Option.some.inj hA'
 have hvs : ∀ (k : Nat) (v : Value), (l3.map (Value.int .i64))[k]? = some v → w.cell? (ad.add k) = some v := by
  intro k v hk
  obtain ⟨hl, he⟩ := List.getElem?_eq_some_iff.1 hk
  rw [List.length_map] at hl
  rw [hcell k hl, List.getD_eq_getElem?_getD, List.getElem?_eq_getElem hl]
  simpa using he
 have hml : (l3.map (Value.int .i64)).length = l3.length := List.length_map ..
 have hnl : (l0.map (Value.int .i64)).length = l0.length := List.length_map ..
 have hvb : ad.block < w.heap.size := by
  have := World.block_lt_of_cell? w _ (hcell 0 h3)
  exact this
 have hsh := shape_of_cell (hcell 0 h3)
 have ho' : Kd.R (Kd.int .i64) 3 w w0.heap.size (fun k_ => (P0_ k_ ∨ w.heap.size ≤ k_)) u l0 := Kd.R_mono ho0 (fun k hk => .inl hk)
 have how : w.ownsRow w0.heap.size 3 1 u l0.length (l0.map (Value.int .i64)) := Kd.own_of_R ho'
 have hK' : ∀ {w'}, PrintWords.Kept w w' (fun k_ => (P0_ k_ ∨ w.heap.size ≤ k_)) → PrintWords.Kept w w' (fun k_ => P0_ k_) := fun {w'} hk => ⟨hk.1, fun q hq hn => hk.2 q hq (by rintro (h | h); exact hn h; omega)⟩
 have hmap : (l0.take i ++ l3 ++ l0.drop j).map (Value.int .i64) = (l0.map (Value.int .i64)).take i ++ l3.map (Value.int .i64) ++ (l0.map (Value.int .i64)).drop j := by simp
 have hlen : (l0.take i ++ l3 ++ l0.drop j).length = i + l3.length + (l0.length - j) := by simp; omega
 rcases Nat.eq_or_lt_of_le hij with rfl | hlt
 ·-- i = j: Insert
  obtain ⟨A0, c0, hu, hlc, hCu⟩ := Kd.R_reads ho'
  have hc0 : c0 ≤ 9223372036854775807 := by
   rcases row_of_own how with ⟨hv, _, _⟩ | ⟨g, c, hv, _, _, R⟩
   ·rw [hu] at hv; injection hv with _ _ hv; omega
   ·rw [hu] at hv; injection hv with _ _ hv; rw [hv]; exact R.cap
  by_cases hin : i = l0.length
  ·subst hin
   rw [List.take_length, List.drop_length, List.append_nil]
   have := ins_end_i u l0.length l3.length c3 (some ad) l0 l3 w0 w (fun k_ => (P0_ k_ ∨ w.heap.size ≤ k_)) hB rfl ho' (fun k hk => .inr hk) rfl hC h3 om_
   rw [hu] at this ⊢
   refine (repl_to_ins_i A0 _ c0 _ _ c3 ad w (Nat.le_refl _) hlc hc0 this).mono ?_
   rintro e w' ⟨v, he, hR, hb, hk⟩
   exact ⟨v, he, hR, hb, hK' hk⟩
  ·have hlt : i < l0.length := by omega
   rcases row_of_own how with ⟨hv, hv2, _⟩ | ⟨g, c, hv, _, hg, R⟩
   ·simp at hv2
    subst hv2
    simp at hlt
   ·have hPg : P0_ g := ho0.1 g (by rw [hv]; rfl)
    have hne := hap g hPg
    have hKg : ∀ {w'}, PrintWords.Kept w w' (fun k => k = g) → PrintWords.Kept w w' (fun k_ => P0_ k_) := fun {w'} hk => hk.mono (fun q hq => by subst hq; exact hPg)
    have hlc2 : l0.length ≤ c := by have := R.len; rw [hnl] at this; exact this
    rw [hv, hnl]
    by_cases hroom : l0.length + l3.length ≤ c
    ·have := ins_room_i g c i l3.length c3 ad (l0.map (Value.int .i64)) (l3.map (Value.int .i64)) w R om_ hml h3 om_ hne hvs (one_i _) (one_i _) hsh
     rw [hnl] at this
     refine (repl_to_ins_i (some ⟨g, 0, none⟩) _ c i _ c3 ad w om_ hlc2 R.cap (T := fun v w' => Kd.R (Kd.int .i64) 3 w' w0.heap.size (fun k_ => (P0_ k_ ∨ w.heap.size ≤ k_)) v (l0.take i ++ l3 ++ l0.drop i) ∧ Below w0.heap.size w0 w' ∧ PrintWords.Kept w w' (fun k_ => P0_ k_)) (this.mono ?_)).mono (fun _ _ h => h)
     rintro e w' ⟨rfl, q, rfl⟩
     have RA := row_A (cs := l0.map (Value.int .i64)) (vs := l3.map (Value.int .i64)) (i := i) (j := i) (row_drewN R q) hml om_ om_
     rw [← hmap] at RA
     have := fin_i (w := w) (P := fun k_ => P0_ k_) (P' := fun k_ => (P0_ k_ ∨ w.heap.size ≤ k_)) RA hg (.inl hPg) (below_setCells (below_setCells (PrintWords.pw_below_drewN hB q) hg _ _) hg _ _) (kept_setCells (kept_setCells (kept_drewN_ w _ q) (.inl hPg) _ _) (.inl hPg) _ _)
     rw [hlen, show i + l3.length + (l0.length - i) = l0.length + l3.length by omega] at this
     exact ⟨_, rfl, this⟩
    ·have := ins_grow_i g c i l3.length c3 ad (l0.map (Value.int .i64)) (l3.map (Value.int .i64)) w R om_ hml h3 om_ om_ hvs (fun _ => hvb) (one_i _) (one_i _)
     rw [hnl] at this
     refine (repl_to_ins_i (some ⟨g, 0, none⟩) _ c i _ c3 ad w om_ hlc2 R.cap (T := fun v w' => Kd.R (Kd.int .i64) 3 w' w0.heap.size (fun k_ => (P0_ k_ ∨ w.heap.size ≤ k_)) v (l0.take i ++ l3 ++ l0.drop i) ∧ Below w0.heap.size w0 w' ∧ PrintWords.Kept w w' (fun k_ => P0_ k_)) (this.mono ?_)).mono (fun _ _ h => h)
     rintro e w' ⟨g', G, rfl, hgw, RA, hb⟩
     rw [← hmap] at RA
     have := fin_i (w := w) (P := fun k_ => P0_ k_) (P' := fun k_ => (P0_ k_ ∨ w.heap.size ≤ k_)) RA (Nat.le_trans hB.size hgw) (.inr hgw) (hB.trans (hb.mono hB.size)) (PrintWords.Kept.of_below hb _)
     rw [hlen, show i + l3.length + (l0.length - i) = l0.length + l3.length by omega] at this
     exact ⟨_, rfl, this⟩
 ·rcases row_of_own how with ⟨hv, hv2, _⟩ | ⟨g, c, hv, _, hg, R⟩
  ·simp at hv2
   subst hv2
   simp at hjn
   omega
  ·have hPg : P0_ g := ho0.1 g (by rw [hv]; rfl)
   have hne := hap g hPg
   have hlc2 : l0.length ≤ c := by have := R.len; rw [hnl] at this; exact this
   by_cases hjl : j = l0.length
   ·subst hjl
    rw [List.drop_length, List.append_nil]
    rw [hv, hnl] at ho' ⊢
    by_cases hx : i + l3.length < l0.length
    ·refine (rpl_E2_i g c i l0.length l3.length c3 ad (l0.map (Value.int .i64)) (l3.map (Value.int .i64)) w R hnl hml hx hvs (one_i _)).mono ?_
     rintro e w' ⟨rfl, RA, hk, hb⟩
     rw [show (l0.map (Value.int .i64)).take i ++ l3.map (Value.int .i64) = (l0.take i ++ l3).map (Value.int .i64) by simp] at RA
     have := fin_i (w := w) (P := fun k_ => P0_ k_) (P' := fun k_ => (P0_ k_ ∨ w.heap.size ≤ k_)) RA hg (.inl hPg) (hb _ _ hB hg) (hk.mono (fun q hq => by subst hq; exact hPg))
     rw [show (l0.take i ++ l3).length = i + l3.length by simp; omega] at this
     exact ⟨_, rfl, this⟩
    ·refine (rpl_E1_i g c i l0.length l3.length c3 (some ad) l0 l3 w0 w (fun k_ => (P0_ k_ ∨ w.heap.size ≤ k_)) hB rfl ho' (fun k hk => .inr hk) hlt rfl hC om_ om_ hlc2 R.cap).mono ?_
     rintro e w' ⟨v, he, hR, hb, hk⟩
     exact ⟨v, he, hR, hb, hK' hk⟩
   ·have hjlt : j < l0.length := by omega
    rw [hv, hnl]
    have hfin : ∀ {w'}, RowIs w' g 3 c ((l0.map (Value.int .i64)).take i ++ l3.map (Value.int .i64) ++ (l0.map (Value.int .i64)).drop j) → Below w0.heap.size w0 w' → PrintWords.Kept w w' (fun k_ => P0_ k_) →
      ∃ v0_ : Value, (Ending.returned (.slice (some ⟨g, 0, none⟩) (i + l3.length + (l0.length - j)) c)) = .returned (v0_) ∧ Kd.R (Kd.int .i64) 3 w' w0.heap.size (fun k_ => (P0_ k_ ∨ w.heap.size ≤ k_)) v0_ (l0.take i ++ l3 ++ l0.drop j) ∧ Below w0.heap.size w0 w' ∧ PrintWords.Kept w w' (fun k_ => P0_ k_) := by
     intro w' RA hb hk
     rw [← hmap] at RA
     have := fin_i (w := w) (P := fun k_ => P0_ k_) (P' := fun k_ => (P0_ k_ ∨ w.heap.size ≤ k_)) RA hg (.inl hPg) hb hk
     rw [hlen] at this
     exact ⟨_, rfl, this⟩
    by_cases hroom : i + l3.length + (l0.length - j) ≤ c
    ·by_cases hx : j < i + l3.length
     ·have := rpl_M2_i g c i j l3.length c3 ad (l0.map (Value.int .i64)) (l3.map (Value.int .i64)) w R hlt om_ hml om_ hx hne hvs (one_i _) (one_i _) hsh
      rw [hnl] at this
      refine this.mono ?_
      rintro e w' ⟨rfl, q, rfl⟩
      exact hfin (row_A (row_drewN R q) hml om_ om_) (below_setCells (below_setCells (PrintWords.pw_below_drewN hB q) hg _ _) hg _ _) (kept_setCells (kept_setCells (kept_drewN_ w _ q) (.inl hPg) _ _) (.inl hPg) _ _)
     ·by_cases hx2 : i + l3.length < j
      ·have := rpl_M1_i g c i j l3.length c3 ad (l0.map (Value.int .i64)) (l3.map (Value.int .i64)) w R hlt om_ hml hx2 (fun _ => hne) hvs (one_i _) (one_i _)
       rw [hnl] at this
       refine this.mono ?_
       rintro e w' ⟨rfl, q, rfl⟩
       exact hfin (row_more (row_B (row_drewN R q) hml om_ om_) (by simp; omega)) (below_setCells (below_setCells (below_setCells (PrintWords.pw_below_drewN hB q) hg _ _) hg _ _) hg _ _) (kept_setCells (kept_setCells (kept_setCells (kept_drewN_ w _ q) (.inl hPg) _ _) (.inl hPg) _ _) (.inl hPg) _ _)
      ·have := rpl_M1e_i g c i j l3.length c3 ad (l0.map (Value.int .i64)) (l3.map (Value.int .i64)) w R hlt om_ hml om_ (fun _ => hne) hvs (one_i _) (one_i _)
       rw [hnl] at this
       refine this.mono ?_
       rintro e w' ⟨rfl, q, rfl⟩
       exact hfin (row_B (row_drewN R q) hml om_ om_) (below_setCells (below_setCells (PrintWords.pw_below_drewN hB q) hg _ _) hg _ _) (kept_setCells (kept_setCells (kept_drewN_ w _ q) (.inl hPg) _ _) (.inl hPg) _ _)
    ·have := rpl_G_i g c i j l3.length c3 ad (l0.map (Value.int .i64)) (l3.map (Value.int .i64)) w R hlt om_ hml om_ om_ hvs (fun _ => hvb) (one_i _) (one_i _)
     rw [hnl] at this
     refine this.mono ?_
     rintro e w' ⟨g', G, rfl, hgw, RA, hb⟩
     rw [← hmap] at RA
     have := fin_i (w := w) (P := fun k_ => P0_ k_) (P' := fun k_ => (P0_ k_ ∨ w.heap.size ≤ k_)) RA (Nat.le_trans hB.size hgw) (.inr hgw) (hB.trans (hb.mono hB.size)) (PrintWords.Kept.of_below hb _)
     rw [hlen] at this
     exact ⟨_, rfl, this⟩
end Go.Proofs.YtendgmblgdkiaaaGreat

namespace Go.Proofs.YtendgmblgdkiaaaGreat
open Go.RowKit Go.Lib
open Go.Proofs.YtendgmblgdkiaaaGreatW
open PrintWords (Kd)
set_option linter.unusedVariables false
set_option linter.unusedSimpArgs false

def delF {α : Type} (l : List α) (i j : Int) : Option (List α) :=
 if 0 ≤ i ∧ i ≤ j ∧ j ≤ l.length ∧ 0 < l.length then some (l.take i.toNat ++ l.drop j.toNat) else none

theorem row_all {w : World} {b c : Nat} {t : TypeId} {cs fs : List Value} (R : RowIs w b t c cs) (hl : fs.length ≤ c) : RowIs (w.setCells b 0 fs) b t c fs := by
 obtain ⟨cur, hb, hs⟩ := R.blk
 obtain ⟨cur', h1, h2⟩ := row_setCells b t fs 0 w cur hb
 refine ⟨R.cap, hl, ⟨cur', h1, by omega⟩, fun k v hk => ?_⟩
 have := cells_in' b fs 0 w k v hk (fun t ht => by rw [Nat.zero_add]; exact R.some_ _ om_)
 rwa [Nat.zero_add] at this
theorem row_short {w : World} {b c : Nat} {t : TypeId} {fs gs : List Value} (R : RowIs w b t c (fs ++ gs)) : RowIs w b t c fs :=
 ⟨R.cap, by have := R.len; simp at this; omega, R.blk, fun k v hk => R.cell k v (by rw [List.getElem?_append_left (List.getElem?_eq_some_iff.1 hk).1]; exact hk)⟩

theorem delete_own (P0_ : Nat → Prop) (u : Value) (l0 : List ByteArray) (a1 a2 : Int) (r : List ByteArray) (w0 w : World) (hB : Below w0.heap.size w0 w) (ho0 : Kd.R Kd.string 9 w w0.heap.size P0_ u l0) (h : delF l0 a1 a2 = some r) :
  Calls Tryz.prog 107 #[u, .int .i64 a1, .int .i64 a2] w fun e w' => ∃ v0_ : Value, e = .returned (v0_) ∧ Kd.R Kd.string 9 w' w0.heap.size (fun k_ => (P0_ k_ ∨ w.heap.size ≤ k_)) v0_ r ∧ Below w0.heap.size w0 w' ∧ PrintWords.Kept w w' (fun k_ => P0_ k_) := by
 unfold delF at h
 split at h
 case isFalse => simp at h
 rename_i hc
 obtain ⟨h0, h1, h2, h3⟩ := hc
 obtain rfl := Option.some.inj h
 obtain ⟨i, rfl⟩ := Int.eq_ofNat_of_zero_le h0
 obtain ⟨j, rfl⟩ := Int.eq_ofNat_of_zero_le (Int.le_trans h0 h1)
 have hij : i ≤ j := by omega
 have hjn : j ≤ l0.length := by omega
 simp only [Int.toNat_natCast]
 clear h0 h1 h2 h
 have how : w.ownsRow w0.heap.size 9 1 u l0.length (l0.map Value.string) := Kd.own_of_R ho0
 have hnl : (l0.map Value.string).length = l0.length := List.length_map ..
 rcases row_of_own how with ⟨_, hv2, _⟩ | ⟨g, c, hv, _, hg, R⟩
 ·simp at hv2
  subst hv2
  simp at h3
 ·have hPg : P0_ g := ho0.1 g (by rw [hv]; rfl)
  have hlc : l0.length ≤ c := by have := R.len; rw [hnl] at this; exact this
  rw [hv, hnl]
  refine (Tryz.slices_Delete_string_cells g 0 l0.length c i j (fun k => l0.getD k ByteArray.empty) w hlc R.cap hij hjn (fun k hk => by
   rw [Nat.zero_add]
   exact R.cell k _ (by rw [List.getElem?_map, List.getElem?_eq_getElem hk, List.getD_eq_getElem?_getD, List.getElem?_eq_getElem hk]; rfl)) (fun k _ => R.frz _)).mono ?_
  rintro e w' ⟨rfl, q, rfl⟩
  have e1 : (Lib.strsOf (fun k => l0.getD k ByteArray.empty) l0.length).map encStr = l0.map Value.string := by
   apply List.ext_getElem
   ·simp [Lib.strsOf]
   ·intro k h1 h2
    simp only [Lib.strsOf, List.getElem_map, List.getElem_range]
    rw [List.length_map] at h2
    rw [List.getD_eq_getElem?_getD, List.getElem?_eq_getElem h2]
    rfl
  have e2 : ((((Lib.strsOf (fun k => l0.getD k ByteArray.empty) l0.length).take i ++ (Lib.strsOf (fun k => l0.getD k ByteArray.empty) l0.length).drop j ++ List.replicate (j - i) []).map encStr)) = (l0.take i ++ l0.drop j).map Value.string ++ List.replicate (j - i) (encStr []) := by
   rw [List.map_append, List.map_append, List.map_take, List.map_drop, e1]
   simp
  rw [e2]
  have RA := row_short (row_all (row_drewN R q) (fs := (l0.take i ++ l0.drop j).map Value.string ++ List.replicate (j - i) (encStr [])) (by simp; omega))
  have := fin_s (w := w) (P := fun k_ => P0_ k_) (P' := fun k_ => (P0_ k_ ∨ w.heap.size ≤ k_)) RA hg (.inl hPg) (below_setCells (PrintWords.pw_below_drewN hB q) hg _ _) (kept_setCells (kept_drewN_ w _ q) (.inl hPg) _ _)
  rw [show (l0.take i ++ l0.drop j).length = l0.length - (j - i) by simp; omega] at this
  exact ⟨_, rfl, this⟩
end Go.Proofs.YtendgmblgdkiaaaGreat
