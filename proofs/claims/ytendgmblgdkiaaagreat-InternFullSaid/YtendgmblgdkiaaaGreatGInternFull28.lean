/- slices.Replace, walked at []string: in place and in a new row. slices.Replace, walked at []int: in place and in a new row. -/
import Derived.Test.YtendgmblgdkiaaaGreatGInternFull0
import Derived.Test.YtendgmblgdkiaaaGreatGInternFull20
import Derived.Test.YtendgmblgdkiaaaGreatGInternFull11
import Derived.Lib.Hide
import Derived.Outline
import Derived.Deep.RegionLaw
import Derived.Deep.QuietTactic
import Derived.BigQuiet
import Derived.WalkSpells
namespace Go.Proofs.YtendgmblgdkiaaaGreat
open Go.RowKit
open Go.Proofs.YtendgmblgdkiaaaGreatW
open PrintWords (Kd)
set_option linter.unusedVariables false
set_option linter.unusedSimpArgs false

theorem cells_drewN_s (b : Nat) : ∀ (vs : List Value) (o : Nat) (w : World) (q : Nat) (x : Addr), ((w.drewN q).setCells b o vs).cell? x = (w.setCells b o vs).cell? x
 | [], _, _, _, _ => rfl
 | v :: r, o, w, q, x => cells_drewN_s b r (o + 1) (w.setCell ⟨b, o, none⟩ v) q x
theorem drew_setCells_s (b : Nat) : ∀ (vs : List Value) (o : Nat) (w : World), (w.setCells b o vs).drew = w.drew.setCells b o vs
 | [], _, _ => rfl
 | v :: r, o, w => drew_setCells_s b r (o + 1) (w.setCell ⟨b, o, none⟩ v)
theorem rpsz_s : (Tryz.prog.info? 9).map (·.size) = some 1 := by kernel_rfl
theorem rpinfo_s : (Tryz.prog.info? 9).map (fun i => (i.zero, i.size, i.bytes)) = some (some (Value.string ⟨#[]⟩), 1, 16) := by kernel_rfl
theorem rpz_s : ∀ w, (Go.sizeOf 9).run Tryz.prog w = .ok 1 w := fun w => by kernel_rfl

set_option maxHeartbeats 4000000 in
set_option maxRecDepth 100000 in
theorem rpl_M2_s (b c i j m vc : Nat) (av : Addr) (cs vs : List Value) (w : World) (R : RowIs w b 9 c cs) (hij : i < j) (hj : j < cs.length) (hm : vs.length = m) (hroom : i + m + (cs.length - j) ≤ c) (hx : j < i + m) (hne : av.block ≠ b)
  (hvs : ∀ k v, vs[k]? = some v → w.cell? (av.add k) = some v) (h1v : ∀ v ∈ vs, v.oneCell' = true) (h1c : ∀ v ∈ cs, v.oneCell' = true) (hsh : ∃ t k, w.shape? av.block = some (t, k + 1)) :
  Calls Tryz.prog 102 #[.slice (some ⟨b, 0, none⟩) cs.length c, .int .i64 i, .int .i64 j, .slice (some av) m vc] w fun e w' =>
   e = .returned (.slice (some ⟨b, 0, none⟩) (i + m + (cs.length - j)) c) ∧ ∃ q, w' = ((w.drewN q).setCells b (i + m) (cs.drop j)).setCells b i vs := by
 obtain ⟨n, hn⟩ : ∃ n, n = cs.length := ⟨_, rfl⟩
 obtain ⟨tV, kV, hsV⟩ := hsh
 have hcap := R.cap
 rw [← hn] at hj hroom ⊢
 replace hn := hn.symm
 have hsB := R.shape
 have hov : ∀ q lb cb, (callFunc 155 #[.slice (some ⟨b, i + m, none⟩) lb cb, .slice (some av) m vc]).run Tryz.prog (w.drewN q) = .ok (.value (.bool false)) (w.drewN q) := fun q lb cb => by
  rw [run_callFunc_extern Tryz.func155 (by kernel_rfl) (by kernel_rfl) (by kernel_rfl) (e := Extern.SlicesOverlaps.overlaps #[22, 22] #[4]) (by kernel_rfl),
   Lib.run_overlaps_apart (w.drewN q) 22 4 9 Tryz.underlying22 1 rpz_s ⟨b, i + m, none⟩ av lb cb m vc (Ne.symm hne) 9 tV c (kV + 1) hsB hsV om_ (R.frz _) (R.frz _)]
  rfl
 have hcp1 : ∀ (W : World), (∀ x, W.cell? x = w.cell? x) → (∀ x, W.frozen? x = w.frozen? x) → ∀ ty dc sc, (Builtin.copy_ #[22, 22] ty #[.slice (some ⟨b, i + m, none⟩) (n - j) dc, .slice (some ⟨b, j, none⟩) (n - j) sc]).run Tryz.prog W = .ok (goInt (cs.drop j).length) (W.setCells b (i + m) (cs.drop j)) := fun W hWc hWf ty dc sc =>
  run_copy_cells W _ _ ty 9 b (i + m) (n - j) dc ⟨b, j, none⟩ (n - j) sc (cs.drop j) Tryz.underlying22 rpsz_s (by rw [List.length_drop, hn]; simp only [Nat.min_def]; split <;> omega)
   (fun k v hk => by rw [Addr.add_lit, hWc]; exact R.cell (j + k) v (by rwa [List.getElem?_drop] at hk))
   (fun k hk => by rw [List.length_drop] at hk; rw [hWc]; exact R.some_ _ om_) (fun k hk => by rw [hWf]; exact R.frz _) (fun v hv => h1c v (List.mem_of_mem_drop hv))
 have hcpq : ∀ q, (Builtin.copy_ #[22, 22] 3 #[.slice (some ⟨b, i + m, none⟩) (n - j) (c - (i + m)), .slice (some ⟨b, j, none⟩) (n - j) (c - j)]).run Tryz.prog (w.drewN q) = .ok (goInt (cs.drop j).length) ((w.drewN q).setCells b (i + m) (cs.drop j)) := fun q => hcp1 (w.drewN q) (fun _ => rfl) (fun _ => rfl) _ _ _
 have hcp2 : ∀ (W : World), (∀ x, W.cell? x = (w.setCells b (i + m) (cs.drop j)).cell? x) → (∀ x, W.frozen? x = w.frozen? x) → ∀ ty dc, (Builtin.copy_ #[22, 22] ty #[.slice (some ⟨b, i, none⟩) (i + m + (n - j) - i) dc, .slice (some av) m vc]).run Tryz.prog W = .ok (goInt vs.length) (W.setCells b i vs) := fun W hWc hWf ty dc =>
  run_copy_cells W _ _ ty 9 b i (i + m + (n - j) - i) dc av m vc vs Tryz.underlying22 rpsz_s (by rw [hm]; simp only [Nat.min_def]; split <;> omega)
   (fun k v hk => by
    rw [hWc, World.cell?_setCells_out b _ _ _ _ (fun h _ => absurd (by rw [← h]; unfold Addr.add; split <;> rfl) hne)]
    exact hvs k v hk)
   (fun k hk => by rw [hWc]; exact isSome_setCells b _ _ _ (fun t ht => by rw [List.length_drop] at ht; exact R.some_ _ om_) _ (R.some_ _ om_))
   (fun k hk => by rw [hWf]; exact R.frz _) h1v
 have hcpq2 : ∀ q, (Builtin.copy_ #[22, 22] 3 #[.slice (some ⟨b, i, none⟩) (i + m + (n - j) - i) (c - i), .slice (some av) m vc]).run Tryz.prog ((w.drewN q).setCells b (i + m) (cs.drop j)) = .ok (goInt vs.length) (((w.drewN q).setCells b (i + m) (cs.drop j)).setCells b i vs) := fun q => hcp2 ((w.drewN q).setCells b (i + m) (cs.drop j)) (fun x => by rw [cells_drewN_s]) (fun x => by rw [World.frozen?_setCells]; rfl) _ _
 clear hcp1 hcp2
 have HN := hi_ hn
 clear hn
 have hw1 : IntKind.i64.wrap ((i : Int) + (m : Int)) = (i : Int) + (m : Int) := by rw [IntKind.wrap_i64]; omega
 have hw2 : IntKind.i64.wrap ((i : Int) + (m : Int) + ((n - j : Nat) : Int)) = ((i + m + (n - j) : Nat) : Int) := by rw [IntKind.wrap_i64]; omega
 have hmI : (i : Int) + (m : Int) ≤ 9223372036854775807 := by omega
 have hb1 : (0 : Int) ≤ (i : Int) + (m : Int) := by omega
 have hb3 : (i : Int) + (m : Int) ≤ (i : Int) + (m : Int) + ((n - j : Nat) : Int) := by omega
 have htn : ((i : Int) + (m : Int)).toNat = i + m := by omega
 have hb2 : ¬ (c = i + m) := by omega
 have hb4 : ¬ (c = j) := by omega
 have t0 : ¬ ((i : Int) = (j : Int)) := by omega
 have t1 : ¬ ((j : Int) = (n : Int)) := by omega
 have t2 : (i : Int) ≤ (j : Int) := by omega
 have t3 : (j : Int) ≤ (c : Int) := by omega
 have t4 : (j : Int) ≤ (n : Int) := by omega
 have t5 : (i : Int) ≤ (n : Int) := by omega
 go_enter Tryz.func102, Tryz.ntmps102
 go_wp2
 go_quiet (fail)
 go_wp2_with (simp only [hov])
 go_region
 go_wp2
 go_ret
 exact ⟨rfl, _, rfl⟩

set_option maxHeartbeats 4000000 in
set_option maxRecDepth 100000 in
theorem rpl_M1_s (b c i j m vc : Nat) (av : Addr) (cs vs : List Value) (w : World) (R : RowIs w b 9 c cs) (hij : i < j) (hj : j < cs.length) (hm : vs.length = m) (hx : i + m < j) (hne : 0 < m → av.block ≠ b)
  (hvs : ∀ k v, vs[k]? = some v → w.cell? (av.add k) = some v) (h1v : ∀ v ∈ vs, v.oneCell' = true) (h1c : ∀ v ∈ cs, v.oneCell' = true) :
  Calls Tryz.prog 102 #[.slice (some ⟨b, 0, none⟩) cs.length c, .int .i64 i, .int .i64 j, .slice (some av) m vc] w fun e w' =>
   e = .returned (.slice (some ⟨b, 0, none⟩) (i + m + (cs.length - j)) c) ∧ ∃ q, w' = (((w.drewN q).setCells b i vs).setCells b (i + m) (cs.drop j)).setCells b (i + m + (cs.length - j)) (List.replicate (cs.length - (i + m + (cs.length - j))) (Value.string ⟨#[]⟩)) := by
 obtain ⟨n, hn⟩ : ∃ n, n = cs.length := ⟨_, rfl⟩
 have hcap := R.cap
 have hlen := R.len
 rw [← hn] at hj hlen ⊢
 replace hn := hn.symm
 have hcp1 : ∀ q, (Builtin.copy_ #[22, 22] 3 #[.slice (some ⟨b, i, none⟩) (i + m + (n - j) - i) (c - i), .slice (some av) m vc]).run Tryz.prog (w.drewN q) = .ok (goInt vs.length) ((w.drewN q).setCells b i vs) := fun q =>
  run_copy_cells (w.drewN q) _ _ _ 9 b i (i + m + (n - j) - i) _ av m vc vs Tryz.underlying22 rpsz_s (by rw [hm]; simp only [Nat.min_def]; split <;> omega)
   (fun k v hk => hvs k v hk) (fun k hk => R.some_ _ om_) (fun k hk => R.frz _) h1v
 have hcp2 : ∀ (W : World), (∀ x, W.cell? x = (w.setCells b i vs).cell? x) → (∀ x, W.frozen? x = w.frozen? x) → ∀ ty dc sc, (Builtin.copy_ #[22, 22] ty #[.slice (some ⟨b, i + m, none⟩) (n - j) dc, .slice (some ⟨b, j, none⟩) (n - j) sc]).run Tryz.prog W = .ok (goInt (cs.drop j).length) (W.setCells b (i + m) (cs.drop j)) := fun W hWc hWf ty dc sc =>
  run_copy_cells W _ _ ty 9 b (i + m) (n - j) dc ⟨b, j, none⟩ (n - j) sc (cs.drop j) Tryz.underlying22 rpsz_s (by rw [List.length_drop, hn]; simp only [Nat.min_def]; split <;> omega)
   (fun k v hk => by rw [Addr.add_lit, hWc, World.cell?_setCells_out b _ _ _ _ (fun _ _ => Or.inr (by show i + vs.length ≤ j + k; omega))]; exact R.cell (j + k) v (by rwa [List.getElem?_drop] at hk))
   (fun k hk => by rw [List.length_drop] at hk; rw [hWc]; exact isSome_setCells b _ _ _ (fun t ht => R.some_ _ om_) _ (R.some_ _ om_)) (fun k hk => by rw [hWf]; exact R.frz _) (fun v hv => h1c v (List.mem_of_mem_drop hv))
 have hcl : ∀ (W : World), (∀ k, k < c → (W.cell? ⟨b, k, none⟩).isSome = true) → (∀ x, W.frozen? x = w.frozen? x) → ∀ ty, (Builtin.clear_ #[22] ty #[.slice (some ⟨b, i + m + (n - j), none⟩) (n - (i + m + (n - j))) (c - (i + m + (n - j)))]).run Tryz.prog W = .ok (.tuple #[]) (W.setCells b (i + m + (n - j)) (List.replicate (n - (i + m + (n - j))) (Value.string ⟨#[]⟩))) := fun W hWc hWf ty =>
  Lib.run_clear_slice W _ _ ty _ Tryz.underlying22 Tryz.zeroValue9 rfl rfl b _ _ _ om_ (fun k hk => hWc _ om_) (fun k hk => by rw [hWf]; exact R.frz _)
 have HN := hi_ hn
 clear hn
 have hw1 : IntKind.i64.wrap ((i : Int) + (m : Int)) = (i : Int) + (m : Int) := by rw [IntKind.wrap_i64]; omega
 have hw2 : IntKind.i64.wrap ((i : Int) + (m : Int) + ((n - j : Nat) : Int)) = ((i + m + (n - j) : Nat) : Int) := by rw [IntKind.wrap_i64]; omega
 have hmI : (i : Int) + (m : Int) ≤ 9223372036854775807 := by omega
 have hb1 : (0 : Int) ≤ (i : Int) + (m : Int) := by omega
 have hb3 : (i : Int) + (m : Int) ≤ (i : Int) + (m : Int) + ((n - j : Nat) : Int) := by omega
 have htn : ((i : Int) + (m : Int)).toNat = i + m := by omega
 have htn2 : ((i : Int) + (m : Int) + ((n - j : Nat) : Int)).toNat = i + m + (n - j) := by omega
 have hb2 : ¬ (c = i + m) := by omega
 have hb4 : ¬ (c = j) := by omega
 have hb5 : ¬ (c = i + m + (n - j)) := by omega
 have hb6 : (0 : Int) ≤ (i : Int) + (m : Int) + ((n - j : Nat) : Int) := by omega
 have hb7 : (i : Int) + (m : Int) + ((n - j : Nat) : Int) ≤ (n : Int) := by omega
 have hb8 : (i : Int) + (m : Int) + ((n - j : Nat) : Int) ≤ (c : Int) := by omega
 have t0 : ¬ ((i : Int) = (j : Int)) := by omega
 have t1 : ¬ ((j : Int) = (n : Int)) := by omega
 have t2 : (i : Int) ≤ (j : Int) := by omega
 have t3 : (j : Int) ≤ (c : Int) := by omega
 have t4 : (j : Int) ≤ (n : Int) := by omega
 have t5 : (i : Int) ≤ (n : Int) := by omega
 go_enter Tryz.func102, Tryz.ntmps102
 go_wp2
 go_quiet (fail)
 go_wp2
 obtain ⟨W2, hW2⟩ : ∃ W2, W2 = (w.drewN nq).setCells b i vs := ⟨_, rfl⟩
 rw [← hW2]
 have E2 := hcp2 W2.drew (fun x => by show W2.cell? x = _; rw [hW2, cells_drewN_s]) (fun x => by show W2.frozen? x = _; rw [hW2, World.frozen?_setCells]; rfl)
 have E3 : ∀ k, k < c → (((W2.drew).setCells b (i + m) (cs.drop j)).cell? ⟨b, k, none⟩).isSome = true := fun k hk => isSome_setCells b _ _ _ (fun t ht => by
   rw [List.length_drop, HN.out] at ht
   show (W2.cell? _).isSome = true
   rw [hW2, cells_drewN_s]
   exact isSome_setCells b _ _ _ (fun t ht => R.some_ _ om_) _ (R.some_ _ om_)) _ (by
   show (W2.cell? _).isSome = true
   rw [hW2, cells_drewN_s]
   exact isSome_setCells b _ _ _ (fun t ht => R.some_ _ om_) _ (R.some_ _ hk))
 have E4 := hcl ((W2.drew).setCells b (i + m) (cs.drop j)) E3 (fun x => by rw [World.frozen?_setCells]; show W2.frozen? x = _; rw [hW2, World.frozen?_setCells]; rfl)
 have HW2 := hi_ hW2
 clear hW2 hcp2 hcl hcp1 E3
 go_region
 go_wp2
 go_ret
 exact ⟨rfl, nq + 1, by rw [HW2.out, drew_setCells_s]; rfl⟩
set_option maxHeartbeats 4000000 in
set_option maxRecDepth 100000 in
theorem rpl_M1e_s (b c i j m vc : Nat) (av : Addr) (cs vs : List Value) (w : World) (R : RowIs w b 9 c cs) (hij : i < j) (hj : j < cs.length) (hm : vs.length = m) (hx : i + m = j) (hne : 0 < m → av.block ≠ b)
  (hvs : ∀ k v, vs[k]? = some v → w.cell? (av.add k) = some v) (h1v : ∀ v ∈ vs, v.oneCell' = true) (h1c : ∀ v ∈ cs, v.oneCell' = true) :
  Calls Tryz.prog 102 #[.slice (some ⟨b, 0, none⟩) cs.length c, .int .i64 i, .int .i64 j, .slice (some av) m vc] w fun e w' =>
   e = .returned (.slice (some ⟨b, 0, none⟩) (i + m + (cs.length - j)) c) ∧ ∃ q, w' = ((w.drewN q).setCells b i vs).setCells b (i + m) (cs.drop j) := by
 have hx1 : i + m ≤ j := by omega
 have hx2 : j ≤ i + m := by omega
 clear hx
 obtain ⟨n, hn⟩ : ∃ n, n = cs.length := ⟨_, rfl⟩
 have hcap := R.cap
 have hlen := R.len
 rw [← hn] at hj hlen ⊢
 replace hn := hn.symm
 have hcp1 : ∀ q, (Builtin.copy_ #[22, 22] 3 #[.slice (some ⟨b, i, none⟩) (i + m + (n - j) - i) (c - i), .slice (some av) m vc]).run Tryz.prog (w.drewN q) = .ok (goInt vs.length) ((w.drewN q).setCells b i vs) := fun q =>
  run_copy_cells (w.drewN q) _ _ _ 9 b i (i + m + (n - j) - i) _ av m vc vs Tryz.underlying22 rpsz_s (by rw [hm]; simp only [Nat.min_def]; split <;> omega)
   (fun k v hk => hvs k v hk) (fun k hk => R.some_ _ om_) (fun k hk => R.frz _) h1v
 have hcp2 : ∀ (W : World), (∀ x, W.cell? x = (w.setCells b i vs).cell? x) → (∀ x, W.frozen? x = w.frozen? x) → ∀ ty dc sc, (Builtin.copy_ #[22, 22] ty #[.slice (some ⟨b, i + m, none⟩) (n - j) dc, .slice (some ⟨b, j, none⟩) (n - j) sc]).run Tryz.prog W = .ok (goInt (cs.drop j).length) (W.setCells b (i + m) (cs.drop j)) := fun W hWc hWf ty dc sc =>
  run_copy_cells W _ _ ty 9 b (i + m) (n - j) dc ⟨b, j, none⟩ (n - j) sc (cs.drop j) Tryz.underlying22 rpsz_s (by rw [List.length_drop, hn]; simp only [Nat.min_def]; split <;> omega)
   (fun k v hk => by rw [Addr.add_lit, hWc, World.cell?_setCells_out b _ _ _ _ (fun _ _ => Or.inr (by show i + vs.length ≤ j + k; omega))]; exact R.cell (j + k) v (by rwa [List.getElem?_drop] at hk))
   (fun k hk => by rw [List.length_drop] at hk; rw [hWc]; exact isSome_setCells b _ _ _ (fun t ht => R.some_ _ om_) _ (R.some_ _ om_)) (fun k hk => by rw [hWf]; exact R.frz _) (fun v hv => h1c v (List.mem_of_mem_drop hv))
 have hcl : ∀ (W : World) (ad : Option Addr) (cc : Nat) ty, (Builtin.clear_ #[22] ty #[.slice ad 0 cc]).run Tryz.prog W = .ok (.tuple #[]) W := fun W ad cc ty => run_clear_zero W _ _ ty Tryz.underlying22 ad cc
 have HN := hi_ hn
 clear hn
 have hw1 : IntKind.i64.wrap ((i : Int) + (m : Int)) = (i : Int) + (m : Int) := by rw [IntKind.wrap_i64]; omega
 have hw2 : IntKind.i64.wrap ((i : Int) + (m : Int) + ((n - j : Nat) : Int)) = ((i + m + (n - j) : Nat) : Int) := by rw [IntKind.wrap_i64]; omega
 have hmI : (i : Int) + (m : Int) ≤ 9223372036854775807 := by omega
 have hb1 : (0 : Int) ≤ (i : Int) + (m : Int) := by omega
 have hb3 : (i : Int) + (m : Int) ≤ (i : Int) + (m : Int) + ((n - j : Nat) : Int) := by omega
 have htn : ((i : Int) + (m : Int)).toNat = i + m := by omega
 have htn2 : ((i : Int) + (m : Int) + ((n - j : Nat) : Int)).toNat = i + m + (n - j) := by omega
 have hb2 : ¬ (c = i + m) := by omega
 have hb4 : ¬ (c = j) := by omega
 have hb5 : n - (i + m + (n - j)) = 0 := by omega
 have hb6 : (0 : Int) ≤ (i : Int) + (m : Int) + ((n - j : Nat) : Int) := by omega
 have hb7 : (i : Int) + (m : Int) + ((n - j : Nat) : Int) ≤ (n : Int) := by omega
 have hb8 : (i : Int) + (m : Int) + ((n - j : Nat) : Int) ≤ (c : Int) := by omega
 have t0 : ¬ ((i : Int) = (j : Int)) := by omega
 have t1 : ¬ ((j : Int) = (n : Int)) := by omega
 have t2 : (i : Int) ≤ (j : Int) := by omega
 have t3 : (j : Int) ≤ (c : Int) := by omega
 have t4 : (j : Int) ≤ (n : Int) := by omega
 have t5 : (i : Int) ≤ (n : Int) := by omega
 go_enter Tryz.func102, Tryz.ntmps102
 go_wp2
 go_quiet (fail)
 go_wp2
 obtain ⟨W2, hW2⟩ : ∃ W2, W2 = (w.drewN nq).setCells b i vs := ⟨_, rfl⟩
 rw [← hW2]
 have E2 := hcp2 W2.drew (fun x => by show W2.cell? x = _; rw [hW2, cells_drewN_s]) (fun x => by show W2.frozen? x = _; rw [hW2, World.frozen?_setCells]; rfl)
 have HW2 := hi_ hW2
 clear hW2 hcp2 hcp1
 go_region
 go_wp2
 all_goals
  go_ret
  exact ⟨rfl, nq + 1, by rw [HW2.out, drew_setCells_s]; rfl⟩

end Go.Proofs.YtendgmblgdkiaaaGreat

namespace Go.Proofs.YtendgmblgdkiaaaGreat
open Go.RowKit
open Go.Proofs.YtendgmblgdkiaaaGreatW
open PrintWords (Kd)
set_option linter.unusedVariables false
set_option linter.unusedSimpArgs false

theorem cells_drewN_i (b : Nat) : ∀ (vs : List Value) (o : Nat) (w : World) (q : Nat) (x : Addr), ((w.drewN q).setCells b o vs).cell? x = (w.setCells b o vs).cell? x
 | [], _, _, _, _ => rfl
 | v :: r, o, w, q, x => cells_drewN_i b r (o + 1) (w.setCell ⟨b, o, none⟩ v) q x
theorem drew_setCells_i (b : Nat) : ∀ (vs : List Value) (o : Nat) (w : World), (w.setCells b o vs).drew = w.drew.setCells b o vs
 | [], _, _ => rfl
 | v :: r, o, w => drew_setCells_i b r (o + 1) (w.setCell ⟨b, o, none⟩ v)
theorem rpsz_i : (Tryz.prog.info? 3).map (·.size) = some 1 := by kernel_rfl
theorem rpinfo_i : (Tryz.prog.info? 3).map (fun i => (i.zero, i.size, i.bytes)) = some (some (Value.int .i64 0), 1, 8) := by kernel_rfl
theorem rpz_i : ∀ w, (Go.sizeOf 3).run Tryz.prog w = .ok 1 w := fun w => by kernel_rfl

set_option maxHeartbeats 4000000 in
set_option maxRecDepth 100000 in
theorem rpl_M2_i (b c i j m vc : Nat) (av : Addr) (cs vs : List Value) (w : World) (R : RowIs w b 3 c cs) (hij : i < j) (hj : j < cs.length) (hm : vs.length = m) (hroom : i + m + (cs.length - j) ≤ c) (hx : j < i + m) (hne : av.block ≠ b)
  (hvs : ∀ k v, vs[k]? = some v → w.cell? (av.add k) = some v) (h1v : ∀ v ∈ vs, v.oneCell' = true) (h1c : ∀ v ∈ cs, v.oneCell' = true) (hsh : ∃ t k, w.shape? av.block = some (t, k + 1)) :
  Calls Tryz.prog 229 #[.slice (some ⟨b, 0, none⟩) cs.length c, .int .i64 i, .int .i64 j, .slice (some av) m vc] w fun e w' =>
   e = .returned (.slice (some ⟨b, 0, none⟩) (i + m + (cs.length - j)) c) ∧ ∃ q, w' = ((w.drewN q).setCells b (i + m) (cs.drop j)).setCells b i vs := by
 obtain ⟨n, hn⟩ : ∃ n, n = cs.length := ⟨_, rfl⟩
 obtain ⟨tV, kV, hsV⟩ := hsh
 have hcap := R.cap
 rw [← hn] at hj hroom ⊢
 replace hn := hn.symm
 have hsB := R.shape
 have hov : ∀ q lb cb, (callFunc 249 #[.slice (some ⟨b, i + m, none⟩) lb cb, .slice (some av) m vc]).run Tryz.prog (w.drewN q) = .ok (.value (.bool false)) (w.drewN q) := fun q lb cb => by
  rw [run_callFunc_extern Tryz.func249 (by kernel_rfl) (by kernel_rfl) (by kernel_rfl) (e := Extern.SlicesOverlaps.overlaps #[84, 84] #[4]) (by kernel_rfl),
   Lib.run_overlaps_apart (w.drewN q) 84 4 3 Tryz.underlying84 1 rpz_i ⟨b, i + m, none⟩ av lb cb m vc (Ne.symm hne) 3 tV c (kV + 1) hsB hsV om_ (R.frz _) (R.frz _)]
  rfl
 have hcp1 : ∀ (W : World), (∀ x, W.cell? x = w.cell? x) → (∀ x, W.frozen? x = w.frozen? x) → ∀ ty dc sc, (Builtin.copy_ #[84, 84] ty #[.slice (some ⟨b, i + m, none⟩) (n - j) dc, .slice (some ⟨b, j, none⟩) (n - j) sc]).run Tryz.prog W = .ok (goInt (cs.drop j).length) (W.setCells b (i + m) (cs.drop j)) := fun W hWc hWf ty dc sc =>
  run_copy_cells W _ _ ty 3 b (i + m) (n - j) dc ⟨b, j, none⟩ (n - j) sc (cs.drop j) Tryz.underlying84 rpsz_i (by rw [List.length_drop, hn]; simp only [Nat.min_def]; split <;> omega)
   (fun k v hk => by rw [Addr.add_lit, hWc]; exact R.cell (j + k) v (by rwa [List.getElem?_drop] at hk))
   (fun k hk => by rw [List.length_drop] at hk; rw [hWc]; exact R.some_ _ om_) (fun k hk => by rw [hWf]; exact R.frz _) (fun v hv => h1c v (List.mem_of_mem_drop hv))
 have hcpq : ∀ q, (Builtin.copy_ #[84, 84] 3 #[.slice (some ⟨b, i + m, none⟩) (n - j) (c - (i + m)), .slice (some ⟨b, j, none⟩) (n - j) (c - j)]).run Tryz.prog (w.drewN q) = .ok (goInt (cs.drop j).length) ((w.drewN q).setCells b (i + m) (cs.drop j)) := fun q => hcp1 (w.drewN q) (fun _ => rfl) (fun _ => rfl) _ _ _
 have hcp2 : ∀ (W : World), (∀ x, W.cell? x = (w.setCells b (i + m) (cs.drop j)).cell? x) → (∀ x, W.frozen? x = w.frozen? x) → ∀ ty dc, (Builtin.copy_ #[84, 84] ty #[.slice (some ⟨b, i, none⟩) (i + m + (n - j) - i) dc, .slice (some av) m vc]).run Tryz.prog W = .ok (goInt vs.length) (W.setCells b i vs) := fun W hWc hWf ty dc =>
  run_copy_cells W _ _ ty 3 b i (i + m + (n - j) - i) dc av m vc vs Tryz.underlying84 rpsz_i (by rw [hm]; simp only [Nat.min_def]; split <;> omega)
   (fun k v hk => by
    rw [hWc, World.cell?_setCells_out b _ _ _ _ (fun h _ => absurd (by rw [← h]; unfold Addr.add; split <;> rfl) hne)]
    exact hvs k v hk)
   (fun k hk => by rw [hWc]; exact isSome_setCells b _ _ _ (fun t ht => by rw [List.length_drop] at ht; exact R.some_ _ om_) _ (R.some_ _ om_))
   (fun k hk => by rw [hWf]; exact R.frz _) h1v
 have hcpq2 : ∀ q, (Builtin.copy_ #[84, 84] 3 #[.slice (some ⟨b, i, none⟩) (i + m + (n - j) - i) (c - i), .slice (some av) m vc]).run Tryz.prog ((w.drewN q).setCells b (i + m) (cs.drop j)) = .ok (goInt vs.length) (((w.drewN q).setCells b (i + m) (cs.drop j)).setCells b i vs) := fun q => hcp2 ((w.drewN q).setCells b (i + m) (cs.drop j)) (fun x => by rw [cells_drewN_i]) (fun x => by rw [World.frozen?_setCells]; rfl) _ _
 clear hcp1 hcp2
 have HN := hi_ hn
 clear hn
 have hw1 : IntKind.i64.wrap ((i : Int) + (m : Int)) = (i : Int) + (m : Int) := by rw [IntKind.wrap_i64]; omega
 have hw2 : IntKind.i64.wrap ((i : Int) + (m : Int) + ((n - j : Nat) : Int)) = ((i + m + (n - j) : Nat) : Int) := by rw [IntKind.wrap_i64]; omega
 have hmI : (i : Int) + (m : Int) ≤ 9223372036854775807 := by omega
 have hb1 : (0 : Int) ≤ (i : Int) + (m : Int) := by omega
 have hb3 : (i : Int) + (m : Int) ≤ (i : Int) + (m : Int) + ((n - j : Nat) : Int) := by omega
 have htn : ((i : Int) + (m : Int)).toNat = i + m := by omega
 have hb2 : ¬ (c = i + m) := by omega
 have hb4 : ¬ (c = j) := by omega
 have t0 : ¬ ((i : Int) = (j : Int)) := by omega
 have t1 : ¬ ((j : Int) = (n : Int)) := by omega
 have t2 : (i : Int) ≤ (j : Int) := by omega
 have t3 : (j : Int) ≤ (c : Int) := by omega
 have t4 : (j : Int) ≤ (n : Int) := by omega
 have t5 : (i : Int) ≤ (n : Int) := by omega
 go_enter Tryz.func229, Tryz.ntmps229
 go_wp2
 go_quiet (fail)
 go_wp2_with (simp only [hov])
 go_region
 go_wp2
 go_ret
 exact ⟨rfl, _, rfl⟩

set_option maxHeartbeats 4000000 in
set_option maxRecDepth 100000 in
theorem rpl_M1_i (b c i j m vc : Nat) (av : Addr) (cs vs : List Value) (w : World) (R : RowIs w b 3 c cs) (hij : i < j) (hj : j < cs.length) (hm : vs.length = m) (hx : i + m < j) (hne : 0 < m → av.block ≠ b)
  (hvs : ∀ k v, vs[k]? = some v → w.cell? (av.add k) = some v) (h1v : ∀ v ∈ vs, v.oneCell' = true) (h1c : ∀ v ∈ cs, v.oneCell' = true) :
  Calls Tryz.prog 229 #[.slice (some ⟨b, 0, none⟩) cs.length c, .int .i64 i, .int .i64 j, .slice (some av) m vc] w fun e w' =>
   e = .returned (.slice (some ⟨b, 0, none⟩) (i + m + (cs.length - j)) c) ∧ ∃ q, w' = (((w.drewN q).setCells b i vs).setCells b (i + m) (cs.drop j)).setCells b (i + m + (cs.length - j)) (List.replicate (cs.length - (i + m + (cs.length - j))) (Value.int .i64 0)) := by
 obtain ⟨n, hn⟩ : ∃ n, n = cs.length := ⟨_, rfl⟩
 have hcap := R.cap
 have hlen := R.len
 rw [← hn] at hj hlen ⊢
 replace hn := hn.symm
 have hcp1 : ∀ q, (Builtin.copy_ #[84, 84] 3 #[.slice (some ⟨b, i, none⟩) (i + m + (n - j) - i) (c - i), .slice (some av) m vc]).run Tryz.prog (w.drewN q) = .ok (goInt vs.length) ((w.drewN q).setCells b i vs) := fun q =>
  run_copy_cells (w.drewN q) _ _ _ 3 b i (i + m + (n - j) - i) _ av m vc vs Tryz.underlying84 rpsz_i (by rw [hm]; simp only [Nat.min_def]; split <;> omega)
   (fun k v hk => hvs k v hk) (fun k hk => R.some_ _ om_) (fun k hk => R.frz _) h1v
 have hcp2 : ∀ (W : World), (∀ x, W.cell? x = (w.setCells b i vs).cell? x) → (∀ x, W.frozen? x = w.frozen? x) → ∀ ty dc sc, (Builtin.copy_ #[84, 84] ty #[.slice (some ⟨b, i + m, none⟩) (n - j) dc, .slice (some ⟨b, j, none⟩) (n - j) sc]).run Tryz.prog W = .ok (goInt (cs.drop j).length) (W.setCells b (i + m) (cs.drop j)) := fun W hWc hWf ty dc sc =>
  run_copy_cells W _ _ ty 3 b (i + m) (n - j) dc ⟨b, j, none⟩ (n - j) sc (cs.drop j) Tryz.underlying84 rpsz_i (by rw [List.length_drop, hn]; simp only [Nat.min_def]; split <;> omega)
   (fun k v hk => by rw [Addr.add_lit, hWc, World.cell?_setCells_out b _ _ _ _ (fun _ _ => Or.inr (by show i + vs.length ≤ j + k; omega))]; exact R.cell (j + k) v (by rwa [List.getElem?_drop] at hk))
   (fun k hk => by rw [List.length_drop] at hk; rw [hWc]; exact isSome_setCells b _ _ _ (fun t ht => R.some_ _ om_) _ (R.some_ _ om_)) (fun k hk => by rw [hWf]; exact R.frz _) (fun v hv => h1c v (List.mem_of_mem_drop hv))
 have hcl : ∀ (W : World), (∀ k, k < c → (W.cell? ⟨b, k, none⟩).isSome = true) → (∀ x, W.frozen? x = w.frozen? x) → ∀ ty, (Builtin.clear_ #[84] ty #[.slice (some ⟨b, i + m + (n - j), none⟩) (n - (i + m + (n - j))) (c - (i + m + (n - j)))]).run Tryz.prog W = .ok (.tuple #[]) (W.setCells b (i + m + (n - j)) (List.replicate (n - (i + m + (n - j))) (Value.int .i64 0))) := fun W hWc hWf ty =>
  Lib.run_clear_slice W _ _ ty _ Tryz.underlying84 Tryz.zeroValue3 rfl rfl b _ _ _ om_ (fun k hk => hWc _ om_) (fun k hk => by rw [hWf]; exact R.frz _)
 have HN := hi_ hn
 clear hn
 have hw1 : IntKind.i64.wrap ((i : Int) + (m : Int)) = (i : Int) + (m : Int) := by rw [IntKind.wrap_i64]; omega
 have hw2 : IntKind.i64.wrap ((i : Int) + (m : Int) + ((n - j : Nat) : Int)) = ((i + m + (n - j) : Nat) : Int) := by rw [IntKind.wrap_i64]; omega
 have hmI : (i : Int) + (m : Int) ≤ 9223372036854775807 := by omega
 have hb1 : (0 : Int) ≤ (i : Int) + (m : Int) := by omega
 have hb3 : (i : Int) + (m : Int) ≤ (i : Int) + (m : Int) + ((n - j : Nat) : Int) := by omega
 have htn : ((i : Int) + (m : Int)).toNat = i + m := by omega
 have htn2 : ((i : Int) + (m : Int) + ((n - j : Nat) : Int)).toNat = i + m + (n - j) := by omega
 have hb2 : ¬ (c = i + m) := by omega
 have hb4 : ¬ (c = j) := by omega
 have hb5 : ¬ (c = i + m + (n - j)) := by omega
 have hb6 : (0 : Int) ≤ (i : Int) + (m : Int) + ((n - j : Nat) : Int) := by omega
 have hb7 : (i : Int) + (m : Int) + ((n - j : Nat) : Int) ≤ (n : Int) := by omega
 have hb8 : (i : Int) + (m : Int) + ((n - j : Nat) : Int) ≤ (c : Int) := by omega
 have t0 : ¬ ((i : Int) = (j : Int)) := by omega
 have t1 : ¬ ((j : Int) = (n : Int)) := by omega
 have t2 : (i : Int) ≤ (j : Int) := by omega
 have t3 : (j : Int) ≤ (c : Int) := by omega
 have t4 : (j : Int) ≤ (n : Int) := by omega
 have t5 : (i : Int) ≤ (n : Int) := by omega
 go_enter Tryz.func229, Tryz.ntmps229
 go_wp2
 go_quiet (fail)
 go_wp2
 obtain ⟨W2, hW2⟩ : ∃ W2, W2 = (w.drewN nq).setCells b i vs := ⟨_, rfl⟩
 rw [← hW2]
 have E2 := hcp2 W2.drew (fun x => by show W2.cell? x = _; rw [hW2, cells_drewN_i]) (fun x => by show W2.frozen? x = _; rw [hW2, World.frozen?_setCells]; rfl)
 have E3 : ∀ k, k < c → (((W2.drew).setCells b (i + m) (cs.drop j)).cell? ⟨b, k, none⟩).isSome = true := fun k hk => isSome_setCells b _ _ _ (fun t ht => by
   rw [List.length_drop, HN.out] at ht
   show (W2.cell? _).isSome = true
   rw [hW2, cells_drewN_i]
   exact isSome_setCells b _ _ _ (fun t ht => R.some_ _ om_) _ (R.some_ _ om_)) _ (by
   show (W2.cell? _).isSome = true
   rw [hW2, cells_drewN_i]
   exact isSome_setCells b _ _ _ (fun t ht => R.some_ _ om_) _ (R.some_ _ hk))
 have E4 := hcl ((W2.drew).setCells b (i + m) (cs.drop j)) E3 (fun x => by rw [World.frozen?_setCells]; show W2.frozen? x = _; rw [hW2, World.frozen?_setCells]; rfl)
 have HW2 := hi_ hW2
 clear hW2 hcp2 hcl hcp1 E3
 go_region
 go_wp2
 go_ret
 exact ⟨rfl, nq + 1, by rw [HW2.out, drew_setCells_i]; rfl⟩
set_option maxHeartbeats 4000000 in
set_option maxRecDepth 100000 in
theorem rpl_M1e_i (b c i j m vc : Nat) (av : Addr) (cs vs : List Value) (w : World) (R : RowIs w b 3 c cs) (hij : i < j) (hj : j < cs.length) (hm : vs.length = m) (hx : i + m = j) (hne : 0 < m → av.block ≠ b)
  (hvs : ∀ k v, vs[k]? = some v → w.cell? (av.add k) = some v) (h1v : ∀ v ∈ vs, v.oneCell' = true) (h1c : ∀ v ∈ cs, v.oneCell' = true) :
  Calls Tryz.prog 229 #[.slice (some ⟨b, 0, none⟩) cs.length c, .int .i64 i, .int .i64 j, .slice (some av) m vc] w fun e w' =>
   e = .returned (.slice (some ⟨b, 0, none⟩) (i + m + (cs.length - j)) c) ∧ ∃ q, w' = ((w.drewN q).setCells b i vs).setCells b (i + m) (cs.drop j) := by
 have hx1 : i + m ≤ j := by omega
 have hx2 : j ≤ i + m := by omega
 clear hx
 obtain ⟨n, hn⟩ : ∃ n, n = cs.length := ⟨_, rfl⟩
 have hcap := R.cap
 have hlen := R.len
 rw [← hn] at hj hlen ⊢
 replace hn := hn.symm
 have hcp1 : ∀ q, (Builtin.copy_ #[84, 84] 3 #[.slice (some ⟨b, i, none⟩) (i + m + (n - j) - i) (c - i), .slice (some av) m vc]).run Tryz.prog (w.drewN q) = .ok (goInt vs.length) ((w.drewN q).setCells b i vs) := fun q =>
  run_copy_cells (w.drewN q) _ _ _ 3 b i (i + m + (n - j) - i) _ av m vc vs Tryz.underlying84 rpsz_i (by rw [hm]; simp only [Nat.min_def]; split <;> omega)
   (fun k v hk => hvs k v hk) (fun k hk => R.some_ _ om_) (fun k hk => R.frz _) h1v
 have hcp2 : ∀ (W : World), (∀ x, W.cell? x = (w.setCells b i vs).cell? x) → (∀ x, W.frozen? x = w.frozen? x) → ∀ ty dc sc, (Builtin.copy_ #[84, 84] ty #[.slice (some ⟨b, i + m, none⟩) (n - j) dc, .slice (some ⟨b, j, none⟩) (n - j) sc]).run Tryz.prog W = .ok (goInt (cs.drop j).length) (W.setCells b (i + m) (cs.drop j)) := fun W hWc hWf ty dc sc =>
  run_copy_cells W _ _ ty 3 b (i + m) (n - j) dc ⟨b, j, none⟩ (n - j) sc (cs.drop j) Tryz.underlying84 rpsz_i (by rw [List.length_drop, hn]; simp only [Nat.min_def]; split <;> omega)
   (fun k v hk => by rw [Addr.add_lit, hWc, World.cell?_setCells_out b _ _ _ _ (fun _ _ => Or.inr (by show i + vs.length ≤ j + k; omega))]; exact R.cell (j + k) v (by rwa [List.getElem?_drop] at hk))
   (fun k hk => by rw [List.length_drop] at hk; rw [hWc]; exact isSome_setCells b _ _ _ (fun t ht => R.some_ _ om_) _ (R.some_ _ om_)) (fun k hk => by rw [hWf]; exact R.frz _) (fun v hv => h1c v (List.mem_of_mem_drop hv))
 have hcl : ∀ (W : World) (ad : Option Addr) (cc : Nat) ty, (Builtin.clear_ #[84] ty #[.slice ad 0 cc]).run Tryz.prog W = .ok (.tuple #[]) W := fun W ad cc ty => run_clear_zero W _ _ ty Tryz.underlying84 ad cc
 have HN := hi_ hn
 clear hn
 have hw1 : IntKind.i64.wrap ((i : Int) + (m : Int)) = (i : Int) + (m : Int) := by rw [IntKind.wrap_i64]; omega
 have hw2 : IntKind.i64.wrap ((i : Int) + (m : Int) + ((n - j : Nat) : Int)) = ((i + m + (n - j) : Nat) : Int) := by rw [IntKind.wrap_i64]; omega
 have hmI : (i : Int) + (m : Int) ≤ 9223372036854775807 := by omega
 have hb1 : (0 : Int) ≤ (i : Int) + (m : Int) := by omega
 have hb3 : (i : Int) + (m : Int) ≤ (i : Int) + (m : Int) + ((n - j : Nat) : Int) := by omega
 have htn : ((i : Int) + (m : Int)).toNat = i + m := by omega
 have htn2 : ((i : Int) + (m : Int) + ((n - j : Nat) : Int)).toNat = i + m + (n - j) := by omega
 have hb2 : ¬ (c = i + m) := by omega
 have hb4 : ¬ (c = j) := by omega
 have hb5 : n - (i + m + (n - j)) = 0 := by omega
 have hb6 : (0 : Int) ≤ (i : Int) + (m : Int) + ((n - j : Nat) : Int) := by omega
 have hb7 : (i : Int) + (m : Int) + ((n - j : Nat) : Int) ≤ (n : Int) := by omega
 have hb8 : (i : Int) + (m : Int) + ((n - j : Nat) : Int) ≤ (c : Int) := by omega
 have t0 : ¬ ((i : Int) = (j : Int)) := by omega
 have t1 : ¬ ((j : Int) = (n : Int)) := by omega
 have t2 : (i : Int) ≤ (j : Int) := by omega
 have t3 : (j : Int) ≤ (c : Int) := by omega
 have t4 : (j : Int) ≤ (n : Int) := by omega
 have t5 : (i : Int) ≤ (n : Int) := by omega
 go_enter Tryz.func229, Tryz.ntmps229
 go_wp2
 go_quiet (fail)
 go_wp2
 obtain ⟨W2, hW2⟩ : ∃ W2, W2 = (w.drewN nq).setCells b i vs := ⟨_, rfl⟩
 rw [← hW2]
 have E2 := hcp2 W2.drew (fun x => by show W2.cell? x = _; rw [hW2, cells_drewN_i]) (fun x => by show W2.frozen? x = _; rw [hW2, World.frozen?_setCells]; rfl)
 have HW2 := hi_ hW2
 clear hW2 hcp2 hcp1
 go_region
 go_wp2
 all_goals
  go_ret
  exact ⟨rfl, nq + 1, by rw [HW2.out, drew_setCells_i]; rfl⟩

end Go.Proofs.YtendgmblgdkiaaaGreat
