/- The disk's Loose, walked: the loose sectors, rising. -/
import Derived.Test.YtcbefilcdelplaaDiskB
import Derived.Test.YtcbefilcdelplaaShelfD
import Derived.Maps.StringElems
namespace Go.Proofs.Ytcbefilcdelplaa
open Go.RowKit Go.Maps Go.Sort Go.Shelf
open Go.WideElems (Fit rg)
set_option linter.unusedVariables false
set_option linter.unusedSimpArgs false

/-- The loose sectors, rising. -/
def Dk.looseL (D : Dk) : List Nat := (D.was.map (·.1)).mergeSort (fun x y => decide (x ≤ y))

theorem looseL_perm (D : Dk) : D.looseL.Perm (D.was.map (·.1)) := List.mergeSort_perm _ _
theorem looseL_mem (D : Dk) (i : Nat) : i ∈ D.looseL ↔ i ∈ D.was.map (·.1) := (looseL_perm D).mem_iff
theorem looseL_nodup {D : Dk} (h : D.Ok) : D.looseL.Nodup := (looseL_perm D).nodup_iff.2 h.nodup
theorem looseL_sorted (D : Dk) : D.looseL.Pairwise (fun x y => x ≤ y) := by
  have := List.pairwise_mergeSort (le := fun x y : Nat => decide (x ≤ y)) (fun a b c => by simp; omega) (fun a b => by simp; omega) (D.was.map (·.1))
  simpa [Dk.looseL] using this

theorem length_le_of_nodup (n : Nat) : ∀ (l : List Nat), l.Nodup → (∀ x ∈ l, x < n) → l.length ≤ n := by
  induction n with
  | zero =>
    intro l _ hl
    cases l with
    | nil => simp
    | cons a l => exact absurd (hl a (by simp)) (by omega)
  | succ n ih =>
    intro l hn hl
    have h := ih (l.erase n) (hn.erase n) (fun x hx => by
      have h1 := hl x (List.mem_of_mem_erase hx)
      have h2 : x ≠ n := by
        rintro rfl
        exact absurd hx (hn.not_mem_erase)
      omega)
    rw [List.length_erase] at h
    split at h <;> omega

theorem was_len {D : Dk} (h : D.Ok) : D.was.length ≤ D.now.length := by
  have := length_le_of_nodup D.now.length (D.was.map (·.1)) h.nodup (by intro x hx; obtain ⟨p, hp, rfl⟩ := List.mem_map.1 hx; exact h.keys p hp)
  simpa using this

/-- The disk's map in the kit's own word. -/
theorem owns_was {w : World} {L : Loc} {D : Dk} (h : DiskAt w L D) {H : Type} :
    ∃ D0 : DataW H, w.ownsMap Try.prog 3 (plainElem Try.prog 9) L.m D.was.length D0 ∧ (intKeys D0).Perm (D.was.map fun p => (p.1 : Int)) ∧ Maps.size D0 = D.was.length := by
  obtain ⟨es, clock, hb, hs, hm⟩ := h.map
  have hl : es.toList.length = D.was.length := by have := congrArg List.length hm; simpa [MapIs] using this
  have hsz : es.size = D.was.length := by simpa using hl
  have hread : ∀ x ∈ es.toList, ∃ p ∈ D.was, x.key = .int .i64 (p.1 : Int) ∧ x.val = .string p.2 := by
    intro x hx
    have : (x.key, x.val) ∈ es.toList.map (fun e => (e.key, e.val)) := List.mem_map.2 ⟨x, hx, rfl⟩
    rw [hm] at this
    obtain ⟨p, hp, he⟩ := List.mem_map.1 this
    simp only [Prod.mk.injEq] at he
    exact ⟨p, hp, he.1.symm, he.2.symm⟩
  have hrd : ∀ x ∈ es.toList, ∀ p ∈ D.was, x.key = .int .i64 (p.1 : Int) → x.val = .string p.2 → WideElems.rd (H := H) Try.prog 3 (plainElem Try.prog 9) x = some (.int .i64 (p.1 : Int), .lit (.string p.2.data.toList)) := by
    intro x hx p hp h1 h2
    have hk := h.ok.keys p hp
    have hmo := h.ok.most
    have hw : (Lit.int .i64 (p.1 : Int)).wf = true := WalkArith.wf_i64 (by omega)
    have hv := h.ok.was p hp
    unfold WideElems.rd
    rw [h1, h2, keyOf_int_mk Try.underlying3 hw, plainElem_string Try.underlying9 (by unfold maxLen; omega)]
    rfl
  have hfit : Fit (H := H) Try.prog 3 (plainElem Try.prog 9) es clock := by
    refine ⟨by have := was_len h.ok; have := h.ok.most; unfold maxLen; omega, hs, ?_⟩
    intro x hx
    obtain ⟨p, hp, h1, h2⟩ := hread x hx
    exact ⟨_, hrd x hx p hp h1 h2⟩
  refine ⟨_, ⟨es, clock, hb, hfit, by omega, rfl⟩, ?_, ?_⟩
  · show (((es.toList.map (rg Try.prog 3 (plainElem Try.prog 9))).foldr DataW.insert []).map fun p => _root_.Go.intOf p.1).Perm _
    refine ((WideShapes.sorted_perm _).map _).trans ?_
    rw [List.map_map]
    have e : es.toList.map ((fun p : Lit × DataW H => _root_.Go.intOf p.1) ∘ rg Try.prog 3 (plainElem Try.prog 9)) = D.was.map fun p => (p.1 : Int) := by
      have h2 : es.toList.map (fun e => e.key) = D.was.map fun p => Value.int .i64 (p.1 : Int) := by
        have := congrArg (List.map Prod.fst) hm
        rw [List.map_map, List.map_map] at this
        exact this
      have h3 : es.toList.map ((fun p : Lit × DataW H => _root_.Go.intOf p.1) ∘ rg Try.prog 3 (plainElem Try.prog 9)) = (es.toList.map (fun e => e.key)).map (fun v => RowKit.intOf v) := by
        rw [List.map_map]
        apply List.map_congr_left
        intro x hx
        obtain ⟨p, hp, h1, h2⟩ := hread x hx
        have e1 := congrArg Prod.fst (WideElems.rg_of (hrd x hx p hp h1 h2))
        simp only [Function.comp_apply, e1, h1, _root_.Go.intOf, RowKit.intOf]
      rw [h3, h2, List.map_map]
      rfl
    rw [e]
  · rw [size_eq, length_sorted]; simpa using hsz

theorem sorts (m : Nat) : AnyZI.SortsIn Try.prog Try.sortedA_ren Fence.wide m :=
  ⟨fun blk off cap ss W hH hblk hsz => callsIn_wide.2 (AnyM.slices_Sort_int Try.sortA blk off cap ss W hH hblk hsz),
   fun p cap W => callsIn_wide.2 (AnyM.slices_Sort_int_none Try.sortA p cap W)⟩

/-- Two rising lists of the same numbers are one. -/
theorem sorted_unique : ∀ {l m : List Int}, l.Pairwise (fun x y => x ≤ y) → m.Pairwise (fun x y => x ≤ y) → l.Perm m → l = m
  | [], m, _, _, h => h.symm.eq_nil.symm ▸ rfl
  | a :: l, [], _, _, h => absurd h.eq_nil (by simp)
  | a :: l, b :: m, hl, hm, h => by
    have h1 : a ∈ b :: m := h.mem_iff.1 (by simp)
    have h2 : b ∈ a :: l := h.mem_iff.2 (by simp)
    have hab : a = b := by
      rcases List.mem_cons.1 h1 with e | e
      · exact e
      · rcases List.mem_cons.1 h2 with e2 | e2
        · exact e2.symm
        · have q1 := (List.pairwise_cons.1 hm).1 a e
          have q2 := (List.pairwise_cons.1 hl).1 b e2
          omega
    subst hab
    rw [sorted_unique (List.pairwise_cons.1 hl).2 (List.pairwise_cons.1 hm).2 ((List.perm_cons a).1 h)]

theorem sort_loose {D : Dk} {ss : List Int} (h : ss.Perm (D.was.map fun p => (p.1 : Int))) : ss.mergeSort (fun x y => decide (x ≤ y)) = D.looseL.map fun i : Nat => (i : Int) := by
  refine sorted_unique ?_ ?_ ?_
  · have := List.pairwise_mergeSort (le := fun x y : Int => decide (x ≤ y)) (fun a b c => by simp; omega) (fun a b => by simp; omega) ss
    simpa using this
  · refine List.pairwise_map.2 ((looseL_sorted D).imp ?_)
    intro a b hab
    omega
  · refine (List.mergeSort_perm _ _).trans (h.trans ?_)
    have := (looseL_perm D).symm.map (fun i : Nat => (i : Int))
    rw [List.map_map] at this
    exact this

set_option maxHeartbeats 2000000 in
set_option maxRecDepth 100000 in
theorem disk_Loose (w : World) (L : Loc) (D : Dk) (h : DiskAt w L D) :
    Calls Try.prog 38 #[.pointer (some ⟨L.a, 0, none⟩)] w fun e w' => ∃ v : Value, e = .returned v ∧
      w'.ownsRow w.heap.size 3 1 v D.looseL.length (D.looseL.map fun i : Nat => Value.int .i64 (i : Int)) ∧ Below w.heap.size w w' := by
  obtain ⟨D0, hown, hperm, hsize⟩ := owns_was h (H := Unit)
  have hwl := was_len h.ok
  have hmo := h.ok.most
  have hc1 := h.cell1
  refine (callsIn_wide (n := 6)).1 ?_
  have hbl := hown.lt
  have hseq : SeqGives Fence.wide 2 Try.prog 85 #[.pointer (some ⟨w.heap.size, 0, none⟩)] encZ (fun ss => ss.Perm (intKeys D0)) (Maps.size D0) (w.alloc (.cells #[.map (some L.m)] 99)) :=
    AnyZI.keys_gives (ρ := Try.keysA_ren) { Try.keysA with } Fence.wide _ trivial rfl (by omega) w.heap.size L.m D.was.length D0 _ (by simp) (by simp) (by
      obtain ⟨es, clock, hb, Ft, hs, hD⟩ := hown
      exact ⟨es, clock, (Below.heap_alloc _ _ L.m hbl).trans hb, Ft, hs, hD⟩)
  have cK : ∀ mb W, CallsIn Fence.wide 5 Try.prog 65 #[.map mb] W fun e w' => e = .returned (.func (.func 85) #[] #[.pointer (some ⟨W.heap.size, 0, none⟩)]) ∧ w' = W.alloc (.cells #[.map mb] 99) := fun mb W => AnyZI.keys_in Try.keysA Fence.wide 5 trivial rfl mb W
  have cS := AnyZI.sorted_in Try.sortedA Fence.wide 5 trivial trivial trivial trivial rfl (by omega) (sorts _) (enters_of Try.func84 (by kernel_rfl) rfl) 85 #[.pointer (some ⟨w.heap.size, 0, none⟩)] trivial (enters_of Try.func85 (by kernel_rfl) rfl) _ _ (by unfold maxLen; omega) (by omega) _ hseq
  change CallsIn _ _ Try.prog 64 _ _ _ at cS
  have hfK : Fence.wide.fn 65 := trivial
  have hfS : Fence.wide.fn 64 := trivial
  have HP := Lib.hid hperm
  clear hperm hsize hwl hmo hown hbl h hseq
  refine callsIn_of_wp Try.func38 rfl trivial ?_ rfl
  simp only [Try.ntmps38, List.size_toArray, List.length_cons, List.length_nil, Nat.reduceAdd, Nat.reduceSub, Array.replicate_succ, Array.replicate_zero, List.push_toArray, List.append_toArray, List.nil_append, List.cons_append]
  gi_wp2_with (first
    | (gi_at_call 65; refine (cK _ _).mono ?_; rintro e w' ⟨rfl, rfl⟩)
    | (gi_at_call 64; refine cS.mono ?_; rintro e w' ⟨v, ss, rfl, hS, hrow, hnil, hb⟩))
  go_ret
  have hrow2 := ownsRow_base_a hrow (by simp : w.heap.size ≤ _)
  rw [sort_loose (hS.trans HP.out)] at hrow2
  have hlen : ss.length = D.looseL.length := by
    have := (hS.trans HP.out).length_eq
    rw [this, (looseL_perm D).length_eq]
    simp
  rw [hlen, List.map_map] at hrow2
  exact ⟨v, rfl, hrow2, ((Below.refl _ w).alloc (Nat.le_refl _) _).trans (hb.mono (by simp))⟩

end Go.Proofs.Ytcbefilcdelplaa
