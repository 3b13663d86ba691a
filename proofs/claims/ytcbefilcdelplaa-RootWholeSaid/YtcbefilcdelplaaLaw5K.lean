/- DiskKeeps: the plain part. -/
import Derived.Test.YtcbefilcdelplaaLaw5D
import Derived.SliceStrings
import Derived.Deep.Grids
namespace Go.Proofs.Ytcbefilcdelplaa
open Go.RowKit Go.ChangeShapes Go.WideShapes
set_option linter.unusedVariables false
set_option linter.unusedSimpArgs false

/-- A row among the arguments, by an index function. -/
def RowIs (w : World) (v : Value) (n : Nat) (f : Nat → Value) : Prop :=
  ∃ a c, v = .slice a n c ∧ n ≤ 9223372036854775807 ∧ ∀ i, i < n → ∃ b off, a = some ⟨b, off, none⟩ ∧ w.cell? ⟨b, off + i, none⟩ = some (f i)

theorem spot_of {w : World} {b off : Nat} {spot : Option Nat} {v : Value} (h : w.cell? (Addr.add ⟨b, off, spot⟩ 0) = some v) : spot = none := by
  simpa [Addr.add] using World.cell?_spot h

section
variable {H : Type} {enc : TypeId × Value → H} {w : World}

theorem open_texts {fuel : Nat} {v : Value} {x : DataW H × List MemPlace} (h : DataW.trod enc Try.prog w 0 (fun _ => true) true fuel 57 [v] = some x) : ∃ n, ∃ f : Nat → ByteArray, RowIs w v n (fun i => .string (f i)) := by
  rcases open_strings Try.underlying57 Try.underlying9 (by kernel_rfl) h with ⟨hcs, hx⟩ | ⟨a, len, cap, ss, hcs, _, hl, hm, hz, hx, hcell, hwf⟩
  · obtain rfl : v = .slice none 0 0 := by simpa using hcs
    exact ⟨0, fun _ => ByteArray.empty, none, 0, rfl, by omega, fun i hi => by omega⟩
  · obtain rfl : v = .slice (some a) len cap := by simpa using hcs
    have hm' : cap ≤ 9223372036854775807 := by have : maxLen = 9223372036854775807 := by rfl
                                               omega
    simp only [if_true] at hz
    refine ⟨len, fun i => ss.getD i ByteArray.empty, some a, cap, rfl, by omega, fun i hi => ?_⟩
    obtain ⟨b, off, spot⟩ := a
    obtain rfl : spot = none := spot_of (hcell 0 (by omega))
    exact ⟨b, off, rfl, by have := hcell i (by omega); rwa [add_plain] at this⟩

theorem open_flags {fuel : Nat} {v : Value} {x : DataW H × List MemPlace} (h : DataW.trod enc Try.prog w 0 (fun _ => true) true fuel 58 [v] = some x) : ∃ n, ∃ f : Nat → Bool, RowIs w v n (fun i => .bool (f i)) := by
  rcases Deep.open_bools Try.underlying58 Try.underlying4 (by kernel_rfl) h with ⟨hcs, hx⟩ | ⟨a, len, cap, B, hcs, _, hl, hm, hx, hcell⟩
  · obtain rfl : v = .slice none 0 0 := by simpa using hcs
    exact ⟨0, fun _ => false, none, 0, rfl, by omega, fun i hi => by omega⟩
  · obtain rfl : v = .slice (some a) len cap := by simpa using hcs
    have hm' : cap ≤ 9223372036854775807 := by have : maxLen = 9223372036854775807 := by rfl
                                               omega
    refine ⟨len, B, some a, cap, rfl, by omega, fun i hi => ?_⟩
    obtain ⟨b, off, spot⟩ := a
    obtain rfl : spot = none := spot_of (hcell 0 (by omega))
    exact ⟨b, off, rfl, by have := hcell i (by omega); rwa [add_plain] at this⟩
end

/-- A row of texts of the law's own. -/
structure RowAt (w : World) (b : Nat) (l : List ByteArray) : Prop where
  len : l.length = 5
  heap : ∃ t, w.heap[b]? = some (.cells (strs l).toArray t (0, 0))
namespace RowAt
variable {w w' : World} {b : Nat} {l : List ByteArray}
theorem lt (h : RowAt w b l) : b < w.heap.size := by obtain ⟨t, h⟩ := h.heap; exact lt_of_heap h
theorem same (h : RowAt w b l) (k : w'.heap[b]? = w.heap[b]?) : RowAt w' b l := ⟨h.len, by obtain ⟨t, h⟩ := h.heap; exact ⟨t, k.trans h⟩⟩
theorem below (h : RowAt w b l) (k : Below w.heap.size w w') : RowAt w' b l := h.same (k.block _ h.lt)
theorem keep {F : Nat → Prop} (h : RowAt w b l) (k : Keep F w w') (hf : ¬ F b) : RowAt w' b l := h.same (k.block _ h.lt hf)
theorem drew (h : RowAt w b l) : RowAt w.drew b l := h.same rfl
theorem drewN (h : RowAt w b l) (n : Nat) : RowAt (w.drewN n) b l := h.same rfl
theorem cell (h : RowAt w b l) {i : Nat} (hi : i < 5) : w.cell? ⟨b, i, none⟩ = some (.string (l.getD i ByteArray.empty)) := by
  obtain ⟨t, hh⟩ := h.heap
  have := h.len
  rw [cell_of_heap hh]
  simp [strs, List.getD_eq_getElem?_getD, List.getElem?_eq_getElem (show i < l.length by omega)]
theorem frz (h : RowAt w b l) (i : Nat) : w.frozen? ⟨b, i, none⟩ = false := by obtain ⟨t, h⟩ := h.heap; exact frozen_of_heap h i
theorem set (h : RowAt w b l) (i : Nat) (s : ByteArray) : RowAt (w.setCell ⟨b, i, none⟩ (.string s)) b (l.set i s) := by
  obtain ⟨t, hh⟩ := h.heap
  refine ⟨by simp [h.len], t, ?_⟩
  rw [heap_setCell_same hh]
  simp [strs, List.map_set]
theorem other (h : RowAt w b l) {c i : Nat} (hc : b ≠ c) (v : Value) : RowAt (w.setCell ⟨c, i, none⟩ v) b l := by
  refine h.same ?_
  rw [Below.heap_setCell _ _ _ _ hc]
end RowAt

theorem fills {Z : ByteArray} (k : Nat) (hk : k < 5) : (List.replicate k Z ++ List.replicate (5 - k) ByteArray.empty).set k Z = List.replicate (k + 1) Z ++ List.replicate (5 - (k + 1)) ByteArray.empty := by
  obtain rfl | rfl | rfl | rfl | rfl : k = 0 ∨ k = 1 ∨ k = 2 ∨ k = 3 ∨ k = 4 := by omega
  all_goals rfl

/-- What was flushed is there; of what wasn't, what was there. -/
structure KeepsInv (D : Dk) (sure last : List ByteArray) : Prop where
  live : D.Live
  ok : D.Ok
  now : D.now = last
  len : last.length = 5
  slen : sure.length = 5
  sz : ∀ i, i < 5 → (sure.getD i ByteArray.empty).size = 256
  old : ∀ i, i < 5 → sure.getD i ByteArray.empty = if D.loose i then D.old i else last.getD i ByteArray.empty

theorem loose_iff (D : Dk) (i : Nat) : D.loose i = decide (i ∈ D.was.map (·.1)) := by simp [Dk.loose]

theorem getD_set {α : Type} (l : List α) (i j : Nat) (x d : α) (hj : j < l.length) : (l.set i x).getD j d = if i = j then x else l.getD j d := by
  simp only [List.getD_eq_getElem?_getD, List.getElem?_set]
  by_cases h : i = j
  · subst h; simp [hj]
  · simp [h]

theorem KeepsInv.write {D : Dk} {sure last : List ByteArray} (H : KeepsInv D sure last) (k : Nat) (hk : k < 5) (s : ByteArray) (hs : s.size ≤ 256) (hok : ∀ D', D.write k s = (D', 0) → D'.Ok) :
    ∃ D', D.write k s = (D', 0) ∧ KeepsInv D' sure (last.set k (fillTo s 256)) := by
  obtain ⟨h1, h2, h3, _⟩ := write_live H.live k (by rw [H.now, H.len]; exact hk) s hs
  refine ⟨_, h1, h2, hok _ h1, ?_, by simp [H.len], H.slen, H.sz, ?_⟩
  · rw [h3, H.now]; rfl
  · intro i hi
    have ho := H.old i hi
    have ht := turn_live H.live
    have hw : (D.turn.1.put k s).was = if k ∈ D.was.map (·.1) then D.was else D.was ++ [(k, D.sec k)] := by
      rw [ht]
      simp only [Dk.put, Dk.loosen]
      split <;> simp [Dk.sec]
    rw [ho]
    by_cases hin : k ∈ D.was.map (·.1)
    · rw [if_pos hin] at hw
      have e1 : (D.turn.1.put k s).loose i = D.loose i := by simp only [Dk.loose, hw]
      have e2 : (D.turn.1.put k s).old i = D.old i := by simp only [Dk.old, hw]
      rw [e1, e2]
      by_cases hl : D.loose i = true
      · rw [if_pos hl, if_pos hl]
      · rw [if_neg hl, if_neg hl, getD_set _ _ _ _ _ (by rw [H.len]; exact hi)]
        have : k ≠ i := by
          rintro rfl
          rw [loose_iff] at hl
          simp [hin] at hl
        rw [if_neg this]
    · rw [if_neg hin] at hw
      by_cases hki : k = i
      · subst hki
        have e0 : D.loose k = false := by rw [loose_iff]; simpa using hin
        have e1 : (D.turn.1.put k s).loose k = true := by rw [loose_iff, hw]; simp
        have e2 : (D.turn.1.put k s).old k = D.sec k := by
          have hn : D.was.lookup k = none := by
            have := lookup_isSome D.was k
            rw [decide_eq_false hin] at this
            simpa using this
          simp only [Dk.old, hw, List.lookup_append, hn]
          simp [List.lookup]
        rw [e0, e1, e2, if_pos rfl, Dk.sec, H.now]
        simp
      · have e1 : (D.turn.1.put k s).loose i = D.loose i := by
          rw [loose_iff, loose_iff, hw]
          simp only [List.map_append, List.mem_append]
          congr 1
          simp
          intro h; exact absurd h.symm hki
        have e2 : (D.turn.1.put k s).old i = D.old i := by
          have hb : (i == k) = false := by simp; omega
          simp only [Dk.old, hw, List.lookup_append]
          simp [List.lookup, hb]
        rw [e1, e2, getD_set _ _ _ _ _ (by rw [H.len]; exact hi), if_neg hki]

theorem KeepsInv.flush {D : Dk} {sure last : List ByteArray} (H : KeepsInv D sure last) (hok : ∀ D', D.flush = (D', 0) → D'.Ok) :
    ∃ D', D.flush = (D', 0) ∧ KeepsInv D' last last := by
  obtain ⟨h1, h2, h3⟩ := flush_live H.live
  refine ⟨_, h1, h2, hok _ h1, h3.trans H.now, H.len, H.len, ?_, ?_⟩
  · intro i hi
    have hl := H.len
    rw [List.getD_eq_getElem?_getD, List.getElem?_eq_getElem (by omega), Option.getD_some]
    exact H.ok.now _ (by rw [H.now]; exact List.getElem_mem _)
  · intro i hi
    rfl

theorem crashTo_sec {D : Dk} (hD : D.Ok) (ch : List Int) : ∀ k, k ≤ D.looseL.length → ∀ i, (i ∈ D.looseL.take k → ∃ n, n ≤ 256 ∧ (D.crashTo ch k).sec i = joinAt (D.sec i) (D.old i) n) ∧ (i ∉ D.looseL.take k → (D.crashTo ch k).sec i = D.sec i)
  | 0, _, i => ⟨fun h => by simp at h, fun _ => rfl⟩
  | k + 1, hk, i => by
    obtain ⟨ih1, ih2⟩ := crashTo_sec hD ch k (by omega) i
    have hlt : k < D.looseL.length := by omega
    have hg : D.looseL.getD k 0 = D.looseL[k] := by rw [List.getD_eq_getElem?_getD, List.getElem?_eq_getElem hlt]; rfl
    have hnk : D.looseL[k] ∉ D.looseL.take k := by
      have hnd := looseL_nodup hD
      intro hm
      obtain ⟨j, hj, he⟩ := List.mem_take_iff_getElem.1 hm
      have := (List.getElem_inj hnd).1 he
      omega
    have hlen : D.looseL[k] < (D.crashTo ch k).now.length := by
      rw [crashTo_len]
      have : D.looseL[k] ∈ D.was.map (·.1) := (looseL_mem D _).1 (List.getElem_mem _)
      obtain ⟨p, hp, he⟩ := List.mem_map.1 this
      rw [← he]
      exact hD.keys p hp
    have hs : ∀ x, ({ D.crashTo ch k with now := (D.crashTo ch k).now.set D.looseL[k] x } : Dk).sec i = if D.looseL[k] = i then x else (D.crashTo ch k).sec i := by
      intro x
      simp only [Dk.sec, List.getD_eq_getElem?_getD, List.getElem?_set]
      by_cases h : D.looseL[k] = i
      · simp [h, h ▸ hlen]
      · simp [h]
    have ho : (D.crashTo ch k).old D.looseL[k] = D.old D.looseL[k] := by simp only [Dk.old, crashTo_was]
    have ht : D.looseL.take (k + 1) = D.looseL.take k ++ [D.looseL[k]] := by rw [List.take_add_one, List.getElem?_eq_getElem hlt]; rfl
    rw [Dk.crashTo, hg]
    by_cases h : D.looseL[k] = i
    · subst h
      obtain ⟨_, ih2⟩ := crashTo_sec hD ch k (by omega) D.looseL[k]
      refine ⟨fun _ => ⟨keepN ch k, keepN_le _ _, ?_⟩, fun hn => absurd (by rw [ht]; exact List.mem_append_right _ (List.mem_singleton.2 rfl)) hn⟩
      rw [hs, if_pos rfl, ih2 hnk]
    · rw [hs, if_neg h, ht]
      refine ⟨fun hm => ?_, fun hm => ?_⟩
      · rcases List.mem_append.1 hm with hm | hm
        · exact ih1 hm
        · simp at hm; exact absurd hm.symm h
      · exact ih2 fun h' => hm (List.mem_append_left _ h')

theorem KeepsInv.crash {D : Dk} {sure last : List ByteArray} (H : KeepsInv D sure last) (ch : List Int) (i : Nat) (hi : i < 5) :
    ∃ n, n ≤ 256 ∧ (D.crash ch).sec i = joinAt (last.getD i ByteArray.empty) (sure.getD i ByteArray.empty) n := by
  obtain ⟨h1, h2⟩ := crashTo_sec H.ok ch D.looseL.length (Nat.le_refl _) i
  have hc : (D.crash ch).sec i = (D.crashTo ch D.looseL.length).sec i := rfl
  rw [List.take_length] at h1 h2
  rw [hc]
  have hsec : D.sec i = last.getD i ByteArray.empty := by rw [Dk.sec, H.now]
  by_cases hl : D.loose i = true
  · have hm : i ∈ D.looseL := by rw [looseL_mem]; rw [loose_iff] at hl; simpa using hl
    obtain ⟨n, hn, h⟩ := h1 hm
    refine ⟨n, hn, ?_⟩
    have := H.old i hi
    rw [if_pos hl] at this
    rw [h, this, hsec]
  · have hm : i ∉ D.looseL := by rw [looseL_mem]; rw [loose_iff] at hl; simpa using hl
    refine ⟨0, by omega, ?_⟩
    have := H.old i hi
    rw [if_neg hl] at this
    rw [h2 hm, hsec, this, joinAt]
    apply ba_ext
    rw [app_data, extract_list, extract_list]
    rw [List.drop_zero, List.take_zero, List.nil_append, List.drop_zero, List.take_of_length_le (Nat.le_of_eq (size_len _))]

/-- What is behind where they part is the sure one's. -/
theorem tail_sure {a b : ByteArray} {n k : Nat} (ha : a.size = 256) (hb : b.size = 256) (hn : n ≤ 256) (hk : n ≤ k) (hk2 : k ≤ 256) : (joinAt a b n).extract k 256 = b.extract k 256 := by
  have e1 : a.data.toList.length = 256 := ha
  have e2 : b.data.toList.length = 256 := hb
  apply ba_ext
  rw [extract_list, extract_list, joinAt, app_data, extract_list, extract_list, hb]
  rw [List.take_of_length_le (l := b.data.toList) (by omega), List.drop_zero]
  rw [List.take_of_length_le (by simp; omega), List.drop_append, List.drop_drop]
  have : (a.data.toList.take n).length = n := by rw [List.length_take]; omega
  rw [this, List.drop_of_length_le (by omega)]
  simp
  congr 1
  omega

theorem head_last {a b : ByteArray} {n j : Nat} (ha : a.size = 256) (hn : n ≤ 256) (hj : j < n) : (joinAt a b n).get! j = a.get! j := by
  have e1 : a.data.toList.length = 256 := ha
  rw [getB, getB, joinAt, app_data, extract_list, extract_list, getD_app_l _ _ _ _ (by simp; omega)]
  simp [List.getD_eq_getElem?_getD, List.getElem?_take, hj]
end Go.Proofs.Ytcbefilcdelplaa
