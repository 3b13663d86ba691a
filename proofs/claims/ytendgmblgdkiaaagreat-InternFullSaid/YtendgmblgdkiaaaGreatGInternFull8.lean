/- The disk's map of loose sectors: what a look-up, a store and a clear do. -/
import Derived.Test.YtendgmblgdkiaaaGreatGInternFull0
import Derived.Test.YtendgmblgdkiaaaGreatGInternFull6
import Derived.ChangeMaps4
namespace Go.Proofs.YtendgmblgdkiaaaGreat
open Go.RowKit
open Go.ChangeMaps (setBlock)
set_option linter.unusedVariables false
set_option linter.unusedSimpArgs false

def Dk.old (D : Dk) (i : Nat) : ByteArray := (D.was.lookup i).getD ByteArray.empty
def Dk.loose (D : Dk) (i : Nat) : Bool := decide (i ∈ D.was.map (·.1))

theorem findNow_was (i : Nat) : ∀ (l : List (Nat × ByteArray)) (es : List MapEntry) (j : Nat), es.map (fun e => (e.key, e.val)) = l.map (fun p => (Value.int .i64 p.1, Value.string p.2)) →
  ∃ r, Instr.findNow (.int .i64) (.int .i64 (i : Int)) es j = some r ∧ r.map (·.2) = (l.lookup i).map Value.string
 | [], es, j, h => by
  have : es = [] := by simpa using h
  subst this
  exact ⟨none, rfl, rfl⟩
 | (k, s) :: l, [], j, h => by simp at h
 | (k, s) :: l, e :: es, j, h => by
  simp only [List.map_cons, List.cons.injEq, Prod.mk.injEq] at h
  obtain ⟨⟨h1, h2⟩, h3⟩ := h
  unfold Instr.findNow
  rw [h1]
  simp only [Instr.sameNow, if_true]
  by_cases hk : i = k
  ·subst hk
   exact ⟨some (j, e.val), by simp, by simp [h2, List.lookup]⟩
  ·have hb : ((i : Int) == (k : Int)) = false := by simp; omega
   have hb2 : (i == k) = false := by simp [hk]
   obtain ⟨r, hr, hr2⟩ := findNow_was i l es (j + 1) h3
   exact ⟨r, by rw [hb]; simpa using hr, by rw [hr2]; simp [List.lookup, hb2]⟩

section
variable {w : World} {L : Loc} {D : Dk}

theorem lookup_isSome (l : List (Nat × ByteArray)) (i : Nat) : (l.lookup i).isSome = decide (i ∈ l.map (·.1)) := by
 induction l with
 | nil => rfl
 | cons p l ih =>
  obtain ⟨k, s⟩ := p
  simp only [List.lookup, List.map_cons, List.mem_cons]
  by_cases hk : i = k
  ·subst hk; simp
  ·have : (i == k) = false := by simp [hk]
   rw [this]
   simp [ih, hk]

theorem zeroS (w : World) : (zeroValue 9).run Tryz.prog w = .ok (.string ByteArray.empty) w := by kernel_rfl

/-- 'x, ok := d.was[i]'. -/
theorem look_was_ok (h : DiskAt w L D) (i : Nat) : (Instr.lookup 189 (.map (some L.m)) (.int .i64 (i : Int)) true).run Tryz.prog w = .ok (.tuple #[.string (D.old i), .bool (D.loose i)]) w := by
 obtain ⟨es, clock, hb, hs, hm⟩ := h.map
 obtain ⟨r, hr, hr2⟩ := findNow_was i D.was es.toList 0 hm
 have hu := Tryz.underlying189
 have hi := Tryz.underlying3
 cases r with
 | none =>
  have hn : D.was.lookup i = none := by simpa using hr2.symm
  have e1 : D.old i = ByteArray.empty := by simp [Dk.old, hn]
  have e2 : D.loose i = false := by have := lookup_isSome D.was i; rw [hn] at this; simpa [Dk.loose] using this.symm
  simp [Instr.lookup, run_underlying hu, run_underlying hi, MapKept.run_getObj_map hb, MapKept.run_checkKey hi (k := .int .i64 (i : Int)) rfl, MapKept.run_findKey hi hr, zeroS, Result.andThen, e1, e2]
  rfl
 | some p =>
  obtain ⟨j, v⟩ := p
  obtain ⟨s, hs1, hs2⟩ : ∃ s, D.was.lookup i = some s ∧ Value.string s = v := by
   cases hl : D.was.lookup i with
   | none => rw [hl] at hr2; simp at hr2
   | some s => rw [hl] at hr2; exact ⟨s, rfl, by simpa using hr2.symm⟩
  have e1 : D.old i = s := by simp [Dk.old, hs1]
  have e2 : D.loose i = true := by have := lookup_isSome D.was i; rw [hs1] at this; simpa [Dk.loose] using this.symm
  simp [Instr.lookup, run_underlying hu, run_underlying hi, MapKept.run_getObj_map hb, MapKept.run_checkKey hi (k := .int .i64 (i : Int)) rfl, MapKept.run_findKey hi hr, Result.andThen, e1, e2, ← hs2]

theorem setBlock_other (w : World) (b k : Nat) (o : Obj) (h : k ≠ b) : (setBlock w b o).heap[k]? = w.heap[k]? := by
 simp [setBlock, Array.getElem?_setIfInBounds, Ne.symm h]
theorem setBlock_self {w : World} {b : Nat} {o' : Obj} (hb : w.heap[b]? = some o') (o : Obj) : (setBlock w b o).heap[b]? = some o := by
 have := lt_of_heap hb
 simp [setBlock, Array.getElem?_setIfInBounds, this]
theorem Keep.setBlock {F : Nat → Prop} {w w' : World} (h : Keep F w w') {b : Nat} (hp : F b ∨ w.heap.size ≤ b) (o : Obj) : Keep F w (Go.ChangeMaps.setBlock w' b o) :=
 h.andThen (G := fun k => k = b) ⟨rfl, rfl, rfl, by simp [Go.ChangeMaps.setBlock], fun k _ hk => setBlock_other _ _ _ _ hk⟩
  (fun i hi x => by subst x; rcases hp with hp | hp; exact hp; omega)

/-- Another map in its place. -/
theorem DiskAt.setMap (h : DiskAt w L D) {es : Array MapEntry} {clock : Nat} {l : List (Nat × ByteArray)} (hs : MapKept.Stamped es clock) (hm : MapIs es l) (hok : Dk.Ok { D with was := l }) :
  DiskAt (setBlock w L.m (.map es clock)) L { D with was := l } := by
 obtain ⟨es0, c0, hb, _, _⟩ := h.map
 refine ⟨?_, ?_, ⟨es, clock, setBlock_self hb _, hs, hm⟩, h.an, h.am, h.nm, hok⟩
 ·rw [setBlock_other _ _ _ _ h.am]; exact h.head
 ·obtain ⟨r, hr⟩ := h.rows
  exact ⟨r, by rw [setBlock_other _ _ _ _ h.nm]; exact hr⟩

theorem sec_size (h : D.Ok) {i : Nat} (hi : i < D.now.length) : (D.sec i).size = 256 := by
 have : D.sec i = D.now[i] := by simp [Dk.sec, hi]
 rw [this]; exact h.now _ (List.getElem_mem hi)

theorem Dk.Ok.loosen (h : D.Ok) {i : Nat} (hi : i < D.now.length) (hl : i ∉ D.was.map (·.1)) : Dk.Ok { D with was := D.was ++ [(i, D.sec i)] } := by
 refine ⟨h.least, h.most, h.now, ?_, ?_, ?_, h.halt, h.haltle⟩
 ·simp only [List.map_append, List.map_cons, List.map_nil]
  exact List.nodup_append.2 ⟨h.nodup, by simp, fun a ha b hb => by simp at hb; subst hb; exact fun e => hl (e ▸ ha)⟩
 ·intro p hp
  rcases List.mem_append.1 hp with hp | hp
  ·exact h.keys p hp
  ·simp at hp; subst hp; exact hi
 ·intro p hp
  rcases List.mem_append.1 hp with hp | hp
  ·exact h.was p hp
  ·simp at hp; subst hp; exact sec_size h hi

/-- 'd.was[i] = d.now[i]', i not there. -/
theorem update_was (h : DiskAt w L D) (i : Nat) (hi : i < D.now.length) (hl : i ∉ D.was.map (·.1)) :
  ∃ o, (Instr.mapUpdate 189 (.map (some L.m)) (.int .i64 (i : Int)) (.string (D.sec i))).run Tryz.prog w = .ok () (setBlock w L.m o) ∧ DiskAt (setBlock w L.m o) L { D with was := D.was ++ [(i, D.sec i)] } := by
 obtain ⟨es, clock, hb, hs, hm⟩ := h.map
 obtain ⟨r, hr, hr2⟩ := findNow_was i D.was es.toList 0 hm
 have hu := Tryz.underlying189
 have hti := Tryz.underlying3
 have hn : D.was.lookup i = none := by
  have := lookup_isSome D.was i
  rw [decide_eq_false hl] at this
  cases hx : D.was.lookup i with
  | none => rfl
  | some s => rw [hx] at this; simp at this
 have hr0 : r = none := by rw [hn] at hr2; simpa using hr2
 subst hr0
 have hk : ∀ x ∈ es.toList, x.key ≠ Value.int .i64 (i : Int) := by
  intro x hx e
  have : (x.key, x.val) ∈ es.toList.map (fun e => (e.key, e.val)) := List.mem_map.2 ⟨x, hx, rfl⟩
  rw [hm] at this
  obtain ⟨p, hp, he⟩ := List.mem_map.1 this
  rw [e] at he
  simp only [Prod.mk.injEq, Value.int.injEq, true_and] at he
  exact hl (List.mem_map.2 ⟨p, hp, by omega⟩)
 refine ⟨.map (es.push ⟨.int .i64 (i : Int), .string (D.sec i), clock⟩) (clock + 1), ?_, ?_⟩
 ·simp [Instr.mapUpdate, run_underlying hu, MapKept.run_getObj_map hb, MapKept.run_checkKey hti (k := .int .i64 (i : Int)) rfl, MapKept.run_findKey hti hr, MapKept.run_setObj_map _ hb, Result.andThen, setBlock]
 ·refine h.setMap (MapKept.stamped_push hs hk) ?_ (h.ok.loosen hi hl)
  unfold MapIs at hm ⊢
  simp [hm]

/-- 'clear(d.was)'. -/
theorem clear_was (h : DiskAt w L D) :
  ∃ o, (∀ ty, (Builtin.clear_ #[189] ty #[.map (some L.m)]).run Tryz.prog w = .ok (.tuple #[]) (setBlock w L.m o)) ∧ DiskAt (setBlock w L.m o) L { D with was := [] } := by
 obtain ⟨es, clock, hb, hs, hm⟩ := h.map
 have hu := Tryz.underlying189
 refine ⟨.map #[] clock, ?_, ?_⟩
 ·intro ty
  simp [Builtin.clear_, run_underlying hu, MapKept.run_getObj_map hb, MapKept.run_setObj_map _ hb, Result.andThen, setBlock]
 ·exact h.setMap (MapKept.stamped_empty clock) rfl ⟨h.ok.least, h.ok.most, h.ok.now, by simp, by simp, by simp, h.ok.halt, h.ok.haltle⟩
end
end Go.Proofs.YtendgmblgdkiaaaGreat
