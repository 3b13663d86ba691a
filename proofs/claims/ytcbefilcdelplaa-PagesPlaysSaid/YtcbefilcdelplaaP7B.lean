/- Pages beside what the document says of them: in memory, and plain. -/
import Derived.Test.YtcbefilcdelplaaP7A
import Derived.Test.YtcbefilcdelplaaLaw5D
namespace Go.Proofs.Ytcbefilcdelplaa
open Go.RowKit
open Go.Proofs.YtcbefilcdelplaaW
open PrintWords (Kd Reps rd rdOf)
open Pref7 (S23 k23 at_T23 rd_T23 z23)
set_option linter.unusedVariables false
set_option linter.unusedSimpArgs false

/-- A slice's three numbers. -/
structure Sx where
  a : Option Addr
  n : Nat
  c : Nat
def Sx.v (s : Sx) : Value := .slice s.a s.n s.c
theorem Sx.ofR {α : Type} {d : Kd α} {e : Nat} {w : World} {b : Nat} {ok : Nat → Prop} {s : Sx} {l : List α} (h : d.R e w b ok s.v l) : s.n = l.length ∧ s.n ≤ s.c ∧ d.C w s.a s.n l := by
  obtain ⟨A, c, hv, hc, hC⟩ := Kd.R_reads h
  simp only [Sx.v, Value.slice.injEq] at hv
  obtain ⟨h1, h2, h3⟩ := hv
  rw [h1, h2, h3]
  exact ⟨rfl, hc, hC⟩

/-- No block of these is of cells of a type. -/
def NotT (w : World) (F : Nat → Prop) (t : Nat) : Prop := ∀ i, F i → ∀ cs, w.heap[i]? ≠ some (.cells cs t (0, 0))
theorem notT_or {w : World} {F G : Nat → Prop} {t : Nat} (h : NotT w F t) (k : NotT w G t) : NotT w (fun i => F i ∨ G i) t := fun i hi => hi.elim (h i) (k i)
theorem notT_one {w : World} {b t t' : Nat} {cs : Array Value} (h : w.heap[b]? = some (.cells cs t' (0, 0))) (ht : t' ≠ t) : NotT w (fun i => i = b) t := by
  rintro i rfl cs' hx
  rw [h] at hx
  simp only [Option.some.injEq, Obj.cells.injEq] at hx
  exact ht hx.2.1
theorem DiskAt.notT {w : World} {L : Loc} {D : Dk} (h : DiskAt w L D) {t : Nat} (h1 : (101 : Nat) ≠ t) (h2 : (9 : Nat) ≠ t) : NotT w L.foot t := by
  rintro i (rfl | rfl | rfl)
  · exact notT_one h.head h1 _ rfl
  · obtain ⟨r, hr⟩ := h.rows
    exact notT_one hr h2 _ rfl
  · obtain ⟨e, c, hm, _⟩ := h.map
    intro cs hx
    rw [hm] at hx
    simp at hx
theorem heap_keepT {w w' : World} {F : Nat → Prop} {g t : Nat} {cs : Array Value} (h : w.heap[g]? = some (.cells cs t (0, 0))) (k : Keep F w w') (hF : NotT w F t) : w'.heap[g]? = some (.cells cs t (0, 0)) :=
  k.heap h (fun hf => hF g hf cs h)
theorem rows_keepT {w w' : World} {F : Nat → Prop} {v : Value} {l : List S23} (h : Kd.R k23 23 w 0 (fun _ => True) v l) (k : Keep F w w') (hF : NotT w F 23) : Kd.R k23 23 w' 0 (fun _ => True) v l :=
  Kd.R_mono (Kd.R_step (Kd.R_bound h) (fun i hi hlt => k.block i hlt (fun hf => by
    obtain ⟨_, _, _, q, hq, cs, hc⟩ := hi
    have : q = 23 := by
      have hE : k23.E = [] := rfl
      rw [hE] at hq
      simpa using hq
    subst this
    exact hF i hf cs hc))) (fun _ _ => trivial)

/-- The two halves' rows. -/
structure PgAt (w : World) (L : Loc) (bh b : Nat) (D : Dk) (H : Nat → List S23) (S : Nat → Sx) (h n : Nat) (wr : World) : Prop where
  d : DiskAt wr L D
  p : PagesAt wr b L h n
  a : wr.heap[bh]? = some (.cells #[(S 0).v, (S 1).v] 85 (0, 0))
  r : ∀ j, j ≤ 1 → Kd.R k23 23 wr 0 (fun _ => True) (S j).v (H j)
  bel : Below w.heap.size w wr
  f : ∀ i, L.foot i → w.heap.size ≤ i
  fb : w.heap.size ≤ b
  fh : w.heap.size ≤ bh

def upd {α : Type} (f : Nat → α) (j : Nat) (x : α) : Nat → α := fun i => if i = j then x else f i
theorem upd_same {α : Type} (f : Nat → α) (j : Nat) (x : α) : upd f j x j = x := by simp [upd]
theorem upd_ne {α : Type} (f : Nat → α) {i j : Nat} (x : α) (h : i ≠ j) : upd f j x i = f i := by simp [upd, h]

namespace PgAt
variable {w wr w' : World} {L : Loc} {bh b b' : Nat} {D D' : Dk} {H : Nat → List S23} {S : Nat → Sx} {h h' n n' : Nat}
theorem keep {F : Nat → Prop} (P : PgAt w L bh b D H S h n wr) (k : Keep F wr w') (hF : ∀ t, t = 85 ∨ t = 23 → NotT wr F t) (hF2 : ∀ i, F i → w.heap.size ≤ i) (d : DiskAt w' L D') (p : PagesAt w' b L h n') : PgAt w L bh b D' H S h n' w' :=
  ⟨d, p, heap_keepT P.a k (hF 85 (.inl rfl)), fun j hj => rows_keepT (P.r j hj) k (hF 23 (.inr rfl)), bel_keep P.bel k hF2, P.f, P.fb, P.fh⟩
theorem notT (P : PgAt w L bh b D H S h n wr) {t : Nat} (h1 : (101 : Nat) ≠ t) (h2 : (9 : Nat) ≠ t) (h3 : (103 : Nat) ≠ t) : NotT wr (fun k => L.foot k ∨ k = b) t :=
  notT_or (P.d.notT h1 h2) (notT_one P.p h3)
theorem below (P : PgAt w L bh b D H S h n wr) (k : Below wr.heap.size wr w') : PgAt w L bh b D H S h n w' :=
  P.keep (F := fun _ => False) (Keep.below k) (fun _ _ _ hi => hi.elim) (fun _ hi => hi.elim) (P.d.below k) (P.p.below k)
theorem drewN (P : PgAt w L bh b D H S h n wr) (m : Nat) : PgAt w L bh b D H S h n (wr.drewN m) := P.below (bel_drewN (Below.refl _ _) m)
theorem drew (P : PgAt w L bh b D H S h n wr) : PgAt w L bh b D H S h n wr.drew := P.below (bel_drew (Below.refl _ _))
theorem disk (P : PgAt w L bh b D H S h n wr) (d : DiskAt w' L D') (k : Keep L.foot wr w') : PgAt w L bh b D' H S h n w' :=
  P.keep k (fun t ht => P.d.notT (by rcases ht with rfl | rfl <;> decide) (by rcases ht with rfl | rfl <;> decide)) P.f d (P.p.keep k (P.p.foot P.d))
theorem app (P : PgAt w L bh b D H S h n wr) (d : DiskAt w' L D') (p : PagesAt w' b L h n') (k : Keep (fun k => L.foot k ∨ k = b) wr w') : PgAt w L bh b D' H S h n' w' :=
  P.keep k (fun t ht => P.notT (by rcases ht with rfl | rfl <;> decide) (by rcases ht with rfl | rfl <;> decide) (by rcases ht with rfl | rfl <;> decide))
    (fun i hi => hi.elim (P.f i) (fun he => by subst he; exact P.fb)) d p
theorem cut (P : PgAt w L bh b D H S h n wr) (p : PagesAt w' b L h n') (k : Keep (fun k => k = b) wr w') : PgAt w L bh b D H S h n' w' :=
  P.keep k (fun t ht => notT_one P.p (by rcases ht with rfl | rfl <;> decide)) (fun i hi => by subst hi; exact P.fb) (P.d.keep k (fun i hi he => P.p.foot P.d (he ▸ hi))) p
theorem turn (P : PgAt w L bh b D H S h n wr) (p : PagesAt w' b' L h' n') (k : Below wr.heap.size wr w') (hb : wr.heap.size ≤ b') : PgAt w L bh b' D H S h' n' w' :=
  let Q := P.below k
  ⟨Q.d, p, Q.a, Q.r, Q.bel, Q.f, Nat.le_trans P.bel.size hb, Q.fh⟩
theorem cell (P : PgAt w L bh b D H S h n wr) {j : Nat} (hj : j ≤ 1) : wr.cell? ⟨bh, j, none⟩ = some (.slice (S j).a (S j).n (S j).c) := by
  rw [cell_of_heap P.a j]
  obtain rfl | rfl : j = 0 ∨ j = 1 := by omega
  · rfl
  · rfl
theorem frz (P : PgAt w L bh b D H S h n wr) (j : Nat) : wr.frozen? ⟨bh, j, none⟩ = false := frozen_of_heap P.a j
theorem len (P : PgAt w L bh b D H S h n wr) {j : Nat} (hj : j ≤ 1) : (S j).n = (H j).length ∧ (S j).n ≤ (S j).c ∧ Kd.C k23 wr (S j).a (S j).n (H j) := Sx.ofR (P.r j hj)
theorem set (P : PgAt w L bh b D H S h n wr) {j : Nat} (hj : j ≤ 1) (s : Sx) (l : List S23) (hr : Kd.R k23 23 wr 0 (fun _ => True) s.v l) :
    PgAt w L bh b D (upd H j l) (upd S j s) h n (wr.setCell ⟨bh, j, none⟩ s.v) := by
  have k : Keep (fun i => i = bh) wr (wr.setCell ⟨bh, j, none⟩ s.v) := (Keep.refl (fun i => i = bh) wr).setCell (p := ⟨bh, j, none⟩) (.inl rfl) _
  have hnb : b ≠ bh := by
    rintro rfl
    have := P.a
    rw [P.p] at this
    simp at this
  have hnf : ¬ L.foot bh := by
    intro hf
    exact P.d.notT (t := 85) (by decide) (by decide) bh hf _ P.a
  have ha : (wr.setCell ⟨bh, j, none⟩ s.v).heap[bh]? = some (.cells #[(upd S j s 0).v, (upd S j s 1).v] 85 (0, 0)) := by
    rw [heap_setCell_same P.a]
    obtain rfl | rfl : j = 0 ∨ j = 1 := by omega
    · rfl
    · rfl
  refine ⟨P.d.keep k (fun i hi he => hnf (he ▸ hi)), P.p.keep k hnb, ha, fun i hi => ?_, bel_keep P.bel k (fun i hi => by subst hi; exact P.fh), P.f, P.fb, P.fh⟩
  by_cases hij : i = j
  · subst hij
    rw [upd_same, upd_same]
    exact rows_keepT hr k (notT_one P.a (by decide))
  · rw [upd_ne _ _ hij, upd_ne _ _ hij]
    exact rows_keepT (P.r i hi) k (notT_one P.a (by decide))
end PgAt

/-- What holds of the pages of both halves. -/
structure PgInv (D : Dk) (H : Nat → List S23) (m : Nat) : Prop where
  live : D.Live
  len : D.now.length = m
  m2 : 2 ≤ m
  room : ∀ j, j ≤ 1 → (H j).length ≤ D.room
  holds : ∀ j, j ≤ 1 → Holds D j (H j)

theorem Holds.same {D D' : Dk} {j : Nat} {l : List S23} (h : Holds D j l) (hn : D'.now = D.now) : Holds D' j l := by
  intro i hi
  have := h i hi
  have e : D'.sec (D'.sector j i) = D.sec (D.sector j i) := by
    have hs : D'.sector j i = D.sector j i := sector_of (by rw [hn]) j i
    rw [hs]
    simp only [Dk.sec, hn]
  rw [e]
  exact this
theorem PgInv.same {D D' : Dk} {H : Nat → List S23} {m : Nat} (h : PgInv D H m) (hl : D'.Live) (hn : D'.now = D.now) : PgInv D' H m :=
  ⟨hl, by rw [hn]; exact h.len, h.m2, fun j hj => by have hr : D'.room = D.room := room_of (by rw [hn]); rw [hr]; exact h.room j hj, fun j hj => (h.holds j hj).same hn⟩
theorem PgInv.flush {D : Dk} {H : Nat → List S23} {m : Nat} (h : PgInv D H m) : PgInv D.flush.1 H m ∧ D.flush.1.was = [] := by
  obtain ⟨e, hl, hn⟩ := flush_live h.live
  rw [e]
  exact ⟨h.same hl hn, rfl⟩
theorem PgInv.crash {D : Dk} {H : Nat → List S23} {m : Nat} (h : PgInv D H m) (hw : D.was = []) (ch : List Int) : PgInv (D.crash ch) H m := by
  refine h.same (crash_live D ch) ?_
  have : D.looseL = [] := by simp [Dk.looseL, hw]
  simp [Dk.crash, this, Dk.crashTo]
theorem PgInv.cut {D : Dk} {H : Nat → List S23} {m : Nat} (h : PgInv D H m) (j k : Nat) : PgInv D (upd H j ((H j).take k)) m := by
  refine ⟨h.live, h.len, h.m2, fun i hi => ?_, fun i hi => ?_⟩
  · by_cases e : i = j
    · subst e
      rw [upd_same, List.length_take]
      have := h.room i hi
      omega
    · rw [upd_ne _ _ e]; exact h.room i hi
  · by_cases e : i = j
    · subst e
      rw [upd_same]
      intro q hq
      rw [List.length_take] at hq
      have := h.holds i hi q (by omega)
      simpa using this
    · rw [upd_ne _ _ e]; exact h.holds i hi
theorem PgInv.other {D : Dk} {H : Nat → List S23} {m : Nat} (h : PgInv D H m) (j : Nat) : PgInv D (upd H j []) m := by
  have := h.cut j 0
  simpa using this
theorem sector_inj {D : Dk} {h h' n n' : Nat} (hh : h ≤ 1) (hh' : h' ≤ 1) (hn : n < D.room) (hn' : n' < D.room) (e : D.sector h n = D.sector h' n') : h = h' ∧ n = n' := by
  unfold Dk.sector at e
  obtain rfl | rfl : h = 0 ∨ h = 1 := by omega
  · obtain rfl | rfl : h' = 0 ∨ h' = 1 := by omega
    · simp only [Nat.zero_mul] at e; exact ⟨rfl, by omega⟩
    · simp only [Nat.zero_mul, Nat.one_mul] at e; omega
  · obtain rfl | rfl : h' = 0 ∨ h' = 1 := by omega
    · simp only [Nat.zero_mul, Nat.one_mul] at e; omega
    · simp only [Nat.one_mul] at e; exact ⟨rfl, by omega⟩

theorem PgInv.append {D : Dk} {H : Nat → List S23} {m : Nat} (h : PgInv D H m) (j : Nat) (hj : j ≤ 1) (hr : (H j).length < D.room) (kind : Int) (s : ByteArray) (h0 : 0 ≤ kind) (h1 : kind ≤ 255) (hs : s.size ≤ 240) :
    ∃ D', D.pgAppend j (H j).length kind s = (D', (H j).length + 1, ((H j).length : Int), 0) ∧ PgInv D' (upd H j (H j ++ [⟨kind, s⟩])) m := by
  have h2 : 2 ≤ D.now.length := by rw [h.len]; exact h.m2
  obtain ⟨D', he, hl, hn, _⟩ := append_live h.live h2 j (H j).length hj hr kind s h0 h1 hs
  have hlen : D'.now.length = D.now.length := by rw [hn, List.length_set]
  have hroom := room_of hlen
  refine ⟨D', he, hl, by rw [hlen]; exact h.len, h.m2, fun i hi => ?_, fun i hi => ?_⟩
  · rw [hroom]
    by_cases e : i = j
    · subst e
      rw [upd_same, List.length_append, List.length_singleton]
      omega
    · rw [upd_ne _ _ e]; exact h.room i hi
  · have hold : ∀ i, i ≤ 1 → ∀ q (hq : q < (H i).length), D'.sec (D'.sector i q) = sectorOf (H i)[q].f0 (H i)[q].f1 := by
      intro i hi q hq
      have := (h.holds i hi q hq).2.2.2
      rw [sector_of hlen, sec_set_ne hn, this]
      intro e
      have hri := h.room i hi
      obtain ⟨rfl, rfl⟩ := sector_inj hi hj (by omega) hr e
      omega
    by_cases e : i = j
    · subst e
      rw [upd_same]
      intro q hq
      rw [List.length_append, List.length_singleton] at hq
      by_cases hq' : q < (H i).length
      · have := h.holds i hi q hq'
        rw [List.getElem_append_left hq']
        exact ⟨this.1, this.2.1, this.2.2.1, hold i hi q hq'⟩
      · obtain rfl : q = (H i).length := by omega
        rw [List.getElem_append_right (by omega)]
        simp only [Nat.sub_self, List.getElem_cons_zero]
        refine ⟨h0, h1, hs, ?_⟩
        rw [sector_of hlen]
        exact sec_set hn (sector_lt h2 hi hr)
    · rw [upd_ne _ _ e]
      intro q hq
      have := h.holds i hi q hq
      exact ⟨this.1, this.2.1, this.2.2.1, hold i hi q hq⟩
theorem append_no {D : Dk} {j n : Nat} {kind : Int} {s : ByteArray} (h : kind < 0 ∨ 255 < kind ∨ 240 < s.size) : D.pgAppend j n kind s = (D, n, -1, 1) := by
  unfold Dk.pgAppend; rw [if_pos h]
theorem append_full {D : Dk} {j n : Nat} {kind : Int} {s : ByteArray} (h : ¬ (kind < 0 ∨ 255 < kind ∨ 240 < s.size)) (hr : D.room = n) : D.pgAppend j n kind s = (D, n, -1, 5) := by
  unfold Dk.pgAppend; rw [if_neg h, if_pos hr]
theorem ref7_Append_sx (A : Option Addr) (c : Nat) (l : List S23) (room : Int) (kind : Int) (s : ByteArray) (w : World) (h0 : 0 ≤ kind) (h1 : kind ≤ 255) (h2 : s.size ≤ 240) (hf : (l.length : Int) < room) (hr : room ≤ 100000) (hC : Kd.C k23 w A l.length l) (hc : l.length ≤ c) :
    Calls Try.prog 46 #[.slice A l.length c, .int .i64 room, .agg #[.int .i64 kind, .string s]] w fun e w' => ∃ t : Sx, e = .returned (.tuple #[.slice t.a t.n t.c, .int .i64 (l.length : Int), .int .i64 0]) ∧ Kd.R k23 23 w' 0 (fun _ => True) t.v (l ++ [⟨kind, s⟩]) ∧ Below w.heap.size w w' :=
  (ref7_Append_ok A c l room kind s w h0 h1 h2 hf hr hC hc).mono fun e w' ⟨v, he, hR, hb⟩ => by
    obtain ⟨A', c', rfl⟩ := Kd.R_slice hR
    exact ⟨⟨A', _, c'⟩, he, Kd.R_lower hR (Nat.zero_le _), hb⟩

end Go.Proofs.Ytcbefilcdelplaa
