/- The reference's disk in memory, and its calls beside the disk's. -/
import Derived.Test.YtcbefilcdelplaaR5FS
import Derived.Test.YtcbefilcdelplaaActs
namespace Go.Proofs.Ytcbefilcdelplaa
open Go.RowKit
open Go.Proofs.YtcbefilcdelplaaW
open PrintWords (Kd Reps rd rdOf)
set_option linter.unusedVariables false
set_option linter.unusedSimpArgs false

theorem New_l0 (m : Nat) (hm : m ≤ 100000) (z : ByteArray) : ∀ (d j k : Nat), m - j = d → j ≤ m → d < k →
    Pref5.dowserref05_New.l0 k (m : Int) z (j : Int) (List.replicate j z) (List.replicate j z) 0 (-1) false = some (List.replicate m z, List.replicate m z, [], 0, -1, false)
  | 0, j, k, hd, hj, hk => by
    obtain ⟨k, rfl⟩ : ∃ k', k = k' + 1 := ⟨k - 1, by omega⟩
    obtain rfl : j = m := by omega
    rw [Pref5.dowserref05_New.l0, if_neg (by omega)]
  | d + 1, j, k, hd, hj, hk => by
    obtain ⟨k, rfl⟩ : ∃ k', k = k' + 1 := ⟨k - 1, by omega⟩
    rw [Pref5.dowserref05_New.l0, if_pos (by omega), if_pos (by rw [List.length_replicate]; omega), if_pos (by rw [List.length_replicate]; omega), IntWalk.wrap64_in _ (by omega), ← Int.natCast_succ]
    have := New_l0 m hm z d (j + 1) k (by omega) (by omega) (by omega)
    rwa [List.replicate_succ'] at this

theorem New_f (m : Nat) (hm : m ≤ 100000) : Pref5.dowserref05_New.f (m + 1) (m : Int) = some (List.replicate m (zeros 256), List.replicate m (zeros 256), [], 0, -1, false) := by
  unfold Pref5.dowserref05_New.f Pref5.dowserref05_Fill.f
  rw [if_pos (by decide), Option.bind_some]
  have e : fillTo (⟨#[]⟩ : ByteArray) 256 = zeros 256 := by
    rfl
  rw [e]
  exact New_l0 m hm (zeros 256) m 0 (m + 1) (by omega) (by omega) (by omega)

theorem agree_new (m : Nat) (h2 : 2 ≤ m) (h6 : m ≤ 65536) : Agree (Dk.make (m : Int)) ⟨List.replicate m (zeros 256), List.replicate m (zeros 256), [], 0, -1, false⟩ := by
  have e : (Dk.make (m : Int)).now = List.replicate m (zeros 256) := by
    have : (min (max (m : Int) 2) 65536).toNat = m := by omega
    simp only [Dk.make, this]
  have ew : (Dk.make (m : Int)).was = [] := rfl
  refine ⟨e.symm, by rw [e], fun i hi => ?_, ?_, rfl, rfl, rfl⟩
  · simp [Dk.base, ew, Dk.sec, e, rdOf_nat]
  · simp [Dk.looseL, ew]

/-- The rows of a reference's disk, apart from some blocks. -/
structure XRows (w : World) (P : Nat → Prop) (X : Xd) (s0 s1 s2 : Sl) : Prop where
  r0 : Kd.R Kd.string 9 w 0 P s0.v X.now
  r1 : Kd.R Kd.string 9 w 0 P s1.v X.sure
  r2 : Kd.R (Kd.int .i64) 3 w 0 P s2.v X.loose

theorem R_new0 {α : Type} {d : Kd α} {e : Nat} {w' : World} {n : Nat} {ok P : Nat → Prop} {v : Value} {l : List α} (h : d.R e w' n ok v l) (hP : ∀ k, n ≤ k → P k) : d.R e w' 0 P v l :=
  Kd.R_lower (Kd.R_mono (Kd.R_bound h) (fun k hk => hP k hk.2.1)) (Nat.zero_le _)

theorem Sl.ofR {α : Type} {d : Kd α} {e : Nat} {w : World} {b : Nat} {ok : Nat → Prop} {s : Sl} {l : List α} (h : d.R e w b ok s.v l) : s.n = l.length ∧ s.n ≤ s.c ∧ d.C w s.a s.n l := by
  obtain ⟨A, c, hv, hc, hC⟩ := Kd.R_reads h
  simp only [Sl.v, Value.slice.injEq] at hv
  obtain ⟨h1, h2, h3⟩ := hv
  rw [h1, h2, h3]
  exact ⟨rfl, hc, hC⟩

namespace XRows
variable {w w' : World} {P : Nat → Prop} {X : Xd} {s0 s1 s2 : Sl}
theorem move (h : XRows w P X s0 s1 s2) (hm : ∀ k, P k → k < w.heap.size → w'.heap[k]? = w.heap[k]?) : XRows w' P X s0 s1 s2 :=
  ⟨Kd.R_step h.r0 hm, Kd.R_step h.r1 hm, Kd.R_step h.r2 hm⟩
theorem below (h : XRows w P X s0 s1 s2) (hb : Below w.heap.size w w') : XRows w' P X s0 s1 s2 := h.move fun k _ hk => hb.block k hk
theorem keep {F : Nat → Prop} (h : XRows w P X s0 s1 s2) (k : Keep F w w') (hF : ∀ i, P i → ¬ F i) : XRows w' P X s0 s1 s2 := h.move fun i hi hk => k.block i hk (hF i hi)
theorem head (h : XRows w P X s0 s1 s2) (wr hl : Int) (dn : Bool) : XRows w P { X with wr := wr, hl := hl, dn := dn } s0 s1 s2 := ⟨h.r0, h.r1, h.r2⟩
end XRows

/-- What a call of the reference gives: a disk that agrees, whose rows are apart. -/
def RefGives (w : World) (P : Nat → Prop) (D' : Dk) (n : Int) (e : Ending) (w' : World) : Prop :=
  ∃ (X' : Xd) (t0 t1 t2 : Sl), e = .returned (.tuple #[.agg #[.slice t0.a t0.n t0.c, .slice t1.a t1.n t1.c, .slice t2.a t2.n t2.c, .int .i64 X'.wr, .int .i64 X'.hl, .bool X'.dn], .int .i64 n]) ∧ XRows w' P X' t0 t1 t2 ∧ Agree D' X' ∧ Below w.heap.size w w'

theorem ref5_Flush_at (w : World) (P : Nat → Prop) (X : Xd) (D : Dk) (s0 s1 s2 : Sl) (hr : XRows w P X s0 s1 s2) (ha : Agree D X) (hok : D.Ok) (hP : ∀ k, w.heap.size ≤ k → P k) :
    Calls Try.prog 40 #[.agg #[.slice s0.a s0.n s0.c, .slice s1.a s1.n s1.c, .slice s2.a s2.n s2.c, .int .i64 X.wr, .int .i64 X.hl, .bool X.dn]] w (RefGives w P D.flush.1 D.flush.2) := by
  cases hd : D.down with
  | true =>
    have e : D.flush = (D, 6) := by simp [Dk.flush, hd]
    rw [e, ha.dn, hd]
    refine (ref5_Flush_down s0 s1 s2 X.wr X.hl w).mono ?_
    rintro e w' ⟨rfl, hb⟩
    have hx : X.dn = true := ha.dn.trans hd
    exact ⟨X, s0, s1, s2, by rw [hx]; rfl, hr.below hb, ha, hb⟩
  | false =>
    by_cases h0 : D.halt = 0
    · have e : D.flush = ({ D with down := true }, 6) := by simp [Dk.flush, hd, turn_halted h0]
      rw [e, ha.dn, hd, ha.hl.trans h0]
      refine (ref5_Flush_halted s0 s1 s2 X.wr w).mono ?_
      rintro e w' ⟨rfl, hb⟩
      have hx : X.hl = 0 := ha.hl.trans h0
      exact ⟨{ X with dn := true }, s0, s1, s2, by rw [show ({ X with dn := true } : Xd).hl = 0 from hx]; rfl, (hr.below hb).head _ _ _, ha.down, hb⟩
    · obtain ⟨wr, hl, ht, hx⟩ := turn_goes hok h0 hd
      have e : D.flush = ({ D with writes := wr, halt := hl, down := false, was := [] }, 0) := by simp [Dk.flush, hd, ht]
      rw [e, ha.dn, hd, ha.wr, ha.hl]
      obtain ⟨n0, c0, C0⟩ := Sl.ofR hr.r0
      have hlen : X.now.length = D.now.length := by rw [ha.now]
      have hmost := hok.most
      refine (ref5_Flush_ok s0 s1 s2 D.writes D.halt X.now w (hok.haltle) C0 (by omega) wr hl hx).mono ?_
      rintro e w' ⟨s1', rfl, hn1, hR, hb⟩
      refine ⟨⟨X.now, X.now, [], wr, hl, false⟩, s0, s1', Sl.none, rfl, ⟨(hr.below hb).r0, R_new0 (v := s1'.v) hR hP, Kd.R_nil _ _ _ _ _⟩, ha.flushed wr hl, hb⟩

theorem ref5_Write_at (w : World) (P : Nat → Prop) (X : Xd) (D : Dk) (s0 s1 s2 : Sl) (i : Int) (s : ByteArray) (hr : XRows w P X s0 s1 s2) (ha : Agree D X) (hok : D.Ok) (hP : ∀ k, w.heap.size ≤ k → P k) :
    Calls Try.prog 44 #[.agg #[.slice s0.a s0.n s0.c, .slice s1.a s1.n s1.c, .slice s2.a s2.n s2.c, .int .i64 X.wr, .int .i64 X.hl, .bool X.dn], .int .i64 i, .string s] w (RefGives w P (D.write i s).1 (D.write i s).2) := by
  obtain ⟨n0, c0, C0⟩ := Sl.ofR hr.r0
  obtain ⟨n2, c2, C2⟩ := Sl.ofR hr.r2
  have hlen : X.now.length = D.now.length := by rw [ha.now]
  have hmost := hok.most
  cases hd : D.down with
  | true =>
    have e : D.write i s = (D, 6) := by simp [Dk.write, hd]
    rw [e, ha.dn, hd]
    refine (ref5_Write_down s0 s1 s2 X.wr X.hl i s w).mono ?_
    rintro e w' ⟨rfl, hb⟩
    have hx : X.dn = true := ha.dn.trans hd
    exact ⟨X, s0, s1, s2, by rw [hx]; rfl, hr.below hb, ha, hb⟩
  | false =>
    have hx0 : X.dn = false := ha.dn.trans hd
    by_cases hr0 : i < 0 ∨ (D.now.length : Int) ≤ i
    · have hi : D.is i = false := by simp [Dk.is]; omega
      have e : D.write i s = (D, 7) := by simp [Dk.write, hd, hi]
      rw [e, ha.dn, hd]
      refine (ref5_Write_range s0 s1 s2 X.wr X.hl i s w (by omega)).mono ?_
      rintro e w' ⟨rfl, hb⟩
      exact ⟨X, s0, s1, s2, by rw [hx0]; rfl, hr.below hb, ha, hb⟩
    · have hi : D.is i = true := by simp [Dk.is]; omega
      by_cases hs : 256 < s.size
      · have e : D.write i s = (D, 1) := by simp [Dk.write, hd, hi, hs]
        rw [e, ha.dn, hd]
        refine (ref5_Write_long s0 s1 s2 X.wr X.hl i s w (by omega) (by omega) hs).mono ?_
        rintro e w' ⟨rfl, hb⟩
        exact ⟨X, s0, s1, s2, by rw [hx0]; rfl, hr.below hb, ha, hb⟩
      · by_cases h0 : D.halt = 0
        · have e : D.write i s = ({ D with down := true }, 6) := by simp [Dk.write, hd, hi, hs, turn_halted h0]
          rw [e, ha.dn, hd, ha.hl.trans h0]
          refine (ref5_Write_halted s0 s1 s2 X.wr i s w (by omega) (by omega) (by omega)).mono ?_
          rintro e w' ⟨rfl, hb⟩
          have hx : X.hl = 0 := ha.hl.trans h0
          exact ⟨{ X with dn := true }, s0, s1, s2, by rw [show ({ X with dn := true } : Xd).hl = 0 from hx]; rfl, (hr.below hb).head _ _ _, ha.down, hb⟩
        · obtain ⟨wr, hl, ht, hx⟩ := turn_goes hok h0 hd
          have e : D.write i s = (Dk.put { D with writes := wr, halt := hl, down := false } i.toNat s, 0) := by simp [Dk.write, hd, hi, hs, ht]
          rw [e, ha.dn, hd, ha.wr, ha.hl]
          have hll : X.loose.length ≤ 65536 := by
            rw [ha.loose, List.length_map]
            have h1 := (looseL_perm D).length_eq
            rw [List.length_map] at h1
            have h2 := was_len hok
            omega
          obtain ⟨j, rfl⟩ := Int.eq_ofNat_of_zero_le (show 0 ≤ i by omega)
          refine (ref5_Write_ok s0 s1 s2 D.writes D.halt j s X.now X.loose w hok.haltle C0 (by omega) (by omega) (by omega) (by omega) C2 c2 (X.loose.length + 1) (goW (j : Int) X.loose false []) (with_f _ _ (by omega) _ (by omega)) wr hl hx).mono ?_
          rintro e w' ⟨t0, t2, rfl, hn0, hn2, hR0, hR2, hb⟩
          have hj : j < D.now.length := by omega
          refine ⟨⟨X.now.set j (fillTo s 256), X.sure, goW (j : Int) X.loose false [], wr, hl, false⟩, t0, s1, t2, rfl, ⟨R_new0 hR0 hP, (hr.below hb).r1, R_new0 hR2 hP⟩, ?_, hb⟩
          rw [Int.toNat_natCast]
          exact ha.put hok j hj s wr hl

/-- A row of choices as the printed text reads it. -/
theorem ints_C {w : World} {v : Value} {l : List Int} (h : IntsAt w v l) (hc : sliceOk v) : ∃ A c, v = .slice A l.length c ∧ l.length ≤ c ∧ Kd.C (Kd.int .i64) w A l.length l := by
  rcases h with ⟨rfl, a, c, rfl⟩ | ⟨b, off, c, rfl, hcell⟩
  · exact ⟨a, c, rfl, Nat.zero_le _, rfl, by simp, fun h => absurd h (Nat.lt_irrefl 0)⟩
  · obtain ⟨h1, h2⟩ := hc _ _ _ rfl
    refine ⟨_, c, rfl, h1, rfl, h2, fun _ => ⟨_, rfl, fun j p hj => ⟨[.int .i64 p], rfl, rfl, fun i u hi => ?_⟩⟩⟩
    obtain ⟨hl, hp⟩ := List.getElem?_eq_some_iff.1 hj
    have hi0 : i = 0 ∧ u = .int .i64 p := by
      cases i with
      | zero => simpa using hi.symm
      | succ i => simp at hi
    obtain ⟨rfl, rfl⟩ := hi0
    have h3 := hcell j hl
    have : l.getD j 0 = p := by rw [List.getD_eq_getElem?_getD, hj]; rfl
    rw [this] at h3
    have e : (⟨b, off, none⟩ : Addr).add (j * Kd.sz (Kd.int .i64) + 0) = ⟨b, off + j, none⟩ := by
      show (⟨b, off, none⟩ : Addr).add (j * 1 + 0) = _
      unfold Addr.add
      simp
    rw [e]
    exact h3

theorem fewV_ok {v : Value} (h : sliceOk v) : sliceOk (fewV v) := by
  intro a n c hv
  unfold fewV at hv
  split at hv
  · simp only [Value.slice.injEq] at hv
    obtain ⟨rfl, rfl, rfl⟩ := hv
    obtain ⟨h1, h2⟩ := h _ _ _ rfl
    split <;> omega
  · exact h _ _ _ hv

theorem ref5_Crash_at (w : World) (P : Nat → Prop) (X : Xd) (D : Dk) (s0 s1 s2 : Sl) (v : Value) (ch : List Int) (hr : XRows w P X s0 s1 s2) (ha : Agree D X) (hok : D.Ok) (hP : ∀ k, w.heap.size ≤ k → P k) (hv : IntsAt w v ch) (hvo : sliceOk v) :
    Calls Try.prog 41 #[.agg #[.slice s0.a s0.n s0.c, .slice s1.a s1.n s1.c, .slice s2.a s2.n s2.c, .int .i64 X.wr, .int .i64 X.hl, .bool X.dn], v] w fun e w' =>
      ∃ (X' : Xd) (t0 t1 t2 : Sl), e = .returned (.agg #[.slice t0.a t0.n t0.c, .slice t1.a t1.n t1.c, .slice t2.a t2.n t2.c, .int .i64 X'.wr, .int .i64 X'.hl, .bool X'.dn]) ∧ XRows w' P X' t0 t1 t2 ∧ Agree (D.crash ch) X' ∧ Below w.heap.size w w' := by
  obtain ⟨n0, c0, C0⟩ := Sl.ofR hr.r0
  obtain ⟨n1, c1, C1⟩ := Sl.ofR hr.r1
  obtain ⟨n2, c2, C2⟩ := Sl.ofR hr.r2
  obtain ⟨A, c, rfl, hc, hC⟩ := ints_C hv hvo
  obtain ⟨k, hk⟩ := ha.crash_f hok ch
  rw [n0] at C0 c0 ⊢
  rw [n1] at C1 c1 ⊢
  rw [n2] at C2 c2 ⊢
  refine (Pref5.dowserref05_Crash.calls k s0.a s0.c X.now s1.a s1.c X.sure s2.a s2.c X.loose X.wr X.hl X.dn A c ch _ _ _ _ _ _ w C0 c0 C1 c1 C2 c2 hC hc hk).mono ?_
  rintro e w' ⟨v0, v1, v2, rfl, hR0, hR1, hR2, hb⟩
  obtain ⟨A0, k0, rfl⟩ := Kd.R_slice hR0
  obtain ⟨A1, k1, rfl⟩ := Kd.R_slice hR1
  obtain ⟨A2, k2, rfl⟩ := Kd.R_slice hR2
  exact ⟨⟨(D.crash ch).now, (D.crash ch).now, [], X.wr, -1, false⟩, ⟨A0, _, k0⟩, ⟨A1, _, k1⟩, ⟨A2, _, k2⟩, rfl, ⟨R_new0 hR0 hP, R_new0 hR1 hP, R_new0 hR2 hP⟩, ha.crashed ch, hb⟩

theorem ref5_New_at (w : World) (P : Nat → Prop) (m : Nat) (h2 : 2 ≤ m) (h6 : m ≤ 65536) (hP : ∀ k, w.heap.size ≤ k → P k) :
    Calls Try.prog 39 #[.int .i64 (m : Int)] w fun e w' =>
      ∃ (X' : Xd) (t0 t1 t2 : Sl), e = .returned (.agg #[.slice t0.a t0.n t0.c, .slice t1.a t1.n t1.c, .slice t2.a t2.n t2.c, .int .i64 X'.wr, .int .i64 X'.hl, .bool X'.dn]) ∧ XRows w' P X' t0 t1 t2 ∧ Agree (Dk.make (m : Int)) X' ∧ Below w.heap.size w w' := by
  refine (Pref5.dowserref05_New.calls (m + 1) (m : Int) _ _ _ _ _ _ w (New_f m (by omega))).mono ?_
  rintro e w' ⟨v0, v1, v2, rfl, hR0, hR1, hR2, hb⟩
  obtain ⟨A0, k0, rfl⟩ := Kd.R_slice hR0
  obtain ⟨A1, k1, rfl⟩ := Kd.R_slice hR1
  obtain ⟨A2, k2, rfl⟩ := Kd.R_slice hR2
  exact ⟨⟨List.replicate m (zeros 256), List.replicate m (zeros 256), [], 0, -1, false⟩, ⟨A0, _, k0⟩, ⟨A1, _, k1⟩, ⟨A2, _, k2⟩, rfl, ⟨R_new0 hR0 hP, R_new0 hR1 hP, R_new0 hR2 hP⟩, agree_new m h2 h6, hb⟩

theorem law5_is_at (w : World) (P : Nat → Prop) (L : Loc) (X : Xd) (D : Dk) (s0 s1 s2 : Sl) (i : Int) (h : DiskAt w L D) (hr : XRows w P X s0 s1 s2) (ha : Agree D X) :
    Calls Try.prog 43 #[.pointer (some ⟨L.a, 0, none⟩), .agg #[.slice s0.a s0.n s0.c, .slice s1.a s1.n s1.c, .slice s2.a s2.n s2.c, .int .i64 X.wr, .int .i64 X.hl, .bool X.dn], .int .i64 i] w fun e w' => e = .returned (.bool true) ∧ Below w.heap.size w w' := by
  obtain ⟨n0, c0, C0⟩ := Sl.ofR hr.r0
  obtain ⟨n2, c2, C2⟩ := Sl.ofR hr.r2
  have e0 : s0.n = D.now.length := by rw [n0, ha.now]
  have e2 : s2.n = D.looseL.length := by rw [n2, ha.loose, List.length_map]
  rw [e0, ha.now] at C0
  rw [e2, ha.loose] at C2
  rw [e0, e2, ha.wr, ha.dn]
  exact law5_is w L D i s0.a s1.a s2.a s0.c s1.n s1.c s2.c X.hl h C0 C2
end Go.Proofs.Ytcbefilcdelplaa
