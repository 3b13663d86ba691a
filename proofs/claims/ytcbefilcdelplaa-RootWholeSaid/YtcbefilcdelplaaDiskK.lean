/- The disk's Crash, walked. -/
import Derived.Test.YtcbefilcdelplaaDiskL
import Derived.BigRegion
import Derived.Laws.DeepStrings4
namespace Go.Proofs.Ytcbefilcdelplaa
open Go.RowKit
open Go.ChangeMaps (setBlock)
set_option linter.unusedVariables false
set_option linter.unusedSimpArgs false
attribute [local go_sem ↓] max_mx min_mn

/-- A slice value that reads as these numbers. -/
def IntsAt (w : World) (v : Value) (l : List Int) : Prop :=
  (l = [] ∧ ∃ a c, v = .slice a 0 c) ∨ ∃ b off c, v = .slice (some ⟨b, off, none⟩) l.length c ∧ ∀ i, i < l.length → w.cell? ⟨b, off + i, none⟩ = some (.int .i64 (l.getD i 0))

theorem IntsAt.keep {w w' : World} {v : Value} {l : List Int} (h : IntsAt w v l) {F : Nat → Prop} (k : Keep F w w') (hf : ∀ b, F b → ∀ off c n, v = .slice (some ⟨b, off, none⟩) n c → l = []) : IntsAt w' v l := by
  rcases h with h | ⟨b, off, c, hv, hc⟩
  · exact .inl h
  · refine .inr ⟨b, off, c, hv, fun i hi => ?_⟩
    have hb := World.block_lt_of_cell? w _ (hc i hi)
    rw [k.cell hb (fun hF => by rw [hf b hF off c l.length hv] at hi; simp at hi)]
    exact hc i hi

/-- How many bytes stay of the k-th loose sector. -/
def keepN (choice : List Int) (k : Nat) : Nat := if k < choice.length then (min (choice.getD k 0 % 512) 256).toNat else 0
theorem keepN_le (choice : List Int) (k : Nat) : keepN choice k ≤ 256 := by unfold keepN; split <;> omega
def joinAt (s t : ByteArray) (n : Nat) : ByteArray := s.extract 0 n ++ t.extract n t.size
theorem joinAt_size {s t : ByteArray} {n : Nat} (hs : s.size = 256) (ht : t.size = 256) (hn : n ≤ 256) : (joinAt s t n).size = 256 := by
  rw [joinAt, ByteArray.size_append, ByteArray.size_extract, ByteArray.size_extract]; omega

/-- Behind k rounds of a crash. -/
def Dk.crashTo (D : Dk) (choice : List Int) : Nat → Dk
  | 0 => D
  | k + 1 =>
    let E := D.crashTo choice k
    let i := D.looseL.getD k 0
    { E with now := E.now.set i (joinAt (E.sec i) (D.old i) (keepN choice k)) }
def Dk.crash (D : Dk) (choice : List Int) : Dk := { D.crashTo choice D.looseL.length with was := [], halt := -1, down := false }

theorem crashTo_was (D : Dk) (choice : List Int) : ∀ k, (D.crashTo choice k).was = D.was
  | 0 => rfl
  | k + 1 => crashTo_was D choice k
theorem crashTo_len (D : Dk) (choice : List Int) : ∀ k, (D.crashTo choice k).now.length = D.now.length
  | 0 => rfl
  | k + 1 => by rw [Dk.crashTo]; simp [crashTo_len D choice k]

theorem and511 (x : Int) : bits .and .i64 x 511 = x % 512 := by
  simp only [bits]
  have h : (BitVec.ofInt IntKind.i64.bits x &&& BitVec.ofInt IntKind.i64.bits 511).toNat = (x % 512).toNat := by
    rw [BitVec.toNat_and]
    have e : (BitVec.ofInt IntKind.i64.bits 511).toNat = 2 ^ 9 - 1 := by decide
    rw [e, Nat.and_two_pow_sub_one_eq_mod, BitVec.toNat_ofInt]
    show (x % (2 ^ 64 : Nat)).toNat % 2 ^ 9 = _
    omega
  rw [h, IntKind.wrap_i64]
  omega

theorem run_cut_h (s : ByteArray) (n : Nat) (h : n ≤ s.size) (W : World) : (Instr.slice 9 (.string s) none (some (.int .i64 (n : Int))) none).run Try.prog W = .ok (.string (s.extract 0 n)) W := by
  rw [run_slice_string_h (ht := Try.underlying9) (h0 := by omega) (h2 := by omega), Int.toNat_natCast]
theorem run_cut_l (s : ByteArray) (n : Nat) (h : n ≤ s.size) (W : World) : (Instr.slice 9 (.string s) (some (.int .i64 (n : Int))) none none).run Try.prog W = .ok (.string (s.extract n s.size)) W := by
  rw [run_slice_string_l (ht := Try.underlying9) (h0 := by omega) (h1 := by omega), Int.toNat_natCast]

theorem old_size {D : Dk} (h : D.Ok) {i : Nat} (hi : i ∈ D.was.map (·.1)) : (D.old i).size = 256 := by
  have h1 := lookup_isSome D.was i
  rw [decide_eq_true hi] at h1
  obtain ⟨s, hs⟩ := Option.isSome_iff_exists.1 h1
  have : D.old i = s := by simp [Dk.old, hs]
  rw [this]
  have hm : (i, s) ∈ D.was := by
    clear h1 hi this h
    generalize D.was = l at hs
    induction l with
    | nil => simp at hs
    | cons p l ih =>
      obtain ⟨k, t⟩ := p
      simp only [List.lookup] at hs
      by_cases hk : i = k
      · subst hk
        simp at hs
        simp [hs]
      · have : (i == k) = false := by simp [hk]
        rw [this] at hs
        exact List.mem_cons_of_mem _ (ih hs)
  exact h.was _ hm

end Go.Proofs.Ytcbefilcdelplaa
