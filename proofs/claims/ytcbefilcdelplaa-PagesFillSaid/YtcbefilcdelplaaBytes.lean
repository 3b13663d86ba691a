/- '[]byte(s)', a byte changed, and back; bits of an int. -/
import Derived.Test.YtcbefilcdelplaaPagesQ
import Derived.Lib.ConvBytes
namespace Go.Proofs.Ytcbefilcdelplaa
open Go.RowKit
set_option linter.unusedVariables false
set_option linter.unusedSimpArgs false

def byteVals (l : List UInt8) : List Value := l.map fun b => Value.int .u8 (b.toNat : Int)

/-- '[]byte(s)': a new row. -/
theorem to_bytes (W : World) (s : ByteArray) : ∃ W' cap rest k, (convert 9 37 (.string s)).run Try.prog W = .ok (.slice (some ⟨W.heap.size, 0, none⟩) s.size cap) W' ∧ Below W.heap.size W W' ∧
    W'.heap[W.heap.size]? = some (.cells (byteVals s.data.toList ++ rest).toArray 5 (k, k + 1)) ∧ s.size ≤ k := by
  refine ⟨_, _, List.replicate (grownCap W s.size 0 5 - s.size) (.int .u8 0), (Lib.bytesCells W 5 s).size, Lib.run_convert_string_bytes W 9 37 5 s Try.underlying9 Try.underlying37 Try.underlying5, ?_, ?_, ?_⟩
  · refine ⟨rfl, rfl, rfl, by rw [Lib.bytesWorld_size]; omega, fun k hk => Lib.bytesWorld_at_old W 5 s k hk⟩
  · rw [Lib.bytesWorld_at_new]
    congr 2
    simp [Lib.bytesCells, byteVals, List.append_toArray]
  · simp [Lib.bytesCells]

theorem u8_xor1 (c : UInt8) : ∃ m : UInt8, bits .xor .u8 (c.toNat : Int) 1 = (m.toNat : Int) ∧ c ≠ m := by
  refine ⟨c ^^^ 1, ?_, ?_⟩
  · have e : ∀ x : UInt8, BitVec.ofInt (IntKind.u8.bits) (x.toNat : Int) = x.toBitVec := by
      intro x
      rw [BitVec.ofInt_natCast]
      show BitVec.ofNat 8 x.toBitVec.toNat = _
      simp
    have e1 : BitVec.ofInt (IntKind.u8.bits) 1 = (1 : UInt8).toBitVec := by
      show BitVec.ofInt 8 1 = 1#8
      decide
    simp only [bits]
    rw [e, e1]
    show IntKind.u8.wrap (((c ^^^ 1).toBitVec.toNat : Nat) : Int) = _
    rw [IntKind.wrap_u8]
    have := (c ^^^ 1).toNat_lt
    show ((c ^^^ 1).toNat : Int) % 256 = _
    omega
  · intro h
    have h1 := congrArg UInt8.toBitVec h
    have h2 : c.toBitVec = c.toBitVec ^^^ 1#8 := h1
    have h3 := congrArg (fun x => c.toBitVec ^^^ x) h2
    simp only [← BitVec.xor_assoc, BitVec.xor_self, BitVec.zero_xor] at h3
    exact absurd h3 (by decide)

theorem and255 (x : Int) : bits .and .i64 x 255 = x % 256 := by
  simp only [bits]
  have h : (BitVec.ofInt IntKind.i64.bits x &&& BitVec.ofInt IntKind.i64.bits 255).toNat = (x % 256).toNat := by
    rw [BitVec.toNat_and]
    have e : (BitVec.ofInt IntKind.i64.bits 255).toNat = 2 ^ 8 - 1 := by decide
    rw [e, Nat.and_two_pow_sub_one_eq_mod, BitVec.toNat_ofInt]
    show (x % (2 ^ 64 : Nat)).toNat % 2 ^ 8 = _
    omega
  rw [h, IntKind.wrap_i64]
  omega

/-- A byte of a row is another one: the row as a text. -/
theorem bytes_back (W : World) (b cap : Nat) (l : List UInt8) (rest : List Value) (fr : Nat × Nat) (i : Nat) (m : UInt8) (hi : i < l.length)
    (hb : W.heap[b]? = some (.cells (byteVals l ++ rest).toArray 5 fr)) :
    (convert 37 9 (.slice (some ⟨b, 0, none⟩) l.length cap)).run Try.prog (W.setCell ⟨b, i, none⟩ (.int .u8 (m.toNat : Int))) = .ok (.string ⟨(l.set i m).toArray⟩) (W.setCell ⟨b, i, none⟩ (.int .u8 (m.toNat : Int))) := by
  have hc : ∀ j, j < l.length → (W.setCell ⟨b, i, none⟩ (.int .u8 (m.toNat : Int))).cell? ⟨b, 0 + j, none⟩ = some (.int .u8 (((l.set i m).map fun x => (x.toNat : Int)).getD j 0)) := by
    intro j hj
    rw [Nat.zero_add, cell_of_heap (heap_setCell_same hb i _) j]
    have hj2 : j < (byteVals l).length := by simpa [byteVals] using hj
    rw [List.setIfInBounds_toArray, List.getElem?_toArray, List.set_append_left _ _ (by simpa [byteVals] using hi), List.getElem?_append_left (by simpa [byteVals] using hj)]
    by_cases hij : i = j
    · subst hij
      simp [byteVals, hj]
    · rw [List.getElem?_set_ne hij, List.getD_eq_getElem?_getD, List.getElem?_map, List.getElem?_set_ne hij]
      simp [byteVals, hj]
  have h := run_convert_bytes_arg (P := Try.prog) _ 37 5 Try.underlying37 Try.underlying5 b 0 l.length cap ((l.set i m).map fun x => (x.toNat : Int)) (by simp) hc 9 Try.underlying9
  have e : strOfNums ((l.set i m).map fun x => (x.toNat : Int)) = ⟨(l.set i m).toArray⟩ := by
    unfold strOfNums
    rw [List.map_map]
    have hf : ((fun n : Int => UInt8.ofNat n.toNat) ∘ fun x : UInt8 => (x.toNat : Int)) = id := by
      funext x
      simp
    rw [hf, List.map_id]
  rw [e] at h
  exact h

end Go.Proofs.Ytcbefilcdelplaa
