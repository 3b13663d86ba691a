/- More of what pages answer: a sector that was never written is no page. Plain laws. -/
import Derived.Test.YtcbefilcdelplaaPagesQ
namespace Go.Proofs.Ytcbefilcdelplaa
open Go.RowKit
set_option linter.unusedVariables false
set_option linter.unusedSimpArgs false

theorem crcStep_zero : crcStep 0#32 = 0#32 := by decide
theorem crcSteps_zero : ∀ n, crcSteps n 0#32 = 0#32
  | 0 => rfl
  | n + 1 => by rw [crcSteps, crcSteps_zero n, crcStep_zero]
theorem crcByte_zero : crcByte 0#32 0 = 0#32 := by
  rw [crcByte]
  have : (0 : UInt8).toBitVec.zeroExtend 32 <<< 24 = 0#32 := by decide
  rw [this, BitVec.xor_zero]
  exact crcSteps_zero 8
theorem crcOn_zeros : ∀ n, crcOn 0#32 (List.replicate n 0) = 0#32
  | 0 => rfl
  | n + 1 => by
    rw [List.replicate_succ]
    rw [crcOn, List.foldl_cons, crcByte_zero]
    exact crcOn_zeros n
theorem crcOf_zeros (n : Nat) : crcOf (List.replicate n 0) ≠ 0#32 := by
  intro h
  have h1 : crcOn 0xFFFFFFFF#32 (List.replicate n 0) = crcOn 0#32 (List.replicate n 0) := by rw [crcOn_zeros]; exact h
  exact absurd (crcOn_inj h1) (by decide)

theorem parse_zeros : pgParse (zeros 256) = (0, ByteArray.empty, 8) := by
  have hz := zeros_list 256
  have g4 : (zeros 256).get! 4 = 0 := by rw [getB, hz]; rfl
  have g5 : (zeros 256).get! 5 = 0 := by rw [getB, hz]; rfl
  unfold pgParse
  simp only [g4, g5]
  rw [if_neg (by decide)]
  split
  · rename_i he
    exfalso
    have hx : (zeros 256).extract 6 (6 + (0 : UInt8).toNat) = ByteArray.empty := by
      apply ba_ext
      rw [extract_list, hz]
      rfl
    rw [hx] at he
    have hl := congrArg (fun s : ByteArray => s.data.toList) he
    have hp : (pageText ((0 : UInt8).toNat : Int) ByteArray.empty).data.toList = List.replicate 252 0 := by
      rw [pageText, fillTo, app_data, app_data, zeros_list, ByteArray.size_append, pageHead_size]
      rfl
    simp only [sectorOf, app_data, hp, hz] at hl
    have hl2 : List.replicate 4 (0 : UInt8) ++ List.replicate 252 0 = (four ((crcOf (List.replicate 252 0)).toNat : Int)).data.toList ++ List.replicate 252 0 := by
      rw [← hl, List.replicate_append_replicate]
    obtain ⟨q1, _⟩ := List.append_inj hl2 (by rw [four_len]; rfl)
    have h0 : (four (((0#32 : BitVec 32)).toNat : Int)).data.toList = List.replicate 4 0 := rfl
    have h2 := four_inj (ba_ext (h0.trans q1))
    exact crcOf_zeros 252 h2.symm
  · rfl

theorem make_sec {n : Int} {i : Nat} (h : i < (Dk.make n).now.length) : (Dk.make n).sec i = zeros 256 := by
  have h2 : i < (min (max n 2) 65536).toNat := by rw [← make_now]; exact h
  simp [Dk.sec, Dk.make, h2]

/-- At a disk that halts at once. -/
theorem append_halted {D : Dk} (hd : D.down = false) (hh : D.halt = 0) (h2 : 2 ≤ D.now.length) (half n : Nat) (hhf : half ≤ 1) (hn : n ≤ D.room) (kind : Int) (s : ByteArray) (h0 : 0 ≤ kind) (h1 : kind ≤ 255) (hs : s.size ≤ 240) :
    ∃ D', D.pgAppend half n kind s = (D', n, (-1 : Int), if D.room = n then 5 else 6) := by
  unfold Dk.pgAppend
  rw [if_neg (by omega)]
  by_cases hr : D.room = n
  · rw [if_pos hr, if_pos hr]
    exact ⟨_, rfl⟩
  · rw [if_neg hr, if_neg hr]
    have hl := sector_lt h2 hhf (show n < D.room by omega)
    have hI : D.is (D.sector half n : Int) = true := by simp [Dk.is, hl]
    have ht : D.turn = ({ D with down := true }, false) := by simp [Dk.turn, hh]
    have hw : D.write (D.sector half n) (sectorOf kind s) = ({ D with down := true }, 6) := by
      simp only [Dk.write, hd, hI, ht]
      rw [if_neg (by simp), if_neg (by simp), if_neg (by rw [sectorOf_size _ _ (by omega)]; omega), if_pos (by simp)]
    rw [hw]
    exact ⟨_, rfl⟩

end Go.Proofs.Ytcbefilcdelplaa
