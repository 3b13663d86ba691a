/- A disk that runs freely: what writes and pages do there. Plain laws. -/
import Derived.Test.YtcbefilcdelplaaPagesP
import Derived.Test.YtcbefilcdelplaaPagesC
namespace Go.Proofs.Ytcbefilcdelplaa
open Go.RowKit
set_option linter.unusedVariables false
set_option linter.unusedSimpArgs false

theorem bel_keep {F : Nat → Prop} {w w1 w2 : World} (h : Below w.heap.size w w1) (k : Keep F w1 w2) (hF : ∀ i, F i → w.heap.size ≤ i) : Below w.heap.size w w2 :=
  ⟨k.os.trans h.os, k.tape.trans h.tape, k.output.trans h.output, Nat.le_trans h.size k.size, fun i hi => (k.block i (Nat.lt_of_lt_of_le hi h.size) (fun hf => by have := hF i hf; omega)).trans (h.block i hi)⟩

def Dk.Live (D : Dk) : Prop := D.down = false ∧ D.halt = -1

theorem make_live (n : Int) : (Dk.make n).Live := ⟨rfl, rfl⟩
theorem make_now (n : Int) : (Dk.make n).now.length = (min (max n 2) 65536).toNat := by simp [Dk.make]
theorem loosen_now (D : Dk) (i : Nat) : (D.loosen i).now = D.now := by unfold Dk.loosen; split <;> rfl
theorem turn_live {D : Dk} (h : D.Live) : D.turn = ({ D with halt := -1, writes := wrap64 (D.writes + 1) }, true) := by
  unfold Dk.turn
  rw [h.2]
  rfl
theorem fill_full {s : ByteArray} (h : s.size = 256) : Dk.fill s = s := by
  rw [Dk.fill, h, Nat.sub_self, zeros_nil]

theorem write_live {D : Dk} (h : D.Live) (i : Nat) (hi : i < D.now.length) (s : ByteArray) (hs : s.size ≤ 256) :
    D.write i s = (D.turn.1.put i s, 0) ∧ (D.turn.1.put i s).Live ∧ (D.turn.1.put i s).now = D.now.set i (Dk.fill s) ∧ (D.turn.1.put i s).writes = wrap64 (D.writes + 1) := by
  have hI : D.is (i : Int) = true := by simp [Dk.is, hi]
  have ht := turn_live h
  refine ⟨?_, ?_, ?_, ?_⟩
  · simp only [Dk.write, h.1, hI, ht]
    rw [if_neg (by simp), if_neg (by simp), if_neg (by omega), if_neg (by simp)]
    rfl
  · simp only [Dk.put, Dk.loosen, ht, Dk.Live]
    split <;> exact ⟨h.1, rfl⟩
  · simp only [Dk.put, loosen_now, ht]
  · simp only [Dk.put, Dk.loosen, ht]
    split <;> rfl

theorem read_live {D : Dk} (h : D.Live) (i : Nat) (hi : i < D.now.length) : D.read i = (D.sec i, 0) := by
  have hI : D.is (i : Int) = true := by simp [Dk.is, hi]
  simp [Dk.read, h.1, hI]

theorem room_of {D E : Dk} (h : E.now.length = D.now.length) : E.room = D.room := by unfold Dk.room; rw [h]
theorem sector_of {D E : Dk} (h : E.now.length = D.now.length) (i n : Nat) : E.sector i n = D.sector i n := by unfold Dk.sector; rw [room_of h]
theorem sector_lt {D : Dk} {h n : Nat} (h2 : 2 ≤ D.now.length) (hh : h ≤ 1) (hn : n < D.room) : D.sector h n < D.now.length := by
  unfold Dk.sector
  have hr : 2 * D.room ≤ D.now.length - 2 := by unfold Dk.room; omega
  match h, hh with
  | 0, _ => simp; omega
  | 1, _ => simp; omega

theorem append_live {D : Dk} (h : D.Live) (h2 : 2 ≤ D.now.length) (half n : Nat) (hh : half ≤ 1) (hn : n < D.room) (kind : Int) (s : ByteArray) (h0 : 0 ≤ kind) (h1 : kind ≤ 255) (hs : s.size ≤ 240) :
    ∃ D', D.pgAppend half n kind s = (D', n + 1, (n : Int), 0) ∧ D'.Live ∧ D'.now = D.now.set (D.sector half n) (sectorOf kind s) ∧ D'.writes = wrap64 (D.writes + 1) := by
  have hl := sector_lt h2 hh hn
  have hz := sectorOf_size kind s (by omega)
  obtain ⟨e1, e2, e3, e4⟩ := write_live h (D.sector half n) hl (sectorOf kind s) (by omega)
  refine ⟨_, ?_, e2, by rw [e3, fill_full hz], e4⟩
  unfold Dk.pgAppend
  rw [if_neg (by omega), if_neg (by omega), e1]
  rfl

theorem sec_set {D E : Dk} {i : Nat} {s : ByteArray} (h : E.now = D.now.set i s) (hi : i < D.now.length) : E.sec i = s := by
  simp [Dk.sec, h, hi]
theorem sec_set_ne {D E : Dk} {i j : Nat} {s : ByteArray} (h : E.now = D.now.set i s) (hne : j ≠ i) : E.sec j = D.sec j := by
  simp [Dk.sec, h, List.getElem?_set_ne (Ne.symm hne)]

/-- A page that holds a sector is read so. -/
theorem pgRead_live {D : Dk} (h : D.Live) (h2 : 2 ≤ D.now.length) (half next : Nat) (hh : half ≤ 1) (hn : next ≤ D.room) (i : Nat) (hi : i < next) :
    D.pgRead half next i = pgParse (D.sec (D.sector half i)) := by
  have hl := sector_lt h2 hh (show i < D.room by omega)
  unfold Dk.pgRead
  rw [if_neg (by omega), Int.toNat_natCast, read_live h _ hl]
  rfl

end Go.Proofs.Ytcbefilcdelplaa
