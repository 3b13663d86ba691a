/- dowserlaw05's awake and Few, walked. -/
import Derived.Test.YtcbefilcdelplaaDiskN
import Derived.Test.YtcbefilcdelplaaPagesQ
namespace Go.Proofs.Ytcbefilcdelplaa
open Go.RowKit
set_option linter.unusedVariables false
set_option linter.unusedSimpArgs false

/-- At most twenty choices. -/
def fewV (v : Value) : Value := match v with | .slice a n c => .slice a (if 20 < n then 20 else n) c | x => x

theorem fewV_ints {w : World} {v : Value} {l : List Int} (h : IntsAt w v l) : IntsAt w (fewV v) (l.take 20) := by
  rcases h with ⟨rfl, a, c, rfl⟩ | ⟨b, off, c, rfl, hc⟩
  · exact .inl ⟨rfl, a, c, rfl⟩
  · refine .inr ⟨b, off, c, ?_, fun i hi => ?_⟩
    · simp only [fewV, List.length_take]
      congr 1
      split <;> omega
    · rw [List.length_take] at hi
      rw [hc i (by omega)]
      simp [List.getD_eq_getElem?_getD, List.getElem?_take, show i < 20 by omega]

theorem fewV_block {v : Value} {b off n c : Nat} (h : fewV v = .slice (some ⟨b, off, none⟩) n c) : ∃ n' c', v = .slice (some ⟨b, off, none⟩) n' c' := by
  unfold fewV at h
  split at h
  · simp only [Value.slice.injEq] at h
    exact ⟨_, _, by rw [h.1]⟩
  · exact ⟨_, _, h⟩

theorem law5_Few (w : World) (v : Value) (l : List Int) (h : IntsAt w v l) (hcap : ∀ a n c, v = .slice a n c → n ≤ c ∧ n ≤ 9223372036854775807) :
    Calls Try.prog 37 #[v] w fun e w' => e = .returned (fewV v) ∧ w = w' := by
  obtain ⟨a, n, c, rfl⟩ : ∃ a n c, v = .slice a n c := by
    rcases h with ⟨rfl, a, c, rfl⟩ | ⟨b, off, c, rfl, hc⟩
    · exact ⟨_, _, _, rfl⟩
    · exact ⟨_, _, _, rfl⟩
  obtain ⟨hnc, hn⟩ := hcap a n c rfl
  clear h
  by_cases hl : 20 < n
  · have hlI : (20 : Int) < (n : Int) := by omega
    have hcI : (20 : Int) ≤ (c : Int) := by omega
    have e : fewV (.slice a n c) = .slice a 20 c := by simp [fewV, hl]
    rw [e]
    clear e
    go_enter Try.func37, Try.ntmps37
    go_wp2
    go_ret
    exact ⟨rfl, rfl⟩
  · have hlI : ¬ (20 : Int) < (n : Int) := by omega
    have e : fewV (.slice a n c) = .slice a n c := by simp [fewV, hl]
    rw [e]
    clear e
    go_enter Try.func37, Try.ntmps37
    go_wp2
    go_ret
    exact ⟨rfl, rfl⟩

def sAbc : ByteArray := ⟨#[97, 98, 99]⟩
def sAb : ByteArray := ⟨#[97, 98]⟩

/-- What stays of "abc", of which two bytes stay. -/
theorem abc_facts : ∃ D1, (Dk.make 2).write 1 sAbc = (D1, 0) ∧ ∃ D2, D1.crash [2] = D2 ∧ D2.read 1 = (fillTo sAb 256, 0) := by
  refine ⟨_, rfl, _, rfl, ?_⟩
  have hl : ((Dk.make 2).write 1 sAbc).1.was = [(1, zeros 256)] := rfl
  have hL : ((Dk.make 2).write 1 sAbc).1.looseL = [1] := by
    rw [Dk.looseL, hl]
    simp
  have hc : ((Dk.make 2).write 1 sAbc).1.crash [2] = { ((Dk.make 2).write 1 sAbc).1 with now := ((Dk.make 2).write 1 sAbc).1.now.set 1 (joinAt (((Dk.make 2).write 1 sAbc).1.sec 1) (((Dk.make 2).write 1 sAbc).1.old 1) 2), was := [], halt := -1, down := false } := by
    rw [Dk.crash, hL]
    show ({ (((Dk.make 2).write 1 sAbc).1.crashTo [2] 1) with was := [], halt := -1, down := false } : Dk) = _
    rw [Dk.crashTo, hL]
    rfl
  show (((Dk.make 2).write 1 sAbc).1.crash [2]).read 1 = _
  rw [hc]
  kernel_rfl

set_option maxHeartbeats 1000000 in
set_option maxRecDepth 100000 in
theorem law5_awake (w : World) : Calls Try.prog 33 #[] w fun e w' => e = .returned (.bool true) ∧ Below w.heap.size w w' := by
  have CN := Lib.hid (disk_New 2 w)
  obtain ⟨D1, hw, D2, hcr, hrd⟩ := abc_facts
  have hlen : (Dk.make 2).now.length = 2 := rfl
  have hlenI : ((Dk.make 2).now.length : Int) = 2 := rfl
  generalize Dk.make 2 = D at *
  have HW := Lib.hid hw
  have HC := Lib.hid hcr
  have HR := Lib.hid hrd
  have HL := Lib.hid hlenI
  clear hw hcr hrd hlen hlenI
  go_enter Try.func33, Try.ntmps33
  go_wp2_with fail
  refine CN.out.mono ?_
  rintro e w1 ⟨L, rfl, d1, hf, hb1⟩
  have CS := disk_Size w1 L D d1
  rw [HL.out] at CS
  have CS' := Lib.hid CS
  have CW := disk_Write w1 L D 1 sAbc d1
  rw [HW.out] at CW
  have CW' := Lib.hid CW
  have HF := Lib.hid hf
  have HB := Lib.hid hb1
  clear CS CW d1 hf hb1 CN
  go_wp2_with fail
  refine CS'.out.mono ?_
  rintro e w' ⟨rfl, rfl⟩
  go_wp2_with fail
  refine CW'.out.mono ?_
  rintro e w2 ⟨rfl, d2, k2⟩
  have HB2 := Lib.hid (bel_keep HB.out k2 HF.out)
  have CC := Lib.hid (disk_Crash (w2.alloc (.cells #[.int .i64 2] 3 (0, 0))) L D1 (.slice (some ⟨w2.heap.size, 0, none⟩) 1 1) [2] (d2.alloc _)
    (.inr ⟨_, 0, 1, rfl, fun i hi => by
      obtain rfl : i = 0 := by simp at hi; omega
      exact cell_new1 w2 _ _ _ _ rfl⟩)
    (fun b off n c hv hb => by
      simp only [Value.slice.injEq, Option.some.injEq, Addr.mk.injEq] at hv
      obtain ⟨⟨rfl, _⟩, _⟩ := hv
      exact absurd (d2.foot_lt hb) (Nat.lt_irrefl _)))
  have HS2 := Lib.hid (Nat.le_refl w2.heap.size)
  clear d2 k2 CW' CS'
  go_wp2_with fail
  refine CC.out.mono ?_
  rintro e w3 ⟨rfl, d3, k3⟩
  rw [HC.out] at d3
  have HB3 := Lib.hid (bel_keep (bel_alloc HB2.out _) k3 HF.out)
  have CR := disk_Read w3 L D2 1 d3
  rw [HR.out] at CR
  have CR' := Lib.hid CR
  have CF := Lib.hid (ref05_Fill sAb w3 (by decide))
  obtain ⟨f, hf⟩ : ∃ f, fillTo sAb 256 = f := ⟨_, rfl⟩
  rw [hf] at CR' CF
  clear CR d3 k3 CC hf
  go_wp2_with fail
  refine CR'.out.mono ?_
  rintro e w' ⟨rfl, rfl⟩
  go_wp2_with fail
  refine CF.out.mono ?_
  rintro e w4 ⟨rfl, hb4⟩
  have hB4 := bel_then HB3.out hb4
  go_wp2
  go_ret
  exact ⟨rfl, hB4⟩
end Go.Proofs.Ytcbefilcdelplaa
