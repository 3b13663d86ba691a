/- dowserlaw07's awake, walked. -/
import Derived.Test.YtcbefilcdelplaaPagesQ
namespace Go.Proofs.Ytcbefilcdelplaa
open Go.RowKit
set_option linter.unusedVariables false
set_option linter.unusedSimpArgs false

def sABC : ByteArray := ⟨#[97, 98, 99]⟩

set_option maxHeartbeats 1000000 in
set_option maxRecDepth 100000 in
theorem law7_awake (w : World) : Calls Try.prog 13 #[] w fun e w' => e = .returned (.bool true) ∧ Below w.heap.size w w' := by
  have CN := Lib.hid (disk_New 11 w)
  go_enter Try.func13, Try.ntmps13
  go_wp2_with fail
  refine CN.out.mono ?_
  rintro e w1 ⟨L, rfl, d1, hf, hb1⟩
  have hL := make_live 11
  have hlen : (Dk.make 11).now.length = 11 := by rw [make_now]; decide
  have hroom : (Dk.make 11).room = 4 := by unfold Dk.room; rw [hlen]
  generalize Dk.make 11 = D at *
  have CR := pages_Room w1 L D d1
  rw [hroom] at CR
  have CO := pages_Open w1 L D 1 0 d1 (by omega) (by omega)
  have CR' := Lib.hid CR
  have CO' := Lib.hid CO
  have HL := Lib.hid hL
  have HLen := Lib.hid hlen
  have HR := Lib.hid hroom
  have HD := Lib.hid d1
  have HF := Lib.hid hf
  have HB := Lib.hid hb1
  clear CR CO hL hlen hroom d1 hf hb1 CN
  go_wp2_with fail
  refine CR'.out.mono ?_
  rintro e w' ⟨rfl, rfl⟩
  go_wp2_with fail
  refine CO'.out.mono ?_
  rintro e w2 ⟨rfl, p2, hb2⟩
  have d2 := HD.out.below hb2
  obtain ⟨D2, e2, l2, n2, _⟩ := append_live HL.out (by rw [HLen.out]; omega) 1 0 (by omega) (by rw [HR.out]; omega) 7 sABC (by omega) (by omega) (by decide)
  have CA := pages_Append w2 _ L D 1 0 7 sABC p2 d2 (by omega) (by omega)
  rw [e2] at CA
  have CA' := Lib.hid CA
  have HB2 := Lib.hid (bel_then HB.out hb2)
  have HS := Lib.hid HB.out.size
  clear CA e2 d2 p2 hb2 CO' CR'
  go_wp2_with fail
  refine CA'.out.mono ?_
  rintro e w3 ⟨rfl, d3, p3, k3⟩
  have HB3 := Lib.hid (bel_keep HB2.out k3 (by rintro i (h | rfl); exact HF.out i h; exact HS.out))
  have hl2 : D2.now.length = 11 := by rw [n2, List.length_set]; exact HLen.out
  have hr2 : D2.room = 4 := by unfold Dk.room; rw [hl2]
  have hsec : D2.sector 1 0 = D.sector 1 0 := sector_of (by rw [n2, List.length_set]) 1 0
  have CD := pages_Read w3 _ L D2 1 1 0 p3 d3 (by omega) (by rw [hr2]; omega)
  have hrd : D2.pgRead 1 1 0 = (7, sABC, 0) := by
    rw [show (0 : Int) = ((0 : Nat) : Int) from rfl, pgRead_live l2 (by omega) 1 1 (by omega) (by omega) 0 (by omega), hsec, sec_set n2 (sector_lt (by rw [HLen.out]; omega) (by omega) (by rw [HR.out]; omega))]
    exact parse_sector 7 sABC (by omega) (by omega) (by decide)
  rw [hrd] at CD
  have CD' := Lib.hid CD
  have HD3 := Lib.hid d3
  have HP3 := Lib.hid p3
  have HR2 := Lib.hid hr2
  clear CD hrd hsec hl2 hr2 n2 l2 d3 p3 k3 CA'
  go_wp2_with fail
  refine CD'.out.mono ?_
  rintro e w4 ⟨rfl, hb4⟩
  have CF := pages_Free w4 _ L D2 1 1 (HP3.out.below hb4) (HD3.out.below hb4) (by rw [HR2.out]; omega)
  rw [HR2.out] at CF
  have CF' := Lib.hid CF
  have HB4 := Lib.hid (bel_then HB3.out hb4)
  have hs : (sABC.toList == [97, 98, 99]) = true := by rw [ByteArray.toList_eq]; decide
  clear CF hb4 CD'
  go_wp2_with fail
  refine CF'.out.mono ?_
  rintro e w5 ⟨rfl, m, rfl⟩
  go_wp2
  go_ret
  exact ⟨rfl, bel_drewN HB4.out m⟩

end Go.Proofs.Ytcbefilcdelplaa
