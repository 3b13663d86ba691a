/- The sums' functions, walked. -/
import Derived.Test.YtendgmblgdkiaaaGreatGInternFull0
import Derived.Test.YtendgmblgdkiaaaGreatProg
import Derived.Test.YtendgmblgdkiaaaGreatGInternFull7
import Derived.Outline
import Derived.Lib.Hide
import Derived.IntWalk
import Derived.Deep.LoopGhost
namespace Go.Proofs.YtendgmblgdkiaaaGreat
open Go.RowKit
set_option linter.unusedVariables false
set_option linter.unusedSimpArgs false

/-- string([]byte{a, ..}): one, two, four numbers. -/
theorem lit_bytes (w : World) (cs : Array Value) (xs : List Int) (n : Nat) (hc : cs = (xs.map (Value.int .u8)).toArray) (hn : xs.length = n) :
  (convert 55 9 (.slice (some ⟨w.heap.size, 0, none⟩) n n)).run Tryz.prog (w.alloc (.cells cs 5)) = .ok (.string (strOfNums xs)) (w.alloc (.cells cs 5)) := by
 refine run_convert_bytes_arg (P := Tryz.prog) _ 55 5 Tryz.underlying55 Tryz.underlying5 w.heap.size 0 n n xs hn ?_ 9 Tryz.underlying9
 intro i hi
 rw [cell_of_heap (heap_alloc_self w _), hc]
 have hi' : i < xs.length := by omega
 simp [hi']
theorem lit2 (w : World) (m : Nat) (hm : w.heap.size = m) (a b : Int) : (convert 55 9 (.slice (some ⟨m, 0, none⟩) 2 2)).run Tryz.prog (w.alloc (.cells #[.int .u8 a, .int .u8 b] 5)) = .ok (.string (strOfNums [a, b])) (w.alloc (.cells #[.int .u8 a, .int .u8 b] 5)) := by subst hm; exact lit_bytes w _ [a, b] 2 rfl rfl
theorem lit4 (w : World) (m : Nat) (hm : w.heap.size = m) (a b c d : Int) : (convert 55 9 (.slice (some ⟨m, 0, none⟩) 4 4)).run Tryz.prog (w.alloc (.cells #[.int .u8 a, .int .u8 b, .int .u8 c, .int .u8 d] 5)) = .ok (.string (strOfNums [a, b, c, d])) (w.alloc (.cells #[.int .u8 a, .int .u8 b, .int .u8 c, .int .u8 d] 5)) := by subst hm; exact lit_bytes w _ [a, b, c, d] 4 rfl rfl

set_option maxRecDepth 100000 in
theorem crc_Four (x : Int) (w : World) :
  Calls Tryz.prog 117 #[.int .u32 x] w fun e w' => e = .returned (.string (four x)) ∧ Below w.heap.size w w' := by
 have hcv := lit4
 go_enter Tryz.func117, Tryz.ntmps117
 go_wp2
 go_ret
 exact ⟨rfl, (Below.refl _ _).alloc (Nat.le_refl _) _⟩

theorem crc_eight (v : BitVec 32) (w : World) :
  Calls Tryz.prog 200 #[.int .u32 (v.toNat : Int)] w fun e w' => e = .returned (.int .u32 ((crcEight v).toNat : Int)) ∧ w = w' := by
 go_enter Tryz.func200, Tryz.ntmps200
 go_wp2
 go_loop [0, 4] (fun x c => ∃ k : Nat, k ≤ 8 ∧ c = .int .i64 k ∧ x = .int .u32 ((crcSteps k v).toNat : Int)) (fun _ c => 8 - (intOf c).toNat)
 case atStart => exact ⟨0, by omega, rfl, rfl⟩
 case round =>
  obtain ⟨k, hk, rfl, rfl⟩ := hrel
  by_cases hlt : k < 8
  ·obtain ⟨u, hu⟩ : ∃ u, u = crcSteps k v := ⟨_, rfl⟩
   have hs : crcSteps (k + 1) v = crcStep u := by rw [hu]; rfl
   rw [← hu]
   have HS := hi_ hs
   cases hm : u.msb with
   | true =>
    have h2 : bits .and .u32 u.toNat 2147483648 = 2147483648 := by rw [bits_and_top, hm]; rfl
    have h3 : bits .xor .u32 (u <<< 1).toNat 79764919 = (crcStep u).toNat := by
     have := bits_xor_u32 (u <<< 1) 0x04C11DB7#32
     rw [crcStep, hm, if_pos rfl, ← this]
     rfl
    have H3 := hi_ h3
    clear hu hs hm h3
    go_wp2
    go_round
    case rel => exact ⟨k + 1, by omega, by go_num, by rw [HS.out, shl1_u32 u, H3.out]⟩
    case measure => simp [intOf]; omega
   | false =>
    have h2 : bits .and .u32 u.toNat 2147483648 = 0 := by rw [bits_and_top, hm]; rfl
    have h3 : crcStep u = u <<< 1 := by rw [crcStep, hm]; rfl
    have H3 := hi_ h3
    clear hu hs hm h3
    go_wp2
    go_round
    case rel => exact ⟨k + 1, by omega, by go_num, by rw [HS.out, H3.out, shl1_u32 u]⟩
    case measure => simp [intOf]; omega
  ·obtain rfl : k = 8 := by omega
   go_wp2
   go_ret
   exact ⟨rfl, rfl⟩

theorem take_snoc_bytes (s : ByteArray) (k : Nat) (h : k < s.size) : s.data.toList.take (k + 1) = s.data.toList.take k ++ [s[k]] := by
 rw [List.take_succ_eq_append_getElem (by simpa using h)]; rfl

theorem crc_On (v : BitVec 32) (s : ByteArray) (w : World) (hs : s.size ≤ maxLen) :
  Calls Tryz.prog 163 #[.int .u32 (v.toNat : Int), .string s] w fun e w' => e = .returned (.int .u32 ((crcOn v s.data.toList).toNat : Int)) ∧ w = w' := by
 unfold maxLen at hs
 go_enter Tryz.func163, Tryz.ntmps163
 go_wp2
 go_loop [0, 8] (fun x c => ∃ k : Nat, k ≤ s.size ∧ c = .int .i64 k ∧ x = .int .u32 ((crcOn v (s.data.toList.take k)).toNat : Int)) (fun _ c => s.size - (intOf c).toNat)
 case atStart => exact ⟨0, by omega, rfl, rfl⟩
 case round =>
  obtain ⟨k, hk, rfl, rfl⟩ := hrel
  by_cases hlt : k < s.size
  ·obtain ⟨u, hu⟩ : ∃ u, u = crcOn v (s.data.toList.take k) := ⟨_, rfl⟩
   have hst : crcOn v (s.data.toList.take (k + 1)) = crcEight (u ^^^ (s[k].toBitVec.zeroExtend 32 <<< 24)) := by
    rw [take_snoc_bytes s k hlt, crcOn_snoc, ← hu]; rfl
   rw [← hu]
   have HS := hi_ hst
   have hx : bits .xor .u32 u.toNat (((s[k].toNat : Int) % (4294967296 : Int) * (16777216 : Int)) % (4294967296 : Int)) = (u ^^^ (s[k].toBitVec.zeroExtend 32 <<< 24)).toNat := by
    have : (s[k].toNat : Int) % (4294967296 : Int) = (s[k].toNat : Int) := by have := s[k].toNat_lt; omega
    rw [this, byte_shl24, bits_xor_u32]
   have HX := hi_ hx
   clear hu hst hx
   go_wp2_with fail
   rw [HX.out]
   refine (crc_eight _ _).mono ?_
   rintro e w' ⟨rfl, rfl⟩
   go_wp2
   go_round
   case rel => exact ⟨k + 1, by omega, by go_num, by rw [HS.out]⟩
   case measure => simp [intOf]; omega
  ·obtain rfl : k = s.size := by omega
   go_wp2
   go_ret
   exact ⟨ret_int (by rw [List.take_of_length_le (by simp)]), rfl⟩

/-- crc.Of of one text. -/
theorem crc_Of (b : Nat) (s : ByteArray) (w : World) (hs : s.size ≤ maxLen) (hc : w.cell? ⟨b, 0, none⟩ = some (.string s)) :
  Calls Tryz.prog 115 #[.slice (some ⟨b, 0, none⟩) 1 1] w fun e w' => e = .returned (.int .u32 ((crcOf s.data.toList).toNat : Int)) ∧ w = w' := by
 have C := hi_ (crc_On 0xFFFFFFFF#32 s w hs)
 go_enter Tryz.func115, Tryz.ntmps115
 go_wp2
 go_loop [3, 8] (fun x c => (c = .int .i64 0 ∧ x = .int .u32 4294967295) ∨ (c = .int .i64 1 ∧ x = .int .u32 ((crcOf s.data.toList).toNat : Int))) (fun _ c => 1 - (intOf c).toNat)
 case atStart => exact .inl ⟨rfl, rfl⟩
 case round =>
  rcases hrel with ⟨rfl, rfl⟩ | ⟨rfl, rfl⟩
  ·go_wp2_with fail
   refine (show Calls Tryz.prog 163 #[.int .u32 4294967295, .string s] w _ from C.out).mono ?_
   rintro e w' ⟨rfl, rfl⟩
   go_wp2
   go_round
   case rel => exact .inr ⟨rfl, rfl⟩
   case measure => simp [intOf]
  ·go_wp2
   go_ret
   exact ⟨rfl, rfl⟩

end Go.Proofs.YtendgmblgdkiaaaGreat
