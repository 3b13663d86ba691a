/- Slices that came in, opened as rows. -/
import Derived.Test.YtendgmblgdkiaaaGreatGTreeAnyOrder0
import Derived.Test.YtendgmblgdkiaaaGreatGTreeAnyOrder35
import Derived.SliceStrings
import Derived.OpenShut
namespace Go.Proofs.YtendgmblgdkiaaaGreat
open Go.RowKit
open Go.Proofs.YtendgmblgdkiaaaGreatW
open PrintWords PrintLast PrintMore Go.ChangeShapes
set_option linter.unusedVariables false
set_option linter.unusedSimpArgs false

theorem open_strsC {H : Type} {enc : TypeId × Value → H} {w : World} {fuel : Nat} {v : Value} {x : DataW H × List MemPlace} (h : DataW.trod enc Tryz.prog w 0 (fun _ => true) true fuel 22 [v] = some x) :
  ∃ A c l, v = .slice A l.length c ∧ Kd.C Kd.string w A l.length l ∧ l.length ≤ c := by
 rcases open_strings Tryz.underlying22 Tryz.underlying9 kr_ h with ⟨hcs, hx⟩ | ⟨a, len, cap, ss, hcs, hb, hl, hm, hlen, hx, hc, hs⟩
 ·obtain rfl : v = .slice none 0 0 := by simpa using hcs
  exact ⟨none, 0, [], rfl, Kd.C_nil _ _, Nat.le_refl _⟩
 ·obtain rfl : v = .slice (some a) len cap := by simpa using hcs
  have hm' : cap ≤ 9223372036854775807 := by have : maxLen = 9223372036854775807 := rfl; omega
  simp only [if_true] at hlen
  have hll : (ss.take len).length = len := by rw [List.length_take]; omega
  refine ⟨some a, cap, ss.take len, by rw [hll], Kd.C_of_reads (d := ByteArray.empty) ⟨rfl, by omega, fun _ => ⟨a, rfl, fun j hj => ?_⟩⟩, by omega⟩
  rw [hll] at hj
  rw [hc j (by omega)]
  simp [List.getD_eq_getElem?_getD, List.getElem?_take, hj]
end Go.Proofs.YtendgmblgdkiaaaGreat
