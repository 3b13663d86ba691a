/-
  No cell of these rows narrows 'for every input' (looked for: loops, veiled, ifaces, maps, wideKeys, modest, calm, conditions, laid).
  DERIVED. THE GIVEN ROWS OF THIS SEAT. 4 by the template 'for every input the law returns true; each argument reads behind the call as it read before'; 0 by the template 'total and deterministic' (their statements: YtogngmbjkdffaaaTotals.lean).
  GIVEN WITH THE SEED: the statements are not yours to turn. If you find one false, say at which input.
  Laid BY PROGRAM, IN A SANDBOX (cutbox-rows.mjs): the forced cells as the released guide's own fill.sh prints them over the translation 18e0e3ac85c0cbb0… (all of the seat's roots in one cut). By AI agents, Wed Nov 11 2026. No macro, syntax, notation, axiom, sorry.
-/
import Derived.Test.YtogngmbjkdffaaaChecked
import GoSem.Claim
import GoSem.ClaimJoined
import GoSem.ClaimMapViews
import Derived.JoinedTies
import Derived.KernelRfl
namespace Go.Proofs.Ytogngmbjkdffaaa
/- THE CELL 'sum', in the pinned program and in every row, IS THE sha256 OF THE DUMP (.gsa) THAT YtogngmbjkdffaaaProg.lean LOADS. Nothing in Lean hashes anything: it is a label: what it is worth is what the hold of that sum in a sandbox is worth. -/
noncomputable def Try.pinned : Pinned := { name := "ytogngmbjkdffaaa", sum := "18e0e3ac85c0cbb0ad5cf8c9dd86bb07f1ce7410f6e34fa2e3b6a31ed226a8db", checked := Try.checked }
namespace Rows
def none {H : Type} : Left H := { results := [], args := [] }

/-- 'dowserlaw21.KeysBytes': WHATEVER THE INPUT: true; the input reads as it did. -/
def keysBytesSpec : ChangeSpec := { name := "keysBytes", fn := fun _ => fun
  | [d] => { results := [.lit (.bool true)], args := [d] }
  | _ => none }
def keysBytesRow : OpenClaim := { program := "ytogngmbjkdffaaa", sum := "18e0e3ac85c0cbb0ad5cf8c9dd86bb07f1ce7410f6e34fa2e3b6a31ed226a8db", func := "dowser/dowserlaw21.KeysBytes", spec := "keysBytes", unfollowed := true, recurses := true, apart := false }
def KeysBytesSaid : Prop := keysBytesRow.holds Try.pinned (OpenSpec.ofChange keysBytesSpec)

/-- ITS FALSE NEIGHBOUR: 'it returns false'. Refute it at one input. -/
def keysBytesWrong : ChangeSpec := { name := "keysBytes", fn := fun _ => fun
  | [d] => { results := [.lit (.bool false)], args := [d] }
  | _ => none }
def KeysBytesWrongFalsely : Prop := keysBytesRow.holds Try.pinned (OpenSpec.ofChange keysBytesWrong)

/-- 'dowserlaw21.KeysReads': WHATEVER THE INPUT: true; the input reads as it did. -/
def keysReadsSpec : ChangeSpec := { name := "keysReads", fn := fun _ => fun
  | [d] => { results := [.lit (.bool true)], args := [d] }
  | _ => none }
def keysReadsRow : OpenClaim := { program := "ytogngmbjkdffaaa", sum := "18e0e3ac85c0cbb0ad5cf8c9dd86bb07f1ce7410f6e34fa2e3b6a31ed226a8db", func := "dowser/dowserlaw21.KeysReads", spec := "keysReads", unfollowed := true, recurses := true, apart := false }
def KeysReadsSaid : Prop := keysReadsRow.holds Try.pinned (OpenSpec.ofChange keysReadsSpec)

/-- ITS FALSE NEIGHBOUR: 'it returns false'. Refute it at one input. -/
def keysReadsWrong : ChangeSpec := { name := "keysReads", fn := fun _ => fun
  | [d] => { results := [.lit (.bool false)], args := [d] }
  | _ => none }
def KeysReadsWrongFalsely : Prop := keysReadsRow.holds Try.pinned (OpenSpec.ofChange keysReadsWrong)

/-- 'dowserlaw21.KeysOrder': WHATEVER THE INPUT: true; the input reads as it did. -/
def keysOrderSpec : ChangeSpec := { name := "keysOrder", fn := fun _ => fun
  | [d1, d2] => { results := [.lit (.bool true)], args := [d1, d2] }
  | _ => none }
def keysOrderRow : OpenClaim := { program := "ytogngmbjkdffaaa", sum := "18e0e3ac85c0cbb0ad5cf8c9dd86bb07f1ce7410f6e34fa2e3b6a31ed226a8db", func := "dowser/dowserlaw21.KeysOrder", spec := "keysOrder", unfollowed := true, recurses := true, apart := false }
def KeysOrderSaid : Prop := keysOrderRow.holds Try.pinned (OpenSpec.ofChange keysOrderSpec)

/-- ITS FALSE NEIGHBOUR: 'it returns false'. Refute it at one input. -/
def keysOrderWrong : ChangeSpec := { name := "keysOrder", fn := fun _ => fun
  | [d1, d2] => { results := [.lit (.bool false)], args := [d1, d2] }
  | _ => none }
def KeysOrderWrongFalsely : Prop := keysOrderRow.holds Try.pinned (OpenSpec.ofChange keysOrderWrong)

/-- 'dowserlaw21.KeysValues': WHATEVER THE INPUT: true; the input reads as it did. -/
def keysValuesSpec : ChangeSpec := { name := "keysValues", fn := fun _ => fun
  | [d1, d2, d3] => { results := [.lit (.bool true)], args := [d1, d2, d3] }
  | _ => none }
def keysValuesRow : OpenClaim := { program := "ytogngmbjkdffaaa", sum := "18e0e3ac85c0cbb0ad5cf8c9dd86bb07f1ce7410f6e34fa2e3b6a31ed226a8db", func := "dowser/dowserlaw21.KeysValues", spec := "keysValues", apart := false }
def KeysValuesSaid : Prop := keysValuesRow.holds Try.pinned (OpenSpec.ofChange keysValuesSpec)

/-- ITS FALSE NEIGHBOUR: 'it returns false'. Refute it at one input. -/
def keysValuesWrong : ChangeSpec := { name := "keysValues", fn := fun _ => fun
  | [d1, d2, d3] => { results := [.lit (.bool false)], args := [d1, d2, d3] }
  | _ => none }
def KeysValuesWrongFalsely : Prop := keysValuesRow.holds Try.pinned (OpenSpec.ofChange keysValuesWrong)

/- THE SECOND FORM. 'bulk': how many values and letters a reading holds, each counted each time it is reached (what is shared counts as often as it is met; a slice's spare places count too). A statement '..UptoSaid' is the law's where the arguments, and the package variables that the reading takes, are together of bulk at most 1048576: NARROWER than '..Said'. Prove '..Said' where nothing that the law and all that it calls make is longer than what came in: it says more and counts as full. Else prove '..UptoSaid'. A law counts once. -/
mutual
def uptoBulk {H : Type} : DataW H → Nat
  | .lit (.string bytes) => bytes.length + 1
  | .lit _ => 1
  | .nil => 1
  | .ptr d => uptoBulk d + 1
  | .slice elems spare => uptoBulkAll elems + uptoBulkAll spare + 1
  | .agg parts => uptoBulkAll parts + 1
  | .iface _ d => uptoBulk d + 1
  | .map entries => uptoBulkEntries entries + 1
  | .held _ => 1
def uptoBulkAll {H : Type} : List (DataW H) → Nat
  | [] => 0
  | d :: r => uptoBulk d + uptoBulkAll r
def uptoBulkEntries {H : Type} : List (Lit × DataW H) → Nat
  | [] => 0
  | x :: r => uptoBulkEntry x + uptoBulkEntries r
def uptoBulkEntry {H : Type} : Lit × DataW H → Nat
  | (.string bytes, d) => bytes.length + uptoBulk d + 1
  | (_, d) => uptoBulk d + 1
 end
def uptoSmall : (H : Type) → List (DataW H) → Bool := fun _ ds => decide (uptoBulkAll ds ≤ 1048576)
def OpenSpec.upto (s : _root_.Go.ChangeSpec) : _root_.Go.OpenSpec := { _root_.Go.OpenSpec.ofChange s with cond := some uptoSmall }

/-- 'dowserlaw21.KeysBytes', WHERE WHAT IT READS IS OF BULK AT MOST 1048576: true; the input reads as it did. -/
def keysBytesUptoRow : OpenClaim := { program := "ytogngmbjkdffaaa", sum := "18e0e3ac85c0cbb0ad5cf8c9dd86bb07f1ce7410f6e34fa2e3b6a31ed226a8db", func := "dowser/dowserlaw21.KeysBytes", spec := "keysBytes", unfollowed := true, recurses := true, apart := false, narrowed := true }
def KeysBytesUptoSaid : Prop := keysBytesUptoRow.holds Try.pinned (OpenSpec.upto keysBytesSpec)

/-- 'dowserlaw21.KeysReads', WHERE WHAT IT READS IS OF BULK AT MOST 1048576: true; the input reads as it did. -/
def keysReadsUptoRow : OpenClaim := { program := "ytogngmbjkdffaaa", sum := "18e0e3ac85c0cbb0ad5cf8c9dd86bb07f1ce7410f6e34fa2e3b6a31ed226a8db", func := "dowser/dowserlaw21.KeysReads", spec := "keysReads", unfollowed := true, recurses := true, apart := false, narrowed := true }
def KeysReadsUptoSaid : Prop := keysReadsUptoRow.holds Try.pinned (OpenSpec.upto keysReadsSpec)

/-- 'dowserlaw21.KeysOrder', WHERE WHAT IT READS IS OF BULK AT MOST 1048576: true; the input reads as it did. -/
def keysOrderUptoRow : OpenClaim := { program := "ytogngmbjkdffaaa", sum := "18e0e3ac85c0cbb0ad5cf8c9dd86bb07f1ce7410f6e34fa2e3b6a31ed226a8db", func := "dowser/dowserlaw21.KeysOrder", spec := "keysOrder", unfollowed := true, recurses := true, apart := false, narrowed := true }
def KeysOrderUptoSaid : Prop := keysOrderUptoRow.holds Try.pinned (OpenSpec.upto keysOrderSpec)

/-- 'dowserlaw21.KeysValues', WHERE WHAT IT READS IS OF BULK AT MOST 1048576: true; the input reads as it did. -/
def keysValuesUptoRow : OpenClaim := { program := "ytogngmbjkdffaaa", sum := "18e0e3ac85c0cbb0ad5cf8c9dd86bb07f1ce7410f6e34fa2e3b6a31ed226a8db", func := "dowser/dowserlaw21.KeysValues", spec := "keysValues", apart := false, narrowed := true }
def KeysValuesUptoSaid : Prop := keysValuesUptoRow.holds Try.pinned (OpenSpec.upto keysValuesSpec)

end Rows
end Go.Proofs.Ytogngmbjkdffaaa
