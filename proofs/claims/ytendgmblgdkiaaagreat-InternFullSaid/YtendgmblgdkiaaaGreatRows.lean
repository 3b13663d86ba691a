/-
  No cell of these rows narrows 'for every input' (looked for: loops, veiled, ifaces, maps, wideKeys, modest, calm, conditions, laid).
  DERIVED. THE GIVEN ROWS OF THIS SEAT. 17 by the template 'for every input the law returns true; each argument reads behind the call as it read before'; 0 by the template 'total and deterministic' (their statements: YtendgmblgdkiaaaGreatTotals.lean).
  GIVEN WITH THE SEED: the statements are not yours to turn. If you find one false, say at which input.
  Laid BY PROGRAM, IN A SANDBOX (cutbox-rows.mjs): the forced cells as the released guide's own fill.sh prints them over the translation d10356d5f36b00f8… (all of the seat's roots in one cut). By AI agents, Wed Nov 11 2026. No macro, syntax, notation, axiom, sorry.
-/
import Derived.Test.YtendgmblgdkiaaaGreatChecked
import GoSem.Claim
import GoSem.ClaimJoined
import GoSem.ClaimMapViews
import Derived.JoinedTies
import Derived.KernelRfl
namespace Go.Proofs.YtendgmblgdkiaaaGreat
/- THE CELL 'sum', in the pinned program and in every row, IS THE sha256 OF THE DUMP (.gsa) THAT YtendgmblgdkiaaaGreatProg.lean LOADS. Nothing in Lean hashes anything: it is a label: what it is worth is what the hold of that sum in a sandbox is worth. -/
noncomputable def Tryz.pinned : Pinned := { name := "ytendgmblgdkiaaagreat", sum := "d10356d5f36b00f8cd90adb7827e303a770be1ce95ebede71da7f98c1f366567", checked := Tryz.checked }
namespace Rows
def none {H : Type} : Left H := { results := [], args := [] }

/-- 'dowserlaw10.TreeAnyOrder': WHATEVER THE INPUT: true; the input reads as it did. -/
def treeAnyOrderSpec : ChangeSpec := { name := "treeAnyOrder", fn := fun _ => fun
  | [d1, d2] => { results := [.lit (.bool true)], args := [d1, d2] }
  | _ => none }
def treeAnyOrderRow : OpenClaim := { program := "ytendgmblgdkiaaagreat", sum := "d10356d5f36b00f8cd90adb7827e303a770be1ce95ebede71da7f98c1f366567", func := "dowser/dowserlaw10.TreeAnyOrder", spec := "treeAnyOrder", inPlace := ["internal/abi.NoEscape", "internal/bytealg.MakeNoZero", "slices.overlaps[string]", "slices.overlaps[int]"], unfollowed := true, recurses := true, apart := false }
def TreeAnyOrderSaid : Prop := treeAnyOrderRow.holds Tryz.pinned (OpenSpec.ofChange treeAnyOrderSpec)

/-- ITS FALSE NEIGHBOUR: 'it returns false'. Refute it at one input. -/
def treeAnyOrderWrong : ChangeSpec := { name := "treeAnyOrder", fn := fun _ => fun
  | [d1, d2] => { results := [.lit (.bool false)], args := [d1, d2] }
  | _ => none }
def TreeAnyOrderWrongFalsely : Prop := treeAnyOrderRow.holds Tryz.pinned (OpenSpec.ofChange treeAnyOrderWrong)

/-- 'dowserlaw10.TreeKeeps': WHATEVER THE INPUT: true; the input reads as it did. -/
def treeKeepsSpec : ChangeSpec := { name := "treeKeeps", fn := fun _ => fun
  | [d] => { results := [.lit (.bool true)], args := [d] }
  | _ => none }
def treeKeepsRow : OpenClaim := { program := "ytendgmblgdkiaaagreat", sum := "d10356d5f36b00f8cd90adb7827e303a770be1ce95ebede71da7f98c1f366567", func := "dowser/dowserlaw10.TreeKeeps", spec := "treeKeeps", inPlace := ["internal/abi.NoEscape", "internal/bytealg.MakeNoZero", "slices.overlaps[string]", "slices.overlaps[int]"], unfollowed := true, recurses := true, apart := false }
def TreeKeepsSaid : Prop := treeKeepsRow.holds Tryz.pinned (OpenSpec.ofChange treeKeepsSpec)

/-- ITS FALSE NEIGHBOUR: 'it returns false'. Refute it at one input. -/
def treeKeepsWrong : ChangeSpec := { name := "treeKeeps", fn := fun _ => fun
  | [d] => { results := [.lit (.bool false)], args := [d] }
  | _ => none }
def TreeKeepsWrongFalsely : Prop := treeKeepsRow.holds Tryz.pinned (OpenSpec.ofChange treeKeepsWrong)

/-- 'dowserlaw10.TreeMany': WHATEVER THE INPUT: true; the input reads as it did. -/
def treeManySpec : ChangeSpec := { name := "treeMany", fn := fun _ => fun
  | [d1, d2, d3] => { results := [.lit (.bool true)], args := [d1, d2, d3] }
  | _ => none }
def treeManyRow : OpenClaim := { program := "ytendgmblgdkiaaagreat", sum := "d10356d5f36b00f8cd90adb7827e303a770be1ce95ebede71da7f98c1f366567", func := "dowser/dowserlaw10.TreeMany", spec := "treeMany", inPlace := ["internal/abi.NoEscape", "internal/bytealg.MakeNoZero", "slices.overlaps[string]", "slices.overlaps[int]"], unfollowed := true, recurses := true, apart := false }
def TreeManySaid : Prop := treeManyRow.holds Tryz.pinned (OpenSpec.ofChange treeManySpec)

/-- ITS FALSE NEIGHBOUR: 'it returns false'. Refute it at one input. -/
def treeManyWrong : ChangeSpec := { name := "treeMany", fn := fun _ => fun
  | [d1, d2, d3] => { results := [.lit (.bool false)], args := [d1, d2, d3] }
  | _ => none }
def TreeManyWrongFalsely : Prop := treeManyRow.holds Tryz.pinned (OpenSpec.ofChange treeManyWrong)

/-- 'dowserlaw11.CursorGoes': WHATEVER THE INPUT: true; the input reads as it did. -/
def cursorGoesSpec : ChangeSpec := { name := "cursorGoes", fn := fun _ => fun
  | [d1, d2] => { results := [.lit (.bool true)], args := [d1, d2] }
  | _ => none }
def cursorGoesRow : OpenClaim := { program := "ytendgmblgdkiaaagreat", sum := "d10356d5f36b00f8cd90adb7827e303a770be1ce95ebede71da7f98c1f366567", func := "dowser/dowserlaw11.CursorGoes", spec := "cursorGoes", inPlace := ["internal/abi.NoEscape", "internal/bytealg.MakeNoZero", "slices.overlaps[string]", "slices.overlaps[int]"], unfollowed := true, recurses := true, apart := false }
def CursorGoesSaid : Prop := cursorGoesRow.holds Tryz.pinned (OpenSpec.ofChange cursorGoesSpec)

/-- ITS FALSE NEIGHBOUR: 'it returns false'. Refute it at one input. -/
def cursorGoesWrong : ChangeSpec := { name := "cursorGoes", fn := fun _ => fun
  | [d1, d2] => { results := [.lit (.bool false)], args := [d1, d2] }
  | _ => none }
def CursorGoesWrongFalsely : Prop := cursorGoesRow.holds Tryz.pinned (OpenSpec.ofChange cursorGoesWrong)

/-- 'dowserlaw11.CursorFirst': WHATEVER THE INPUT: true; the input reads as it did. -/
def cursorFirstSpec : ChangeSpec := { name := "cursorFirst", fn := fun _ => fun
  | [d1, d2] => { results := [.lit (.bool true)], args := [d1, d2] }
  | _ => none }
def cursorFirstRow : OpenClaim := { program := "ytendgmblgdkiaaagreat", sum := "d10356d5f36b00f8cd90adb7827e303a770be1ce95ebede71da7f98c1f366567", func := "dowser/dowserlaw11.CursorFirst", spec := "cursorFirst", inPlace := ["internal/abi.NoEscape", "internal/bytealg.MakeNoZero", "slices.overlaps[string]", "slices.overlaps[int]"], unfollowed := true, recurses := true, apart := false }
def CursorFirstSaid : Prop := cursorFirstRow.holds Tryz.pinned (OpenSpec.ofChange cursorFirstSpec)

/-- ITS FALSE NEIGHBOUR: 'it returns false'. Refute it at one input. -/
def cursorFirstWrong : ChangeSpec := { name := "cursorFirst", fn := fun _ => fun
  | [d1, d2] => { results := [.lit (.bool false)], args := [d1, d2] }
  | _ => none }
def CursorFirstWrongFalsely : Prop := cursorFirstRow.holds Tryz.pinned (OpenSpec.ofChange cursorFirstWrong)

/-- 'dowserlaw11.CursorAll': WHATEVER THE INPUT: true; the input reads as it did. -/
def cursorAllSpec : ChangeSpec := { name := "cursorAll", fn := fun _ => fun
  | [d1, d2] => { results := [.lit (.bool true)], args := [d1, d2] }
  | _ => none }
def cursorAllRow : OpenClaim := { program := "ytendgmblgdkiaaagreat", sum := "d10356d5f36b00f8cd90adb7827e303a770be1ce95ebede71da7f98c1f366567", func := "dowser/dowserlaw11.CursorAll", spec := "cursorAll", inPlace := ["internal/abi.NoEscape", "internal/bytealg.MakeNoZero", "slices.overlaps[string]", "slices.overlaps[int]"], unfollowed := true, recurses := true, apart := false }
def CursorAllSaid : Prop := cursorAllRow.holds Tryz.pinned (OpenSpec.ofChange cursorAllSpec)

/-- ITS FALSE NEIGHBOUR: 'it returns false'. Refute it at one input. -/
def cursorAllWrong : ChangeSpec := { name := "cursorAll", fn := fun _ => fun
  | [d1, d2] => { results := [.lit (.bool false)], args := [d1, d2] }
  | _ => none }
def CursorAllWrongFalsely : Prop := cursorAllRow.holds Tryz.pinned (OpenSpec.ofChange cursorAllWrong)

/-- 'dowserlaw14.InternTwins': WHATEVER THE INPUT: true; the input reads as it did. -/
def internTwinsSpec : ChangeSpec := { name := "internTwins", fn := fun _ => fun
  | [d1, d2] => { results := [.lit (.bool true)], args := [d1, d2] }
  | _ => none }
def internTwinsRow : OpenClaim := { program := "ytendgmblgdkiaaagreat", sum := "d10356d5f36b00f8cd90adb7827e303a770be1ce95ebede71da7f98c1f366567", func := "dowser/dowserlaw14.InternTwins", spec := "internTwins", inPlace := ["internal/abi.NoEscape", "internal/bytealg.MakeNoZero", "slices.overlaps[string]", "slices.overlaps[int]"], unfollowed := true, recurses := true, apart := false }
def InternTwinsSaid : Prop := internTwinsRow.holds Tryz.pinned (OpenSpec.ofChange internTwinsSpec)

/-- ITS FALSE NEIGHBOUR: 'it returns false'. Refute it at one input. -/
def internTwinsWrong : ChangeSpec := { name := "internTwins", fn := fun _ => fun
  | [d1, d2] => { results := [.lit (.bool false)], args := [d1, d2] }
  | _ => none }
def InternTwinsWrongFalsely : Prop := internTwinsRow.holds Tryz.pinned (OpenSpec.ofChange internTwinsWrong)

/-- 'dowserlaw14.InternOnce': WHATEVER THE INPUT: true; the input reads as it did. -/
def internOnceSpec : ChangeSpec := { name := "internOnce", fn := fun _ => fun
  | [d1, d2, d3] => { results := [.lit (.bool true)], args := [d1, d2, d3] }
  | _ => none }
def internOnceRow : OpenClaim := { program := "ytendgmblgdkiaaagreat", sum := "d10356d5f36b00f8cd90adb7827e303a770be1ce95ebede71da7f98c1f366567", func := "dowser/dowserlaw14.InternOnce", spec := "internOnce", inPlace := ["internal/abi.NoEscape", "internal/bytealg.MakeNoZero", "slices.overlaps[string]", "slices.overlaps[int]"], unfollowed := true, recurses := true, apart := false }
def InternOnceSaid : Prop := internOnceRow.holds Tryz.pinned (OpenSpec.ofChange internOnceSpec)

/-- ITS FALSE NEIGHBOUR: 'it returns false'. Refute it at one input. -/
def internOnceWrong : ChangeSpec := { name := "internOnce", fn := fun _ => fun
  | [d1, d2, d3] => { results := [.lit (.bool false)], args := [d1, d2, d3] }
  | _ => none }
def InternOnceWrongFalsely : Prop := internOnceRow.holds Tryz.pinned (OpenSpec.ofChange internOnceWrong)

/-- 'dowserlaw14.InternFull': WHATEVER THE INPUT: true; the input reads as it did. -/
def internFullSpec : ChangeSpec := { name := "internFull", fn := fun _ => fun
  | [d1, d2] => { results := [.lit (.bool true)], args := [d1, d2] }
  | _ => none }
def internFullRow : OpenClaim := { program := "ytendgmblgdkiaaagreat", sum := "d10356d5f36b00f8cd90adb7827e303a770be1ce95ebede71da7f98c1f366567", func := "dowser/dowserlaw14.InternFull", spec := "internFull", inPlace := ["internal/abi.NoEscape", "internal/bytealg.MakeNoZero", "slices.overlaps[string]", "slices.overlaps[int]"], unfollowed := true, recurses := true, apart := false }
def InternFullSaid : Prop := internFullRow.holds Tryz.pinned (OpenSpec.ofChange internFullSpec)

/-- ITS FALSE NEIGHBOUR: 'it returns false'. Refute it at one input. -/
def internFullWrong : ChangeSpec := { name := "internFull", fn := fun _ => fun
  | [d1, d2] => { results := [.lit (.bool false)], args := [d1, d2] }
  | _ => none }
def InternFullWrongFalsely : Prop := internFullRow.holds Tryz.pinned (OpenSpec.ofChange internFullWrong)

/-- 'dowserlaw14.InternKeys': WHATEVER THE INPUT: true; the input reads as it did. -/
def internKeysSpec : ChangeSpec := { name := "internKeys", fn := fun _ => fun
  | [d1, d2] => { results := [.lit (.bool true)], args := [d1, d2] }
  | _ => none }
def internKeysRow : OpenClaim := { program := "ytendgmblgdkiaaagreat", sum := "d10356d5f36b00f8cd90adb7827e303a770be1ce95ebede71da7f98c1f366567", func := "dowser/dowserlaw14.InternKeys", spec := "internKeys", inPlace := ["internal/abi.NoEscape", "internal/bytealg.MakeNoZero", "slices.overlaps[string]", "slices.overlaps[int]"], unfollowed := true, recurses := true, apart := false }
def InternKeysSaid : Prop := internKeysRow.holds Tryz.pinned (OpenSpec.ofChange internKeysSpec)

/-- ITS FALSE NEIGHBOUR: 'it returns false'. Refute it at one input. -/
def internKeysWrong : ChangeSpec := { name := "internKeys", fn := fun _ => fun
  | [d1, d2] => { results := [.lit (.bool false)], args := [d1, d2] }
  | _ => none }
def InternKeysWrongFalsely : Prop := internKeysRow.holds Tryz.pinned (OpenSpec.ofChange internKeysWrong)

/-- 'dowserlaw14.InternBeside': WHATEVER THE INPUT: true; the input reads as it did. -/
def internBesideSpec : ChangeSpec := { name := "internBeside", fn := fun _ => fun
  | [d1, d2, d3] => { results := [.lit (.bool true)], args := [d1, d2, d3] }
  | _ => none }
def internBesideRow : OpenClaim := { program := "ytendgmblgdkiaaagreat", sum := "d10356d5f36b00f8cd90adb7827e303a770be1ce95ebede71da7f98c1f366567", func := "dowser/dowserlaw14.InternBeside", spec := "internBeside", inPlace := ["internal/abi.NoEscape", "internal/bytealg.MakeNoZero", "slices.overlaps[string]", "slices.overlaps[int]"], unfollowed := true, recurses := true, apart := false }
def InternBesideSaid : Prop := internBesideRow.holds Tryz.pinned (OpenSpec.ofChange internBesideSpec)

/-- ITS FALSE NEIGHBOUR: 'it returns false'. Refute it at one input. -/
def internBesideWrong : ChangeSpec := { name := "internBeside", fn := fun _ => fun
  | [d1, d2, d3] => { results := [.lit (.bool false)], args := [d1, d2, d3] }
  | _ => none }
def InternBesideWrongFalsely : Prop := internBesideRow.holds Tryz.pinned (OpenSpec.ofChange internBesideWrong)

/-- 'dowserlaw14.InternValues': WHATEVER THE INPUT: true; the input reads as it did. -/
def internValuesSpec : ChangeSpec := { name := "internValues", fn := fun _ => fun
  | [d1, d2, d3] => { results := [.lit (.bool true)], args := [d1, d2, d3] }
  | _ => none }
def internValuesRow : OpenClaim := { program := "ytendgmblgdkiaaagreat", sum := "d10356d5f36b00f8cd90adb7827e303a770be1ce95ebede71da7f98c1f366567", func := "dowser/dowserlaw14.InternValues", spec := "internValues", inPlace := ["internal/abi.NoEscape", "internal/bytealg.MakeNoZero", "slices.overlaps[string]", "slices.overlaps[int]"], unfollowed := true, recurses := true, apart := false }
def InternValuesSaid : Prop := internValuesRow.holds Tryz.pinned (OpenSpec.ofChange internValuesSpec)

/-- ITS FALSE NEIGHBOUR: 'it returns false'. Refute it at one input. -/
def internValuesWrong : ChangeSpec := { name := "internValues", fn := fun _ => fun
  | [d1, d2, d3] => { results := [.lit (.bool false)], args := [d1, d2, d3] }
  | _ => none }
def InternValuesWrongFalsely : Prop := internValuesRow.holds Tryz.pinned (OpenSpec.ofChange internValuesWrong)

/-- 'dowserlaw12.BuildCopies': WHATEVER THE INPUT: true; the input reads as it did. -/
def buildCopiesSpec : ChangeSpec := { name := "buildCopies", fn := fun _ => fun
  | [d1, d2, d3] => { results := [.lit (.bool true)], args := [d1, d2, d3] }
  | _ => none }
def buildCopiesRow : OpenClaim := { program := "ytendgmblgdkiaaagreat", sum := "d10356d5f36b00f8cd90adb7827e303a770be1ce95ebede71da7f98c1f366567", func := "dowser/dowserlaw12.BuildCopies", spec := "buildCopies", inPlace := ["internal/abi.NoEscape", "internal/bytealg.MakeNoZero", "slices.overlaps[string]", "slices.overlaps[int]"], unfollowed := true, recurses := true, apart := false }
def BuildCopiesSaid : Prop := buildCopiesRow.holds Tryz.pinned (OpenSpec.ofChange buildCopiesSpec)

/-- ITS FALSE NEIGHBOUR: 'it returns false'. Refute it at one input. -/
def buildCopiesWrong : ChangeSpec := { name := "buildCopies", fn := fun _ => fun
  | [d1, d2, d3] => { results := [.lit (.bool false)], args := [d1, d2, d3] }
  | _ => none }
def BuildCopiesWrongFalsely : Prop := buildCopiesRow.holds Tryz.pinned (OpenSpec.ofChange buildCopiesWrong)

/-- 'dowserlaw12.BuildTrees': WHATEVER THE INPUT: true; the input reads as it did. -/
def buildTreesSpec : ChangeSpec := { name := "buildTrees", fn := fun _ => fun
  | [d1, d2] => { results := [.lit (.bool true)], args := [d1, d2] }
  | _ => none }
def buildTreesRow : OpenClaim := { program := "ytendgmblgdkiaaagreat", sum := "d10356d5f36b00f8cd90adb7827e303a770be1ce95ebede71da7f98c1f366567", func := "dowser/dowserlaw12.BuildTrees", spec := "buildTrees", inPlace := ["internal/abi.NoEscape", "internal/bytealg.MakeNoZero", "slices.overlaps[string]", "slices.overlaps[int]"], unfollowed := true, recurses := true, apart := false }
def BuildTreesSaid : Prop := buildTreesRow.holds Tryz.pinned (OpenSpec.ofChange buildTreesSpec)

/-- ITS FALSE NEIGHBOUR: 'it returns false'. Refute it at one input. -/
def buildTreesWrong : ChangeSpec := { name := "buildTrees", fn := fun _ => fun
  | [d1, d2] => { results := [.lit (.bool false)], args := [d1, d2] }
  | _ => none }
def BuildTreesWrongFalsely : Prop := buildTreesRow.holds Tryz.pinned (OpenSpec.ofChange buildTreesWrong)

/-- 'dowserlaw22.BaseNothing': WHATEVER THE INPUT: true; the input reads as it did. -/
def baseNothingSpec : ChangeSpec := { name := "baseNothing", fn := fun _ => fun
  | [d1, d2] => { results := [.lit (.bool true)], args := [d1, d2] }
  | _ => none }
def baseNothingRow : OpenClaim := { program := "ytendgmblgdkiaaagreat", sum := "d10356d5f36b00f8cd90adb7827e303a770be1ce95ebede71da7f98c1f366567", func := "dowser/dowserlaw22.BaseNothing", spec := "baseNothing", inPlace := ["internal/abi.NoEscape", "internal/bytealg.MakeNoZero", "slices.overlaps[string]", "slices.overlaps[int]"], unfollowed := true, recurses := true, apart := false }
def BaseNothingSaid : Prop := baseNothingRow.holds Tryz.pinned (OpenSpec.ofChange baseNothingSpec)

/-- ITS FALSE NEIGHBOUR: 'it returns false'. Refute it at one input. -/
def baseNothingWrong : ChangeSpec := { name := "baseNothing", fn := fun _ => fun
  | [d1, d2] => { results := [.lit (.bool false)], args := [d1, d2] }
  | _ => none }
def BaseNothingWrongFalsely : Prop := baseNothingRow.holds Tryz.pinned (OpenSpec.ofChange baseNothingWrong)

/-- 'dowserlaw22.BaseAgain': WHATEVER THE INPUT: true; the input reads as it did. -/
def baseAgainSpec : ChangeSpec := { name := "baseAgain", fn := fun _ => fun
  | [d1, d2] => { results := [.lit (.bool true)], args := [d1, d2] }
  | _ => none }
def baseAgainRow : OpenClaim := { program := "ytendgmblgdkiaaagreat", sum := "d10356d5f36b00f8cd90adb7827e303a770be1ce95ebede71da7f98c1f366567", func := "dowser/dowserlaw22.BaseAgain", spec := "baseAgain", inPlace := ["internal/abi.NoEscape", "internal/bytealg.MakeNoZero", "slices.overlaps[string]", "slices.overlaps[int]"], unfollowed := true, recurses := true, apart := false }
def BaseAgainSaid : Prop := baseAgainRow.holds Tryz.pinned (OpenSpec.ofChange baseAgainSpec)

/-- ITS FALSE NEIGHBOUR: 'it returns false'. Refute it at one input. -/
def baseAgainWrong : ChangeSpec := { name := "baseAgain", fn := fun _ => fun
  | [d1, d2] => { results := [.lit (.bool false)], args := [d1, d2] }
  | _ => none }
def BaseAgainWrongFalsely : Prop := baseAgainRow.holds Tryz.pinned (OpenSpec.ofChange baseAgainWrong)

/-- 'dowserlaw22.BaseWhole': WHATEVER THE INPUT: true; the input reads as it did. -/
def baseWholeSpec : ChangeSpec := { name := "baseWhole", fn := fun _ => fun
  | [d1, d2] => { results := [.lit (.bool true)], args := [d1, d2] }
  | _ => none }
def baseWholeRow : OpenClaim := { program := "ytendgmblgdkiaaagreat", sum := "d10356d5f36b00f8cd90adb7827e303a770be1ce95ebede71da7f98c1f366567", func := "dowser/dowserlaw22.BaseWhole", spec := "baseWhole", inPlace := ["internal/abi.NoEscape", "internal/bytealg.MakeNoZero", "slices.overlaps[string]", "slices.overlaps[int]"], unfollowed := true, recurses := true, apart := false }
def BaseWholeSaid : Prop := baseWholeRow.holds Tryz.pinned (OpenSpec.ofChange baseWholeSpec)

/-- ITS FALSE NEIGHBOUR: 'it returns false'. Refute it at one input. -/
def baseWholeWrong : ChangeSpec := { name := "baseWhole", fn := fun _ => fun
  | [d1, d2] => { results := [.lit (.bool false)], args := [d1, d2] }
  | _ => none }
def BaseWholeWrongFalsely : Prop := baseWholeRow.holds Tryz.pinned (OpenSpec.ofChange baseWholeWrong)

/- THE SECOND FORM. 'bulk': how many values and letters a reading holds, each counted each time it is reached (what is shared counts as often as it is met; a slice's spare places count too). A statement '..UptoSaid' is the law's where the arguments, and the package variables that the reading takes, are together of bulk at most 1048576: NARROWER than '..Said'. Prove '..Said' where nothing that the law and all that it calls make is longer than what came in: it says more and counts as full. Else prove '..UptoSaid'. A law counts once. -/
mutual
def uptoBulk {H : Type} : DataW H → Nat
  | .lit (.string bytes) => bytes.length + 1
  | .lit _ => 1
  | .nil => 1
  | .ptr d => uptoBulk d + 1
  | .slice elems spare => uptoBulkAll elems + uptoBulkAll spare + 1
  | .agg parts => uptoBulkAll parts + 1
  | .iface _ d => uptoBulk d + 1
  | .map entries => uptoBulkEntries entries + 1
  | .held _ => 1
def uptoBulkAll {H : Type} : List (DataW H) → Nat
  | [] => 0
  | d :: r => uptoBulk d + uptoBulkAll r
def uptoBulkEntries {H : Type} : List (Lit × DataW H) → Nat
  | [] => 0
  | x :: r => uptoBulkEntry x + uptoBulkEntries r
def uptoBulkEntry {H : Type} : Lit × DataW H → Nat
  | (.string bytes, d) => bytes.length + uptoBulk d + 1
  | (_, d) => uptoBulk d + 1
 end
def uptoSmall : (H : Type) → List (DataW H) → Bool := fun _ ds => decide (uptoBulkAll ds ≤ 1048576)
def OpenSpec.upto (s : _root_.Go.ChangeSpec) : _root_.Go.OpenSpec := { _root_.Go.OpenSpec.ofChange s with cond := some uptoSmall }

/-- 'dowserlaw10.TreeAnyOrder', WHERE WHAT IT READS IS OF BULK AT MOST 1048576: true; the input reads as it did. -/
def treeAnyOrderUptoRow : OpenClaim := { program := "ytendgmblgdkiaaagreat", sum := "d10356d5f36b00f8cd90adb7827e303a770be1ce95ebede71da7f98c1f366567", func := "dowser/dowserlaw10.TreeAnyOrder", spec := "treeAnyOrder", inPlace := ["internal/abi.NoEscape", "internal/bytealg.MakeNoZero", "slices.overlaps[string]", "slices.overlaps[int]"], unfollowed := true, recurses := true, apart := false, narrowed := true }
def TreeAnyOrderUptoSaid : Prop := treeAnyOrderUptoRow.holds Tryz.pinned (OpenSpec.upto treeAnyOrderSpec)

/-- 'dowserlaw10.TreeKeeps', WHERE WHAT IT READS IS OF BULK AT MOST 1048576: true; the input reads as it did. -/
def treeKeepsUptoRow : OpenClaim := { program := "ytendgmblgdkiaaagreat", sum := "d10356d5f36b00f8cd90adb7827e303a770be1ce95ebede71da7f98c1f366567", func := "dowser/dowserlaw10.TreeKeeps", spec := "treeKeeps", inPlace := ["internal/abi.NoEscape", "internal/bytealg.MakeNoZero", "slices.overlaps[string]", "slices.overlaps[int]"], unfollowed := true, recurses := true, apart := false, narrowed := true }
def TreeKeepsUptoSaid : Prop := treeKeepsUptoRow.holds Tryz.pinned (OpenSpec.upto treeKeepsSpec)

/-- 'dowserlaw10.TreeMany', WHERE WHAT IT READS IS OF BULK AT MOST 1048576: true; the input reads as it did. -/
def treeManyUptoRow : OpenClaim := { program := "ytendgmblgdkiaaagreat", sum := "d10356d5f36b00f8cd90adb7827e303a770be1ce95ebede71da7f98c1f366567", func := "dowser/dowserlaw10.TreeMany", spec := "treeMany", inPlace := ["internal/abi.NoEscape", "internal/bytealg.MakeNoZero", "slices.overlaps[string]", "slices.overlaps[int]"], unfollowed := true, recurses := true, apart := false, narrowed := true }
def TreeManyUptoSaid : Prop := treeManyUptoRow.holds Tryz.pinned (OpenSpec.upto treeManySpec)

/-- 'dowserlaw11.CursorGoes', WHERE WHAT IT READS IS OF BULK AT MOST 1048576: true; the input reads as it did. -/
def cursorGoesUptoRow : OpenClaim := { program := "ytendgmblgdkiaaagreat", sum := "d10356d5f36b00f8cd90adb7827e303a770be1ce95ebede71da7f98c1f366567", func := "dowser/dowserlaw11.CursorGoes", spec := "cursorGoes", inPlace := ["internal/abi.NoEscape", "internal/bytealg.MakeNoZero", "slices.overlaps[string]", "slices.overlaps[int]"], unfollowed := true, recurses := true, apart := false, narrowed := true }
def CursorGoesUptoSaid : Prop := cursorGoesUptoRow.holds Tryz.pinned (OpenSpec.upto cursorGoesSpec)

/-- 'dowserlaw11.CursorFirst', WHERE WHAT IT READS IS OF BULK AT MOST 1048576: true; the input reads as it did. -/
def cursorFirstUptoRow : OpenClaim := { program := "ytendgmblgdkiaaagreat", sum := "d10356d5f36b00f8cd90adb7827e303a770be1ce95ebede71da7f98c1f366567", func := "dowser/dowserlaw11.CursorFirst", spec := "cursorFirst", inPlace := ["internal/abi.NoEscape", "internal/bytealg.MakeNoZero", "slices.overlaps[string]", "slices.overlaps[int]"], unfollowed := true, recurses := true, apart := false, narrowed := true }
def CursorFirstUptoSaid : Prop := cursorFirstUptoRow.holds Tryz.pinned (OpenSpec.upto cursorFirstSpec)

/-- 'dowserlaw11.CursorAll', WHERE WHAT IT READS IS OF BULK AT MOST 1048576: true; the input reads as it did. -/
def cursorAllUptoRow : OpenClaim := { program := "ytendgmblgdkiaaagreat", sum := "d10356d5f36b00f8cd90adb7827e303a770be1ce95ebede71da7f98c1f366567", func := "dowser/dowserlaw11.CursorAll", spec := "cursorAll", inPlace := ["internal/abi.NoEscape", "internal/bytealg.MakeNoZero", "slices.overlaps[string]", "slices.overlaps[int]"], unfollowed := true, recurses := true, apart := false, narrowed := true }
def CursorAllUptoSaid : Prop := cursorAllUptoRow.holds Tryz.pinned (OpenSpec.upto cursorAllSpec)

/-- 'dowserlaw14.InternTwins', WHERE WHAT IT READS IS OF BULK AT MOST 1048576: true; the input reads as it did. -/
def internTwinsUptoRow : OpenClaim := { program := "ytendgmblgdkiaaagreat", sum := "d10356d5f36b00f8cd90adb7827e303a770be1ce95ebede71da7f98c1f366567", func := "dowser/dowserlaw14.InternTwins", spec := "internTwins", inPlace := ["internal/abi.NoEscape", "internal/bytealg.MakeNoZero", "slices.overlaps[string]", "slices.overlaps[int]"], unfollowed := true, recurses := true, apart := false, narrowed := true }
def InternTwinsUptoSaid : Prop := internTwinsUptoRow.holds Tryz.pinned (OpenSpec.upto internTwinsSpec)

/-- 'dowserlaw14.InternOnce', WHERE WHAT IT READS IS OF BULK AT MOST 1048576: true; the input reads as it did. -/
def internOnceUptoRow : OpenClaim := { program := "ytendgmblgdkiaaagreat", sum := "d10356d5f36b00f8cd90adb7827e303a770be1ce95ebede71da7f98c1f366567", func := "dowser/dowserlaw14.InternOnce", spec := "internOnce", inPlace := ["internal/abi.NoEscape", "internal/bytealg.MakeNoZero", "slices.overlaps[string]", "slices.overlaps[int]"], unfollowed := true, recurses := true, apart := false, narrowed := true }
def InternOnceUptoSaid : Prop := internOnceUptoRow.holds Tryz.pinned (OpenSpec.upto internOnceSpec)

/-- 'dowserlaw14.InternFull', WHERE WHAT IT READS IS OF BULK AT MOST 1048576: true; the input reads as it did. -/
def internFullUptoRow : OpenClaim := { program := "ytendgmblgdkiaaagreat", sum := "d10356d5f36b00f8cd90adb7827e303a770be1ce95ebede71da7f98c1f366567", func := "dowser/dowserlaw14.InternFull", spec := "internFull", inPlace := ["internal/abi.NoEscape", "internal/bytealg.MakeNoZero", "slices.overlaps[string]", "slices.overlaps[int]"], unfollowed := true, recurses := true, apart := false, narrowed := true }
def InternFullUptoSaid : Prop := internFullUptoRow.holds Tryz.pinned (OpenSpec.upto internFullSpec)

/-- 'dowserlaw14.InternKeys', WHERE WHAT IT READS IS OF BULK AT MOST 1048576: true; the input reads as it did. -/
def internKeysUptoRow : OpenClaim := { program := "ytendgmblgdkiaaagreat", sum := "d10356d5f36b00f8cd90adb7827e303a770be1ce95ebede71da7f98c1f366567", func := "dowser/dowserlaw14.InternKeys", spec := "internKeys", inPlace := ["internal/abi.NoEscape", "internal/bytealg.MakeNoZero", "slices.overlaps[string]", "slices.overlaps[int]"], unfollowed := true, recurses := true, apart := false, narrowed := true }
def InternKeysUptoSaid : Prop := internKeysUptoRow.holds Tryz.pinned (OpenSpec.upto internKeysSpec)

/-- 'dowserlaw14.InternBeside', WHERE WHAT IT READS IS OF BULK AT MOST 1048576: true; the input reads as it did. -/
def internBesideUptoRow : OpenClaim := { program := "ytendgmblgdkiaaagreat", sum := "d10356d5f36b00f8cd90adb7827e303a770be1ce95ebede71da7f98c1f366567", func := "dowser/dowserlaw14.InternBeside", spec := "internBeside", inPlace := ["internal/abi.NoEscape", "internal/bytealg.MakeNoZero", "slices.overlaps[string]", "slices.overlaps[int]"], unfollowed := true, recurses := true, apart := false, narrowed := true }
def InternBesideUptoSaid : Prop := internBesideUptoRow.holds Tryz.pinned (OpenSpec.upto internBesideSpec)

/-- 'dowserlaw14.InternValues', WHERE WHAT IT READS IS OF BULK AT MOST 1048576: true; the input reads as it did. -/
def internValuesUptoRow : OpenClaim := { program := "ytendgmblgdkiaaagreat", sum := "d10356d5f36b00f8cd90adb7827e303a770be1ce95ebede71da7f98c1f366567", func := "dowser/dowserlaw14.InternValues", spec := "internValues", inPlace := ["internal/abi.NoEscape", "internal/bytealg.MakeNoZero", "slices.overlaps[string]", "slices.overlaps[int]"], unfollowed := true, recurses := true, apart := false, narrowed := true }
def InternValuesUptoSaid : Prop := internValuesUptoRow.holds Tryz.pinned (OpenSpec.upto internValuesSpec)

/-- 'dowserlaw12.BuildCopies', WHERE WHAT IT READS IS OF BULK AT MOST 1048576: true; the input reads as it did. -/
def buildCopiesUptoRow : OpenClaim := { program := "ytendgmblgdkiaaagreat", sum := "d10356d5f36b00f8cd90adb7827e303a770be1ce95ebede71da7f98c1f366567", func := "dowser/dowserlaw12.BuildCopies", spec := "buildCopies", inPlace := ["internal/abi.NoEscape", "internal/bytealg.MakeNoZero", "slices.overlaps[string]", "slices.overlaps[int]"], unfollowed := true, recurses := true, apart := false, narrowed := true }
def BuildCopiesUptoSaid : Prop := buildCopiesUptoRow.holds Tryz.pinned (OpenSpec.upto buildCopiesSpec)

/-- 'dowserlaw12.BuildTrees', WHERE WHAT IT READS IS OF BULK AT MOST 1048576: true; the input reads as it did. -/
def buildTreesUptoRow : OpenClaim := { program := "ytendgmblgdkiaaagreat", sum := "d10356d5f36b00f8cd90adb7827e303a770be1ce95ebede71da7f98c1f366567", func := "dowser/dowserlaw12.BuildTrees", spec := "buildTrees", inPlace := ["internal/abi.NoEscape", "internal/bytealg.MakeNoZero", "slices.overlaps[string]", "slices.overlaps[int]"], unfollowed := true, recurses := true, apart := false, narrowed := true }
def BuildTreesUptoSaid : Prop := buildTreesUptoRow.holds Tryz.pinned (OpenSpec.upto buildTreesSpec)

/-- 'dowserlaw22.BaseNothing', WHERE WHAT IT READS IS OF BULK AT MOST 1048576: true; the input reads as it did. -/
def baseNothingUptoRow : OpenClaim := { program := "ytendgmblgdkiaaagreat", sum := "d10356d5f36b00f8cd90adb7827e303a770be1ce95ebede71da7f98c1f366567", func := "dowser/dowserlaw22.BaseNothing", spec := "baseNothing", inPlace := ["internal/abi.NoEscape", "internal/bytealg.MakeNoZero", "slices.overlaps[string]", "slices.overlaps[int]"], unfollowed := true, recurses := true, apart := false, narrowed := true }
def BaseNothingUptoSaid : Prop := baseNothingUptoRow.holds Tryz.pinned (OpenSpec.upto baseNothingSpec)

/-- 'dowserlaw22.BaseAgain', WHERE WHAT IT READS IS OF BULK AT MOST 1048576: true; the input reads as it did. -/
def baseAgainUptoRow : OpenClaim := { program := "ytendgmblgdkiaaagreat", sum := "d10356d5f36b00f8cd90adb7827e303a770be1ce95ebede71da7f98c1f366567", func := "dowser/dowserlaw22.BaseAgain", spec := "baseAgain", inPlace := ["internal/abi.NoEscape", "internal/bytealg.MakeNoZero", "slices.overlaps[string]", "slices.overlaps[int]"], unfollowed := true, recurses := true, apart := false, narrowed := true }
def BaseAgainUptoSaid : Prop := baseAgainUptoRow.holds Tryz.pinned (OpenSpec.upto baseAgainSpec)

/-- 'dowserlaw22.BaseWhole', WHERE WHAT IT READS IS OF BULK AT MOST 1048576: true; the input reads as it did. -/
def baseWholeUptoRow : OpenClaim := { program := "ytendgmblgdkiaaagreat", sum := "d10356d5f36b00f8cd90adb7827e303a770be1ce95ebede71da7f98c1f366567", func := "dowser/dowserlaw22.BaseWhole", spec := "baseWhole", inPlace := ["internal/abi.NoEscape", "internal/bytealg.MakeNoZero", "slices.overlaps[string]", "slices.overlaps[int]"], unfollowed := true, recurses := true, apart := false, narrowed := true }
def BaseWholeUptoSaid : Prop := baseWholeUptoRow.holds Tryz.pinned (OpenSpec.upto baseWholeSpec)

end Rows
end Go.Proofs.YtendgmblgdkiaaaGreat
