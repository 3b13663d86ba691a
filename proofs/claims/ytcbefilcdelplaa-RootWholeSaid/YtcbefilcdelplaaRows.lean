/-
  No cell of these rows narrows 'for every input' (looked for: loops, veiled, ifaces, maps, wideKeys, modest, calm, conditions, laid).
  DERIVED. THE GIVEN ROWS OF THIS SEAT. 10 by the template 'for every input the law returns true; each argument reads behind the call as it read before'; 0 by the template 'total and deterministic' (their statements: YtcbefilcdelplaaTotals.lean).
  GIVEN WITH THE SEED: the statements are not yours to turn. If you find one false, say at which input.
  Laid BY PROGRAM, IN A SANDBOX (cutbox-rows.mjs): the forced cells as the released guide's own fill.sh prints them over the translation f78beff0a5f17740… (all of the seat's roots in one cut). By AI agents, Wed Nov 11 2026. No macro, syntax, notation, axiom, sorry.
-/
import Derived.Test.YtcbefilcdelplaaChecked
import GoSem.Claim
import GoSem.ClaimJoined
import GoSem.ClaimMapViews
import Derived.JoinedTies
import Derived.KernelRfl
namespace Go.Proofs.Ytcbefilcdelplaa
/- THE CELL 'sum', in the pinned program and in every row, IS THE sha256 OF THE DUMP (.gsa) THAT YtcbefilcdelplaaProg.lean LOADS. Nothing in Lean hashes anything: it is a label: what it is worth is what the hold of that sum in a sandbox is worth. -/
noncomputable def Try.pinned : Pinned := { name := "ytcbefilcdelplaa", sum := "f78beff0a5f177406675c943b5377fd734256a4a1c94ad256cddc53ea28a0cbf", checked := Try.checked }
namespace Rows
def none {H : Type} : Left H := { results := [], args := [] }

/-- 'dowserlaw07.PagesSectors': WHATEVER THE INPUT: true; the input reads as it did. -/
def pagesSectorsSpec : ChangeSpec := { name := "pagesSectors", fn := fun _ => fun
  | [d1, d2, d3] => { results := [.lit (.bool true)], args := [d1, d2, d3] }
  | _ => none }
def pagesSectorsRow : OpenClaim := { program := "ytcbefilcdelplaa", sum := "f78beff0a5f177406675c943b5377fd734256a4a1c94ad256cddc53ea28a0cbf", func := "dowser/dowserlaw07.PagesSectors", spec := "pagesSectors", inPlace := ["internal/abi.NoEscape", "internal/bytealg.MakeNoZero"], apart := false }
def PagesSectorsSaid : Prop := pagesSectorsRow.holds Try.pinned (OpenSpec.ofChange pagesSectorsSpec)

/-- ITS FALSE NEIGHBOUR: 'it returns false'. Refute it at one input. -/
def pagesSectorsWrong : ChangeSpec := { name := "pagesSectors", fn := fun _ => fun
  | [d1, d2, d3] => { results := [.lit (.bool false)], args := [d1, d2, d3] }
  | _ => none }
def PagesSectorsWrongFalsely : Prop := pagesSectorsRow.holds Try.pinned (OpenSpec.ofChange pagesSectorsWrong)

/-- 'dowserlaw07.PagesRefuses': WHATEVER THE INPUT: true; the input reads as it did. -/
def pagesRefusesSpec : ChangeSpec := { name := "pagesRefuses", fn := fun _ => fun
  | [d1, d2, d3] => { results := [.lit (.bool true)], args := [d1, d2, d3] }
  | _ => none }
def pagesRefusesRow : OpenClaim := { program := "ytcbefilcdelplaa", sum := "f78beff0a5f177406675c943b5377fd734256a4a1c94ad256cddc53ea28a0cbf", func := "dowser/dowserlaw07.PagesRefuses", spec := "pagesRefuses", inPlace := ["internal/abi.NoEscape", "internal/bytealg.MakeNoZero"], apart := false }
def PagesRefusesSaid : Prop := pagesRefusesRow.holds Try.pinned (OpenSpec.ofChange pagesRefusesSpec)

/-- ITS FALSE NEIGHBOUR: 'it returns false'. Refute it at one input. -/
def pagesRefusesWrong : ChangeSpec := { name := "pagesRefuses", fn := fun _ => fun
  | [d1, d2, d3] => { results := [.lit (.bool false)], args := [d1, d2, d3] }
  | _ => none }
def PagesRefusesWrongFalsely : Prop := pagesRefusesRow.holds Try.pinned (OpenSpec.ofChange pagesRefusesWrong)

/-- 'dowserlaw07.PagesFill': WHATEVER THE INPUT: true; the input reads as it did. -/
def pagesFillSpec : ChangeSpec := { name := "pagesFill", fn := fun _ => fun
  | [d1, d2] => { results := [.lit (.bool true)], args := [d1, d2] }
  | _ => none }
def pagesFillRow : OpenClaim := { program := "ytcbefilcdelplaa", sum := "f78beff0a5f177406675c943b5377fd734256a4a1c94ad256cddc53ea28a0cbf", func := "dowser/dowserlaw07.PagesFill", spec := "pagesFill", inPlace := ["internal/abi.NoEscape", "internal/bytealg.MakeNoZero"], apart := false }
def PagesFillSaid : Prop := pagesFillRow.holds Try.pinned (OpenSpec.ofChange pagesFillSpec)

/-- ITS FALSE NEIGHBOUR: 'it returns false'. Refute it at one input. -/
def pagesFillWrong : ChangeSpec := { name := "pagesFill", fn := fun _ => fun
  | [d1, d2] => { results := [.lit (.bool false)], args := [d1, d2] }
  | _ => none }
def PagesFillWrongFalsely : Prop := pagesFillRow.holds Try.pinned (OpenSpec.ofChange pagesFillWrong)

/-- 'dowserlaw06.RootRefuses': WHATEVER THE INPUT: true; the input reads as it did. -/
def rootRefusesSpec : ChangeSpec := { name := "rootRefuses", fn := fun _ => fun
  | [d] => { results := [.lit (.bool true)], args := [d] }
  | _ => none }
def rootRefusesRow : OpenClaim := { program := "ytcbefilcdelplaa", sum := "f78beff0a5f177406675c943b5377fd734256a4a1c94ad256cddc53ea28a0cbf", func := "dowser/dowserlaw06.RootRefuses", spec := "rootRefuses", inPlace := ["internal/abi.NoEscape", "internal/bytealg.MakeNoZero"], unfollowed := true, recurses := true, apart := false }
def RootRefusesSaid : Prop := rootRefusesRow.holds Try.pinned (OpenSpec.ofChange rootRefusesSpec)

/-- ITS FALSE NEIGHBOUR: 'it returns false'. Refute it at one input. -/
def rootRefusesWrong : ChangeSpec := { name := "rootRefuses", fn := fun _ => fun
  | [d] => { results := [.lit (.bool false)], args := [d] }
  | _ => none }
def RootRefusesWrongFalsely : Prop := rootRefusesRow.holds Try.pinned (OpenSpec.ofChange rootRefusesWrong)

/-- 'dowserlaw05.DiskKeeps': WHATEVER THE INPUT: true; the input reads as it did. -/
def diskKeepsSpec : ChangeSpec := { name := "diskKeeps", fn := fun _ => fun
  | [d1, d2, d3] => { results := [.lit (.bool true)], args := [d1, d2, d3] }
  | _ => none }
def diskKeepsRow : OpenClaim := { program := "ytcbefilcdelplaa", sum := "f78beff0a5f177406675c943b5377fd734256a4a1c94ad256cddc53ea28a0cbf", func := "dowser/dowserlaw05.DiskKeeps", spec := "diskKeeps", inPlace := ["internal/abi.NoEscape", "internal/bytealg.MakeNoZero"], unfollowed := true, recurses := true, apart := false }
def DiskKeepsSaid : Prop := diskKeepsRow.holds Try.pinned (OpenSpec.ofChange diskKeepsSpec)

/-- ITS FALSE NEIGHBOUR: 'it returns false'. Refute it at one input. -/
def diskKeepsWrong : ChangeSpec := { name := "diskKeeps", fn := fun _ => fun
  | [d1, d2, d3] => { results := [.lit (.bool false)], args := [d1, d2, d3] }
  | _ => none }
def DiskKeepsWrongFalsely : Prop := diskKeepsRow.holds Try.pinned (OpenSpec.ofChange diskKeepsWrong)

/-- 'dowserlaw05.DiskDown': WHATEVER THE INPUT: true; the input reads as it did. -/
def diskDownSpec : ChangeSpec := { name := "diskDown", fn := fun _ => fun
  | [d1, d2, d3] => { results := [.lit (.bool true)], args := [d1, d2, d3] }
  | _ => none }
def diskDownRow : OpenClaim := { program := "ytcbefilcdelplaa", sum := "f78beff0a5f177406675c943b5377fd734256a4a1c94ad256cddc53ea28a0cbf", func := "dowser/dowserlaw05.DiskDown", spec := "diskDown", inPlace := ["internal/abi.NoEscape", "internal/bytealg.MakeNoZero"], unfollowed := true, recurses := true, apart := false }
def DiskDownSaid : Prop := diskDownRow.holds Try.pinned (OpenSpec.ofChange diskDownSpec)

/-- ITS FALSE NEIGHBOUR: 'it returns false'. Refute it at one input. -/
def diskDownWrong : ChangeSpec := { name := "diskDown", fn := fun _ => fun
  | [d1, d2, d3] => { results := [.lit (.bool false)], args := [d1, d2, d3] }
  | _ => none }
def DiskDownWrongFalsely : Prop := diskDownRow.holds Try.pinned (OpenSpec.ofChange diskDownWrong)

/-- 'dowserlaw05.DiskPlays': WHATEVER THE INPUT: true; the input reads as it did. -/
def diskPlaysSpec : ChangeSpec := { name := "diskPlays", fn := fun _ => fun
  | [d1, d2] => { results := [.lit (.bool true)], args := [d1, d2] }
  | _ => none }
def diskPlaysRow : OpenClaim := { program := "ytcbefilcdelplaa", sum := "f78beff0a5f177406675c943b5377fd734256a4a1c94ad256cddc53ea28a0cbf", func := "dowser/dowserlaw05.DiskPlays", spec := "diskPlays", inPlace := ["internal/abi.NoEscape", "internal/bytealg.MakeNoZero", "maps.clone"], unfollowed := true, recurses := true, apart := false }
def DiskPlaysSaid : Prop := diskPlaysRow.holds Try.pinned (OpenSpec.ofChange diskPlaysSpec)

/-- ITS FALSE NEIGHBOUR: 'it returns false'. Refute it at one input. -/
def diskPlaysWrong : ChangeSpec := { name := "diskPlays", fn := fun _ => fun
  | [d1, d2] => { results := [.lit (.bool false)], args := [d1, d2] }
  | _ => none }
def DiskPlaysWrongFalsely : Prop := diskPlaysRow.holds Try.pinned (OpenSpec.ofChange diskPlaysWrong)

/-- 'dowserlaw05.DiskTwins': WHATEVER THE INPUT: true; the input reads as it did. -/
def diskTwinsSpec : ChangeSpec := { name := "diskTwins", fn := fun _ => fun
  | [d1, d2, d3] => { results := [.lit (.bool true)], args := [d1, d2, d3] }
  | _ => none }
def diskTwinsRow : OpenClaim := { program := "ytcbefilcdelplaa", sum := "f78beff0a5f177406675c943b5377fd734256a4a1c94ad256cddc53ea28a0cbf", func := "dowser/dowserlaw05.DiskTwins", spec := "diskTwins", inPlace := ["internal/abi.NoEscape", "internal/bytealg.MakeNoZero", "maps.clone"], unfollowed := true, recurses := true, apart := false }
def DiskTwinsSaid : Prop := diskTwinsRow.holds Try.pinned (OpenSpec.ofChange diskTwinsSpec)

/-- ITS FALSE NEIGHBOUR: 'it returns false'. Refute it at one input. -/
def diskTwinsWrong : ChangeSpec := { name := "diskTwins", fn := fun _ => fun
  | [d1, d2, d3] => { results := [.lit (.bool false)], args := [d1, d2, d3] }
  | _ => none }
def DiskTwinsWrongFalsely : Prop := diskTwinsRow.holds Try.pinned (OpenSpec.ofChange diskTwinsWrong)

/-- 'dowserlaw07.PagesPlays': WHATEVER THE INPUT: true; the input reads as it did. -/
def pagesPlaysSpec : ChangeSpec := { name := "pagesPlays", fn := fun _ => fun
  | [d1, d2] => { results := [.lit (.bool true)], args := [d1, d2] }
  | _ => none }
def pagesPlaysRow : OpenClaim := { program := "ytcbefilcdelplaa", sum := "f78beff0a5f177406675c943b5377fd734256a4a1c94ad256cddc53ea28a0cbf", func := "dowser/dowserlaw07.PagesPlays", spec := "pagesPlays", inPlace := ["internal/abi.NoEscape", "internal/bytealg.MakeNoZero"], unfollowed := true, recurses := true, apart := false }
def PagesPlaysSaid : Prop := pagesPlaysRow.holds Try.pinned (OpenSpec.ofChange pagesPlaysSpec)

/-- ITS FALSE NEIGHBOUR: 'it returns false'. Refute it at one input. -/
def pagesPlaysWrong : ChangeSpec := { name := "pagesPlays", fn := fun _ => fun
  | [d1, d2] => { results := [.lit (.bool false)], args := [d1, d2] }
  | _ => none }
def PagesPlaysWrongFalsely : Prop := pagesPlaysRow.holds Try.pinned (OpenSpec.ofChange pagesPlaysWrong)

/-- 'dowserlaw06.RootWhole': WHATEVER THE INPUT: true; the input reads as it did. -/
def rootWholeSpec : ChangeSpec := { name := "rootWhole", fn := fun _ => fun
  | [d1, d2] => { results := [.lit (.bool true)], args := [d1, d2] }
  | _ => none }
def rootWholeRow : OpenClaim := { program := "ytcbefilcdelplaa", sum := "f78beff0a5f177406675c943b5377fd734256a4a1c94ad256cddc53ea28a0cbf", func := "dowser/dowserlaw06.RootWhole", spec := "rootWhole", inPlace := ["internal/abi.NoEscape", "internal/bytealg.MakeNoZero"], unfollowed := true, recurses := true, apart := false }
def RootWholeSaid : Prop := rootWholeRow.holds Try.pinned (OpenSpec.ofChange rootWholeSpec)

/-- ITS FALSE NEIGHBOUR: 'it returns false'. Refute it at one input. -/
def rootWholeWrong : ChangeSpec := { name := "rootWhole", fn := fun _ => fun
  | [d1, d2] => { results := [.lit (.bool false)], args := [d1, d2] }
  | _ => none }
def RootWholeWrongFalsely : Prop := rootWholeRow.holds Try.pinned (OpenSpec.ofChange rootWholeWrong)

/- THE SECOND FORM. 'bulk': how many values and letters a reading holds, each counted each time it is reached (what is shared counts as often as it is met; a slice's spare places count too). A statement '..UptoSaid' is the law's where the arguments, and the package variables that the reading takes, are together of bulk at most 1048576: NARROWER than '..Said'. Prove '..Said' where nothing that the law and all that it calls make is longer than what came in: it says more and counts as full. Else prove '..UptoSaid'. A law counts once. -/
mutual
def uptoBulk {H : Type} : DataW H → Nat
  | .lit (.string bytes) => bytes.length + 1
  | .lit _ => 1
  | .nil => 1
  | .ptr d => uptoBulk d + 1
  | .slice elems spare => uptoBulkAll elems + uptoBulkAll spare + 1
  | .agg parts => uptoBulkAll parts + 1
  | .iface _ d => uptoBulk d + 1
  | .map entries => uptoBulkEntries entries + 1
  | .held _ => 1
def uptoBulkAll {H : Type} : List (DataW H) → Nat
  | [] => 0
  | d :: r => uptoBulk d + uptoBulkAll r
def uptoBulkEntries {H : Type} : List (Lit × DataW H) → Nat
  | [] => 0
  | x :: r => uptoBulkEntry x + uptoBulkEntries r
def uptoBulkEntry {H : Type} : Lit × DataW H → Nat
  | (.string bytes, d) => bytes.length + uptoBulk d + 1
  | (_, d) => uptoBulk d + 1
 end
def uptoSmall : (H : Type) → List (DataW H) → Bool := fun _ ds => decide (uptoBulkAll ds ≤ 1048576)
def OpenSpec.upto (s : _root_.Go.ChangeSpec) : _root_.Go.OpenSpec := { _root_.Go.OpenSpec.ofChange s with cond := some uptoSmall }

/-- 'dowserlaw07.PagesSectors', WHERE WHAT IT READS IS OF BULK AT MOST 1048576: true; the input reads as it did. -/
def pagesSectorsUptoRow : OpenClaim := { program := "ytcbefilcdelplaa", sum := "f78beff0a5f177406675c943b5377fd734256a4a1c94ad256cddc53ea28a0cbf", func := "dowser/dowserlaw07.PagesSectors", spec := "pagesSectors", inPlace := ["internal/abi.NoEscape", "internal/bytealg.MakeNoZero"], apart := false, narrowed := true }
def PagesSectorsUptoSaid : Prop := pagesSectorsUptoRow.holds Try.pinned (OpenSpec.upto pagesSectorsSpec)

/-- 'dowserlaw07.PagesRefuses', WHERE WHAT IT READS IS OF BULK AT MOST 1048576: true; the input reads as it did. -/
def pagesRefusesUptoRow : OpenClaim := { program := "ytcbefilcdelplaa", sum := "f78beff0a5f177406675c943b5377fd734256a4a1c94ad256cddc53ea28a0cbf", func := "dowser/dowserlaw07.PagesRefuses", spec := "pagesRefuses", inPlace := ["internal/abi.NoEscape", "internal/bytealg.MakeNoZero"], apart := false, narrowed := true }
def PagesRefusesUptoSaid : Prop := pagesRefusesUptoRow.holds Try.pinned (OpenSpec.upto pagesRefusesSpec)

/-- 'dowserlaw07.PagesFill', WHERE WHAT IT READS IS OF BULK AT MOST 1048576: true; the input reads as it did. -/
def pagesFillUptoRow : OpenClaim := { program := "ytcbefilcdelplaa", sum := "f78beff0a5f177406675c943b5377fd734256a4a1c94ad256cddc53ea28a0cbf", func := "dowser/dowserlaw07.PagesFill", spec := "pagesFill", inPlace := ["internal/abi.NoEscape", "internal/bytealg.MakeNoZero"], apart := false, narrowed := true }
def PagesFillUptoSaid : Prop := pagesFillUptoRow.holds Try.pinned (OpenSpec.upto pagesFillSpec)

/-- 'dowserlaw06.RootRefuses', WHERE WHAT IT READS IS OF BULK AT MOST 1048576: true; the input reads as it did. -/
def rootRefusesUptoRow : OpenClaim := { program := "ytcbefilcdelplaa", sum := "f78beff0a5f177406675c943b5377fd734256a4a1c94ad256cddc53ea28a0cbf", func := "dowser/dowserlaw06.RootRefuses", spec := "rootRefuses", inPlace := ["internal/abi.NoEscape", "internal/bytealg.MakeNoZero"], unfollowed := true, recurses := true, apart := false, narrowed := true }
def RootRefusesUptoSaid : Prop := rootRefusesUptoRow.holds Try.pinned (OpenSpec.upto rootRefusesSpec)

/-- 'dowserlaw05.DiskKeeps', WHERE WHAT IT READS IS OF BULK AT MOST 1048576: true; the input reads as it did. -/
def diskKeepsUptoRow : OpenClaim := { program := "ytcbefilcdelplaa", sum := "f78beff0a5f177406675c943b5377fd734256a4a1c94ad256cddc53ea28a0cbf", func := "dowser/dowserlaw05.DiskKeeps", spec := "diskKeeps", inPlace := ["internal/abi.NoEscape", "internal/bytealg.MakeNoZero"], unfollowed := true, recurses := true, apart := false, narrowed := true }
def DiskKeepsUptoSaid : Prop := diskKeepsUptoRow.holds Try.pinned (OpenSpec.upto diskKeepsSpec)

/-- 'dowserlaw05.DiskDown', WHERE WHAT IT READS IS OF BULK AT MOST 1048576: true; the input reads as it did. -/
def diskDownUptoRow : OpenClaim := { program := "ytcbefilcdelplaa", sum := "f78beff0a5f177406675c943b5377fd734256a4a1c94ad256cddc53ea28a0cbf", func := "dowser/dowserlaw05.DiskDown", spec := "diskDown", inPlace := ["internal/abi.NoEscape", "internal/bytealg.MakeNoZero"], unfollowed := true, recurses := true, apart := false, narrowed := true }
def DiskDownUptoSaid : Prop := diskDownUptoRow.holds Try.pinned (OpenSpec.upto diskDownSpec)

/-- 'dowserlaw05.DiskPlays', WHERE WHAT IT READS IS OF BULK AT MOST 1048576: true; the input reads as it did. -/
def diskPlaysUptoRow : OpenClaim := { program := "ytcbefilcdelplaa", sum := "f78beff0a5f177406675c943b5377fd734256a4a1c94ad256cddc53ea28a0cbf", func := "dowser/dowserlaw05.DiskPlays", spec := "diskPlays", inPlace := ["internal/abi.NoEscape", "internal/bytealg.MakeNoZero", "maps.clone"], unfollowed := true, recurses := true, apart := false, narrowed := true }
def DiskPlaysUptoSaid : Prop := diskPlaysUptoRow.holds Try.pinned (OpenSpec.upto diskPlaysSpec)

/-- 'dowserlaw05.DiskTwins', WHERE WHAT IT READS IS OF BULK AT MOST 1048576: true; the input reads as it did. -/
def diskTwinsUptoRow : OpenClaim := { program := "ytcbefilcdelplaa", sum := "f78beff0a5f177406675c943b5377fd734256a4a1c94ad256cddc53ea28a0cbf", func := "dowser/dowserlaw05.DiskTwins", spec := "diskTwins", inPlace := ["internal/abi.NoEscape", "internal/bytealg.MakeNoZero", "maps.clone"], unfollowed := true, recurses := true, apart := false, narrowed := true }
def DiskTwinsUptoSaid : Prop := diskTwinsUptoRow.holds Try.pinned (OpenSpec.upto diskTwinsSpec)

/-- 'dowserlaw07.PagesPlays', WHERE WHAT IT READS IS OF BULK AT MOST 1048576: true; the input reads as it did. -/
def pagesPlaysUptoRow : OpenClaim := { program := "ytcbefilcdelplaa", sum := "f78beff0a5f177406675c943b5377fd734256a4a1c94ad256cddc53ea28a0cbf", func := "dowser/dowserlaw07.PagesPlays", spec := "pagesPlays", inPlace := ["internal/abi.NoEscape", "internal/bytealg.MakeNoZero"], unfollowed := true, recurses := true, apart := false, narrowed := true }
def PagesPlaysUptoSaid : Prop := pagesPlaysUptoRow.holds Try.pinned (OpenSpec.upto pagesPlaysSpec)

/-- 'dowserlaw06.RootWhole', WHERE WHAT IT READS IS OF BULK AT MOST 1048576: true; the input reads as it did. -/
def rootWholeUptoRow : OpenClaim := { program := "ytcbefilcdelplaa", sum := "f78beff0a5f177406675c943b5377fd734256a4a1c94ad256cddc53ea28a0cbf", func := "dowser/dowserlaw06.RootWhole", spec := "rootWhole", inPlace := ["internal/abi.NoEscape", "internal/bytealg.MakeNoZero"], unfollowed := true, recurses := true, apart := false, narrowed := true }
def RootWholeUptoSaid : Prop := rootWholeUptoRow.holds Try.pinned (OpenSpec.upto rootWholeSpec)

end Rows
end Go.Proofs.Ytcbefilcdelplaa
