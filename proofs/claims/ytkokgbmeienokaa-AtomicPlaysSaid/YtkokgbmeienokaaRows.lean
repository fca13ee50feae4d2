/-
  No cell of these rows narrows 'for every input' (looked for: loops, veiled, ifaces, maps, wideKeys, modest, calm, conditions, laid).
  DERIVED. THE GIVEN ROWS OF THIS SEAT. 15 by the template 'for every input the law returns true; each argument reads behind the call as it read before'; 0 by the template 'total and deterministic' (their statements: YtkokgbmeienokaaTotals.lean).
  GIVEN WITH THE SEED: the statements are not yours to turn. If you find one false, say at which input.
  Laid BY PROGRAM, IN A SANDBOX (cutbox-rows.mjs): the forced cells as the released guide's own fill.sh prints them over the translation a506ff4c61517383… (all of the seat's roots in one cut). By AI agents, Wed Nov 11 2026. No macro, syntax, notation, axiom, sorry.
-/
import Derived.Test.YtkokgbmeienokaaChecked
import GoSem.Claim
import GoSem.ClaimJoined
import GoSem.ClaimMapViews
import Derived.JoinedTies
import Derived.KernelRfl
namespace Go.Proofs.Ytkokgbmeienokaa
/- THE CELL 'sum', in the pinned program and in every row, IS THE sha256 OF THE DUMP (.gsa) THAT YtkokgbmeienokaaProg.lean LOADS. Nothing in Lean hashes anything: it is a label: what it is worth is what the hold of that sum in a sandbox is worth. -/
noncomputable def Try.pinned : Pinned := { name := "ytkokgbmeienokaa", sum := "a506ff4c61517383f55c354ea7a3da92432bd384e73c01f2bff756707b4868c5", checked := Try.checked }
namespace Rows
def none {H : Type} : Left H := { results := [], args := [] }

/-- 'hostlerlaw05.DiskCuts': WHATEVER THE INPUT: true; the input reads as it did. -/
def diskCutsSpec : ChangeSpec := { name := "diskCuts", fn := fun _ => fun
  | [d1, d2, d3, d4] => { results := [.lit (.bool true)], args := [d1, d2, d3, d4] }
  | _ => none }
def diskCutsRow : OpenClaim := { program := "ytkokgbmeienokaa", sum := "a506ff4c61517383f55c354ea7a3da92432bd384e73c01f2bff756707b4868c5", func := "hostler/hostlerlaw05.DiskCuts", spec := "diskCuts", apart := false }
def DiskCutsSaid : Prop := diskCutsRow.holds Try.pinned (OpenSpec.ofChange diskCutsSpec)

/-- ITS FALSE NEIGHBOUR: 'it returns false'. Refute it at one input. -/
def diskCutsWrong : ChangeSpec := { name := "diskCuts", fn := fun _ => fun
  | [d1, d2, d3, d4] => { results := [.lit (.bool false)], args := [d1, d2, d3, d4] }
  | _ => none }
def DiskCutsWrongFalsely : Prop := diskCutsRow.holds Try.pinned (OpenSpec.ofChange diskCutsWrong)

/-- 'hostlerlaw05.DiskFuse': WHATEVER THE INPUT: true; the input reads as it did. -/
def diskFuseSpec : ChangeSpec := { name := "diskFuse", fn := fun _ => fun
  | [d1, d2] => { results := [.lit (.bool true)], args := [d1, d2] }
  | _ => none }
def diskFuseRow : OpenClaim := { program := "ytkokgbmeienokaa", sum := "a506ff4c61517383f55c354ea7a3da92432bd384e73c01f2bff756707b4868c5", func := "hostler/hostlerlaw05.DiskFuse", spec := "diskFuse", apart := false }
def DiskFuseSaid : Prop := diskFuseRow.holds Try.pinned (OpenSpec.ofChange diskFuseSpec)

/-- ITS FALSE NEIGHBOUR: 'it returns false'. Refute it at one input. -/
def diskFuseWrong : ChangeSpec := { name := "diskFuse", fn := fun _ => fun
  | [d1, d2] => { results := [.lit (.bool false)], args := [d1, d2] }
  | _ => none }
def DiskFuseWrongFalsely : Prop := diskFuseRow.holds Try.pinned (OpenSpec.ofChange diskFuseWrong)

/-- 'hostlerlaw05.DiskOwn': WHATEVER THE INPUT: true; the input reads as it did. -/
def diskOwnSpec : ChangeSpec := { name := "diskOwn", fn := fun _ => fun
  | [d] => { results := [.lit (.bool true)], args := [d] }
  | _ => none }
def diskOwnRow : OpenClaim := { program := "ytkokgbmeienokaa", sum := "a506ff4c61517383f55c354ea7a3da92432bd384e73c01f2bff756707b4868c5", func := "hostler/hostlerlaw05.DiskOwn", spec := "diskOwn", inPlace := ["maps.clone"], unfollowed := true, recurses := true, apart := false }
def DiskOwnSaid : Prop := diskOwnRow.holds Try.pinned (OpenSpec.ofChange diskOwnSpec)

/-- ITS FALSE NEIGHBOUR: 'it returns false'. Refute it at one input. -/
def diskOwnWrong : ChangeSpec := { name := "diskOwn", fn := fun _ => fun
  | [d] => { results := [.lit (.bool false)], args := [d] }
  | _ => none }
def DiskOwnWrongFalsely : Prop := diskOwnRow.holds Try.pinned (OpenSpec.ofChange diskOwnWrong)

/-- 'hostlerlaw05.DiskRoom': WHATEVER THE INPUT: true; the input reads as it did. -/
def diskRoomSpec : ChangeSpec := { name := "diskRoom", fn := fun _ => fun
  | [d1, d2, d3] => { results := [.lit (.bool true)], args := [d1, d2, d3] }
  | _ => none }
def diskRoomRow : OpenClaim := { program := "ytkokgbmeienokaa", sum := "a506ff4c61517383f55c354ea7a3da92432bd384e73c01f2bff756707b4868c5", func := "hostler/hostlerlaw05.DiskRoom", spec := "diskRoom", unfollowed := true, recurses := true, apart := false }
def DiskRoomSaid : Prop := diskRoomRow.holds Try.pinned (OpenSpec.ofChange diskRoomSpec)

/-- ITS FALSE NEIGHBOUR: 'it returns false'. Refute it at one input. -/
def diskRoomWrong : ChangeSpec := { name := "diskRoom", fn := fun _ => fun
  | [d1, d2, d3] => { results := [.lit (.bool false)], args := [d1, d2, d3] }
  | _ => none }
def DiskRoomWrongFalsely : Prop := diskRoomRow.holds Try.pinned (OpenSpec.ofChange diskRoomWrong)

/-- 'hostlerlaw05.DiskNames': WHATEVER THE INPUT: true; the input reads as it did. -/
def diskNamesSpec : ChangeSpec := { name := "diskNames", fn := fun _ => fun
  | [d1, d2] => { results := [.lit (.bool true)], args := [d1, d2] }
  | _ => none }
def diskNamesRow : OpenClaim := { program := "ytkokgbmeienokaa", sum := "a506ff4c61517383f55c354ea7a3da92432bd384e73c01f2bff756707b4868c5", func := "hostler/hostlerlaw05.DiskNames", spec := "diskNames", unfollowed := true, recurses := true, apart := false }
def DiskNamesSaid : Prop := diskNamesRow.holds Try.pinned (OpenSpec.ofChange diskNamesSpec)

/-- ITS FALSE NEIGHBOUR: 'it returns false'. Refute it at one input. -/
def diskNamesWrong : ChangeSpec := { name := "diskNames", fn := fun _ => fun
  | [d1, d2] => { results := [.lit (.bool false)], args := [d1, d2] }
  | _ => none }
def DiskNamesWrongFalsely : Prop := diskNamesRow.holds Try.pinned (OpenSpec.ofChange diskNamesWrong)

/-- 'hostlerlaw05.DiskPlays': WHATEVER THE INPUT: true; the input reads as it did. -/
def diskPlaysSpec : ChangeSpec := { name := "diskPlays", fn := fun _ => fun
  | [d1, d2] => { results := [.lit (.bool true)], args := [d1, d2] }
  | _ => none }
def diskPlaysRow : OpenClaim := { program := "ytkokgbmeienokaa", sum := "a506ff4c61517383f55c354ea7a3da92432bd384e73c01f2bff756707b4868c5", func := "hostler/hostlerlaw05.DiskPlays", spec := "diskPlays", inPlace := ["maps.clone"], unfollowed := true, recurses := true, apart := false }
def DiskPlaysSaid : Prop := diskPlaysRow.holds Try.pinned (OpenSpec.ofChange diskPlaysSpec)

/-- ITS FALSE NEIGHBOUR: 'it returns false'. Refute it at one input. -/
def diskPlaysWrong : ChangeSpec := { name := "diskPlays", fn := fun _ => fun
  | [d1, d2] => { results := [.lit (.bool false)], args := [d1, d2] }
  | _ => none }
def DiskPlaysWrongFalsely : Prop := diskPlaysRow.holds Try.pinned (OpenSpec.ofChange diskPlaysWrong)

/-- 'hostlerlaw07.AtomicFull': WHATEVER THE INPUT: true; the input reads as it did. -/
def atomicFullSpec : ChangeSpec := { name := "atomicFull", fn := fun _ => fun
  | [d1, d2, d3] => { results := [.lit (.bool true)], args := [d1, d2, d3] }
  | _ => none }
def atomicFullRow : OpenClaim := { program := "ytkokgbmeienokaa", sum := "a506ff4c61517383f55c354ea7a3da92432bd384e73c01f2bff756707b4868c5", func := "hostler/hostlerlaw07.AtomicFull", spec := "atomicFull", unfollowed := true, recurses := true, apart := false }
def AtomicFullSaid : Prop := atomicFullRow.holds Try.pinned (OpenSpec.ofChange atomicFullSpec)

/-- ITS FALSE NEIGHBOUR: 'it returns false'. Refute it at one input. -/
def atomicFullWrong : ChangeSpec := { name := "atomicFull", fn := fun _ => fun
  | [d1, d2, d3] => { results := [.lit (.bool false)], args := [d1, d2, d3] }
  | _ => none }
def AtomicFullWrongFalsely : Prop := atomicFullRow.holds Try.pinned (OpenSpec.ofChange atomicFullWrong)

/-- 'hostlerlaw07.AtomicCleans': WHATEVER THE INPUT: true; the input reads as it did. -/
def atomicCleansSpec : ChangeSpec := { name := "atomicCleans", fn := fun _ => fun
  | [d1, d2, d3] => { results := [.lit (.bool true)], args := [d1, d2, d3] }
  | _ => none }
def atomicCleansRow : OpenClaim := { program := "ytkokgbmeienokaa", sum := "a506ff4c61517383f55c354ea7a3da92432bd384e73c01f2bff756707b4868c5", func := "hostler/hostlerlaw07.AtomicCleans", spec := "atomicCleans", unfollowed := true, recurses := true, apart := false }
def AtomicCleansSaid : Prop := atomicCleansRow.holds Try.pinned (OpenSpec.ofChange atomicCleansSpec)

/-- ITS FALSE NEIGHBOUR: 'it returns false'. Refute it at one input. -/
def atomicCleansWrong : ChangeSpec := { name := "atomicCleans", fn := fun _ => fun
  | [d1, d2, d3] => { results := [.lit (.bool false)], args := [d1, d2, d3] }
  | _ => none }
def AtomicCleansWrongFalsely : Prop := atomicCleansRow.holds Try.pinned (OpenSpec.ofChange atomicCleansWrong)

/-- 'hostlerlaw07.AtomicWhole': WHATEVER THE INPUT: true; the input reads as it did. -/
def atomicWholeSpec : ChangeSpec := { name := "atomicWhole", fn := fun _ => fun
  | [d1, d2, d3, d4, d5] => { results := [.lit (.bool true)], args := [d1, d2, d3, d4, d5] }
  | _ => none }
def atomicWholeRow : OpenClaim := { program := "ytkokgbmeienokaa", sum := "a506ff4c61517383f55c354ea7a3da92432bd384e73c01f2bff756707b4868c5", func := "hostler/hostlerlaw07.AtomicWhole", spec := "atomicWhole", unfollowed := true, recurses := true, apart := false }
def AtomicWholeSaid : Prop := atomicWholeRow.holds Try.pinned (OpenSpec.ofChange atomicWholeSpec)

/-- ITS FALSE NEIGHBOUR: 'it returns false'. Refute it at one input. -/
def atomicWholeWrong : ChangeSpec := { name := "atomicWhole", fn := fun _ => fun
  | [d1, d2, d3, d4, d5] => { results := [.lit (.bool false)], args := [d1, d2, d3, d4, d5] }
  | _ => none }
def AtomicWholeWrongFalsely : Prop := atomicWholeRow.holds Try.pinned (OpenSpec.ofChange atomicWholeWrong)

/-- 'hostlerlaw07.AtomicPlays': WHATEVER THE INPUT: true; the input reads as it did. -/
def atomicPlaysSpec : ChangeSpec := { name := "atomicPlays", fn := fun _ => fun
  | [d1, d2] => { results := [.lit (.bool true)], args := [d1, d2] }
  | _ => none }
def atomicPlaysRow : OpenClaim := { program := "ytkokgbmeienokaa", sum := "a506ff4c61517383f55c354ea7a3da92432bd384e73c01f2bff756707b4868c5", func := "hostler/hostlerlaw07.AtomicPlays", spec := "atomicPlays", unfollowed := true, recurses := true, apart := false }
def AtomicPlaysSaid : Prop := atomicPlaysRow.holds Try.pinned (OpenSpec.ofChange atomicPlaysSpec)

/-- ITS FALSE NEIGHBOUR: 'it returns false'. Refute it at one input. -/
def atomicPlaysWrong : ChangeSpec := { name := "atomicPlays", fn := fun _ => fun
  | [d1, d2] => { results := [.lit (.bool false)], args := [d1, d2] }
  | _ => none }
def AtomicPlaysWrongFalsely : Prop := atomicPlaysRow.holds Try.pinned (OpenSpec.ofChange atomicPlaysWrong)

/-- 'hostlerlaw08.RecordForms': WHATEVER THE INPUT: true; the input reads as it did. -/
def recordFormsSpec : ChangeSpec := { name := "recordForms", fn := fun _ => fun
  | [d1, d2] => { results := [.lit (.bool true)], args := [d1, d2] }
  | _ => none }
def recordFormsRow : OpenClaim := { program := "ytkokgbmeienokaa", sum := "a506ff4c61517383f55c354ea7a3da92432bd384e73c01f2bff756707b4868c5", func := "hostler/hostlerlaw08.RecordForms", spec := "recordForms", apart := false }
def RecordFormsSaid : Prop := recordFormsRow.holds Try.pinned (OpenSpec.ofChange recordFormsSpec)

/-- ITS FALSE NEIGHBOUR: 'it returns false'. Refute it at one input. -/
def recordFormsWrong : ChangeSpec := { name := "recordForms", fn := fun _ => fun
  | [d1, d2] => { results := [.lit (.bool false)], args := [d1, d2] }
  | _ => none }
def RecordFormsWrongFalsely : Prop := recordFormsRow.holds Try.pinned (OpenSpec.ofChange recordFormsWrong)

/-- 'hostlerlaw08.RecordScans': WHATEVER THE INPUT: true; the input reads as it did. -/
def recordScansSpec : ChangeSpec := { name := "recordScans", fn := fun _ => fun
  | [d1, d2, d3, d4, d5, d6] => { results := [.lit (.bool true)], args := [d1, d2, d3, d4, d5, d6] }
  | _ => none }
def recordScansRow : OpenClaim := { program := "ytkokgbmeienokaa", sum := "a506ff4c61517383f55c354ea7a3da92432bd384e73c01f2bff756707b4868c5", func := "hostler/hostlerlaw08.RecordScans", spec := "recordScans", apart := false }
def RecordScansSaid : Prop := recordScansRow.holds Try.pinned (OpenSpec.ofChange recordScansSpec)

/-- ITS FALSE NEIGHBOUR: 'it returns false'. Refute it at one input. -/
def recordScansWrong : ChangeSpec := { name := "recordScans", fn := fun _ => fun
  | [d1, d2, d3, d4, d5, d6] => { results := [.lit (.bool false)], args := [d1, d2, d3, d4, d5, d6] }
  | _ => none }
def RecordScansWrongFalsely : Prop := recordScansRow.holds Try.pinned (OpenSpec.ofChange recordScansWrong)

/-- 'hostlerlaw08.RecordKept': WHATEVER THE INPUT: true; the input reads as it did. -/
def recordKeptSpec : ChangeSpec := { name := "recordKept", fn := fun _ => fun
  | [d1, d2, d3] => { results := [.lit (.bool true)], args := [d1, d2, d3] }
  | _ => none }
def recordKeptRow : OpenClaim := { program := "ytkokgbmeienokaa", sum := "a506ff4c61517383f55c354ea7a3da92432bd384e73c01f2bff756707b4868c5", func := "hostler/hostlerlaw08.RecordKept", spec := "recordKept", apart := false }
def RecordKeptSaid : Prop := recordKeptRow.holds Try.pinned (OpenSpec.ofChange recordKeptSpec)

/-- ITS FALSE NEIGHBOUR: 'it returns false'. Refute it at one input. -/
def recordKeptWrong : ChangeSpec := { name := "recordKept", fn := fun _ => fun
  | [d1, d2, d3] => { results := [.lit (.bool false)], args := [d1, d2, d3] }
  | _ => none }
def RecordKeptWrongFalsely : Prop := recordKeptRow.holds Try.pinned (OpenSpec.ofChange recordKeptWrong)

/-- 'hostlerlaw08.RecordLoads': WHATEVER THE INPUT: true; the input reads as it did. -/
def recordLoadsSpec : ChangeSpec := { name := "recordLoads", fn := fun _ => fun
  | [d1, d2] => { results := [.lit (.bool true)], args := [d1, d2] }
  | _ => none }
def recordLoadsRow : OpenClaim := { program := "ytkokgbmeienokaa", sum := "a506ff4c61517383f55c354ea7a3da92432bd384e73c01f2bff756707b4868c5", func := "hostler/hostlerlaw08.RecordLoads", spec := "recordLoads", unfollowed := true, recurses := true, apart := false }
def RecordLoadsSaid : Prop := recordLoadsRow.holds Try.pinned (OpenSpec.ofChange recordLoadsSpec)

/-- ITS FALSE NEIGHBOUR: 'it returns false'. Refute it at one input. -/
def recordLoadsWrong : ChangeSpec := { name := "recordLoads", fn := fun _ => fun
  | [d1, d2] => { results := [.lit (.bool false)], args := [d1, d2] }
  | _ => none }
def RecordLoadsWrongFalsely : Prop := recordLoadsRow.holds Try.pinned (OpenSpec.ofChange recordLoadsWrong)

/-- 'hostlerlaw08.RecordPlays': WHATEVER THE INPUT: true; the input reads as it did. -/
def recordPlaysSpec : ChangeSpec := { name := "recordPlays", fn := fun _ => fun
  | [d1, d2] => { results := [.lit (.bool true)], args := [d1, d2] }
  | _ => none }
def recordPlaysRow : OpenClaim := { program := "ytkokgbmeienokaa", sum := "a506ff4c61517383f55c354ea7a3da92432bd384e73c01f2bff756707b4868c5", func := "hostler/hostlerlaw08.RecordPlays", spec := "recordPlays", unfollowed := true, recurses := true, apart := false }
def RecordPlaysSaid : Prop := recordPlaysRow.holds Try.pinned (OpenSpec.ofChange recordPlaysSpec)

/-- ITS FALSE NEIGHBOUR: 'it returns false'. Refute it at one input. -/
def recordPlaysWrong : ChangeSpec := { name := "recordPlays", fn := fun _ => fun
  | [d1, d2] => { results := [.lit (.bool false)], args := [d1, d2] }
  | _ => none }
def RecordPlaysWrongFalsely : Prop := recordPlaysRow.holds Try.pinned (OpenSpec.ofChange recordPlaysWrong)

/- THE SECOND FORM. 'bulk': how many values and letters a reading holds, each counted each time it is reached (what is shared counts as often as it is met; a slice's spare places count too). A statement '..UptoSaid' is the law's where the arguments, and the package variables that the reading takes, are together of bulk at most 1048576: NARROWER than '..Said'. Prove '..Said' where nothing that the law and all that it calls make is longer than what came in: it says more and counts as full. Else prove '..UptoSaid'. A law counts once. -/
mutual
def uptoBulk {H : Type} : DataW H → Nat
  | .lit (.string bytes) => bytes.length + 1
  | .lit _ => 1
  | .nil => 1
  | .ptr d => uptoBulk d + 1
  | .slice elems spare => uptoBulkAll elems + uptoBulkAll spare + 1
  | .agg parts => uptoBulkAll parts + 1
  | .iface _ d => uptoBulk d + 1
  | .map entries => uptoBulkEntries entries + 1
  | .held _ => 1
def uptoBulkAll {H : Type} : List (DataW H) → Nat
  | [] => 0
  | d :: r => uptoBulk d + uptoBulkAll r
def uptoBulkEntries {H : Type} : List (Lit × DataW H) → Nat
  | [] => 0
  | x :: r => uptoBulkEntry x + uptoBulkEntries r
def uptoBulkEntry {H : Type} : Lit × DataW H → Nat
  | (.string bytes, d) => bytes.length + uptoBulk d + 1
  | (_, d) => uptoBulk d + 1
 end
def uptoSmall : (H : Type) → List (DataW H) → Bool := fun _ ds => decide (uptoBulkAll ds ≤ 1048576)
def OpenSpec.upto (s : _root_.Go.ChangeSpec) : _root_.Go.OpenSpec := { _root_.Go.OpenSpec.ofChange s with cond := some uptoSmall }

/-- 'hostlerlaw05.DiskCuts', WHERE WHAT IT READS IS OF BULK AT MOST 1048576: true; the input reads as it did. -/
def diskCutsUptoRow : OpenClaim := { program := "ytkokgbmeienokaa", sum := "a506ff4c61517383f55c354ea7a3da92432bd384e73c01f2bff756707b4868c5", func := "hostler/hostlerlaw05.DiskCuts", spec := "diskCuts", apart := false, narrowed := true }
def DiskCutsUptoSaid : Prop := diskCutsUptoRow.holds Try.pinned (OpenSpec.upto diskCutsSpec)

/-- 'hostlerlaw05.DiskFuse', WHERE WHAT IT READS IS OF BULK AT MOST 1048576: true; the input reads as it did. -/
def diskFuseUptoRow : OpenClaim := { program := "ytkokgbmeienokaa", sum := "a506ff4c61517383f55c354ea7a3da92432bd384e73c01f2bff756707b4868c5", func := "hostler/hostlerlaw05.DiskFuse", spec := "diskFuse", apart := false, narrowed := true }
def DiskFuseUptoSaid : Prop := diskFuseUptoRow.holds Try.pinned (OpenSpec.upto diskFuseSpec)

/-- 'hostlerlaw05.DiskOwn', WHERE WHAT IT READS IS OF BULK AT MOST 1048576: true; the input reads as it did. -/
def diskOwnUptoRow : OpenClaim := { program := "ytkokgbmeienokaa", sum := "a506ff4c61517383f55c354ea7a3da92432bd384e73c01f2bff756707b4868c5", func := "hostler/hostlerlaw05.DiskOwn", spec := "diskOwn", inPlace := ["maps.clone"], unfollowed := true, recurses := true, apart := false, narrowed := true }
def DiskOwnUptoSaid : Prop := diskOwnUptoRow.holds Try.pinned (OpenSpec.upto diskOwnSpec)

/-- 'hostlerlaw05.DiskRoom', WHERE WHAT IT READS IS OF BULK AT MOST 1048576: true; the input reads as it did. -/
def diskRoomUptoRow : OpenClaim := { program := "ytkokgbmeienokaa", sum := "a506ff4c61517383f55c354ea7a3da92432bd384e73c01f2bff756707b4868c5", func := "hostler/hostlerlaw05.DiskRoom", spec := "diskRoom", unfollowed := true, recurses := true, apart := false, narrowed := true }
def DiskRoomUptoSaid : Prop := diskRoomUptoRow.holds Try.pinned (OpenSpec.upto diskRoomSpec)

/-- 'hostlerlaw05.DiskNames', WHERE WHAT IT READS IS OF BULK AT MOST 1048576: true; the input reads as it did. -/
def diskNamesUptoRow : OpenClaim := { program := "ytkokgbmeienokaa", sum := "a506ff4c61517383f55c354ea7a3da92432bd384e73c01f2bff756707b4868c5", func := "hostler/hostlerlaw05.DiskNames", spec := "diskNames", unfollowed := true, recurses := true, apart := false, narrowed := true }
def DiskNamesUptoSaid : Prop := diskNamesUptoRow.holds Try.pinned (OpenSpec.upto diskNamesSpec)

/-- 'hostlerlaw05.DiskPlays', WHERE WHAT IT READS IS OF BULK AT MOST 1048576: true; the input reads as it did. -/
def diskPlaysUptoRow : OpenClaim := { program := "ytkokgbmeienokaa", sum := "a506ff4c61517383f55c354ea7a3da92432bd384e73c01f2bff756707b4868c5", func := "hostler/hostlerlaw05.DiskPlays", spec := "diskPlays", inPlace := ["maps.clone"], unfollowed := true, recurses := true, apart := false, narrowed := true }
def DiskPlaysUptoSaid : Prop := diskPlaysUptoRow.holds Try.pinned (OpenSpec.upto diskPlaysSpec)

/-- 'hostlerlaw07.AtomicFull', WHERE WHAT IT READS IS OF BULK AT MOST 1048576: true; the input reads as it did. -/
def atomicFullUptoRow : OpenClaim := { program := "ytkokgbmeienokaa", sum := "a506ff4c61517383f55c354ea7a3da92432bd384e73c01f2bff756707b4868c5", func := "hostler/hostlerlaw07.AtomicFull", spec := "atomicFull", unfollowed := true, recurses := true, apart := false, narrowed := true }
def AtomicFullUptoSaid : Prop := atomicFullUptoRow.holds Try.pinned (OpenSpec.upto atomicFullSpec)

/-- 'hostlerlaw07.AtomicCleans', WHERE WHAT IT READS IS OF BULK AT MOST 1048576: true; the input reads as it did. -/
def atomicCleansUptoRow : OpenClaim := { program := "ytkokgbmeienokaa", sum := "a506ff4c61517383f55c354ea7a3da92432bd384e73c01f2bff756707b4868c5", func := "hostler/hostlerlaw07.AtomicCleans", spec := "atomicCleans", unfollowed := true, recurses := true, apart := false, narrowed := true }
def AtomicCleansUptoSaid : Prop := atomicCleansUptoRow.holds Try.pinned (OpenSpec.upto atomicCleansSpec)

/-- 'hostlerlaw07.AtomicWhole', WHERE WHAT IT READS IS OF BULK AT MOST 1048576: true; the input reads as it did. -/
def atomicWholeUptoRow : OpenClaim := { program := "ytkokgbmeienokaa", sum := "a506ff4c61517383f55c354ea7a3da92432bd384e73c01f2bff756707b4868c5", func := "hostler/hostlerlaw07.AtomicWhole", spec := "atomicWhole", unfollowed := true, recurses := true, apart := false, narrowed := true }
def AtomicWholeUptoSaid : Prop := atomicWholeUptoRow.holds Try.pinned (OpenSpec.upto atomicWholeSpec)

/-- 'hostlerlaw07.AtomicPlays', WHERE WHAT IT READS IS OF BULK AT MOST 1048576: true; the input reads as it did. -/
def atomicPlaysUptoRow : OpenClaim := { program := "ytkokgbmeienokaa", sum := "a506ff4c61517383f55c354ea7a3da92432bd384e73c01f2bff756707b4868c5", func := "hostler/hostlerlaw07.AtomicPlays", spec := "atomicPlays", unfollowed := true, recurses := true, apart := false, narrowed := true }
def AtomicPlaysUptoSaid : Prop := atomicPlaysUptoRow.holds Try.pinned (OpenSpec.upto atomicPlaysSpec)

/-- 'hostlerlaw08.RecordForms', WHERE WHAT IT READS IS OF BULK AT MOST 1048576: true; the input reads as it did. -/
def recordFormsUptoRow : OpenClaim := { program := "ytkokgbmeienokaa", sum := "a506ff4c61517383f55c354ea7a3da92432bd384e73c01f2bff756707b4868c5", func := "hostler/hostlerlaw08.RecordForms", spec := "recordForms", apart := false, narrowed := true }
def RecordFormsUptoSaid : Prop := recordFormsUptoRow.holds Try.pinned (OpenSpec.upto recordFormsSpec)

/-- 'hostlerlaw08.RecordScans', WHERE WHAT IT READS IS OF BULK AT MOST 1048576: true; the input reads as it did. -/
def recordScansUptoRow : OpenClaim := { program := "ytkokgbmeienokaa", sum := "a506ff4c61517383f55c354ea7a3da92432bd384e73c01f2bff756707b4868c5", func := "hostler/hostlerlaw08.RecordScans", spec := "recordScans", apart := false, narrowed := true }
def RecordScansUptoSaid : Prop := recordScansUptoRow.holds Try.pinned (OpenSpec.upto recordScansSpec)

/-- 'hostlerlaw08.RecordKept', WHERE WHAT IT READS IS OF BULK AT MOST 1048576: true; the input reads as it did. -/
def recordKeptUptoRow : OpenClaim := { program := "ytkokgbmeienokaa", sum := "a506ff4c61517383f55c354ea7a3da92432bd384e73c01f2bff756707b4868c5", func := "hostler/hostlerlaw08.RecordKept", spec := "recordKept", apart := false, narrowed := true }
def RecordKeptUptoSaid : Prop := recordKeptUptoRow.holds Try.pinned (OpenSpec.upto recordKeptSpec)

/-- 'hostlerlaw08.RecordLoads', WHERE WHAT IT READS IS OF BULK AT MOST 1048576: true; the input reads as it did. -/
def recordLoadsUptoRow : OpenClaim := { program := "ytkokgbmeienokaa", sum := "a506ff4c61517383f55c354ea7a3da92432bd384e73c01f2bff756707b4868c5", func := "hostler/hostlerlaw08.RecordLoads", spec := "recordLoads", unfollowed := true, recurses := true, apart := false, narrowed := true }
def RecordLoadsUptoSaid : Prop := recordLoadsUptoRow.holds Try.pinned (OpenSpec.upto recordLoadsSpec)

/-- 'hostlerlaw08.RecordPlays', WHERE WHAT IT READS IS OF BULK AT MOST 1048576: true; the input reads as it did. -/
def recordPlaysUptoRow : OpenClaim := { program := "ytkokgbmeienokaa", sum := "a506ff4c61517383f55c354ea7a3da92432bd384e73c01f2bff756707b4868c5", func := "hostler/hostlerlaw08.RecordPlays", spec := "recordPlays", unfollowed := true, recurses := true, apart := false, narrowed := true }
def RecordPlaysUptoSaid : Prop := recordPlaysUptoRow.holds Try.pinned (OpenSpec.upto recordPlaysSpec)

end Rows
end Go.Proofs.Ytkokgbmeienokaa
