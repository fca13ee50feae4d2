/-
  No cell of these rows narrows 'for every input' (looked for: loops, veiled, ifaces, maps, wideKeys, modest, calm, conditions, laid).
  DERIVED. THE GIVEN ROWS OF THIS SEAT. 12 by the template 'for every input the law returns true; each argument reads behind the call as it read before'; 0 by the template 'total and deterministic' (their statements: YtnlkkcpcjeeplaaTotals.lean).
  GIVEN WITH THE SEED: the statements are not yours to turn. If you find one false, say at which input.
  Laid BY PROGRAM, IN A SANDBOX (cutbox-rows.mjs): the forced cells as the released guide's own fill.sh prints them over the translation 77d0fda26f7050f2… (all of the seat's roots in one cut). By AI agents, Wed Nov 11 2026. No macro, syntax, notation, axiom, sorry.
-/
import Derived.Test.YtnlkkcpcjeeplaaChecked
import GoSem.Claim
import GoSem.ClaimJoined
import GoSem.ClaimMapViews
import Derived.JoinedTies
import Derived.KernelRfl
namespace Go.Proofs.Ytnlkkcpcjeeplaa
/- THE CELL 'sum', in the pinned program and in every row, IS THE sha256 OF THE DUMP (.gsa) THAT YtnlkkcpcjeeplaaProg.lean LOADS. Nothing in Lean hashes anything: it is a label: what it is worth is what the hold of that sum in a sandbox is worth. -/
noncomputable def Try.pinned : Pinned := { name := "ytnlkkcpcjeeplaa", sum := "77d0fda26f7050f2da2a780336e54ecb956c1479cf24d4dc86e967d0f7b92ce7", checked := Try.checked }
namespace Rows
def none {H : Type} : Left H := { results := [], args := [] }

/-- 'hostlerlaw03.CodeWrites': WHATEVER THE INPUT: true; the input reads as it did. -/
def codeWritesSpec : ChangeSpec := { name := "codeWrites", fn := fun _ => fun
  | [d1, d2, d3, d4] => { results := [.lit (.bool true)], args := [d1, d2, d3, d4] }
  | _ => none }
def codeWritesRow : OpenClaim := { program := "ytnlkkcpcjeeplaa", sum := "77d0fda26f7050f2da2a780336e54ecb956c1479cf24d4dc86e967d0f7b92ce7", func := "hostler/hostlerlaw03.CodeWrites", spec := "codeWrites", plainKeys := false, apart := false }
def CodeWritesSaid : Prop := codeWritesRow.holds Try.pinned (OpenSpec.ofChange codeWritesSpec)

/-- ITS FALSE NEIGHBOUR: 'it returns false'. Refute it at one input. -/
def codeWritesWrong : ChangeSpec := { name := "codeWrites", fn := fun _ => fun
  | [d1, d2, d3, d4] => { results := [.lit (.bool false)], args := [d1, d2, d3, d4] }
  | _ => none }
def CodeWritesWrongFalsely : Prop := codeWritesRow.holds Try.pinned (OpenSpec.ofChange codeWritesWrong)

/-- 'hostlerlaw03.CodeReads': WHATEVER THE INPUT: true; the input reads as it did. -/
def codeReadsSpec : ChangeSpec := { name := "codeReads", fn := fun _ => fun
  | [d1, d2, d3, d4, d5] => { results := [.lit (.bool true)], args := [d1, d2, d3, d4, d5] }
  | _ => none }
def codeReadsRow : OpenClaim := { program := "ytnlkkcpcjeeplaa", sum := "77d0fda26f7050f2da2a780336e54ecb956c1479cf24d4dc86e967d0f7b92ce7", func := "hostler/hostlerlaw03.CodeReads", spec := "codeReads", plainKeys := false, apart := false }
def CodeReadsSaid : Prop := codeReadsRow.holds Try.pinned (OpenSpec.ofChange codeReadsSpec)

/-- ITS FALSE NEIGHBOUR: 'it returns false'. Refute it at one input. -/
def codeReadsWrong : ChangeSpec := { name := "codeReads", fn := fun _ => fun
  | [d1, d2, d3, d4, d5] => { results := [.lit (.bool false)], args := [d1, d2, d3, d4, d5] }
  | _ => none }
def CodeReadsWrongFalsely : Prop := codeReadsRow.holds Try.pinned (OpenSpec.ofChange codeReadsWrong)

/-- 'hostlerlaw03.CodeSizes': WHATEVER THE INPUT: true; the input reads as it did. -/
def codeSizesSpec : ChangeSpec := { name := "codeSizes", fn := fun _ => fun
  | [d1, d2] => { results := [.lit (.bool true)], args := [d1, d2] }
  | _ => none }
def codeSizesRow : OpenClaim := { program := "ytnlkkcpcjeeplaa", sum := "77d0fda26f7050f2da2a780336e54ecb956c1479cf24d4dc86e967d0f7b92ce7", func := "hostler/hostlerlaw03.CodeSizes", spec := "codeSizes", plainKeys := false, apart := false }
def CodeSizesSaid : Prop := codeSizesRow.holds Try.pinned (OpenSpec.ofChange codeSizesSpec)

/-- ITS FALSE NEIGHBOUR: 'it returns false'. Refute it at one input. -/
def codeSizesWrong : ChangeSpec := { name := "codeSizes", fn := fun _ => fun
  | [d1, d2] => { results := [.lit (.bool false)], args := [d1, d2] }
  | _ => none }
def CodeSizesWrongFalsely : Prop := codeSizesRow.holds Try.pinned (OpenSpec.ofChange codeSizesWrong)

/-- 'hostlerlaw03.CodeBack': WHATEVER THE INPUT: true; the input reads as it did. -/
def codeBackSpec : ChangeSpec := { name := "codeBack", fn := fun _ => fun
  | [d1, d2, d3] => { results := [.lit (.bool true)], args := [d1, d2, d3] }
  | _ => none }
def codeBackRow : OpenClaim := { program := "ytnlkkcpcjeeplaa", sum := "77d0fda26f7050f2da2a780336e54ecb956c1479cf24d4dc86e967d0f7b92ce7", func := "hostler/hostlerlaw03.CodeBack", spec := "codeBack", plainKeys := false, apart := false }
def CodeBackSaid : Prop := codeBackRow.holds Try.pinned (OpenSpec.ofChange codeBackSpec)

/-- ITS FALSE NEIGHBOUR: 'it returns false'. Refute it at one input. -/
def codeBackWrong : ChangeSpec := { name := "codeBack", fn := fun _ => fun
  | [d1, d2, d3] => { results := [.lit (.bool false)], args := [d1, d2, d3] }
  | _ => none }
def CodeBackWrongFalsely : Prop := codeBackRow.holds Try.pinned (OpenSpec.ofChange codeBackWrong)

/-- 'hostlerlaw12.RunWays': WHATEVER THE INPUT: true; the input reads as it did. -/
def runWaysSpec : ChangeSpec := { name := "runWays", fn := fun _ => fun
  | [d1, d2, d3] => { results := [.lit (.bool true)], args := [d1, d2, d3] }
  | _ => none }
def runWaysRow : OpenClaim := { program := "ytnlkkcpcjeeplaa", sum := "77d0fda26f7050f2da2a780336e54ecb956c1479cf24d4dc86e967d0f7b92ce7", func := "hostler/hostlerlaw12.RunWays", spec := "runWays", plainKeys := false, apart := false }
def RunWaysSaid : Prop := runWaysRow.holds Try.pinned (OpenSpec.ofChange runWaysSpec)

/-- ITS FALSE NEIGHBOUR: 'it returns false'. Refute it at one input. -/
def runWaysWrong : ChangeSpec := { name := "runWays", fn := fun _ => fun
  | [d1, d2, d3] => { results := [.lit (.bool false)], args := [d1, d2, d3] }
  | _ => none }
def RunWaysWrongFalsely : Prop := runWaysRow.holds Try.pinned (OpenSpec.ofChange runWaysWrong)

/-- 'hostlerlaw12.RunCopies': WHATEVER THE INPUT: true; the input reads as it did. -/
def runCopiesSpec : ChangeSpec := { name := "runCopies", fn := fun _ => fun
  | [d1, d2] => { results := [.lit (.bool true)], args := [d1, d2] }
  | _ => none }
def runCopiesRow : OpenClaim := { program := "ytnlkkcpcjeeplaa", sum := "77d0fda26f7050f2da2a780336e54ecb956c1479cf24d4dc86e967d0f7b92ce7", func := "hostler/hostlerlaw12.RunCopies", spec := "runCopies", plainKeys := false, apart := false }
def RunCopiesSaid : Prop := runCopiesRow.holds Try.pinned (OpenSpec.ofChange runCopiesSpec)

/-- ITS FALSE NEIGHBOUR: 'it returns false'. Refute it at one input. -/
def runCopiesWrong : ChangeSpec := { name := "runCopies", fn := fun _ => fun
  | [d1, d2] => { results := [.lit (.bool false)], args := [d1, d2] }
  | _ => none }
def RunCopiesWrongFalsely : Prop := runCopiesRow.holds Try.pinned (OpenSpec.ofChange runCopiesWrong)

/-- 'hostlerlaw12.RunPlays': WHATEVER THE INPUT: true; the input reads as it did. -/
def runPlaysSpec : ChangeSpec := { name := "runPlays", fn := fun _ => fun
  | [d1, d2, d3, d4] => { results := [.lit (.bool true)], args := [d1, d2, d3, d4] }
  | _ => none }
def runPlaysRow : OpenClaim := { program := "ytnlkkcpcjeeplaa", sum := "77d0fda26f7050f2da2a780336e54ecb956c1479cf24d4dc86e967d0f7b92ce7", func := "hostler/hostlerlaw12.RunPlays", spec := "runPlays", plainKeys := false, apart := false }
def RunPlaysSaid : Prop := runPlaysRow.holds Try.pinned (OpenSpec.ofChange runPlaysSpec)

/-- ITS FALSE NEIGHBOUR: 'it returns false'. Refute it at one input. -/
def runPlaysWrong : ChangeSpec := { name := "runPlays", fn := fun _ => fun
  | [d1, d2, d3, d4] => { results := [.lit (.bool false)], args := [d1, d2, d3, d4] }
  | _ => none }
def RunPlaysWrongFalsely : Prop := runPlaysRow.holds Try.pinned (OpenSpec.ofChange runPlaysWrong)

/-- 'hostlerlaw16.CrewPlays': WHATEVER THE INPUT: true; the input reads as it did. -/
def crewPlaysSpec : ChangeSpec := { name := "crewPlays", fn := fun _ => fun
  | [d1, d2] => { results := [.lit (.bool true)], args := [d1, d2] }
  | _ => none }
def crewPlaysRow : OpenClaim := { program := "ytnlkkcpcjeeplaa", sum := "77d0fda26f7050f2da2a780336e54ecb956c1479cf24d4dc86e967d0f7b92ce7", func := "hostler/hostlerlaw16.CrewPlays", spec := "crewPlays", unfollowed := true, recurses := true, plainKeys := false, apart := false }
def CrewPlaysSaid : Prop := crewPlaysRow.holds Try.pinned (OpenSpec.ofChange crewPlaysSpec)

/-- ITS FALSE NEIGHBOUR: 'it returns false'. Refute it at one input. -/
def crewPlaysWrong : ChangeSpec := { name := "crewPlays", fn := fun _ => fun
  | [d1, d2] => { results := [.lit (.bool false)], args := [d1, d2] }
  | _ => none }
def CrewPlaysWrongFalsely : Prop := crewPlaysRow.holds Try.pinned (OpenSpec.ofChange crewPlaysWrong)

/-- 'hostlerlaw16.CrewLate': WHATEVER THE INPUT: true; the input reads as it did. -/
def crewLateSpec : ChangeSpec := { name := "crewLate", fn := fun _ => fun
  | [d1, d2, d3] => { results := [.lit (.bool true)], args := [d1, d2, d3] }
  | _ => none }
def crewLateRow : OpenClaim := { program := "ytnlkkcpcjeeplaa", sum := "77d0fda26f7050f2da2a780336e54ecb956c1479cf24d4dc86e967d0f7b92ce7", func := "hostler/hostlerlaw16.CrewLate", spec := "crewLate", unfollowed := true, recurses := true, plainKeys := false, apart := false }
def CrewLateSaid : Prop := crewLateRow.holds Try.pinned (OpenSpec.ofChange crewLateSpec)

/-- ITS FALSE NEIGHBOUR: 'it returns false'. Refute it at one input. -/
def crewLateWrong : ChangeSpec := { name := "crewLate", fn := fun _ => fun
  | [d1, d2, d3] => { results := [.lit (.bool false)], args := [d1, d2, d3] }
  | _ => none }
def CrewLateWrongFalsely : Prop := crewLateRow.holds Try.pinned (OpenSpec.ofChange crewLateWrong)

/-- 'hostlerlaw25.WatchForms': WHATEVER THE INPUT: true; the input reads as it did. -/
def watchFormsSpec : ChangeSpec := { name := "watchForms", fn := fun _ => fun
  | [d] => { results := [.lit (.bool true)], args := [d] }
  | _ => none }
def watchFormsRow : OpenClaim := { program := "ytnlkkcpcjeeplaa", sum := "77d0fda26f7050f2da2a780336e54ecb956c1479cf24d4dc86e967d0f7b92ce7", func := "hostler/hostlerlaw25.WatchForms", spec := "watchForms", plainKeys := false, apart := false }
def WatchFormsSaid : Prop := watchFormsRow.holds Try.pinned (OpenSpec.ofChange watchFormsSpec)

/-- ITS FALSE NEIGHBOUR: 'it returns false'. Refute it at one input. -/
def watchFormsWrong : ChangeSpec := { name := "watchForms", fn := fun _ => fun
  | [d] => { results := [.lit (.bool false)], args := [d] }
  | _ => none }
def WatchFormsWrongFalsely : Prop := watchFormsRow.holds Try.pinned (OpenSpec.ofChange watchFormsWrong)

/-- 'hostlerlaw25.WatchLaunches': WHATEVER THE INPUT: true; the input reads as it did. -/
def watchLaunchesSpec : ChangeSpec := { name := "watchLaunches", fn := fun _ => fun
  | [d] => { results := [.lit (.bool true)], args := [d] }
  | _ => none }
def watchLaunchesRow : OpenClaim := { program := "ytnlkkcpcjeeplaa", sum := "77d0fda26f7050f2da2a780336e54ecb956c1479cf24d4dc86e967d0f7b92ce7", func := "hostler/hostlerlaw25.WatchLaunches", spec := "watchLaunches", unfollowed := true, recurses := true, plainKeys := false, apart := false }
def WatchLaunchesSaid : Prop := watchLaunchesRow.holds Try.pinned (OpenSpec.ofChange watchLaunchesSpec)

/-- ITS FALSE NEIGHBOUR: 'it returns false'. Refute it at one input. -/
def watchLaunchesWrong : ChangeSpec := { name := "watchLaunches", fn := fun _ => fun
  | [d] => { results := [.lit (.bool false)], args := [d] }
  | _ => none }
def WatchLaunchesWrongFalsely : Prop := watchLaunchesRow.holds Try.pinned (OpenSpec.ofChange watchLaunchesWrong)

/-- 'hostlerlaw25.WatchTells': WHATEVER THE INPUT: true; the input reads as it did. -/
def watchTellsSpec : ChangeSpec := { name := "watchTells", fn := fun _ => fun
  | [d1, d2, d3, d4, d5] => { results := [.lit (.bool true)], args := [d1, d2, d3, d4, d5] }
  | _ => none }
def watchTellsRow : OpenClaim := { program := "ytnlkkcpcjeeplaa", sum := "77d0fda26f7050f2da2a780336e54ecb956c1479cf24d4dc86e967d0f7b92ce7", func := "hostler/hostlerlaw25.WatchTells", spec := "watchTells", plainKeys := false, apart := false }
def WatchTellsSaid : Prop := watchTellsRow.holds Try.pinned (OpenSpec.ofChange watchTellsSpec)

/-- ITS FALSE NEIGHBOUR: 'it returns false'. Refute it at one input. -/
def watchTellsWrong : ChangeSpec := { name := "watchTells", fn := fun _ => fun
  | [d1, d2, d3, d4, d5] => { results := [.lit (.bool false)], args := [d1, d2, d3, d4, d5] }
  | _ => none }
def WatchTellsWrongFalsely : Prop := watchTellsRow.holds Try.pinned (OpenSpec.ofChange watchTellsWrong)

/- THE SECOND FORM. 'bulk': how many values and letters a reading holds, each counted each time it is reached (what is shared counts as often as it is met; a slice's spare places count too). A statement '..UptoSaid' is the law's where the arguments, and the package variables that the reading takes, are together of bulk at most 1048576: NARROWER than '..Said'. Prove '..Said' where nothing that the law and all that it calls make is longer than what came in: it says more and counts as full. Else prove '..UptoSaid'. A law counts once. -/
mutual
def uptoBulk {H : Type} : DataW H → Nat
  | .lit (.string bytes) => bytes.length + 1
  | .lit _ => 1
  | .nil => 1
  | .ptr d => uptoBulk d + 1
  | .slice elems spare => uptoBulkAll elems + uptoBulkAll spare + 1
  | .agg parts => uptoBulkAll parts + 1
  | .iface _ d => uptoBulk d + 1
  | .map entries => uptoBulkEntries entries + 1
  | .held _ => 1
def uptoBulkAll {H : Type} : List (DataW H) → Nat
  | [] => 0
  | d :: r => uptoBulk d + uptoBulkAll r
def uptoBulkEntries {H : Type} : List (Lit × DataW H) → Nat
  | [] => 0
  | x :: r => uptoBulkEntry x + uptoBulkEntries r
def uptoBulkEntry {H : Type} : Lit × DataW H → Nat
  | (.string bytes, d) => bytes.length + uptoBulk d + 1
  | (_, d) => uptoBulk d + 1
 end
def uptoSmall : (H : Type) → List (DataW H) → Bool := fun _ ds => decide (uptoBulkAll ds ≤ 1048576)
def OpenSpec.upto (s : _root_.Go.ChangeSpec) : _root_.Go.OpenSpec := { _root_.Go.OpenSpec.ofChange s with cond := some uptoSmall }

/-- 'hostlerlaw03.CodeWrites', WHERE WHAT IT READS IS OF BULK AT MOST 1048576: true; the input reads as it did. -/
def codeWritesUptoRow : OpenClaim := { program := "ytnlkkcpcjeeplaa", sum := "77d0fda26f7050f2da2a780336e54ecb956c1479cf24d4dc86e967d0f7b92ce7", func := "hostler/hostlerlaw03.CodeWrites", spec := "codeWrites", plainKeys := false, apart := false, narrowed := true }
def CodeWritesUptoSaid : Prop := codeWritesUptoRow.holds Try.pinned (OpenSpec.upto codeWritesSpec)

/-- 'hostlerlaw03.CodeReads', WHERE WHAT IT READS IS OF BULK AT MOST 1048576: true; the input reads as it did. -/
def codeReadsUptoRow : OpenClaim := { program := "ytnlkkcpcjeeplaa", sum := "77d0fda26f7050f2da2a780336e54ecb956c1479cf24d4dc86e967d0f7b92ce7", func := "hostler/hostlerlaw03.CodeReads", spec := "codeReads", plainKeys := false, apart := false, narrowed := true }
def CodeReadsUptoSaid : Prop := codeReadsUptoRow.holds Try.pinned (OpenSpec.upto codeReadsSpec)

/-- 'hostlerlaw03.CodeSizes', WHERE WHAT IT READS IS OF BULK AT MOST 1048576: true; the input reads as it did. -/
def codeSizesUptoRow : OpenClaim := { program := "ytnlkkcpcjeeplaa", sum := "77d0fda26f7050f2da2a780336e54ecb956c1479cf24d4dc86e967d0f7b92ce7", func := "hostler/hostlerlaw03.CodeSizes", spec := "codeSizes", plainKeys := false, apart := false, narrowed := true }
def CodeSizesUptoSaid : Prop := codeSizesUptoRow.holds Try.pinned (OpenSpec.upto codeSizesSpec)

/-- 'hostlerlaw03.CodeBack', WHERE WHAT IT READS IS OF BULK AT MOST 1048576: true; the input reads as it did. -/
def codeBackUptoRow : OpenClaim := { program := "ytnlkkcpcjeeplaa", sum := "77d0fda26f7050f2da2a780336e54ecb956c1479cf24d4dc86e967d0f7b92ce7", func := "hostler/hostlerlaw03.CodeBack", spec := "codeBack", plainKeys := false, apart := false, narrowed := true }
def CodeBackUptoSaid : Prop := codeBackUptoRow.holds Try.pinned (OpenSpec.upto codeBackSpec)

/-- 'hostlerlaw12.RunWays', WHERE WHAT IT READS IS OF BULK AT MOST 1048576: true; the input reads as it did. -/
def runWaysUptoRow : OpenClaim := { program := "ytnlkkcpcjeeplaa", sum := "77d0fda26f7050f2da2a780336e54ecb956c1479cf24d4dc86e967d0f7b92ce7", func := "hostler/hostlerlaw12.RunWays", spec := "runWays", plainKeys := false, apart := false, narrowed := true }
def RunWaysUptoSaid : Prop := runWaysUptoRow.holds Try.pinned (OpenSpec.upto runWaysSpec)

/-- 'hostlerlaw12.RunCopies', WHERE WHAT IT READS IS OF BULK AT MOST 1048576: true; the input reads as it did. -/
def runCopiesUptoRow : OpenClaim := { program := "ytnlkkcpcjeeplaa", sum := "77d0fda26f7050f2da2a780336e54ecb956c1479cf24d4dc86e967d0f7b92ce7", func := "hostler/hostlerlaw12.RunCopies", spec := "runCopies", plainKeys := false, apart := false, narrowed := true }
def RunCopiesUptoSaid : Prop := runCopiesUptoRow.holds Try.pinned (OpenSpec.upto runCopiesSpec)

/-- 'hostlerlaw12.RunPlays', WHERE WHAT IT READS IS OF BULK AT MOST 1048576: true; the input reads as it did. -/
def runPlaysUptoRow : OpenClaim := { program := "ytnlkkcpcjeeplaa", sum := "77d0fda26f7050f2da2a780336e54ecb956c1479cf24d4dc86e967d0f7b92ce7", func := "hostler/hostlerlaw12.RunPlays", spec := "runPlays", plainKeys := false, apart := false, narrowed := true }
def RunPlaysUptoSaid : Prop := runPlaysUptoRow.holds Try.pinned (OpenSpec.upto runPlaysSpec)

/-- 'hostlerlaw16.CrewPlays', WHERE WHAT IT READS IS OF BULK AT MOST 1048576: true; the input reads as it did. -/
def crewPlaysUptoRow : OpenClaim := { program := "ytnlkkcpcjeeplaa", sum := "77d0fda26f7050f2da2a780336e54ecb956c1479cf24d4dc86e967d0f7b92ce7", func := "hostler/hostlerlaw16.CrewPlays", spec := "crewPlays", unfollowed := true, recurses := true, plainKeys := false, apart := false, narrowed := true }
def CrewPlaysUptoSaid : Prop := crewPlaysUptoRow.holds Try.pinned (OpenSpec.upto crewPlaysSpec)

/-- 'hostlerlaw16.CrewLate', WHERE WHAT IT READS IS OF BULK AT MOST 1048576: true; the input reads as it did. -/
def crewLateUptoRow : OpenClaim := { program := "ytnlkkcpcjeeplaa", sum := "77d0fda26f7050f2da2a780336e54ecb956c1479cf24d4dc86e967d0f7b92ce7", func := "hostler/hostlerlaw16.CrewLate", spec := "crewLate", unfollowed := true, recurses := true, plainKeys := false, apart := false, narrowed := true }
def CrewLateUptoSaid : Prop := crewLateUptoRow.holds Try.pinned (OpenSpec.upto crewLateSpec)

/-- 'hostlerlaw25.WatchForms', WHERE WHAT IT READS IS OF BULK AT MOST 1048576: true; the input reads as it did. -/
def watchFormsUptoRow : OpenClaim := { program := "ytnlkkcpcjeeplaa", sum := "77d0fda26f7050f2da2a780336e54ecb956c1479cf24d4dc86e967d0f7b92ce7", func := "hostler/hostlerlaw25.WatchForms", spec := "watchForms", plainKeys := false, apart := false, narrowed := true }
def WatchFormsUptoSaid : Prop := watchFormsUptoRow.holds Try.pinned (OpenSpec.upto watchFormsSpec)

/-- 'hostlerlaw25.WatchLaunches', WHERE WHAT IT READS IS OF BULK AT MOST 1048576: true; the input reads as it did. -/
def watchLaunchesUptoRow : OpenClaim := { program := "ytnlkkcpcjeeplaa", sum := "77d0fda26f7050f2da2a780336e54ecb956c1479cf24d4dc86e967d0f7b92ce7", func := "hostler/hostlerlaw25.WatchLaunches", spec := "watchLaunches", unfollowed := true, recurses := true, plainKeys := false, apart := false, narrowed := true }
def WatchLaunchesUptoSaid : Prop := watchLaunchesUptoRow.holds Try.pinned (OpenSpec.upto watchLaunchesSpec)

/-- 'hostlerlaw25.WatchTells', WHERE WHAT IT READS IS OF BULK AT MOST 1048576: true; the input reads as it did. -/
def watchTellsUptoRow : OpenClaim := { program := "ytnlkkcpcjeeplaa", sum := "77d0fda26f7050f2da2a780336e54ecb956c1479cf24d4dc86e967d0f7b92ce7", func := "hostler/hostlerlaw25.WatchTells", spec := "watchTells", plainKeys := false, apart := false, narrowed := true }
def WatchTellsUptoSaid : Prop := watchTellsUptoRow.holds Try.pinned (OpenSpec.upto watchTellsSpec)

end Rows
end Go.Proofs.Ytnlkkcpcjeeplaa
