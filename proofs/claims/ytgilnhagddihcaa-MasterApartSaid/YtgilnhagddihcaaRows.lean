/-
  No cell of these rows narrows 'for every input' (looked for: loops, veiled, ifaces, maps, wideKeys, modest, calm, conditions, laid).
  DERIVED. THE GIVEN ROWS OF THIS SEAT. 12 by the template 'for every input the law returns true; each argument reads behind the call as it read before'; 0 by the template 'total and deterministic' (their statements: YtgilnhagddihcaaTotals.lean).
  GIVEN WITH THE SEED: the statements are not yours to turn. If you find one false, say at which input.
  Laid BY PROGRAM, IN A SANDBOX (cutbox-rows.mjs): the forced cells as the released guide's own fill.sh prints them over the translation eb50498746a52607… (all of the seat's roots in one cut). By AI agents, Wed Nov 11 2026. No macro, syntax, notation, axiom, sorry.
-/
import Derived.Test.YtgilnhagddihcaaChecked
import GoSem.Claim
import GoSem.ClaimJoined
import GoSem.ClaimMapViews
import Derived.JoinedTies
import Derived.KernelRfl
namespace Go.Proofs.Ytgilnhagddihcaa
/- THE CELL 'sum', in the pinned program and in every row, IS THE sha256 OF THE DUMP (.gsa) THAT YtgilnhagddihcaaProg.lean LOADS. Nothing in Lean hashes anything: it is a label: what it is worth is what the hold of that sum in a sandbox is worth. -/
noncomputable def Try.pinned : Pinned := { name := "ytgilnhagddihcaa", sum := "eb50498746a52607ca9493929e6e2ed760547246a3c37ae1f3e653f1b6623ea3", checked := Try.checked }
namespace Rows
def none {H : Type} : Left H := { results := [], args := [] }

/-- 'hostlerlaw10.BackoffDraws': WHATEVER THE INPUT: true; the input reads as it did. -/
def backoffDrawsSpec : ChangeSpec := { name := "backoffDraws", fn := fun _ => fun
  | [d1, d2, d3] => { results := [.lit (.bool true)], args := [d1, d2, d3] }
  | _ => none }
def backoffDrawsRow : OpenClaim := { program := "ytgilnhagddihcaa", sum := "eb50498746a52607ca9493929e6e2ed760547246a3c37ae1f3e653f1b6623ea3", func := "hostler/hostlerlaw10.BackoffDraws", spec := "backoffDraws", plainKeys := false, apart := false }
def BackoffDrawsSaid : Prop := backoffDrawsRow.holds Try.pinned (OpenSpec.ofChange backoffDrawsSpec)

/-- ITS FALSE NEIGHBOUR: 'it returns false'. Refute it at one input. -/
def backoffDrawsWrong : ChangeSpec := { name := "backoffDraws", fn := fun _ => fun
  | [d1, d2, d3] => { results := [.lit (.bool false)], args := [d1, d2, d3] }
  | _ => none }
def BackoffDrawsWrongFalsely : Prop := backoffDrawsRow.holds Try.pinned (OpenSpec.ofChange backoffDrawsWrong)

/-- 'hostlerlaw10.BackoffTells': WHATEVER THE INPUT: true; the input reads as it did. -/
def backoffTellsSpec : ChangeSpec := { name := "backoffTells", fn := fun _ => fun
  | [d1, d2, d3, d4, d5] => { results := [.lit (.bool true)], args := [d1, d2, d3, d4, d5] }
  | _ => none }
def backoffTellsRow : OpenClaim := { program := "ytgilnhagddihcaa", sum := "eb50498746a52607ca9493929e6e2ed760547246a3c37ae1f3e653f1b6623ea3", func := "hostler/hostlerlaw10.BackoffTells", spec := "backoffTells", plainKeys := false, apart := false }
def BackoffTellsSaid : Prop := backoffTellsRow.holds Try.pinned (OpenSpec.ofChange backoffTellsSpec)

/-- ITS FALSE NEIGHBOUR: 'it returns false'. Refute it at one input. -/
def backoffTellsWrong : ChangeSpec := { name := "backoffTells", fn := fun _ => fun
  | [d1, d2, d3, d4, d5] => { results := [.lit (.bool false)], args := [d1, d2, d3, d4, d5] }
  | _ => none }
def BackoffTellsWrongFalsely : Prop := backoffTellsRow.holds Try.pinned (OpenSpec.ofChange backoffTellsWrong)

/-- 'hostlerlaw10.BackoffBounds': WHATEVER THE INPUT: true; the input reads as it did. -/
def backoffBoundsSpec : ChangeSpec := { name := "backoffBounds", fn := fun _ => fun
  | [d1, d2, d3, d4] => { results := [.lit (.bool true)], args := [d1, d2, d3, d4] }
  | _ => none }
def backoffBoundsRow : OpenClaim := { program := "ytgilnhagddihcaa", sum := "eb50498746a52607ca9493929e6e2ed760547246a3c37ae1f3e653f1b6623ea3", func := "hostler/hostlerlaw10.BackoffBounds", spec := "backoffBounds", plainKeys := false, apart := false }
def BackoffBoundsSaid : Prop := backoffBoundsRow.holds Try.pinned (OpenSpec.ofChange backoffBoundsSpec)

/-- ITS FALSE NEIGHBOUR: 'it returns false'. Refute it at one input. -/
def backoffBoundsWrong : ChangeSpec := { name := "backoffBounds", fn := fun _ => fun
  | [d1, d2, d3, d4] => { results := [.lit (.bool false)], args := [d1, d2, d3, d4] }
  | _ => none }
def BackoffBoundsWrongFalsely : Prop := backoffBoundsRow.holds Try.pinned (OpenSpec.ofChange backoffBoundsWrong)

/-- 'hostlerlaw02.NeedTells': WHATEVER THE INPUT: true; the input reads as it did. -/
def needTellsSpec : ChangeSpec := { name := "needTells", fn := fun _ => fun
  | [d1, d2, d3, d4, d5, d6, d7, d8] => { results := [.lit (.bool true)], args := [d1, d2, d3, d4, d5, d6, d7, d8] }
  | _ => none }
def needTellsRow : OpenClaim := { program := "ytgilnhagddihcaa", sum := "eb50498746a52607ca9493929e6e2ed760547246a3c37ae1f3e653f1b6623ea3", func := "hostler/hostlerlaw02.NeedTells", spec := "needTells", plainKeys := false, apart := false }
def NeedTellsSaid : Prop := needTellsRow.holds Try.pinned (OpenSpec.ofChange needTellsSpec)

/-- ITS FALSE NEIGHBOUR: 'it returns false'. Refute it at one input. -/
def needTellsWrong : ChangeSpec := { name := "needTells", fn := fun _ => fun
  | [d1, d2, d3, d4, d5, d6, d7, d8] => { results := [.lit (.bool false)], args := [d1, d2, d3, d4, d5, d6, d7, d8] }
  | _ => none }
def NeedTellsWrongFalsely : Prop := needTellsRow.holds Try.pinned (OpenSpec.ofChange needTellsWrong)

/-- 'hostlerlaw02.NeedEdges': WHATEVER THE INPUT: true; the input reads as it did. -/
def needEdgesSpec : ChangeSpec := { name := "needEdges", fn := fun _ => fun
  | [d1, d2] => { results := [.lit (.bool true)], args := [d1, d2] }
  | _ => none }
def needEdgesRow : OpenClaim := { program := "ytgilnhagddihcaa", sum := "eb50498746a52607ca9493929e6e2ed760547246a3c37ae1f3e653f1b6623ea3", func := "hostler/hostlerlaw02.NeedEdges", spec := "needEdges", plainKeys := false, apart := false }
def NeedEdgesSaid : Prop := needEdgesRow.holds Try.pinned (OpenSpec.ofChange needEdgesSpec)

/-- ITS FALSE NEIGHBOUR: 'it returns false'. Refute it at one input. -/
def needEdgesWrong : ChangeSpec := { name := "needEdges", fn := fun _ => fun
  | [d1, d2] => { results := [.lit (.bool false)], args := [d1, d2] }
  | _ => none }
def NeedEdgesWrongFalsely : Prop := needEdgesRow.holds Try.pinned (OpenSpec.ofChange needEdgesWrong)

/-- 'hostlerlaw02.NeedSums': WHATEVER THE INPUT: true; the input reads as it did. -/
def needSumsSpec : ChangeSpec := { name := "needSums", fn := fun _ => fun
  | [d1, d2, d3, d4] => { results := [.lit (.bool true)], args := [d1, d2, d3, d4] }
  | _ => none }
def needSumsRow : OpenClaim := { program := "ytgilnhagddihcaa", sum := "eb50498746a52607ca9493929e6e2ed760547246a3c37ae1f3e653f1b6623ea3", func := "hostler/hostlerlaw02.NeedSums", spec := "needSums", plainKeys := false, apart := false }
def NeedSumsSaid : Prop := needSumsRow.holds Try.pinned (OpenSpec.ofChange needSumsSpec)

/-- ITS FALSE NEIGHBOUR: 'it returns false'. Refute it at one input. -/
def needSumsWrong : ChangeSpec := { name := "needSums", fn := fun _ => fun
  | [d1, d2, d3, d4] => { results := [.lit (.bool false)], args := [d1, d2, d3, d4] }
  | _ => none }
def NeedSumsWrongFalsely : Prop := needSumsRow.holds Try.pinned (OpenSpec.ofChange needSumsWrong)

/-- 'hostlerlaw09.LifeRows': WHATEVER THE INPUT: true; the input reads as it did. -/
def lifeRowsSpec : ChangeSpec := { name := "lifeRows", fn := fun _ => fun
  | [d1, d2, d3] => { results := [.lit (.bool true)], args := [d1, d2, d3] }
  | _ => none }
def lifeRowsRow : OpenClaim := { program := "ytgilnhagddihcaa", sum := "eb50498746a52607ca9493929e6e2ed760547246a3c37ae1f3e653f1b6623ea3", func := "hostler/hostlerlaw09.LifeRows", spec := "lifeRows", plainKeys := false, apart := false }
def LifeRowsSaid : Prop := lifeRowsRow.holds Try.pinned (OpenSpec.ofChange lifeRowsSpec)

/-- ITS FALSE NEIGHBOUR: 'it returns false'. Refute it at one input. -/
def lifeRowsWrong : ChangeSpec := { name := "lifeRows", fn := fun _ => fun
  | [d1, d2, d3] => { results := [.lit (.bool false)], args := [d1, d2, d3] }
  | _ => none }
def LifeRowsWrongFalsely : Prop := lifeRowsRow.holds Try.pinned (OpenSpec.ofChange lifeRowsWrong)

/-- 'hostlerlaw09.LifeTells': WHATEVER THE INPUT: true; the input reads as it did. -/
def lifeTellsSpec : ChangeSpec := { name := "lifeTells", fn := fun _ => fun
  | [d1, d2, d3, d4] => { results := [.lit (.bool true)], args := [d1, d2, d3, d4] }
  | _ => none }
def lifeTellsRow : OpenClaim := { program := "ytgilnhagddihcaa", sum := "eb50498746a52607ca9493929e6e2ed760547246a3c37ae1f3e653f1b6623ea3", func := "hostler/hostlerlaw09.LifeTells", spec := "lifeTells", plainKeys := false, apart := false }
def LifeTellsSaid : Prop := lifeTellsRow.holds Try.pinned (OpenSpec.ofChange lifeTellsSpec)

/-- ITS FALSE NEIGHBOUR: 'it returns false'. Refute it at one input. -/
def lifeTellsWrong : ChangeSpec := { name := "lifeTells", fn := fun _ => fun
  | [d1, d2, d3, d4] => { results := [.lit (.bool false)], args := [d1, d2, d3, d4] }
  | _ => none }
def LifeTellsWrongFalsely : Prop := lifeTellsRow.holds Try.pinned (OpenSpec.ofChange lifeTellsWrong)

/-- 'hostlerlaw09.LifeEnds': WHATEVER THE INPUT: true; the input reads as it did. -/
def lifeEndsSpec : ChangeSpec := { name := "lifeEnds", fn := fun _ => fun
  | [d1, d2] => { results := [.lit (.bool true)], args := [d1, d2] }
  | _ => none }
def lifeEndsRow : OpenClaim := { program := "ytgilnhagddihcaa", sum := "eb50498746a52607ca9493929e6e2ed760547246a3c37ae1f3e653f1b6623ea3", func := "hostler/hostlerlaw09.LifeEnds", spec := "lifeEnds", plainKeys := false, apart := false }
def LifeEndsSaid : Prop := lifeEndsRow.holds Try.pinned (OpenSpec.ofChange lifeEndsSpec)

/-- ITS FALSE NEIGHBOUR: 'it returns false'. Refute it at one input. -/
def lifeEndsWrong : ChangeSpec := { name := "lifeEnds", fn := fun _ => fun
  | [d1, d2] => { results := [.lit (.bool false)], args := [d1, d2] }
  | _ => none }
def LifeEndsWrongFalsely : Prop := lifeEndsRow.holds Try.pinned (OpenSpec.ofChange lifeEndsWrong)

/-- 'hostlerlaw22.MasterAcks': WHATEVER THE INPUT: true; the input reads as it did. -/
def masterAcksSpec : ChangeSpec := { name := "masterAcks", fn := fun _ => fun
  | [d1, d2, d3] => { results := [.lit (.bool true)], args := [d1, d2, d3] }
  | _ => none }
def masterAcksRow : OpenClaim := { program := "ytgilnhagddihcaa", sum := "eb50498746a52607ca9493929e6e2ed760547246a3c37ae1f3e653f1b6623ea3", func := "hostler/hostlerlaw22.MasterAcks", spec := "masterAcks", plainKeys := false, apart := false }
def MasterAcksSaid : Prop := masterAcksRow.holds Try.pinned (OpenSpec.ofChange masterAcksSpec)

/-- ITS FALSE NEIGHBOUR: 'it returns false'. Refute it at one input. -/
def masterAcksWrong : ChangeSpec := { name := "masterAcks", fn := fun _ => fun
  | [d1, d2, d3] => { results := [.lit (.bool false)], args := [d1, d2, d3] }
  | _ => none }
def MasterAcksWrongFalsely : Prop := masterAcksRow.holds Try.pinned (OpenSpec.ofChange masterAcksWrong)

/-- 'hostlerlaw22.MasterHears': WHATEVER THE INPUT: true; the input reads as it did. -/
def masterHearsSpec : ChangeSpec := { name := "masterHears", fn := fun _ => fun
  | [d1, d2, d3, d4] => { results := [.lit (.bool true)], args := [d1, d2, d3, d4] }
  | _ => none }
def masterHearsRow : OpenClaim := { program := "ytgilnhagddihcaa", sum := "eb50498746a52607ca9493929e6e2ed760547246a3c37ae1f3e653f1b6623ea3", func := "hostler/hostlerlaw22.MasterHears", spec := "masterHears", plainKeys := false, apart := false }
def MasterHearsSaid : Prop := masterHearsRow.holds Try.pinned (OpenSpec.ofChange masterHearsSpec)

/-- ITS FALSE NEIGHBOUR: 'it returns false'. Refute it at one input. -/
def masterHearsWrong : ChangeSpec := { name := "masterHears", fn := fun _ => fun
  | [d1, d2, d3, d4] => { results := [.lit (.bool false)], args := [d1, d2, d3, d4] }
  | _ => none }
def MasterHearsWrongFalsely : Prop := masterHearsRow.holds Try.pinned (OpenSpec.ofChange masterHearsWrong)

/-- 'hostlerlaw22.MasterApart': WHATEVER THE INPUT: true; the input reads as it did. -/
def masterApartSpec : ChangeSpec := { name := "masterApart", fn := fun _ => fun
  | [d1, d2] => { results := [.lit (.bool true)], args := [d1, d2] }
  | _ => none }
def masterApartRow : OpenClaim := { program := "ytgilnhagddihcaa", sum := "eb50498746a52607ca9493929e6e2ed760547246a3c37ae1f3e653f1b6623ea3", func := "hostler/hostlerlaw22.MasterApart", spec := "masterApart", plainKeys := false, apart := false }
def MasterApartSaid : Prop := masterApartRow.holds Try.pinned (OpenSpec.ofChange masterApartSpec)

/-- ITS FALSE NEIGHBOUR: 'it returns false'. Refute it at one input. -/
def masterApartWrong : ChangeSpec := { name := "masterApart", fn := fun _ => fun
  | [d1, d2] => { results := [.lit (.bool false)], args := [d1, d2] }
  | _ => none }
def MasterApartWrongFalsely : Prop := masterApartRow.holds Try.pinned (OpenSpec.ofChange masterApartWrong)

/- THE SECOND FORM. 'bulk': how many values and letters a reading holds, each counted each time it is reached (what is shared counts as often as it is met; a slice's spare places count too). A statement '..UptoSaid' is the law's where the arguments, and the package variables that the reading takes, are together of bulk at most 1048576: NARROWER than '..Said'. Prove '..Said' where nothing that the law and all that it calls make is longer than what came in: it says more and counts as full. Else prove '..UptoSaid'. A law counts once. -/
mutual
def uptoBulk {H : Type} : DataW H → Nat
  | .lit (.string bytes) => bytes.length + 1
  | .lit _ => 1
  | .nil => 1
  | .ptr d => uptoBulk d + 1
  | .slice elems spare => uptoBulkAll elems + uptoBulkAll spare + 1
  | .agg parts => uptoBulkAll parts + 1
  | .iface _ d => uptoBulk d + 1
  | .map entries => uptoBulkEntries entries + 1
  | .held _ => 1
def uptoBulkAll {H : Type} : List (DataW H) → Nat
  | [] => 0
  | d :: r => uptoBulk d + uptoBulkAll r
def uptoBulkEntries {H : Type} : List (Lit × DataW H) → Nat
  | [] => 0
  | x :: r => uptoBulkEntry x + uptoBulkEntries r
def uptoBulkEntry {H : Type} : Lit × DataW H → Nat
  | (.string bytes, d) => bytes.length + uptoBulk d + 1
  | (_, d) => uptoBulk d + 1
 end
def uptoSmall : (H : Type) → List (DataW H) → Bool := fun _ ds => decide (uptoBulkAll ds ≤ 1048576)
def OpenSpec.upto (s : _root_.Go.ChangeSpec) : _root_.Go.OpenSpec := { _root_.Go.OpenSpec.ofChange s with cond := some uptoSmall }

/-- 'hostlerlaw10.BackoffDraws', WHERE WHAT IT READS IS OF BULK AT MOST 1048576: true; the input reads as it did. -/
def backoffDrawsUptoRow : OpenClaim := { program := "ytgilnhagddihcaa", sum := "eb50498746a52607ca9493929e6e2ed760547246a3c37ae1f3e653f1b6623ea3", func := "hostler/hostlerlaw10.BackoffDraws", spec := "backoffDraws", plainKeys := false, apart := false, narrowed := true }
def BackoffDrawsUptoSaid : Prop := backoffDrawsUptoRow.holds Try.pinned (OpenSpec.upto backoffDrawsSpec)

/-- 'hostlerlaw10.BackoffTells', WHERE WHAT IT READS IS OF BULK AT MOST 1048576: true; the input reads as it did. -/
def backoffTellsUptoRow : OpenClaim := { program := "ytgilnhagddihcaa", sum := "eb50498746a52607ca9493929e6e2ed760547246a3c37ae1f3e653f1b6623ea3", func := "hostler/hostlerlaw10.BackoffTells", spec := "backoffTells", plainKeys := false, apart := false, narrowed := true }
def BackoffTellsUptoSaid : Prop := backoffTellsUptoRow.holds Try.pinned (OpenSpec.upto backoffTellsSpec)

/-- 'hostlerlaw10.BackoffBounds', WHERE WHAT IT READS IS OF BULK AT MOST 1048576: true; the input reads as it did. -/
def backoffBoundsUptoRow : OpenClaim := { program := "ytgilnhagddihcaa", sum := "eb50498746a52607ca9493929e6e2ed760547246a3c37ae1f3e653f1b6623ea3", func := "hostler/hostlerlaw10.BackoffBounds", spec := "backoffBounds", plainKeys := false, apart := false, narrowed := true }
def BackoffBoundsUptoSaid : Prop := backoffBoundsUptoRow.holds Try.pinned (OpenSpec.upto backoffBoundsSpec)

/-- 'hostlerlaw02.NeedTells', WHERE WHAT IT READS IS OF BULK AT MOST 1048576: true; the input reads as it did. -/
def needTellsUptoRow : OpenClaim := { program := "ytgilnhagddihcaa", sum := "eb50498746a52607ca9493929e6e2ed760547246a3c37ae1f3e653f1b6623ea3", func := "hostler/hostlerlaw02.NeedTells", spec := "needTells", plainKeys := false, apart := false, narrowed := true }
def NeedTellsUptoSaid : Prop := needTellsUptoRow.holds Try.pinned (OpenSpec.upto needTellsSpec)

/-- 'hostlerlaw02.NeedEdges', WHERE WHAT IT READS IS OF BULK AT MOST 1048576: true; the input reads as it did. -/
def needEdgesUptoRow : OpenClaim := { program := "ytgilnhagddihcaa", sum := "eb50498746a52607ca9493929e6e2ed760547246a3c37ae1f3e653f1b6623ea3", func := "hostler/hostlerlaw02.NeedEdges", spec := "needEdges", plainKeys := false, apart := false, narrowed := true }
def NeedEdgesUptoSaid : Prop := needEdgesUptoRow.holds Try.pinned (OpenSpec.upto needEdgesSpec)

/-- 'hostlerlaw02.NeedSums', WHERE WHAT IT READS IS OF BULK AT MOST 1048576: true; the input reads as it did. -/
def needSumsUptoRow : OpenClaim := { program := "ytgilnhagddihcaa", sum := "eb50498746a52607ca9493929e6e2ed760547246a3c37ae1f3e653f1b6623ea3", func := "hostler/hostlerlaw02.NeedSums", spec := "needSums", plainKeys := false, apart := false, narrowed := true }
def NeedSumsUptoSaid : Prop := needSumsUptoRow.holds Try.pinned (OpenSpec.upto needSumsSpec)

/-- 'hostlerlaw09.LifeRows', WHERE WHAT IT READS IS OF BULK AT MOST 1048576: true; the input reads as it did. -/
def lifeRowsUptoRow : OpenClaim := { program := "ytgilnhagddihcaa", sum := "eb50498746a52607ca9493929e6e2ed760547246a3c37ae1f3e653f1b6623ea3", func := "hostler/hostlerlaw09.LifeRows", spec := "lifeRows", plainKeys := false, apart := false, narrowed := true }
def LifeRowsUptoSaid : Prop := lifeRowsUptoRow.holds Try.pinned (OpenSpec.upto lifeRowsSpec)

/-- 'hostlerlaw09.LifeTells', WHERE WHAT IT READS IS OF BULK AT MOST 1048576: true; the input reads as it did. -/
def lifeTellsUptoRow : OpenClaim := { program := "ytgilnhagddihcaa", sum := "eb50498746a52607ca9493929e6e2ed760547246a3c37ae1f3e653f1b6623ea3", func := "hostler/hostlerlaw09.LifeTells", spec := "lifeTells", plainKeys := false, apart := false, narrowed := true }
def LifeTellsUptoSaid : Prop := lifeTellsUptoRow.holds Try.pinned (OpenSpec.upto lifeTellsSpec)

/-- 'hostlerlaw09.LifeEnds', WHERE WHAT IT READS IS OF BULK AT MOST 1048576: true; the input reads as it did. -/
def lifeEndsUptoRow : OpenClaim := { program := "ytgilnhagddihcaa", sum := "eb50498746a52607ca9493929e6e2ed760547246a3c37ae1f3e653f1b6623ea3", func := "hostler/hostlerlaw09.LifeEnds", spec := "lifeEnds", plainKeys := false, apart := false, narrowed := true }
def LifeEndsUptoSaid : Prop := lifeEndsUptoRow.holds Try.pinned (OpenSpec.upto lifeEndsSpec)

/-- 'hostlerlaw22.MasterAcks', WHERE WHAT IT READS IS OF BULK AT MOST 1048576: true; the input reads as it did. -/
def masterAcksUptoRow : OpenClaim := { program := "ytgilnhagddihcaa", sum := "eb50498746a52607ca9493929e6e2ed760547246a3c37ae1f3e653f1b6623ea3", func := "hostler/hostlerlaw22.MasterAcks", spec := "masterAcks", plainKeys := false, apart := false, narrowed := true }
def MasterAcksUptoSaid : Prop := masterAcksUptoRow.holds Try.pinned (OpenSpec.upto masterAcksSpec)

/-- 'hostlerlaw22.MasterHears', WHERE WHAT IT READS IS OF BULK AT MOST 1048576: true; the input reads as it did. -/
def masterHearsUptoRow : OpenClaim := { program := "ytgilnhagddihcaa", sum := "eb50498746a52607ca9493929e6e2ed760547246a3c37ae1f3e653f1b6623ea3", func := "hostler/hostlerlaw22.MasterHears", spec := "masterHears", plainKeys := false, apart := false, narrowed := true }
def MasterHearsUptoSaid : Prop := masterHearsUptoRow.holds Try.pinned (OpenSpec.upto masterHearsSpec)

/-- 'hostlerlaw22.MasterApart', WHERE WHAT IT READS IS OF BULK AT MOST 1048576: true; the input reads as it did. -/
def masterApartUptoRow : OpenClaim := { program := "ytgilnhagddihcaa", sum := "eb50498746a52607ca9493929e6e2ed760547246a3c37ae1f3e653f1b6623ea3", func := "hostler/hostlerlaw22.MasterApart", spec := "masterApart", plainKeys := false, apart := false, narrowed := true }
def MasterApartUptoSaid : Prop := masterApartUptoRow.holds Try.pinned (OpenSpec.upto masterApartSpec)

end Rows
end Go.Proofs.Ytgilnhagddihcaa
