/-
  No cell of these rows narrows 'for every input' (looked for: loops, veiled, ifaces, maps, wideKeys, modest, calm, conditions, laid).
  DERIVED. THE GIVEN ROWS OF THIS SEAT. 9 by the template 'for every input the law returns true; each argument reads behind the call as it read before'; 0 by the template 'total and deterministic' (their statements: YtccamciijpmkjaaTotals.lean).
  GIVEN WITH THE SEED: the statements are not yours to turn. If you find one false, say at which input.
  Laid BY PROGRAM, IN A SANDBOX (cutbox-rows.mjs): the forced cells as the released guide's own fill.sh prints them over the translation ad2be99eb51c6230… (all of the seat's roots in one cut). By AI agents, Wed Nov 11 2026. No macro, syntax, notation, axiom, sorry.
-/
import Derived.Test.YtccamciijpmkjaaChecked
import GoSem.Claim
import GoSem.ClaimJoined
import GoSem.ClaimMapViews
import Derived.JoinedTies
import Derived.KernelRfl
namespace Go.Proofs.Ytccamciijpmkjaa
/- THE CELL 'sum', in the pinned program and in every row, IS THE sha256 OF THE DUMP (.gsa) THAT YtccamciijpmkjaaProg.lean LOADS. Nothing in Lean hashes anything: it is a label: what it is worth is what the hold of that sum in a sandbox is worth. -/
noncomputable def Try.pinned : Pinned := { name := "ytccamciijpmkjaa", sum := "ad2be99eb51c62303365bcd3b0ad2e4e8125867e73aaecfe5a4135b9e9cfe991", checked := Try.checked }
namespace Rows
def none {H : Type} : Left H := { results := [], args := [] }

/-- 'hostlerlaw11.StreamAgain': WHATEVER THE INPUT: true; the input reads as it did. -/
def streamAgainSpec : ChangeSpec := { name := "streamAgain", fn := fun _ => fun
  | [d1, d2, d3, d4] => { results := [.lit (.bool true)], args := [d1, d2, d3, d4] }
  | _ => none }
def streamAgainRow : OpenClaim := { program := "ytccamciijpmkjaa", sum := "ad2be99eb51c62303365bcd3b0ad2e4e8125867e73aaecfe5a4135b9e9cfe991", func := "hostler/hostlerlaw11.StreamAgain", spec := "streamAgain", apart := false }
def StreamAgainSaid : Prop := streamAgainRow.holds Try.pinned (OpenSpec.ofChange streamAgainSpec)

/-- ITS FALSE NEIGHBOUR: 'it returns false'. Refute it at one input. -/
def streamAgainWrong : ChangeSpec := { name := "streamAgain", fn := fun _ => fun
  | [d1, d2, d3, d4] => { results := [.lit (.bool false)], args := [d1, d2, d3, d4] }
  | _ => none }
def StreamAgainWrongFalsely : Prop := streamAgainRow.holds Try.pinned (OpenSpec.ofChange streamAgainWrong)

/-- 'hostlerlaw11.StreamWhole': WHATEVER THE INPUT: true; the input reads as it did. -/
def streamWholeSpec : ChangeSpec := { name := "streamWhole", fn := fun _ => fun
  | [d1, d2, d3, d4] => { results := [.lit (.bool true)], args := [d1, d2, d3, d4] }
  | _ => none }
def streamWholeRow : OpenClaim := { program := "ytccamciijpmkjaa", sum := "ad2be99eb51c62303365bcd3b0ad2e4e8125867e73aaecfe5a4135b9e9cfe991", func := "hostler/hostlerlaw11.StreamWhole", spec := "streamWhole", apart := false }
def StreamWholeSaid : Prop := streamWholeRow.holds Try.pinned (OpenSpec.ofChange streamWholeSpec)

/-- ITS FALSE NEIGHBOUR: 'it returns false'. Refute it at one input. -/
def streamWholeWrong : ChangeSpec := { name := "streamWhole", fn := fun _ => fun
  | [d1, d2, d3, d4] => { results := [.lit (.bool false)], args := [d1, d2, d3, d4] }
  | _ => none }
def StreamWholeWrongFalsely : Prop := streamWholeRow.holds Try.pinned (OpenSpec.ofChange streamWholeWrong)

/-- 'hostlerlaw11.StreamOrder': WHATEVER THE INPUT: true; the input reads as it did. -/
def streamOrderSpec : ChangeSpec := { name := "streamOrder", fn := fun _ => fun
  | [d] => { results := [.lit (.bool true)], args := [d] }
  | _ => none }
def streamOrderRow : OpenClaim := { program := "ytccamciijpmkjaa", sum := "ad2be99eb51c62303365bcd3b0ad2e4e8125867e73aaecfe5a4135b9e9cfe991", func := "hostler/hostlerlaw11.StreamOrder", spec := "streamOrder", apart := false }
def StreamOrderSaid : Prop := streamOrderRow.holds Try.pinned (OpenSpec.ofChange streamOrderSpec)

/-- ITS FALSE NEIGHBOUR: 'it returns false'. Refute it at one input. -/
def streamOrderWrong : ChangeSpec := { name := "streamOrder", fn := fun _ => fun
  | [d] => { results := [.lit (.bool false)], args := [d] }
  | _ => none }
def StreamOrderWrongFalsely : Prop := streamOrderRow.holds Try.pinned (OpenSpec.ofChange streamOrderWrong)

/-- 'hostlerlaw11.StreamOwn': WHATEVER THE INPUT: true; the input reads as it did. -/
def streamOwnSpec : ChangeSpec := { name := "streamOwn", fn := fun _ => fun
  | [d] => { results := [.lit (.bool true)], args := [d] }
  | _ => none }
def streamOwnRow : OpenClaim := { program := "ytccamciijpmkjaa", sum := "ad2be99eb51c62303365bcd3b0ad2e4e8125867e73aaecfe5a4135b9e9cfe991", func := "hostler/hostlerlaw11.StreamOwn", spec := "streamOwn", apart := false }
def StreamOwnSaid : Prop := streamOwnRow.holds Try.pinned (OpenSpec.ofChange streamOwnSpec)

/-- ITS FALSE NEIGHBOUR: 'it returns false'. Refute it at one input. -/
def streamOwnWrong : ChangeSpec := { name := "streamOwn", fn := fun _ => fun
  | [d] => { results := [.lit (.bool false)], args := [d] }
  | _ => none }
def StreamOwnWrongFalsely : Prop := streamOwnRow.holds Try.pinned (OpenSpec.ofChange streamOwnWrong)

/-- 'hostlerlaw11.StreamPlays': WHATEVER THE INPUT: true; the input reads as it did. -/
def streamPlaysSpec : ChangeSpec := { name := "streamPlays", fn := fun _ => fun
  | [d1, d2, d3] => { results := [.lit (.bool true)], args := [d1, d2, d3] }
  | _ => none }
def streamPlaysRow : OpenClaim := { program := "ytccamciijpmkjaa", sum := "ad2be99eb51c62303365bcd3b0ad2e4e8125867e73aaecfe5a4135b9e9cfe991", func := "hostler/hostlerlaw11.StreamPlays", spec := "streamPlays", apart := false }
def StreamPlaysSaid : Prop := streamPlaysRow.holds Try.pinned (OpenSpec.ofChange streamPlaysSpec)

/-- ITS FALSE NEIGHBOUR: 'it returns false'. Refute it at one input. -/
def streamPlaysWrong : ChangeSpec := { name := "streamPlays", fn := fun _ => fun
  | [d1, d2, d3] => { results := [.lit (.bool false)], args := [d1, d2, d3] }
  | _ => none }
def StreamPlaysWrongFalsely : Prop := streamPlaysRow.holds Try.pinned (OpenSpec.ofChange streamPlaysWrong)

/-- 'hostlerlaw15.BinDelays': WHATEVER THE INPUT: true; the input reads as it did. -/
def binDelaysSpec : ChangeSpec := { name := "binDelays", fn := fun _ => fun
  | [d1, d2, d3, d4] => { results := [.lit (.bool true)], args := [d1, d2, d3, d4] }
  | _ => none }
def binDelaysRow : OpenClaim := { program := "ytccamciijpmkjaa", sum := "ad2be99eb51c62303365bcd3b0ad2e4e8125867e73aaecfe5a4135b9e9cfe991", func := "hostler/hostlerlaw15.BinDelays", spec := "binDelays", apart := false }
def BinDelaysSaid : Prop := binDelaysRow.holds Try.pinned (OpenSpec.ofChange binDelaysSpec)

/-- ITS FALSE NEIGHBOUR: 'it returns false'. Refute it at one input. -/
def binDelaysWrong : ChangeSpec := { name := "binDelays", fn := fun _ => fun
  | [d1, d2, d3, d4] => { results := [.lit (.bool false)], args := [d1, d2, d3, d4] }
  | _ => none }
def BinDelaysWrongFalsely : Prop := binDelaysRow.holds Try.pinned (OpenSpec.ofChange binDelaysWrong)

/-- 'hostlerlaw15.BinOrder': WHATEVER THE INPUT: true; the input reads as it did. -/
def binOrderSpec : ChangeSpec := { name := "binOrder", fn := fun _ => fun
  | [d1, d2, d3] => { results := [.lit (.bool true)], args := [d1, d2, d3] }
  | _ => none }
def binOrderRow : OpenClaim := { program := "ytccamciijpmkjaa", sum := "ad2be99eb51c62303365bcd3b0ad2e4e8125867e73aaecfe5a4135b9e9cfe991", func := "hostler/hostlerlaw15.BinOrder", spec := "binOrder", unfollowed := true, recurses := true, apart := false }
def BinOrderSaid : Prop := binOrderRow.holds Try.pinned (OpenSpec.ofChange binOrderSpec)

/-- ITS FALSE NEIGHBOUR: 'it returns false'. Refute it at one input. -/
def binOrderWrong : ChangeSpec := { name := "binOrder", fn := fun _ => fun
  | [d1, d2, d3] => { results := [.lit (.bool false)], args := [d1, d2, d3] }
  | _ => none }
def BinOrderWrongFalsely : Prop := binOrderRow.holds Try.pinned (OpenSpec.ofChange binOrderWrong)

/-- 'hostlerlaw15.BinCopies': WHATEVER THE INPUT: true; the input reads as it did. -/
def binCopiesSpec : ChangeSpec := { name := "binCopies", fn := fun _ => fun
  | [d1, d2] => { results := [.lit (.bool true)], args := [d1, d2] }
  | _ => none }
def binCopiesRow : OpenClaim := { program := "ytccamciijpmkjaa", sum := "ad2be99eb51c62303365bcd3b0ad2e4e8125867e73aaecfe5a4135b9e9cfe991", func := "hostler/hostlerlaw15.BinCopies", spec := "binCopies", unfollowed := true, recurses := true, apart := false }
def BinCopiesSaid : Prop := binCopiesRow.holds Try.pinned (OpenSpec.ofChange binCopiesSpec)

/-- ITS FALSE NEIGHBOUR: 'it returns false'. Refute it at one input. -/
def binCopiesWrong : ChangeSpec := { name := "binCopies", fn := fun _ => fun
  | [d1, d2] => { results := [.lit (.bool false)], args := [d1, d2] }
  | _ => none }
def BinCopiesWrongFalsely : Prop := binCopiesRow.holds Try.pinned (OpenSpec.ofChange binCopiesWrong)

/-- 'hostlerlaw15.BinPlays': WHATEVER THE INPUT: true; the input reads as it did. -/
def binPlaysSpec : ChangeSpec := { name := "binPlays", fn := fun _ => fun
  | [d1, d2, d3] => { results := [.lit (.bool true)], args := [d1, d2, d3] }
  | _ => none }
def binPlaysRow : OpenClaim := { program := "ytccamciijpmkjaa", sum := "ad2be99eb51c62303365bcd3b0ad2e4e8125867e73aaecfe5a4135b9e9cfe991", func := "hostler/hostlerlaw15.BinPlays", spec := "binPlays", unfollowed := true, recurses := true, apart := false }
def BinPlaysSaid : Prop := binPlaysRow.holds Try.pinned (OpenSpec.ofChange binPlaysSpec)

/-- ITS FALSE NEIGHBOUR: 'it returns false'. Refute it at one input. -/
def binPlaysWrong : ChangeSpec := { name := "binPlays", fn := fun _ => fun
  | [d1, d2, d3] => { results := [.lit (.bool false)], args := [d1, d2, d3] }
  | _ => none }
def BinPlaysWrongFalsely : Prop := binPlaysRow.holds Try.pinned (OpenSpec.ofChange binPlaysWrong)

/- THE SECOND FORM. 'bulk': how many values and letters a reading holds, each counted each time it is reached (what is shared counts as often as it is met; a slice's spare places count too). A statement '..UptoSaid' is the law's where the arguments, and the package variables that the reading takes, are together of bulk at most 1048576: NARROWER than '..Said'. Prove '..Said' where nothing that the law and all that it calls make is longer than what came in: it says more and counts as full. Else prove '..UptoSaid'. A law counts once. -/
mutual
def uptoBulk {H : Type} : DataW H → Nat
  | .lit (.string bytes) => bytes.length + 1
  | .lit _ => 1
  | .nil => 1
  | .ptr d => uptoBulk d + 1
  | .slice elems spare => uptoBulkAll elems + uptoBulkAll spare + 1
  | .agg parts => uptoBulkAll parts + 1
  | .iface _ d => uptoBulk d + 1
  | .map entries => uptoBulkEntries entries + 1
  | .held _ => 1
def uptoBulkAll {H : Type} : List (DataW H) → Nat
  | [] => 0
  | d :: r => uptoBulk d + uptoBulkAll r
def uptoBulkEntries {H : Type} : List (Lit × DataW H) → Nat
  | [] => 0
  | x :: r => uptoBulkEntry x + uptoBulkEntries r
def uptoBulkEntry {H : Type} : Lit × DataW H → Nat
  | (.string bytes, d) => bytes.length + uptoBulk d + 1
  | (_, d) => uptoBulk d + 1
 end
def uptoSmall : (H : Type) → List (DataW H) → Bool := fun _ ds => decide (uptoBulkAll ds ≤ 1048576)
def OpenSpec.upto (s : _root_.Go.ChangeSpec) : _root_.Go.OpenSpec := { _root_.Go.OpenSpec.ofChange s with cond := some uptoSmall }

/-- 'hostlerlaw11.StreamAgain', WHERE WHAT IT READS IS OF BULK AT MOST 1048576: true; the input reads as it did. -/
def streamAgainUptoRow : OpenClaim := { program := "ytccamciijpmkjaa", sum := "ad2be99eb51c62303365bcd3b0ad2e4e8125867e73aaecfe5a4135b9e9cfe991", func := "hostler/hostlerlaw11.StreamAgain", spec := "streamAgain", apart := false, narrowed := true }
def StreamAgainUptoSaid : Prop := streamAgainUptoRow.holds Try.pinned (OpenSpec.upto streamAgainSpec)

/-- 'hostlerlaw11.StreamWhole', WHERE WHAT IT READS IS OF BULK AT MOST 1048576: true; the input reads as it did. -/
def streamWholeUptoRow : OpenClaim := { program := "ytccamciijpmkjaa", sum := "ad2be99eb51c62303365bcd3b0ad2e4e8125867e73aaecfe5a4135b9e9cfe991", func := "hostler/hostlerlaw11.StreamWhole", spec := "streamWhole", apart := false, narrowed := true }
def StreamWholeUptoSaid : Prop := streamWholeUptoRow.holds Try.pinned (OpenSpec.upto streamWholeSpec)

/-- 'hostlerlaw11.StreamOrder', WHERE WHAT IT READS IS OF BULK AT MOST 1048576: true; the input reads as it did. -/
def streamOrderUptoRow : OpenClaim := { program := "ytccamciijpmkjaa", sum := "ad2be99eb51c62303365bcd3b0ad2e4e8125867e73aaecfe5a4135b9e9cfe991", func := "hostler/hostlerlaw11.StreamOrder", spec := "streamOrder", apart := false, narrowed := true }
def StreamOrderUptoSaid : Prop := streamOrderUptoRow.holds Try.pinned (OpenSpec.upto streamOrderSpec)

/-- 'hostlerlaw11.StreamOwn', WHERE WHAT IT READS IS OF BULK AT MOST 1048576: true; the input reads as it did. -/
def streamOwnUptoRow : OpenClaim := { program := "ytccamciijpmkjaa", sum := "ad2be99eb51c62303365bcd3b0ad2e4e8125867e73aaecfe5a4135b9e9cfe991", func := "hostler/hostlerlaw11.StreamOwn", spec := "streamOwn", apart := false, narrowed := true }
def StreamOwnUptoSaid : Prop := streamOwnUptoRow.holds Try.pinned (OpenSpec.upto streamOwnSpec)

/-- 'hostlerlaw11.StreamPlays', WHERE WHAT IT READS IS OF BULK AT MOST 1048576: true; the input reads as it did. -/
def streamPlaysUptoRow : OpenClaim := { program := "ytccamciijpmkjaa", sum := "ad2be99eb51c62303365bcd3b0ad2e4e8125867e73aaecfe5a4135b9e9cfe991", func := "hostler/hostlerlaw11.StreamPlays", spec := "streamPlays", apart := false, narrowed := true }
def StreamPlaysUptoSaid : Prop := streamPlaysUptoRow.holds Try.pinned (OpenSpec.upto streamPlaysSpec)

/-- 'hostlerlaw15.BinDelays', WHERE WHAT IT READS IS OF BULK AT MOST 1048576: true; the input reads as it did. -/
def binDelaysUptoRow : OpenClaim := { program := "ytccamciijpmkjaa", sum := "ad2be99eb51c62303365bcd3b0ad2e4e8125867e73aaecfe5a4135b9e9cfe991", func := "hostler/hostlerlaw15.BinDelays", spec := "binDelays", apart := false, narrowed := true }
def BinDelaysUptoSaid : Prop := binDelaysUptoRow.holds Try.pinned (OpenSpec.upto binDelaysSpec)

/-- 'hostlerlaw15.BinOrder', WHERE WHAT IT READS IS OF BULK AT MOST 1048576: true; the input reads as it did. -/
def binOrderUptoRow : OpenClaim := { program := "ytccamciijpmkjaa", sum := "ad2be99eb51c62303365bcd3b0ad2e4e8125867e73aaecfe5a4135b9e9cfe991", func := "hostler/hostlerlaw15.BinOrder", spec := "binOrder", unfollowed := true, recurses := true, apart := false, narrowed := true }
def BinOrderUptoSaid : Prop := binOrderUptoRow.holds Try.pinned (OpenSpec.upto binOrderSpec)

/-- 'hostlerlaw15.BinCopies', WHERE WHAT IT READS IS OF BULK AT MOST 1048576: true; the input reads as it did. -/
def binCopiesUptoRow : OpenClaim := { program := "ytccamciijpmkjaa", sum := "ad2be99eb51c62303365bcd3b0ad2e4e8125867e73aaecfe5a4135b9e9cfe991", func := "hostler/hostlerlaw15.BinCopies", spec := "binCopies", unfollowed := true, recurses := true, apart := false, narrowed := true }
def BinCopiesUptoSaid : Prop := binCopiesUptoRow.holds Try.pinned (OpenSpec.upto binCopiesSpec)

/-- 'hostlerlaw15.BinPlays', WHERE WHAT IT READS IS OF BULK AT MOST 1048576: true; the input reads as it did. -/
def binPlaysUptoRow : OpenClaim := { program := "ytccamciijpmkjaa", sum := "ad2be99eb51c62303365bcd3b0ad2e4e8125867e73aaecfe5a4135b9e9cfe991", func := "hostler/hostlerlaw15.BinPlays", spec := "binPlays", unfollowed := true, recurses := true, apart := false, narrowed := true }
def BinPlaysUptoSaid : Prop := binPlaysUptoRow.holds Try.pinned (OpenSpec.upto binPlaysSpec)

end Rows
end Go.Proofs.Ytccamciijpmkjaa
