/- A world in which the listed variables hold what the program's text lays: the witness of the rows. -/
import Derived.Test.YtecgaggkpbikbaaDoorRows
import Derived.Lib.LaidIn
import Derived.LaidMore
import Derived.ProofKit
set_option linter.unusedVariables false
namespace Go.Proofs.YtecgaggkpbikbaaDoor
open Go.ChangeShapes Go.WideShapes Go.ChangeAt Go.RowKit

theorem own : ownKnob Tryd.prog.godebug = none := by kernel_rfl
/-- The cells of a datum of numbers. -/
def flat : Nat → DataW Unit → List Value
  | n + 1, .lit (.int k v) => [.int k v]
  | n + 1, .agg l => l.flatMap (flat n)
  | _, _ => []
noncomputable def laidWorld (os : Os) : World :=
  let w0 := World.holding Tryd.prog os ⟨#[], #[], []⟩
  let put (h : Array Obj) (g : Nat) (cs : Array Value) : Array Obj := h.modify g fun
    | .cells _ t frozen => .cells cs t frozen
    | o => o
  let h1 := put w0.heap 1 (flat 4 Rows.laid_unicode_utf8_first).toArray
  let h2 := put h1 2 (flat 4 Rows.laid_unicode_utf8_acceptRanges).toArray
  let h3 := put h2 3 (flat 4 Rows.laid_internal_strconv_uint64pow10).toArray
  let h4 := put h3 4 (flat 4 Rows.laid_math_bits_deBruijn32tab).toArray
  let h5 := put h4 5 (flat 4 Rows.laid_math_bits_deBruijn64tab).toArray
  { w0 with heap := h5 }
theorem laid_met2 (os : Os) (args : Array Value) : laidMetH Tryd.prog Rows.nameFormsRow.laid ((laidWorld os).forCall (fun _ _ => 0) ⟨#[], args, []⟩).memory := by
  rw [MakeChecks.laidMetH_plain _ _ _ (by kernel_rfl)]
  exact (LaidIn.of_run (l := Rows.nameFormsRow.laid) [1, 2] 8 (by kernel_rfl) (by kernel_rfl) (by kernel_rfl) (by kernel_rfl)).met
end Go.Proofs.YtecgaggkpbikbaaDoor
