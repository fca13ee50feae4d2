/- The witness of the rows of package path: all five variables. -/
import Derived.Test.YtecgaggkpbikbaaDoorLw
set_option linter.unusedVariables false
namespace Go.Proofs.YtecgaggkpbikbaaDoor
open Go.ChangeShapes Go.WideShapes Go.ChangeAt Go.RowKit
theorem laid_met5 (os : Os) (args : Array Value) : laidMetH Tryd.prog Rows.pathFormsRow.laid ((laidWorld os).forCall (fun _ _ => 0) ⟨#[], args, []⟩).memory := by
  rw [MakeChecks.laidMetH_plain _ _ _ (by kernel_rfl)]
  exact (LaidIn.of_run (l := Rows.pathFormsRow.laid) [1, 2, 3, 4, 5] 8 (by kernel_rfl) (by kernel_rfl) (by kernel_rfl) (by kernel_rfl)).met
end Go.Proofs.YtecgaggkpbikbaaDoor
