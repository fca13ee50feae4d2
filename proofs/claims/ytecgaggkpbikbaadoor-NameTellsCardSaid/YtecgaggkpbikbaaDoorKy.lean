/- A key that came in by value. -/
import Derived.Test.YtecgaggkpbikbaaDoorLw
import Derived.Lib.SmallJoins
import Derived.ShutString
import Derived.OpenShut
set_option linter.unusedVariables false
namespace Go.Proofs.YtecgaggkpbikbaaDoor
open Go.ChangeShapes Go.WideShapes Go.ChangeAt Go.RowKit
open Go.ChangeMaps (open_string shut_string)
open Go.Joins

set_option maxRecDepth 100000 in
theorem open_key {H : Type} {enc : TypeId × Value → H} {W : World} {r : Reach} {b0 base : Nat} {spare : Nat → Bool} {held : Bool} {v : Value} {d : DataW H} {p : List MemPlace}
    (hv : Value.okWide Tryd.prog W r b0 30 v) (h : DataW.Trod enc Tryd.prog W base spare held 30 v d p) :
    ∃ a b : ByteArray, v = .agg #[.string a, .string b] ∧ p = [] ∧ ∀ W' sp, DataW.Trod enc Tryd.prog W' base sp held 30 v d [] := by
  obtain ⟨v0, v1, y0, y1, n, rfl, rfl, rfl, h0, h1⟩ := Go.Joins.open_agg2 Tryd.underlying30 (by kernel_rfl) (by kernel_rfl) hv h
  obtain ⟨a, ha, ya, za⟩ := DataW.trod_string Tryd.underlying9 h0
  obtain ⟨b, hb, yb, zb⟩ := DataW.trod_string Tryd.underlying9 h1
  obtain rfl : v0 = .string a := by simpa using ha
  obtain rfl : v1 = .string b := by simpa using hb
  subst ya; subst yb
  refine ⟨a, b, rfl, rfl, fun W' sp => ?_⟩
  exact shut_agg2 Tryd.underlying30 (by kernel_rfl) (by kernel_rfl) (field_of_Trod (shut_string Tryd.underlying9 (za)) rfl) (field_of_Trod (shut_string Tryd.underlying9 (zb)) rfl)
end Go.Proofs.YtecgaggkpbikbaaDoor
