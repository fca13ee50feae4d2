/- A slice of texts that came in. -/
import Derived.Test.YtecgaggkpbikbaaDoorOwn
set_option linter.unusedVariables false
namespace Go.Proofs.YtecgaggkpbikbaaDoor
open Go.ChangeShapes Go.WideShapes Go.ChangeAt Go.RowKit

/-- Each text of the slice stands where it should. -/
def Txs (W : World) (A : Option Addr) (len : Nat) : Prop := len ≤ 9223372036854775807 ∧ ∀ j : Nat, j < len → ∃ b off p, A = some ⟨b, off, none⟩ ∧ b < W.heap.size ∧ p.size ≤ 9223372036854775807 ∧ W.cell? ⟨b, off + j, none⟩ = some (.string p)
theorem sl_txs {H : Type} {enc : TypeId × Value → H} {P : Program} {W : World} {base : Nat} {spare : Nat → Bool} {held : Bool} {t e : Nat} {a : Option Addr} {len cap : Nat} {d : DataW H} {ps : List MemPlace}
    (hu : P.underlying t = some (.slice e)) (he : P.underlying e = some .string) (hk : P.cellsOf e = 1) (h : DataW.Trod enc P W base spare held t (.slice a len cap) d ps) : Txs W a len := by
  obtain ⟨V, hS, hV⟩ := sl_of hu hk (by decide) h
  refine ⟨by have := hS.1; have := hS.2.1; omega, fun j hj => ?_⟩
  rcases hS.2.2 with h0 | ⟨b, off, rfl, hc⟩
  · omega
  · obtain ⟨m, D, hD⟩ := hV j hj
    have e1 : (List.range 1).map (V j) = [V j 0] := rfl
    rw [e1] at hD
    obtain ⟨s, hs, _, hz⟩ := DataW.trod_string he hD
    have hs' : V j 0 = .string s := by simpa using hs
    have hc0 := hc j hj 0 (by omega)
    rw [hs', Nat.mul_one, Nat.add_zero] at hc0
    exact ⟨b, off, s, rfl, World.block_lt_of_cell? W ⟨b, _, none⟩ hc0, by unfold maxLen at hz; omega, hc0⟩
end Go.Proofs.YtecgaggkpbikbaaDoor
