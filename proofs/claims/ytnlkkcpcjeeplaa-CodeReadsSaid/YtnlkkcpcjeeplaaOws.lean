/- A slice of texts that came in. -/
import Derived.Test.YtnlkkcpcjeeplaaOwn
namespace Go.Proofs.Ytnlkkcpcjeeplaa
open Go.ChangeShapes Go.WideShapes Go.ChangeAt Go.RowKit

theorem sl_strs {H : Type} {enc : TypeId × Value → H} {P : Program} {W : World} {base : Nat} {spare : Nat → Bool} {held : Bool} {t e : Nat} {a : Option Addr} {len cap : Nat} {d : DataW H} {ps : List MemPlace}
    (hu : P.underlying t = some (.slice e)) (he : P.underlying e = some .string) (hk : P.cellsOf e = 1) (h : DataW.Trod enc P W base spare held t (.slice a len cap) d ps) :
    ∃ V : Nat → ByteArray, Sl W a len cap 1 (fun i _ => .string (V i)) := by
  obtain ⟨V, hS, hV⟩ := sl_of hu hk (by decide) h
  refine ⟨fun i => match V i 0 with | .string s => s | _ => ByteArray.empty, hS.1, hS.2.1, ?_⟩
  rcases hS.2.2 with h0 | ⟨b, off, rfl, hc⟩
  · exact .inl h0
  · refine .inr ⟨b, off, rfl, fun i hi j hj => ?_⟩
    obtain ⟨m, D, hD⟩ := hV i hi
    have hj0 : j = 0 := by omega
    subst hj0
    have e1 : (List.range 1).map (V i) = [V i 0] := rfl
    rw [e1] at hD
    obtain ⟨s, hs, _, _⟩ := DataW.trod_string he hD
    have hs' : V i 0 = .string s := by simpa using hs
    rw [hc i hi 0 hj]
    simp only [hs']
end Go.Proofs.Ytnlkkcpcjeeplaa
