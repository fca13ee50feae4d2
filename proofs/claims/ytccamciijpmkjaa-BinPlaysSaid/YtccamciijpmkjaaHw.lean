/- Words for a drawn region that is walked by hand under a growing S. -/
import Derived.Test.YtccamciijpmkjaaAp
import Derived.Deep.RegionHeld3
set_option linter.unusedVariables false
set_option linter.unusedSimpArgs false
namespace Go.Proofs.Ytccamciijpmkjaa
open Go.RowKit

section
variable {P : Program} {ops : Array Oper} {Q : Exit → Act → World → Prop} {md : Region.Mode} {S : World → Prop}

theorem wpAnyH_add (X : World → Prop) : ∀ {fuel : Nat} {listed : Array Bool} {a : Act} {w : World}, wpAnyH P md ops Q (fun W => S W ∧ X W) fuel listed a w → wpAnyH P md ops Q S fuel listed a w
  | 0, _, _, _, h => h
  | _ + 1, _, _, _, h => ⟨h.1, fun i hi => wpOp_mono (fun _ _ h' => ⟨h'.1.1, wpAnyH_add X h'.2⟩) (h.2 i hi)⟩

theorem heldStart {id : Nat} {a : Act} {w : World} (hm : P.follows .mixedOrders = true) (hS : ∀ W, Kp0 w W → S W)
    (h : ∀ W, Kp0 w W → S W → wpAnyH P .any ops Q S ops.size (Array.replicate ops.size false) a W) : (Code.region id ops true).wp P Q a w :=
  wp_region_held_drew hm (hS _ ((Kp.refl _ _).drew)) (fun hs => h _ ((Kp.refl _ _).drew) hs)

theorem heldAlloc {R K : Act → World → Prop} {a : Act} {w : World} {cs : Array Value} {T : TypeId} (hK : ∀ a w, S w → (S w → R a w) → K a w)
    (hS : ∀ W, Kp0 w W → Blk W w.heap.size cs T → S W) (h : ∀ W, Kp0 w W → Blk W w.heap.size cs T → S W → R a W) : K a (w.alloc (.cells cs T)) :=
  hK _ _ (hS _ ((Kp.refl _ _).alloc _) (blk_new _ _ rfl)) (fun hs => h _ ((Kp.refl _ _).alloc _) (blk_new _ _ rfl) hs)
end

theorem far1 {W : World} {B D i : Nat} {u v : Value} (h : W.cell? ⟨D, i, none⟩ = some v) (hne : B ≠ D) : (W.setCell ⟨B, 0, none⟩ u).cell? ⟨D, i, none⟩ = some v := by
  rw [World.cell?_setCell_far _ _ _ _ hne]; exact h
theorem far2 {W : World} {B D i : Nat} {u0 u1 v : Value} (h : W.cell? ⟨D, i, none⟩ = some v) (hne : B ≠ D) : ((W.setCell ⟨B, 0, none⟩ u0).setCell ⟨B, 1, none⟩ u1).cell? ⟨D, i, none⟩ = some v :=
  by rw [World.cell?_setCell_far _ _ _ _ hne]; exact far1 h hne
end Go.Proofs.Ytccamciijpmkjaa
