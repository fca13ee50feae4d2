/- Package disk: Rename, Cut: the plain model. -/
import Derived.Test.YtkokgbmeienokaaDx
set_option linter.unusedVariables false
set_option linter.unusedSimpArgs false
namespace Go.Proofs.Ytkokgbmeienokaa
open Go.RowKit

noncomputable def Dk.ren (d : Dk) (p q : ByteArray) : Int × Dk :=
  if d.may [p, q] ≠ 0 then (d.may [p, q], d) else if d.there p ≠ 0 then (d.there p, d) else if d.step.1 ≠ 0 then d.step
  else (0, (d.step.2.gone p).put q ⟨(d.old p).b, (d.old p).b.length, true⟩)
noncomputable def Dk.cut (d : Dk) (p : ByteArray) (n : Int) : Int × Dk :=
  if d.there p ≠ 0 then (d.there p, d) else if n < 0 ∨ (d.len p : Int) < n then (1, d) else if d.step.1 ≠ 0 then d.step
  else (0, d.step.2.put p ⟨(d.old p).b.take n.toNat, n.toNat, true⟩)

/-- A file renamed: no more bytes than ahead of it. -/
theorem ren_used (d : Dk) (p q : ByteArray) (hn : d.ks.Nodup) (hk : ∀ p, p ∈ d.ks ↔ (d.F p).isSome = true) :
    ((d.gone p).put q ⟨(d.old p).b, (d.old p).b.length, true⟩).used ≤ d.used := by
  have hg : (d.gone p).used + d.len p ≤ d.used := by
    by_cases hp : p ∈ d.ks
    · have : ∀ l : List ByteArray, l.Nodup → p ∈ l → ((l.filter (fun r => decide (r ≠ p))).map (d.gone p).len).sum + d.len p ≤ (l.map d.len).sum := by
        intro l hl hm
        induction l with
        | nil => cases hm
        | cons x l ih =>
          rw [List.nodup_cons] at hl
          have hsame : ∀ l : List ByteArray, ((l.filter (fun r => decide (r ≠ p))).map (d.gone p).len).sum ≤ (l.map d.len).sum := by
            intro l
            induction l with
            | nil => simp
            | cons y l ih =>
              simp only [List.filter_cons]
              have hy : (d.gone p).len y ≤ d.len y := by
                show (match pt d.F p none y with | some f => f.b.length | none => 0) ≤ (match d.F y with | some f => f.b.length | none => 0)
                by_cases e : y = p
                · subst e; rw [pt_same]; simp
                · rw [pt_other _ _ e]; exact Nat.le_refl _
              split
              · simp only [List.map_cons, List.sum_cons]; omega
              · simp only [List.map_cons, List.sum_cons]; omega
          by_cases hx : x = p
          · subst hx
            simp only [List.filter_cons, ne_eq, not_true_eq_false, decide_false, Bool.false_eq_true, if_false, List.map_cons, List.sum_cons]
            have := hsame l
            simp only [ne_eq] at this
            omega
          · have := ih hl.2 (by rcases List.mem_cons.1 hm with h | h; exact absurd h.symm hx; exact h)
            have hy : (d.gone p).len x = d.len x := by
              show (match pt d.F p none x with | some f => f.b.length | none => 0) = _
              rw [pt_other _ _ hx]; rfl
            simp only [List.filter_cons, ne_eq, hx, not_false_eq_true, decide_true, if_true, List.map_cons, List.sum_cons, hy]
            simp only [ne_eq] at this
            omega
      exact this d.ks hn hp
    · have h0 : d.len p = 0 := by
        unfold Dk.len
        cases hF : d.F p with
        | none => rfl
        | some f => exact absurd ((hk p).2 (by rw [hF]; rfl)) hp
      rw [h0]; exact gone_used d p
  have hgk : ∀ r, r ∈ (d.gone p).ks ↔ ((d.gone p).F r).isSome = true := fun r => by
    show r ∈ d.ks.filter _ ↔ (pt d.F p none r).isSome = true
    rw [List.mem_filter]
    by_cases e : r = p
    · subst e; rw [pt_same]; simp
    · rw [pt_other _ _ e]; simp [e, hk r]
  have hu := used_put (d.gone p) q ⟨(d.old p).b, (d.old p).b.length, true⟩ (hn.filter _) hgk
  have ho : (d.old p).b.length = d.len p := old_len d p
  simp only at hu
  omega
end Go.Proofs.Ytkokgbmeienokaa
