/- BinOrder: plain law. -/
import Derived.Test.YtccamciijpmkjaaB9
set_option linter.unusedVariables false
set_option linter.unusedSimpArgs false
namespace Go.Proofs.Ytccamciijpmkjaa
open Go.RowKit

/-- By age; of one age, by number. -/
def Be (a b : Bx) : Prop := a.s < b.s ∨ (a.s = b.s ∧ a.n < b.n)
def Srt (l : List Bx) : Prop := l.Pairwise Be
theorem srt_up {l : List Bx} (h : Srt l) : UpB l := fun i hi => by
  have := List.pairwise_iff_getElem.1 h i (i + 1) (by omega) hi (by omega)
  rcases this with h | ⟨h, _⟩ <;> omega
theorem insR_mem (x z : Bx) : ∀ r : List Bx, z ∈ insR r x ↔ z = x ∨ z ∈ r
  | [] => by simp [insR]
  | y :: r => by
    rw [insR]
    split
    · rw [List.mem_cons, insR_mem x z r, List.mem_cons]
      constructor
      · rintro (h | h | h)
        · exact .inr (.inl h)
        · exact .inl h
        · exact .inr (.inr h)
      · rintro (h | h | h)
        · exact .inr (.inl h)
        · exact .inl h
        · exact .inr (.inr h)
    · simp [List.mem_cons]
theorem addB_mem (l : List Bx) (x z : Bx) : z ∈ addB l x ↔ z = x ∨ z ∈ l := by
  unfold addB
  rw [List.mem_reverse, insR_mem, List.mem_reverse]
theorem insR_srt (x : Bx) : ∀ r : List Bx, r.Pairwise (fun b a => Be a b) → (∀ y ∈ r, y.n < x.n) → (insR r x).Pairwise (fun b a => Be a b)
  | [], _, _ => by simp [insR]
  | y :: r, h, hn => by
    rw [List.pairwise_cons] at h
    rw [insR]
    split
    · rename_i hlt
      rw [List.pairwise_cons]
      refine ⟨fun z hz => ?_, insR_srt x r h.2 (fun z hz => hn z (List.mem_cons_of_mem _ hz))⟩
      rcases (insR_mem x z r).1 hz with rfl | hz
      · exact .inl hlt
      · exact h.1 z hz
    · rename_i hge
      have hy := hn y List.mem_cons_self
      rw [List.pairwise_cons]
      refine ⟨fun z hz => ?_, List.pairwise_cons.2 h⟩
      rw [List.mem_cons] at hz
      rcases hz with rfl | hz
      · rcases Int.lt_or_le z.s x.s with h1 | h1
        · exact .inl h1
        · exact .inr ⟨by omega, hy⟩
      · have hzn := hn z (List.mem_cons_of_mem _ hz)
        rcases h.1 z hz with h1 | ⟨h1, _⟩
        · exact .inl (by omega)
        · rcases Int.lt_or_le z.s x.s with h2 | h2
          · exact .inl h2
          · exact .inr ⟨by omega, hzn⟩
theorem srt_add {l : List Bx} (x : Bx) (h : Srt l) (hn : ∀ y ∈ l, y.n < x.n) : Srt (addB l x) := by
  unfold Srt addB
  rw [List.pairwise_reverse]
  exact insR_srt x l.reverse (List.pairwise_reverse.2 h) (fun y hy => hn y (List.mem_reverse.1 hy))
theorem due_nil {t : Int} : ∀ {l : List Bx}, (∀ x ∈ l, t < x.s) → dueL l t = []
  | [], _ => rfl
  | x :: l, h => by
    unfold dueL
    rw [List.filter_cons, if_neg (by have := h x List.mem_cons_self; simp; omega)]
    exact due_nil (fun y hy => h y (List.mem_cons_of_mem _ hy))
/-- What is due is a beginning of the row. -/
theorem due_take {t : Int} : ∀ {l : List Bx}, Srt l → dueL l t = l.take (dueL l t).length
  | [], _ => rfl
  | x :: l, h => by
    have h' := List.pairwise_cons.1 h
    by_cases hx : x.s ≤ t
    · have e : dueL (x :: l) t = x :: dueL l t := by unfold dueL; rw [List.filter_cons, if_pos (by simpa using hx)]
      rw [e, List.length_cons, List.take_succ_cons]
      rw [← due_take h'.2]
    · have e : dueL (x :: l) t = [] := by
        unfold dueL
        rw [List.filter_cons, if_neg (by simpa using hx)]
        exact due_nil (fun y hy => by rcases h'.1 y hy with h1 | ⟨h1, _⟩ <;> omega)
      rw [e]; rfl
theorem due_mono {t u : Int} (h : t ≤ u) : ∀ l : List Bx, (dueL l t).length ≤ (dueL l u).length
  | [] => Nat.le_refl _
  | x :: l => by
    have ih := due_mono h l
    unfold dueL at ih ⊢
    rw [List.filter_cons, List.filter_cons]
    by_cases h1 : x.s ≤ t
    · rw [if_pos (by simpa using h1), if_pos (by simp; omega), List.length_cons, List.length_cons]; omega
    · rw [if_neg (by simpa using h1)]
      by_cases h2 : x.s ≤ u
      · rw [if_pos (by simpa using h2), List.length_cons]; omega
      · rw [if_neg (by simpa using h2)]; exact ih
end Go.Proofs.Ytccamciijpmkjaa
