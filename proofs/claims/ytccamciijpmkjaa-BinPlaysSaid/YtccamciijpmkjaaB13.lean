/- BinPlays: plain law. -/
import Derived.Test.YtccamciijpmkjaaB10
set_option linter.unusedVariables false
set_option linter.unusedSimpArgs false
namespace Go.Proofs.Ytccamciijpmkjaa
open Go.RowKit

/-- By age, and nothing else. -/
def Le (l : List Bx) : Prop := l.Pairwise (fun a b => a.s ≤ b.s)
def LeR (l : List Bx) : Prop := l.Pairwise (fun b a => a.s ≤ b.s)
theorem le_up {l : List Bx} (h : Le l) : UpB l := fun i hi => by
  have := List.pairwise_iff_getElem.1 h i (i + 1) (by omega) hi (by omega)
  omega
theorem insR_le (x : Bx) : ∀ r : List Bx, LeR r → LeR (insR r x)
  | [], _ => by simp [insR, LeR]
  | y :: r, h => by
    have h' := List.pairwise_cons.1 h
    rw [insR]
    split
    · rename_i hlt
      refine List.pairwise_cons.2 ⟨fun z hz => ?_, insR_le x r h'.2⟩
      rcases (insR_mem x z r).1 hz with rfl | hz
      · omega
      · exact h'.1 z hz
    · rename_i hge
      refine List.pairwise_cons.2 ⟨fun z hz => ?_, h⟩
      rcases List.mem_cons.1 hz with rfl | hz
      · omega
      · have := h'.1 z hz; omega
theorem le_add {l : List Bx} (x : Bx) (h : Le l) : Le (addB l x) := by
  unfold Le addB
  rw [List.pairwise_reverse]
  exact insR_le x l.reverse (List.pairwise_reverse.2 h)
theorem insR_skip (p : Bx → Bool) (x : Bx) (hx : p x = false) : ∀ r : List Bx, (insR r x).filter p = r.filter p
  | [] => by simp [insR, hx]
  | y :: r => by
    rw [insR]
    split
    · rw [List.filter_cons, List.filter_cons, insR_skip p x hx r]
    · rw [List.filter_cons, if_neg (by simp [hx])]
theorem insR_small (x : Bx) : ∀ r : List Bx, (∀ y ∈ r, ¬ x.s < y.s) → insR r x = x :: r
  | [], _ => rfl
  | y :: r, h => by rw [insR, if_neg (h y List.mem_cons_self)]
theorem insR_filter (p : Bx → Bool) (x : Bx) (hx : p x = true) : ∀ r : List Bx, LeR r → (insR r x).filter p = insR (r.filter p) x
  | [], _ => by simp [insR, hx]
  | y :: r, h => by
    have h' := List.pairwise_cons.1 h
    rw [insR]
    split
    · rename_i hlt
      rw [List.filter_cons, List.filter_cons, insR_filter p x hx r h'.2]
      split
      · rw [insR, if_pos hlt]
      · rfl
    · rename_i hge
      rw [List.filter_cons, if_pos hx, insR_small]
      intro z hz
      rw [List.mem_filter] at hz
      rcases List.mem_cons.1 hz.1 with rfl | hz
      · exact hge
      · have := h'.1 z hz; omega
theorem addB_filter (p : Bx → Bool) (l : List Bx) (x : Bx) (h : Le l) : (addB l x).filter p = if p x = true then addB (l.filter p) x else l.filter p := by
  unfold addB
  rw [List.filter_reverse]
  split
  · rename_i hx
    rw [insR_filter p x hx _ (List.pairwise_reverse.2 h), List.filter_reverse]
  · rename_i hx
    rw [insR_skip p x (by simpa using hx), List.filter_reverse, List.reverse_reverse]
/-- All boxes, the oldest first. -/
def allR (l : List Bx) : List Bx := l.foldl addB []
theorem allR_snoc (l : List Bx) (x : Bx) : allR (l ++ [x]) = addB (allR l) x := by unfold allR; rw [List.foldl_append]; rfl
theorem snoc_ind {P : List Bx → Prop} (h0 : P []) (h1 : ∀ l x, P l → P (l ++ [x])) (l : List Bx) : P l := by
  rw [← List.reverse_reverse l]
  induction l.reverse with
  | nil => exact h0
  | cons x r ih => rw [List.reverse_cons]; exact h1 _ _ ih
theorem allR_le (l : List Bx) : Le (allR l) := by
  induction l using snoc_ind with
  | h0 => exact List.Pairwise.nil
  | h1 l x ih => rw [allR_snoc]; exact le_add x ih
theorem allR_mem (l : List Bx) (z : Bx) : z ∈ allR l ↔ z ∈ l := by
  induction l using snoc_ind with
  | h0 => exact Iff.rfl
  | h1 l x ih => rw [allR_snoc, addB_mem, ih, List.mem_append, List.mem_singleton]; constructor <;> (rintro (h | h) <;> simp [h])
theorem allR_len (l : List Bx) : (allR l).length = l.length := by
  induction l using snoc_ind with
  | h0 => rfl
  | h1 l x ih => rw [allR_snoc, addB_len, ih, List.length_append]; rfl
theorem allR_filter (p : Bx → Bool) (l : List Bx) : (allR l).filter p = allR (l.filter p) := by
  induction l using snoc_ind with
  | h0 => rfl
  | h1 l x ih =>
    rw [allR_snoc, addB_filter p _ x (allR_le l), ih, List.filter_append, show [x].filter p = (if p x = true then [x] else []) from by rw [List.filter_cons]; rfl]
    split
    · rw [allR_snoc]
    · rw [List.append_nil]
/-- No two of one run. -/
def Uni (l : List Bx) : Prop := l.Pairwise (fun a b => ¬ (a.f = b.f ∧ a.e = b.e ∧ a.n = b.n))
theorem isB_iff {f e : ByteArray} {n : Int} {x : Bx} : isB f e n x = true ↔ x.f = f ∧ x.e = e ∧ x.n = n := by
  unfold isB
  simp only [Bool.and_eq_true, decide_eq_true_iff, beq_iff_eq, and_assoc]
theorem erase_filter (p : Bx → Bool) : ∀ (l : List Bx) (i : Nat), l.findIdx? p = some i → l.Pairwise (fun a b => ¬ (p a = true ∧ p b = true)) → l.eraseIdx i = l.filter (fun x => !p x)
  | [], i, h, _ => by simp at h
  | y :: r, i, h, hp => by
    have hp' := List.pairwise_cons.1 hp
    rw [List.findIdx?_cons] at h
    by_cases hy : p y = true
    · rw [if_pos hy] at h
      obtain rfl := Option.some.inj h
      rw [List.filter_cons, if_neg (by simp [hy]), List.eraseIdx_cons_zero]
      symm
      rw [List.filter_eq_self]
      intro z hz
      have := hp'.1 z hz
      cases hpz : p z with
      | false => rfl
      | true => exact absurd ⟨hy, hpz⟩ this
    · rw [if_neg hy] at h
      obtain ⟨j, hj, rfl⟩ := Option.map_eq_some_iff.1 h
      rw [List.eraseIdx_cons_succ, List.filter_cons, if_pos (by simpa using hy), erase_filter p r j hj hp'.2]
theorem uni_p {l : List Bx} (h : Uni l) (f e : ByteArray) (n : Int) : l.Pairwise (fun a b => ¬ (isB f e n a = true ∧ isB f e n b = true)) :=
  List.Pairwise.imp (fun {a b} hab hh => hab (by obtain ⟨h1, h2⟩ := hh; rw [isB_iff] at h1 h2; obtain ⟨rfl, rfl, rfl⟩ := h1; obtain ⟨e1, e2, e3⟩ := h2; exact ⟨e1.symm, e2.symm, e3.symm⟩)) h
theorem uni_filter {l : List Bx} (h : Uni l) (p : Bx → Bool) : Uni (l.filter p) := List.Pairwise.filter p h
theorem uni_snoc {l : List Bx} (h : Uni l) (x : Bx) (hx : ∀ y ∈ l, isB x.f x.e x.n y = false) : Uni (l ++ [x]) := by
  unfold Uni
  rw [List.pairwise_append]
  refine ⟨h, List.pairwise_singleton _ _, fun a ha b hb => ?_⟩
  rw [List.mem_singleton] at hb
  subst hb
  intro hh
  have := hx a ha
  rw [isB_iff.2 hh] at this
  cases this
theorem insR_uni (x : Bx) : ∀ r : List Bx, Uni r → (∀ y ∈ r, isB x.f x.e x.n y = false) → Uni (insR r x)
  | [], _, _ => by simp [insR, Uni]
  | y :: r, h, hx => by
    have h' := List.pairwise_cons.1 h
    have hy := hx y List.mem_cons_self
    rw [insR]
    split
    · refine List.pairwise_cons.2 ⟨fun z hz => ?_, insR_uni x r h'.2 (fun z hz => hx z (List.mem_cons_of_mem _ hz))⟩
      rcases (insR_mem x z r).1 hz with rfl | hz
      · intro hh; rw [isB_iff.2 hh] at hy; cases hy
      · exact h'.1 z hz
    · refine List.pairwise_cons.2 ⟨fun z hz hh => ?_, h⟩
      have := hx z hz
      rw [isB_iff.2 ⟨hh.1.symm, hh.2.1.symm, hh.2.2.symm⟩] at this
      cases this
theorem uni_rev {l : List Bx} (h : Uni l) : Uni l.reverse := by
  unfold Uni
  rw [List.pairwise_reverse]
  exact List.Pairwise.imp (fun {a b} hab hh => hab ⟨hh.1.symm, hh.2.1.symm, hh.2.2.symm⟩) h
theorem uni_addB {l : List Bx} (h : Uni l) (x : Bx) (hx : ∀ y ∈ l, isB x.f x.e x.n y = false) : Uni (addB l x) := by
  unfold addB
  exact uni_rev (insR_uni x _ (uni_rev h) (fun y hy => hx y (List.mem_reverse.1 hy)))
theorem uni_allR {l : List Bx} : Uni l → Uni (allR l) := by
  induction l using snoc_ind with
  | h0 => exact fun h => h
  | h1 l x ih =>
    intro h
    unfold Uni at h
    rw [List.pairwise_append] at h
    rw [allR_snoc]
    refine uni_addB (ih h.1) x (fun y hy => ?_)
    have := h.2.2 y ((allR_mem l y).1 hy) x (List.mem_singleton.2 rfl)
    cases hb : isB x.f x.e x.n y with
    | false => rfl
    | true => exact absurd (isB_iff.1 hb) this
/-- What is taken is not there: in the one row, in the other. -/
theorem take_both {l : List Bx} (h : Uni l) {f e : ByteArray} {n : Int} {i j : Nat} (hi : (allR l).findIdx? (isB f e n) = some i) (hj : l.findIdx? (isB f e n) = some j) : (allR l).eraseIdx i = allR (l.eraseIdx j) ∧ Uni (l.eraseIdx j) := by
  rw [erase_filter _ _ i hi (uni_p (uni_allR h) f e n), erase_filter _ _ j hj (uni_p h f e n), allR_filter]
  exact ⟨rfl, uni_filter h _⟩
theorem find_both (l : List Bx) (p : Bx → Bool) : ((allR l).findIdx? p = none ↔ l.findIdx? p = none) := by
  rw [List.findIdx?_eq_none_iff, List.findIdx?_eq_none_iff]
  exact ⟨fun h x hx => h x ((allR_mem l x).2 hx), fun h x hx => h x ((allR_mem l x).1 hx)⟩
theorem parts (p : Bx → Bool) : ∀ l : List Bx, l.length = (l.filter p).length + (l.filter (fun x => !p x)).length
  | [] => rfl
  | x :: l => by
    rw [List.filter_cons, List.filter_cons, List.length_cons, parts p l]
    cases p x <;> simp <;> omega
/-- So many kinds of runs there are. -/
theorem few (c : Bx → Nat) : ∀ (m : Nat) (l : List Bx), l.Pairwise (fun a b => c a ≠ c b) → (∀ x ∈ l, c x < m) → l.length ≤ m
  | 0, [], _, _ => Nat.le_refl _
  | 0, x :: _, _, h => absurd (h x List.mem_cons_self) (by omega)
  | m + 1, l, h, hc => by
    have h1 := few c m (l.filter (fun x => decide (c x < m))) (List.Pairwise.filter _ h) (fun x hx => by simpa using (List.mem_filter.1 hx).2)
    have h2 : (l.filter (fun x => !decide (c x < m))).length ≤ 1 := by
      have hp : (l.filter (fun x => !decide (c x < m))).Pairwise (fun a b => c a ≠ c b) := List.Pairwise.filter _ h
      have hm : ∀ x ∈ l.filter (fun x => !decide (c x < m)), c x = m := fun x hx => by
        have := List.mem_filter.1 hx
        have h3 := hc x this.1
        have h4 := this.2
        simp at h4
        omega
      revert hp hm
      generalize l.filter (fun x => !decide (c x < m)) = r
      intro hp hm
      match r, hp, hm with
      | [], _, _ => simp
      | [x], _, _ => simp
      | x :: y :: r, hp, hm =>
        have := (List.pairwise_cons.1 hp).1 y List.mem_cons_self
        rw [hm x List.mem_cons_self, hm y (List.mem_cons_of_mem _ List.mem_cons_self)] at this
        exact absurd rfl this
    have h3 := parts (fun x => decide (c x < m)) l
    omega
end Go.Proofs.Ytccamciijpmkjaa
