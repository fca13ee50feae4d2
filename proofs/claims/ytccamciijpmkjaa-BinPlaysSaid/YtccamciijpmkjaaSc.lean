/- A drawn region: a call that only reads may be taken first, as a load may. -/
import Derived.Test.YtccamciijpmkjaaHw
import Derived.Deep.Quiet
set_option linter.unusedVariables false
set_option linter.unusedSimpArgs false
namespace Go.Proofs.Ytccamciijpmkjaa
open Go.RowKit

section
variable {P : Program} {ops : Array Oper} {Q : Exit → Act → World → Prop} {md : Region.Mode} {S : World → Prop}

/-- In every world of S the operation, a call too, gives v and leaves that world. -/
def CallIf (P : Program) (ops : Array Oper) (S : World → Prop) (o : Oper) (v : Value) (a : Act) : Prop :=
  Region.wanted o (yielded ops a.tmps) = true ∧ ∀ w, S w → o.quietAt P a (fun x => x = w) w v
theorem CallIf.same {o : Oper} {v : Value} {a b : Act} (h : CallIf P ops S o v a) (he : execOp b.eval o = execOp a.eval o) (hw : Region.wanted o (yielded ops b.tmps) = Region.wanted o (yielded ops a.tmps)) : CallIf P ops S o v b :=
  ⟨hw.trans h.1, fun w hs => by have := h.2 w hs; unfold Oper.quietAt at *; rw [he]; exact this⟩
theorem CallIf.op {i : Nat} {o : Oper} {v : Value} {a : Act} (hi : ops[i]? = some o) (h : CallIf P ops S o v a) {K : Act → World → Prop} {w : World} (hS : S w) (hK : K (a.put o.dst v) w) : wpOp P ops Q i K a w := by
  unfold wpOp
  simp only [hi, h.1, if_true]
  refine .inl ?_
  have hq : o.quiet P a (fun x => x = w) (fun b => K b w) := ⟨v, fun x hx => by rw [hx]; exact h.2 w hS, hK⟩
  exact Oper.wp_of_quiet (C := fun x => x = w) rfl (fun b x hx hb => by rw [hx]; exact hb) hq

theorem callIf_behind {j : Nat} {oi oj : Oper} {v : Value} (hj : ops[j]? = some oj) (hap : oi.apart ops oj = true)
    (hsi : ∀ cs b, oi.op ≠ .select cs b) (hsj : ∀ cs b, oj.op ≠ .select cs b)
    (hQ : ∀ c a w, Q (.panic c) (a.put oi.dst v) w → Q (.panic c) a w) {K : Act → World → Prop} {a : Act} {w : World}
    (hy : CallIf P ops S oi v a) (h : wpOp P ops Q j K (a.put oi.dst v) w) :
    wpOp P ops Q j (fun b x => CallIf P ops S oi v b ∧ K (b.put oi.dst v) x) a w := by
  obtain ⟨p1, p2, p3⟩ := Oper.apart_spec hap
  have after : ∀ (b : Act), CallIf P ops S oi v b → ∀ u, CallIf P ops S oi v (b.put oj.dst u) := fun b hb u => hb.same (execOp_put oi hsi b oj.dst u p3) (wanted_put oi b oj.dst u p3)
  have afterD : ∀ d, CallIf P ops S oi v { a with defers := d :: a.defers } := fun d => hy.same rfl rfl
  have eo : execOp (a.put oi.dst v).eval oj = execOp a.eval oj := execOp_put oj hsj a oi.dst v p1
  have ew := wanted_put oj a oi.dst v p1 (ops := ops)
  unfold wpOp at *
  simp only [hj] at *
  rw [ew] at h
  cases hw : Region.wanted oj (yielded ops a.tmps) with
  | false =>
    simp only [hw, Bool.false_eq_true, if_false] at h ⊢
    exact ⟨after a hy _, by rw [← Act.put_comm a v undef p2]; exact h⟩
  | true =>
    simp only [hw, if_true] at h ⊢
    rcases h with h | ⟨h1, h2⟩
    · refine .inl ?_
      unfold Oper.wp at *
      rw [eo] at h
      generalize (execOp a.eval oj).run P w = r at *
      cases r with
      | halt x w' => cases x <;> simp only [Oper.upon] at h ⊢ <;> first | exact hQ _ _ _ h | exact h
      | ok n w' =>
        cases n <;> simp only [Oper.upon] at h ⊢
        case value u => exact ⟨after a hy u, by rw [← Act.put_comm a v u p2]; exact h⟩
        case skip => exact ⟨after a hy _, by rw [← Act.put_comm a v undef p2]; exact h⟩
        case defer d => exact ⟨after _ (afterD d) _, by rw [← Act.put_comm _ v undef p2, ← Act.put_defers]; exact h⟩
        case row row args => exact Rows.mono h fun u x hx => ⟨after a hy u, by rw [← Act.put_comm a v u p2]; exact hx⟩
        case enter f args =>
          refine Calls.mono h fun e x hx => ?_
          cases e with
          | returned u => exact ⟨after a hy u, by rw [← Act.put_comm a v u p2]; exact hx⟩
          | panicked c => exact hQ _ _ _ hx
          | outgrown => exact hx
    · refine .inr ⟨?_, h2⟩
      unfold Oper.asks at *
      rw [eo] at h1
      exact h1

theorem callIf_first {i : Nat} {oi : Oper} {v : Value} (hi : ops[i]? = some oi) (hsel : ∀ (j : Nat) (o : Oper) cs b, ops[j]? = some o → o.op ≠ .select cs b)
    (hQ : ∀ c a w, Q (.panic c) (a.put oi.dst v) w → Q (.panic c) a w) :
    ∀ (fuel : Nat) (listed : Array Bool) (a : Act) (w : World),
      (∀ j oj, ops[j]? = some oj → j ≠ i → listed.getD j true = false → (∀ e ∈ oj.after, Region.binds md e = true → e.on ≠ i) → oi.apart ops oj = true) →
      i ∈ Region.ready md ops listed → CallIf P ops S oi v a → S w →
      wpAnyH P md ops Q S fuel (listed.setIfInBounds i true) (a.put oi.dst v) w → wpAnyH P md ops Q S (fuel + 1) listed a w
  | 0, listed, a, w, hfree, hr, hy, hS, H => ⟨fun h => (by rw [h] at hr; cases hr), fun j hj => by
      by_cases hji : j = i
      · subst hji; exact hy.op hi hS ⟨hS, H⟩
      · have := ready_mono hj hji
        rw [H.1] at this
        cases this⟩
  | fuel + 1, listed, a, w, hfree, hr, hy, hS, H => ⟨fun h => (by rw [h] at hr; cases hr), fun j hj => by
      by_cases hji : j = i
      · subst hji; exact hy.op hi hS ⟨hS, H⟩
      · obtain ⟨u1, oj, u2, u3⟩ := mem_ready.1 hj
        have hout : ∀ e ∈ oj.after, Region.binds md e = true → e.on ≠ i := fun e he hb heq => by
          have z1 := u3 e he hb
          have z0 := (mem_ready.1 hr).1
          rw [heq] at z1
          rcases Nat.lt_or_ge i listed.size with h' | h'
          · simp [h'] at z0 z1; rw [z0] at z1; cases z1
          · simp [Array.getElem?_eq_none h'] at z1
        have z2 := callIf_behind u2 (hfree j oj u2 hji u1 hout) (fun cs b => hsel i oi cs b hi) (fun cs b => hsel j oj cs b u2) hQ hy (H.2 j (ready_mono hj hji))
        refine wpOp_mono (fun b x z3 => ⟨z3.2.1, callIf_first hi hsel hQ fuel (listed.setIfInBounds j true) b x (fun k ok g1 g2 g3 g4 => ?_) (ready_mono hr (Ne.symm hji)) z3.1 z3.2.1 ?_⟩) z2
        · refine hfree k ok g1 g2 ?_ g4
          by_cases hjk : j = k
          · subst hjk; exact u1
          · rw [getD_set_ne true hjk] at g3; exact g3
        · rw [Array.setIfInBounds_comm _ _ hji]
          exact z3.2.2⟩

/-- A call that only reads is taken first. -/
theorem wpAnyH_call {i : Nat} {oi : Oper} {v : Value} {fuel : Nat} {listed : Array Bool} {a : Act} {w : World} (hi : ops[i]? = some oi)
    (hs : Region.noSelect ops = true) (hf : Region.free md ops listed i = true) (hr : (Region.ready md ops listed).contains i = true)
    (hQ : ∀ c a w, Q (.panic c) (a.put oi.dst v) w → Q (.panic c) a w) (hy : CallIf P ops S oi v a) (hS : S w)
    (h : wpAnyH P md ops Q S fuel (listed.setIfInBounds i true) (a.put oi.dst v) w) : wpAnyH P md ops Q S (fuel + 1) listed a w :=
  callIf_first hi (Region.noSelect_spec hs) hQ fuel listed a w (Region.free_spec hi hf) (by simpa using hr) hy hS h
end
end Go.Proofs.Ytccamciijpmkjaa
