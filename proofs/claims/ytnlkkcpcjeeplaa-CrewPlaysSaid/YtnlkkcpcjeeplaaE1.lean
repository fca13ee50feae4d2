/- CrewPlays: words. -/
import Derived.Test.YtnlkkcpcjeeplaaD1
import Derived.Test.YtnlkkcpcjeeplaaSc
set_option linter.unusedVariables false
set_option linter.unusedSimpArgs false
namespace Go.Proofs.Ytnlkkcpcjeeplaa
open Go.RowKit

def cell4 (r : Rn) (x : Nat) : List Value := [.string r.f, .string r.e, .int .i64 r.n, pt x]
/-- What the law holds of the runs. -/
def th (R : Nat → Rn) (l : List Nat) : List Value := l.flatMap (fun x => cell4 (R x) x)
theorem th_len (R : Nat → Rn) (l : List Nat) : (th R l).length = l.length * 4 := by
  unfold th
  induction l with
  | nil => rfl
  | cons x l ih => rw [List.flatMap_cons, List.length_append, ih, List.length_cons]; show 4 + _ = _; omega
theorem th_app (R : Nat → Rn) (l m : List Nat) : th R (l ++ m) = th R l ++ th R m := List.flatMap_append
theorem th_take (R : Nat → Rn) (l : List Nat) (k : Nat) (hk : k ≤ l.length) : (th R l).take (k * 4) = th R (l.take k) := by
  conv => lhs; rw [← List.take_append_drop k l, th_app]
  have h : (th R (l.take k)).length = k * 4 := by rw [th_len, List.length_take, Nat.min_eq_left hk]
  rw [List.take_append_of_le_length (by omega), List.take_of_length_le (by omega)]
theorem th_drop (R : Nat → Rn) (l : List Nat) (k : Nat) (hk : k ≤ l.length) : (th R l).drop (k * 4) = th R (l.drop k) := by
  conv => lhs; rw [← List.take_append_drop k l, th_app]
  have h : (th R (l.take k)).length = k * 4 := by rw [th_len, List.length_take, Nat.min_eq_left hk]
  rw [← h, List.drop_left]
theorem th_at (R : Nat → Rn) (l : List Nat) (k x j : Nat) (hx : l[k]? = some x) (hj : j < 4) : (th R l)[k * 4 + j]? = (cell4 (R x) x)[j]? := by
  have hk : k < l.length := (List.getElem?_eq_some_iff.1 hx).1
  rw [← List.getElem?_drop, th_drop R l k (by omega), List.drop_eq_getElem_cons hk]
  have : l[k] = x := by rw [List.getElem?_eq_getElem hk] at hx; exact Option.some.inj hx
  rw [this]
  show (cell4 (R x) x ++ th R (l.drop (k + 1)))[j]? = _
  rw [List.getElem?_append_left (by show j < 4; exact hj)]
theorem th_one {R : Nat → Rn} {l : List Nat} (u : Value) (hu : u ∈ th R l) : u.oneCell' = true := by
  unfold th at hu
  rw [List.mem_flatMap] at hu
  obtain ⟨x, _, hu⟩ := hu
  unfold cell4 at hu
  simp at hu
  rcases hu with rfl | rfl | rfl | rfl <;> rfl
theorem th_upd {R : Nat → Rn} {l : List Nat} {x : Nat} (r : Rn) (hx : x ∉ l) : th (upd R x r) l = th R l := by
  unfold th
  induction l with
  | nil => rfl
  | cons y l ih =>
    rw [List.flatMap_cons, List.flatMap_cons, ih (fun h => hx (List.mem_cons_of_mem _ h)), upd_ne (fun e => hx (by rw [← e]; exact List.mem_cons_self))]

/-- The crew, and what the law holds of it. -/
structure Cq (w wr : World) (g : Nat) (s6 : Value) (l : List Nat) (R : Nat → Rn) (O : Nat → Prop) : Prop where
  cr : CrAt wr g O l
  rs : RunsAt wr l R
  fo : ∀ x, O x → w.heap.size ≤ x ∧ x < wr.heap.size
  fl : ∀ x ∈ l, w.heap.size ≤ x ∧ ¬ O x
  un : l.Pairwise (fun x y => ¬ ((R x).f = (R y).f ∧ (R x).e = (R y).e))
  ow : wr.ownsRow 0 74 4 s6 l.length (th R l)
  fr : ∀ i, s6.ownBlock = some i → w.heap.size ≤ i ∧ ¬ O i ∧ i ∉ l
  kp : Kp0 w wr

theorem Cq.kp0 {w wr wf : World} {g : Nat} {s6 : Value} {l : List Nat} {R : Nat → Rn} {O : Nat → Prop} (h : Cq w wr g s6 l R O) (k : Kp0 wr wf) : Cq w wf g s6 l R O :=
  ⟨h.cr.kp k (fun _ _ x => x), h.rs.kp k (fun _ _ x => x), fun x hx => ⟨(h.fo x hx).1, Nat.lt_of_lt_of_le (h.fo x hx).2 k.size⟩, h.fl, h.un, own_kp h.ow k (fun _ _ x => x), h.fr, h.kp.then0 k⟩

theorem fnd_none {l : List Nat} {R : Nat → Rn} {f e : ByteArray} (h : fnd l R f e = none) : ∀ x ∈ l, isRun f e (R x) = false := fun x hx => by
  unfold fnd at h
  rw [List.find?_eq_none] at h
  simpa using h x hx

/-- One run more. -/
theorem Cq.add {w wr wf : World} {g : Nat} {s6 s6' : Value} {l : List Nat} {R : Nat → Rn} {O O' : Nat → Prop} (h : Cq w wr g s6 l R O) {x : Nat} {r : Rn}
    (hx : wr.heap.size ≤ x) (K : Kp (fun i => O i ∨ s6.ownBlock = some i) wr wf) (C : CrAt wf g O' (l ++ [x])) (Rx : RunAt wf x r) (hno : fnd l R r.f r.e = none)
    (hO : ∀ i, O' i → O i ∨ (x < i ∧ i < wf.heap.size)) (ow : wf.ownsRow 0 74 4 s6' (l ++ [x]).length (th R l ++ cell4 r x))
    (hs : ∀ i, s6'.ownBlock = some i → s6.ownBlock = some i ∨ (x < i ∧ ¬ O' i)) : Cq w wf g s6' (l ++ [x]) (upd R x r) O' := by
  have hxl : x ∉ l := fun hm => by have := (h.rs x hm).lt; omega
  have hk := h.kp.size
  have hk2 := K.size
  have hxO : ¬ O' x := fun e => by
    rcases hO x e with e | ⟨e, _⟩
    · have := (h.fo x e).2; omega
    · omega
  have hth : th (upd R x r) (l ++ [x]) = th R l ++ cell4 r x := by
    rw [th_app, th_upd r hxl]
    congr 1
    unfold th
    simp [upd_at]
  refine ⟨C, ?_, ?_, ?_, ?_, by rw [hth]; exact ow, ?_, ?_⟩
  · exact (h.rs.kp K (fun y hy e => by
      rcases e with e | e
      · exact (h.fl y hy).2 e
      · exact (h.fr y e).2.2 hy)).snoc Rx hxl
  · intro y hy
    rcases hO y hy with e | ⟨e1, e2⟩
    · have := h.fo y e; omega
    · omega
  · intro y hy
    rw [List.mem_append] at hy
    rcases hy with hy | hy
    · refine ⟨(h.fl y hy).1, fun e => ?_⟩
      rcases hO y e with e | ⟨e1, e2⟩
      · exact (h.fl y hy).2 e
      · have := (h.rs y hy).lt; omega
    · obtain rfl : y = x := by simpa using hy
      exact ⟨by omega, hxO⟩
  · rw [List.pairwise_append]
    refine ⟨?_, List.pairwise_singleton _ _, ?_⟩
    · refine h.un.imp_of_mem (fun {a b} ha hb hab => ?_)
      rw [upd_ne (fun e => hxl (by rw [← e]; exact ha)), upd_ne (fun e => hxl (by rw [← e]; exact hb))]
      exact hab
    · intro a ha b hb
      obtain rfl : b = x := by simpa using hb
      rw [upd_ne (fun e => hxl (by rw [← e]; exact ha)), upd_at]
      intro e
      have := fnd_none hno a ha
      unfold isRun at this
      rw [decide_eq_true e.1, decide_eq_true e.2] at this
      cases this
  · intro i hi
    rcases hs i hi with e | ⟨e1, e2⟩
    · obtain ⟨f1, f2, f3⟩ := h.fr i e
      have hil := (h.ow.lt i e).2
      refine ⟨f1, fun e' => ?_, fun hm => ?_⟩
      · rcases hO i e' with e' | ⟨e', _⟩
        · exact f2 e'
        · omega
      · rw [List.mem_append] at hm
        rcases hm with hm | hm
        · exact f3 hm
        · obtain rfl : i = x := by simpa using hm
          omega
    · refine ⟨by omega, e2, fun hm => ?_⟩
      rw [List.mem_append] at hm
      rcases hm with hm | hm
      · have := (h.rs i hm).lt; omega
      · obtain rfl : i = x := by simpa using hm
        omega
  · exact h.kp.trans K (fun i hi e => by
      rcases e with e | e
      · have := (h.fo i e).1; omega
      · have := (h.fr i e).1; omega)

/-- One run goes. -/
theorem Cq.drop {w wr wf : World} {g : Nat} {s6 s6' : Value} {l : List Nat} {R : Nat → Rn} {O : Nat → Prop} (h : Cq w wr g s6 l R O) {i : Nat}
    (K : Kp (fun j => O j ∨ s6.ownBlock = some j) wr wf) (C : CrAt wf g O (l.eraseIdx i)) (ow : wf.ownsRow 0 74 4 s6' (l.eraseIdx i).length (th R (l.eraseIdx i)))
    (hs : ∀ j, s6'.ownBlock = some j → s6.ownBlock = some j ∨ (wr.heap.size ≤ j ∧ ¬ O j)) : Cq w wf g s6' (l.eraseIdx i) R O := by
  have hsub : ∀ y ∈ l.eraseIdx i, y ∈ l := fun y hy => List.mem_of_mem_eraseIdx hy
  have hk := h.kp.size
  have hk2 := K.size
  refine ⟨C, fun y hy => (h.rs y (hsub y hy)).kp K (fun e => ?_), fun x hx => ⟨(h.fo x hx).1, Nat.lt_of_lt_of_le (h.fo x hx).2 hk2⟩, fun y hy => h.fl y (hsub y hy), h.un.sublist (List.eraseIdx_sublist l i), ow, fun j hj => ?_, ?_⟩
  · rcases e with e | e
    · exact (h.fl y (hsub y hy)).2 e
    · exact (h.fr y e).2.2 (hsub y hy)
  · rcases hs j hj with e | ⟨e1, e2⟩
    · obtain ⟨f1, f2, f3⟩ := h.fr j e
      exact ⟨f1, f2, fun hm => f3 (hsub j hm)⟩
    · exact ⟨by omega, e2, fun hm => by have := (h.rs j (hsub j hm)).lt; omega⟩
  · exact h.kp.trans K (fun i hi e => by
      rcases e with e | e
      · have := (h.fo i e).1; omega
      · have := (h.fr i e).1; omega)

/-- The place found so far. -/
theorem idx_snoc {l : List Nat} {R : Nat → Rn} (f e : ByteArray) (hu : l.Pairwise (fun x y => ¬ ((R x).f = (R y).f ∧ (R x).e = (R y).e))) (k : Nat) (hk : k < l.length) :
    idx (l.take (k + 1)) (fun x => isRun f e (R x)) = if isRun f e (R l[k]) = true then (k : Int) else idx (l.take k) (fun x => isRun f e (R x)) := by
  have hsnoc : l.take (k + 1) = l.take k ++ [l[k]] := by rw [List.take_add_one, List.getElem?_eq_getElem hk]; rfl
  unfold idx
  rw [hsnoc, List.findIdx?_append]
  cases hr : isRun f e (R l[k]) with
  | false =>
    rw [if_neg (by simp)]
    cases (l.take k).findIdx? (fun x => isRun f e (R x)) with
    | some i => rfl
    | none => simp [List.findIdx?_cons, hr]
  | true =>
    rw [if_pos rfl]
    have hnone : (l.take k).findIdx? (fun x => isRun f e (R x)) = none := by
      rw [List.findIdx?_eq_none_iff]
      intro y hy
      cases hyr : isRun f e (R y) with
      | false => rfl
      | true =>
        exfalso
        obtain ⟨j, hj, rfl⟩ := List.mem_take_iff_getElem.1 hy
        have := List.pairwise_iff_getElem.1 hu j k (by omega) hk (by omega)
        unfold isRun at hr hyr
        rw [Bool.and_eq_true, decide_eq_true_iff, decide_eq_true_iff] at hr hyr
        exact this ⟨hyr.1.trans hr.1.symm, hyr.2.trans hr.2.symm⟩
    rw [hnone]
    simp [List.findIdx?_cons, hr, List.length_take, Nat.min_eq_left (Nat.le_of_lt hk)]
end Go.Proofs.Ytnlkkcpcjeeplaa
