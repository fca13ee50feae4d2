/- BinOrder: words for the walk. -/
import Derived.Test.YtccamciijpmkjaaB10
set_option linter.unusedVariables false
set_option linter.unusedSimpArgs false
namespace Go.Proofs.Ytccamciijpmkjaa
open Go.RowKit

/-- No number twice. -/
def Dis (l : List Bx) : Prop := l.Pairwise (fun a b => a.n ≠ b.n)
theorem insR_dis (x : Bx) : ∀ r : List Bx, r.Pairwise (fun b a => a.n ≠ b.n) → (∀ y ∈ r, y.n ≠ x.n) → (insR r x).Pairwise (fun b a => a.n ≠ b.n)
  | [], _, _ => by simp [insR]
  | y :: r, h, hn => by
    rw [List.pairwise_cons] at h
    rw [insR]
    split
    · rw [List.pairwise_cons]
      refine ⟨fun z hz => ?_, insR_dis x r h.2 (fun z hz => hn z (List.mem_cons_of_mem _ hz))⟩
      rcases (insR_mem x z r).1 hz with rfl | hz
      · exact fun e => hn y List.mem_cons_self e.symm
      · exact h.1 z hz
    · rw [List.pairwise_cons]
      exact ⟨fun z hz => hn z hz, List.pairwise_cons.2 h⟩
theorem dis_add {l : List Bx} (x : Bx) (h : Dis l) (hn : ∀ y ∈ l, y.n ≠ x.n) : Dis (addB l x) := by
  unfold Dis addB
  rw [List.pairwise_reverse]
  exact insR_dis x l.reverse (List.pairwise_reverse.2 h) (fun y hy => hn y (List.mem_reverse.1 hy))
theorem isB_n {f e : ByteArray} {n : Int} {x : Bx} (h : x.n ≠ n) : isB f e n x = false := by
  unfold isB
  rw [beq_eq_false_iff_ne.2 h, Bool.and_false]
theorem isB_self (x : Bx) : isB x.f x.e x.n x = true := by unfold isB; simp
theorem drop_find (l : List Bx) (k : Nat) (hk : k < l.length) : (l.drop k).findIdx? (isB l[k].f l[k].e l[k].n) = some 0 ∧ (l.drop k).eraseIdx 0 = l.drop (k + 1) := by
  rw [List.drop_eq_getElem_cons hk]
  exact ⟨by rw [List.findIdx?_cons, isB_self]; rfl, rfl⟩
theorem drop_none {l : List Bx} (h : Dis l) (k : Nat) (hk : k < l.length) : ∀ x ∈ l.drop (k + 1), isB l[k].f l[k].e l[k].n x = false := fun x hx => by
  have h' : (l.drop k).Pairwise (fun a b => a.n ≠ b.n) := h.sublist (List.drop_sublist _ _)
  rw [List.drop_eq_getElem_cons hk] at h'
  exact isB_n (fun e => (List.pairwise_cons.1 h').1 x hx e.symm)
theorem due_snoc (l : List Bx) (t : Int) (k : Nat) (hk : k < l.length) : (dueL (l.take (k + 1)) t).length = (dueL (l.take k) t).length + if decide (l[k].s ≤ t) = true then 1 else 0 := by
  have e1 : l.take (k + 1) = l.take k ++ [l[k]] := by rw [List.take_add_one, List.getElem?_eq_getElem hk]; rfl
  unfold dueL
  rw [e1, List.filter_append, List.length_append, List.filter_cons]
  split
  · rfl
  · rfl
theorem due_le (l : List Bx) (t : Int) : (dueL l t).length ≤ l.length := List.length_filter_le _ _
theorem due_rest {l : List Bx} {t : Int} (h : Srt l) : dueL (l.drop (dueL l t).length) t = [] := by
  have e := due_take (t := t) h
  have e2 : dueL l t = dueL (l.take (dueL l t).length) t ++ dueL (l.drop (dueL l t).length) t := by
    unfold dueL
    rw [← List.filter_append, List.take_append_drop]
  have e3 : dueL (l.take (dueL l t).length) t = dueL l t := by
    rw [← e]; unfold dueL; rw [List.filter_filter]; simp
  rw [e3] at e2
  have := congrArg List.length e2
  rw [List.length_append] at this
  exact List.length_eq_zero_iff.1 (by omega)

theorem cell_kp {S : Nat → Prop} {w w' : World} (k : Kp S w w') {b off : Nat} {v : Value} (hb : b < w.heap.size) (hS : ¬ S b) (h : w.cell? ⟨b, off, none⟩ = some v) : w'.cell? ⟨b, off, none⟩ = some v := by
  have e := k.block b hb hS
  rw [← h]
  simp only [World.cell?, e]
theorem cell_kp0 {w w' : World} (k : Kp0 w w') {b off : Nat} {v : Value} (hb : b < w.heap.size) (h : w.cell? ⟨b, off, none⟩ = some v) : w'.cell? ⟨b, off, none⟩ = some v := cell_kp k hb (fun x => x) h
/-- A row of boxes, box by box. -/
theorem rb_row {w : World} {b n c : Nat} {A : Option Addr} {l : List Bx} (h : w.ownsRow b 63 4 (.slice A n c) l.length (rb l)) (k : Nat) (hk : k < l.length) : ∃ g, A = some ⟨g, 0, none⟩ ∧ g < w.heap.size ∧
    w.cell? ⟨g, k * 4, none⟩ = some (.string (l[k]).f) ∧ w.cell? ⟨g, k * 4 + 1, none⟩ = some (.string (l[k]).e) ∧ w.cell? ⟨g, k * 4 + 2, none⟩ = some (.int .i64 (l[k]).n) ∧ w.cell? ⟨g, k * 4 + 3, none⟩ = some (.int .i64 (l[k]).s) := by
  rcases own_shape h with ⟨_, e0, _⟩ | ⟨g, cap, e, m1, m2, m3, m4⟩
  · omega
  · injection e with e1 e2 e3
    refine ⟨g, e1, m3, ?_⟩
    have hh : ∀ j (hj : j < 4), w.cell? ⟨g, k * 4 + j, none⟩ = (l[k]).cs[j]? := fun j hj => by
      rw [m4 (k * 4 + j) (by omega), rb_at l k j hk hj]
    exact ⟨hh 0 (by omega), hh 1 (by omega), hh 2 (by omega), hh 3 (by omega)⟩
theorem rb_shape {w : World} {b : Nat} {v : Value} {l : List Bx} (h : w.ownsRow b 63 4 v l.length (rb l)) : ∃ A c, v = .slice A l.length c ∧ l.length ≤ c ∧ c ≤ 9223372036854775807 := by
  rcases own_shape h with ⟨e, e0, _⟩ | ⟨g, cap, e, m1, m2, m3, m4⟩
  · exact ⟨none, 0, by rw [e, e0], by omega, by omega⟩
  · exact ⟨_, cap, e, m1, m2⟩

/-- The bin in the first loop. -/
structure Bo (w wr : World) (g : Nat) (O : Nat → Prop) (l : List Bx) : Prop where
  cr : BinAt wr g O l
  srt : Srt l
  dis : Dis l
  mem : ∀ x ∈ l, x.n ≤ (l.length : Nat) ∧ 0 ≤ x.s ∧ x.s < 15
  kp : Kp0 w wr
  lo : ∀ i, O i → w.heap.size ≤ i ∧ i < wr.heap.size
theorem Bo.then0 {w wr W : World} {g : Nat} {O : Nat → Prop} {l : List Bx} (h : Bo w wr g O l) (k : Kp0 wr W) : Bo w W g O l :=
  ⟨h.cr.kp k (fun _ _ x => x), h.srt, h.dis, h.mem, h.kp.then0 k, bkeep h.lo k⟩
theorem Bo.add {w wr W : World} {g : Nat} {O O' : Nat → Prop} {l : List Bx} {n s : Int} (h : Bo w wr g O l) (hn : n = 1 + (l.length : Nat)) (s0 : 0 ≤ s) (s1 : s < 15)
    (C : BinAt W g O' (addB l ⟨sf, sx, n, s⟩)) (k : Kp O wr W) (hO : ∀ i, O' i → O i ∨ (wr.heap.size ≤ i ∧ i < W.heap.size)) : Bo w W g O' (addB l ⟨sf, sx, n, s⟩) := by
  obtain ⟨K, lo⟩ := bstep h.kp h.lo k hO
  refine ⟨C, srt_add _ h.srt (fun y hy => ?_), dis_add _ h.dis (fun y hy => ?_), fun x hx => ?_, K, lo⟩
  · have := h.mem y hy; show y.n < n; omega
  · have := h.mem y hy; show y.n ≠ n; omega
  · rw [addB_len]
    rcases (addB_mem _ _ _).1 hx with rfl | hx
    · exact ⟨by show n ≤ _; omega, s0, s1⟩
    · have := h.mem x hx; exact ⟨by omega, this.2⟩
end Go.Proofs.Ytccamciijpmkjaa
