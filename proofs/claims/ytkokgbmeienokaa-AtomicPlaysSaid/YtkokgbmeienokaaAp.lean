/- Words for rows of one's own: shape, frames, append as a step of a region, views of cells. -/
import Derived.Test.YtkokgbmeienokaaKp
import Derived.Maps.AppendAt
import Derived.Deep.AppendLies
import Derived.Deep.RegionLaw
set_option linter.unusedVariables false
set_option linter.unusedSimpArgs false
namespace Go.Proofs.Ytkokgbmeienokaa
open Go.RowKit

theorem own_shape {w : World} {b e size n : Nat} {v : Value} {xs : List Value} (h : w.ownsRow b e size v n xs) :
    (v = .slice none 0 0 ∧ n = 0 ∧ xs = []) ∨ ∃ g cap, v = .slice (some ⟨g, 0, none⟩) n cap ∧ n ≤ cap ∧ cap ≤ 9223372036854775807 ∧ g < w.heap.size ∧ (∀ j, j < n * size → w.cell? ⟨g, j, none⟩ = xs[j]?) := by
  have h' := h
  obtain ⟨h1, h2 | ⟨g, cap, cur, rfl, _, h3, h4, h5, _, _⟩⟩ := h
  · obtain ⟨rfl, rfl⟩ := h2
    exact .inl ⟨rfl, rfl, by simpa using h1⟩
  · exact .inr ⟨g, cap, rfl, h4, by unfold maxLen at h5; omega, (Array.getElem?_eq_some_iff.1 h3).1, fun j hj => h'.cellAt j hj⟩

theorem own_kp {S : Nat → Prop} {w w' : World} {b e size n : Nat} {v : Value} {xs : List Value} (h : w.ownsRow b e size v n xs) (k : Kp S w w') (hn : ∀ i, v.ownBlock = some i → ¬ S i) : w'.ownsRow b e size v n xs := by
  have hlt := h.lt
  obtain ⟨h1, h2 | ⟨g, cap, cur, rfl, h6, h3, h4, h5, h7, h8⟩⟩ := h
  · exact ⟨h1, .inl h2⟩
  · exact ⟨h1, .inr ⟨g, cap, cur, rfl, h6, (k.block g (hlt g rfl).2 (hn g rfl)).trans h3, h4, h5, h7, h8⟩⟩

theorem own_some {w : World} {b e size n : Nat} {v : Value} {xs : List Value} (h : w.ownsRow b e size v n xs) (hn : 0 < n) : ∃ g cap, v = .slice (some ⟨g, 0, none⟩) n cap ∧ n ≤ cap ∧ cap ≤ 9223372036854775807 ∧ g < w.heap.size := by
  rcases own_shape h with ⟨_, h0, _⟩ | ⟨g, cap, e, h1, h2, h3, _⟩
  · omega
  · exact ⟨g, cap, e, h1, h2, h3⟩

theorem blk_new {W : World} {n : Nat} (cs : Array Value) (T : TypeId) (hn : W.heap.size = n) : (W.alloc (.cells cs T)).heap[n]? = some (.cells cs T (0, 0)) := by
  subst hn; exact Blk.new _ _ _

/-- The cells from (b, off) on hold these. -/
def Vw (w : World) (b off : Nat) (vs : List Value) : Prop := ∀ j u, vs[j]? = some u → w.cell? ⟨b, off + j, none⟩ = some u

theorem Vw.kp {S : Nat → Prop} {w w' : World} {b off : Nat} {vs : List Value} (h : Vw w b off vs) (k : Kp S w w') (hb : b < w.heap.size) (hn : ¬ S b) : Vw w' b off vs := by
  intro j u hj
  have := h j u hj
  rw [← this]
  unfold World.cell?
  simp only [k.block b hb hn]
theorem Vw.kp0 {w w' : World} {b off : Nat} {vs : List Value} (h : Vw w b off vs) (k : Kp0 w w') (hb : b < w.heap.size) : Vw w' b off vs := h.kp k hb (fun x => x)
theorem Vw.add {w : World} {b off : Nat} {vs : List Value} (h : Vw w b off vs) : ∀ j u, vs[j]? = some u → w.cell? ((⟨b, off, none⟩ : Addr).add j) = some u := by
  intro j u hj
  have hadd : (⟨b, off, none⟩ : Addr).add j = ⟨b, off + j, none⟩ := by unfold Addr.add; split <;> simp_all
  rw [hadd]; exact h j u hj
theorem Vw.of_blk {w : World} {b : Nat} {cs : Array Value} {T : TypeId} {fr : Nat × Nat} (hb : w.heap[b]? = some (.cells cs T fr)) : Vw w b 0 cs.toList := by
  intro j u hj
  have := World.news_of_block hb j u hj
  have hadd : (⟨b, 0, none⟩ : Addr).add j = ⟨b, 0 + j, none⟩ := by unfold Addr.add; split <;> simp_all
  rw [hadd] at this; exact this
theorem Vw.of_own {w : World} {b e size n m cap g : Nat} {xs : List Value} (h : w.ownsRow b e size (.slice (some ⟨g, 0, none⟩) m cap) n xs) : Vw w g 0 xs := by
  intro j u hj
  have := h.cells (g := g) rfl j u hj
  have hadd : (⟨g, 0, none⟩ : Addr).add j = ⟨g, 0 + j, none⟩ := by unfold Addr.add; split <;> simp_all
  rw [hadd] at this; exact this
theorem Vw.drop {w : World} {b off : Nat} {vs : List Value} (h : Vw w b off vs) (k : Nat) : Vw w b (off + k) (vs.drop k) := by
  intro j u hj
  rw [List.getElem?_drop] at hj
  have := h _ _ hj
  rwa [← Nat.add_assoc] at this
theorem Vw.take {w : World} {b off : Nat} {vs : List Value} (h : Vw w b off vs) (k : Nat) : Vw w b off (vs.take k) := by
  intro j u hj
  rw [List.getElem?_take] at hj
  split at hj
  · exact h _ _ hj
  · cases hj

/-- append onto a row of one's own, as one step of a region. -/
theorem step_app {P : Program} {ops : Array Oper} {o : Oper} {a : Act} {Q : Exit → Act → World → Prop} {K : Act → World → Prop} {W : World} {E : Prop}
    (hg : o.guard = none) (s x : Operand) (t e : TypeId) (z : Value) (size bytes : Nat)
    (ho : o.op = .call { callee := .builtin .append, args := #[s, x], argTypes := #[t, t] })
    (ht : P.underlying t = some (.slice e)) (hinfo : (P.info? e).map (fun i => (i.zero, i.size, i.bytes)) = some (some z, size, bytes)) (hz : z.cells.size = size) (hs0 : 0 < size)
    (v : Value) (n : Nat) (xs : List Value) (hs : a.eval s = v) (b off m c : Nat) (ys : List Value) (hx : a.eval x = .slice (some ⟨b, off, none⟩) m c) (hys : ys.length = m * size) (h1 : ∀ u ∈ ys, u.oneCell' = true)
    (hb : Vw W b off ys)
    (HO : W.ownsRow 0 e size v n xs) (hn : n + m ≤ 1000000) (hl : (n + m) * bytes ≤ 140737488355328)
    (h : ∀ v1 w1, w1.ownsRow 0 e size v1 (n + m) (xs ++ ys) → Kp (fun i => v.ownBlock = some i) W w1 → (v1.ownBlock = v.ownBlock ∨ v1.ownBlock = some W.heap.size) → K (a.put o.dst v1) w1) :
    if Region.wanted o (yielded ops a.tmps) = true then Oper.wp P o a W K Q else E := by
  have hw : Region.wanted o (yielded ops a.tmps) = true := by simp [Region.wanted, hg]
  obtain ⟨i0, hi, hzz⟩ := Option.map_eq_some_iff.1 hinfo
  simp only [Prod.mk.injEq] at hzz
  obtain ⟨hz0, hz1, hz2⟩ := hzz
  rw [if_pos hw]
  obtain ⟨v1, w1, hr, hown, hg, _, hat⟩ := run_append_own_at (P := P) W 0 t o.type e i0 z size bytes ht hi hz0 hz1 hz2 hz hs0 v n xs HO ⟨b, off, none⟩ m c ys hys
    hb.add h1 (by simp only [maxLen]; omega) hl (by simp)
  unfold Oper.wp execOp
  simp only [ho, resolve, invoke, builtin, Sem.run_bind, Sem.run_pure, Result.andThen_ok, List.map_toArray, List.map_cons, List.map_nil, hs, hx, hr]
  exact h v1 w1 hown ((Kp.refl _ _).grown hg (fun k hk _ => hk)) hat

/-- The same, one operation behind the other. -/
theorem list_app {P : Program} {w : World} {ops : Array Oper} {rest : List Oper} {o : Oper} {a : Act} {Q : Exit → Act → World → Prop} (hgd : o.guard = none) (s x : Operand) (t e : TypeId) (z : Value) (size bytes : Nat)
    (ho : o.op = .call { callee := .builtin .append, args := #[s, x], argTypes := #[t, t] })
    (ht : P.underlying t = some (.slice e)) (hinfo : (P.info? e).map (fun i => (i.zero, i.size, i.bytes)) = some (some z, size, bytes)) (hz : z.cells.size = size) (hs0 : 0 < size)
    (v : Value) (n : Nat) (xs : List Value) (hs : a.eval s = v) (b off m c : Nat) (ys : List Value) (hx : a.eval x = .slice (some ⟨b, off, none⟩) m c) (hys : ys.length = m * size) (h1 : ∀ u ∈ ys, u.oneCell' = true)
    (hb : Vw w b off ys)
    (HO : w.ownsRow 0 e size v n xs) (hn : n + m ≤ 1000000) (hl : (n + m) * bytes ≤ 140737488355328)
    (h : ∀ v1 w1, w1.ownsRow 0 e size v1 (n + m) (xs ++ ys) → Kp (fun i => v.ownBlock = some i) w w1 → (v1.ownBlock = v.ownBlock ∨ v1.ownBlock = some w.heap.size) → wpList P ops Q rest (a.put o.dst v1) w1) :
    wpList P ops Q (o :: rest) a w := by
  obtain ⟨i0, hi, hzz⟩ := Option.map_eq_some_iff.1 hinfo
  simp only [Prod.mk.injEq] at hzz
  obtain ⟨hz0, hz1, hz2⟩ := hzz
  exact wpList_append_own_at w hgd s x t ho 0 e i0 z size bytes ht hi hz0 hz1 hz2 hz hs0 v n xs hs HO ⟨b, off, none⟩ m c ys hx hys hb.add h1 (by simp only [maxLen]; omega) hl (by simp)
    (fun v' w' h2 h3 _ h5 => h v' w' h2 ((Kp.refl _ _).grown h3 (fun k hk _ => hk)) h5)
end Go.Proofs.Ytkokgbmeienokaa
