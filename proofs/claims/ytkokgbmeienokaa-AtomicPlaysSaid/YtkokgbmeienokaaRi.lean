/- Records one behind the other: what is read of them (plain law); frames of rows. -/
import Derived.Test.YtkokgbmeienokaaRh
set_option linter.unusedVariables false
set_option linter.unusedSimpArgs false
namespace Go.Proofs.Ytkokgbmeienokaa
open Go.RowKit

theorem pk_ok {x : List Int} (h : x.length ≤ 200) : pk x = (x.length : Int) :: (x ++ [165]) := by unfold pk; rw [if_pos h]
theorem pk_len {x : List Int} (h : x.length ≤ 200) : (pk x).length = x.length + 2 := by rw [pk_ok h]; simp
def fl (xs : List (List Int)) : List Int := (xs.map pk).flatten
theorem fl_nil : fl [] = [] := rfl
theorem fl_cons (x : List Int) (xs : List (List Int)) : fl (x :: xs) = pk x ++ fl xs := by simp [fl]
theorem fl_snoc (xs : List (List Int)) (x : List Int) : fl (xs ++ [x]) = fl xs ++ pk x := by simp [fl]

theorem wh_rec {x r : List Int} (h : x.length ≤ 200) : wh (pk x ++ r) = x.length + 2 := by
  rw [pk_ok h]
  unfold wh
  have hh : ((x.length : Int) :: (x ++ [165]) ++ r).headD 0 = x.length := rfl
  rw [hh, Int.toNat_natCast, if_neg]
  rintro (h1 | h1 | h1 | h1)
  · cases h1
  · omega
  · simp at h1
  · apply h1; simp [List.getD]

theorem sc_rec {x r : List Int} (h : x.length ≤ 200) : sc (pk x ++ r) = (x :: (sc r).1, x.length + 2 + (sc r).2) := by
  have hw := wh_rec (r := r) h
  rw [sc_go (by omega), hw]
  have e1 : (pk x ++ r).drop (x.length + 2) = r := by rw [← pk_len h, List.drop_left]
  have e2 : ((pk x ++ r).take (x.length + 2 - 1)).drop 1 = x := by
    rw [pk_ok h]
    simp [List.take_append]
  rw [e1, e2]

theorem wh_cut {x r : List Int} (h : x.length ≤ 200) (c : Nat) (hc : c < x.length + 2) : wh ((pk x ++ r).take c) = 0 := by
  apply wh_no
  rcases Nat.eq_zero_or_pos c with rfl | h0
  · exact .inl (by simp)
  · refine .inr (.inr (.inl ?_))
    obtain ⟨c', rfl⟩ : ∃ c', c = c' + 1 := ⟨c - 1, by omega⟩
    rw [pk_ok h]
    simp
    omega

theorem sc_cut : ∀ (xs : List (List Int)) (k c : Nat), (∀ x ∈ xs, x.length ≤ 200) → k ≤ xs.length → (fl (xs.take k)).length ≤ c → (k = xs.length ∨ c < (fl (xs.take (k + 1))).length) → sc ((fl xs).take c) = (xs.take k, (fl (xs.take k)).length)
  | [], k, c, _, hk, _, _ => by
    obtain rfl : k = 0 := by simpa using hk
    simp [fl_nil, sc_nil]
  | x :: xs, 0, c, hx, _, _, h => by
    have hl := hx x (by simp)
    rw [fl_cons]
    rcases h with h | h
    · simp at h
    · rw [sc_stop (wh_cut hl c (by simp [fl_cons, fl_nil] at h; rw [pk_len hl] at h; omega))]
      simp [fl_nil]
  | x :: xs, k + 1, c, hx, hk, hc, h => by
    have hl := hx x (by simp)
    have e : (fl ((x :: xs).take (k + 1))).length = x.length + 2 + (fl (xs.take k)).length := by rw [List.take_succ_cons, fl_cons, List.length_append, pk_len hl]
    rw [e] at hc ⊢
    obtain ⟨c', rfl⟩ : ∃ c', c = x.length + 2 + c' := ⟨c - (x.length + 2), by omega⟩
    rw [fl_cons, ← pk_len hl, List.take_length_add_append, sc_rec hl, pk_len hl]
    have ih := sc_cut xs k c' (fun y hy => hx y (by simp [hy])) (by simpa using hk) (by omega) (by
      rcases h with h | h
      · exact .inl (by simpa using h)
      · refine .inr ?_
        rw [List.take_succ_cons, fl_cons, List.length_append, pk_len hl] at h
        omega)
    rw [ih, List.take_succ_cons]

theorem sc_all (xs : List (List Int)) (h : ∀ x ∈ xs, x.length ≤ 200) : sc (fl xs) = (xs, (fl xs).length) := by
  have := sc_cut xs xs.length (fl xs).length h (Nat.le_refl _) (by rw [List.take_length]; exact Nat.le_refl _) (.inl rfl)
  rwa [List.take_length, List.take_length] at this

theorem sc_spoilt {x r : List Int} (h : x.length ≤ 200) : sc ((pk x ++ r).set (x.length + 1) 166) = ([], 0) := by
  apply sc_stop
  apply wh_no
  refine .inr (.inr (.inr ?_))
  rw [pk_ok h]
  have hh : (((x.length : Int) :: (x ++ [165]) ++ r).set (x.length + 1) 166).headD 0 = x.length := rfl
  rw [hh, Int.toNat_natCast]
  simp [List.getD]

theorem fl_len (xs : List (List Int)) (h : ∀ x ∈ xs, x.length ≤ 200) : (fl xs).length ≤ xs.length * 202 := by
  induction xs with
  | nil => simp [fl_nil]
  | cons x xs ih =>
    rw [fl_cons, List.length_append, pk_len (h x (by simp)), List.length_cons]
    have := ih (fun y hy => h y (by simp [hy]))
    have := h x (by simp)
    omega
theorem fl_byt (xs : List (List Int)) (h : ∀ x ∈ xs, ∀ c ∈ x, 0 ≤ c ∧ c ≤ 255) : ∀ c ∈ fl xs, 0 ≤ c ∧ c ≤ 255 := by
  intro c hc
  unfold fl at hc
  obtain ⟨l, hl, hc⟩ := List.mem_flatten.1 hc
  obtain ⟨x, hx, rfl⟩ := List.mem_map.1 hl
  exact pk_byt (h x hx) c hc

/-- Where the records end. -/
def en (xs : List (List Int)) : List Int := (List.range xs.length).map (fun j => ((fl (xs.take (j + 1))).length : Int))
theorem en_len (xs : List (List Int)) : (en xs).length = xs.length := by simp [en]
theorem en_snoc (xs : List (List Int)) (x : List Int) : en (xs ++ [x]) = en xs ++ [((fl (xs ++ [x])).length : Int)] := by
  unfold en
  rw [List.length_append, List.length_singleton, List.range_succ, List.map_append, List.map_singleton]
  congr 1
  · apply List.map_congr_left
    intro j hj
    have := List.mem_range.1 hj
    rw [List.take_append_of_le_length (by omega)]
  · rw [List.take_of_length_le (by simp)]
theorem en_get (xs : List (List Int)) (j : Nat) (h : j < xs.length) : (en xs)[j]? = some ((fl (xs.take (j + 1))).length : Int) := by simp [en, h]

/-- The memory of these rows' bytes is outside X. -/
def Av (vs : List Value) (ls : List (List Int)) (X : Nat → Prop) : Prop := ∀ j (h : j < ls.length) A n c, vs[j]? = some (.slice A n c) → ls[j] ≠ [] → ∀ b, A = some b → ¬ X b.block
theorem Av.nil (X : Nat → Prop) : Av [] [] X := fun j h => by simp at h
theorem Av.snoc {vs : List Value} {ls : List (List Int)} {X : Nat → Prop} {A : Option Addr} {n c : Nat} {bs : List Int} (h : Av vs ls X) (hl : vs.length = ls.length) (hb : bs ≠ [] → ∀ b, A = some b → ¬ X b.block) : Av (vs ++ [.slice A n c]) (ls ++ [bs]) X := by
  intro j hj A' n' c' he hne b hA
  by_cases hlt : j < ls.length
  · rw [List.getElem?_append_left (by omega)] at he
    rw [List.getElem_append_left hlt] at hne
    exact h j hlt A' n' c' he hne b hA
  · obtain rfl : j = ls.length := by simp at hj; omega
    rw [← hl] at he
    simp at he hne
    obtain ⟨rfl, _, _⟩ := he
    exact hb hne b hA
theorem RowsAt.kp {S : Nat → Prop} {w w' : World} {v : Value} {ls : List (List Int)} {vs : List Value} (h : RowsAt w v ls vs) (k : Kp S w w') (hv : ∀ i, v.ownBlock = some i → ¬ S i) (ha : Av vs ls S) : RowsAt w' v ls vs := by
  obtain ⟨h1, h2, h3⟩ := h
  refine ⟨own_kp h1 k hv, h2, fun j hj => ?_⟩
  obtain ⟨A, c, e, b, l1, l2, hne⟩ := h3 j hj
  exact ⟨A, c, e, b.kp k (fun hz b hA => ha j hj A _ c e hz b hA), l1, l2, hne⟩
theorem RowsAt.kp0 {w w' : World} {v : Value} {ls : List (List Int)} {vs : List Value} (h : RowsAt w v ls vs) (k : Kp0 w w') : RowsAt w' v ls vs := h.kp k (fun _ _ x => x) (fun _ _ _ _ _ _ _ _ _ x => x)
theorem Av.more {w : World} {v : Value} {ls : List (List Int)} {vs : List Value} {X Y : Nat → Prop} (h : Av vs ls X) (R : RowsAt w v ls vs) (hxy : ∀ i, Y i → X i ∨ w.heap.size ≤ i) : Av vs ls Y := by
  intro j hj A n c he hne b hA hY
  rcases hxy _ hY with hX | hX
  · exact h j hj A n c he hne b hA hX
  · obtain ⟨A', c', e, hb, _⟩ := R.2.2 j hj
    rw [e] at he
    simp at he
    obtain ⟨rfl, _, _⟩ := he
    rcases hb with ⟨⟨_, _, h⟩ | ⟨B, off, h, _, hB⟩, _⟩ | ⟨h, _⟩
    · exact hne h
    · rw [h] at hA; injection hA with hA; subst hA; simp at hX; omega
    · exact hne h
theorem RowsAt.snoc {w w1 : World} {v v1 : Value} {ls : List (List Int)} {bs : List Int} {A : Option Addr} {c n : Nat} {vs : List Value} (h : RowsAt w v ls vs) (hb : Bz w A c bs) (l1 : bs.length ≤ c) (l2 : c ≤ 9223372036854775807) (hne : ∀ b, bs ≠ [] → A = some b → v.ownBlock ≠ some b.block)
    (hn : n = ls.length) (o1 : w1.ownsRow 0 22 1 v1 (n + 1) (vs ++ [.slice A bs.length c])) (k : Kp (fun i => v.ownBlock = some i) w w1) (b1 : v1.ownBlock = v.ownBlock ∨ v1.ownBlock = some w.heap.size) : RowsAt w1 v1 (ls ++ [bs]) (vs ++ [.slice A bs.length c]) := by
  obtain ⟨ws, R⟩ := Rows.snoc h hb l1 l2 hne hn o1 k b1
  have h1 := R.1
  have e : ws = vs ++ [.slice A bs.length c] := by
    have hl1 : ws.length = n + 1 := by have := R.2.1; simp at this; omega
    rw [hl1] at h1
    rcases own_shape h1 with ⟨_, h0, _⟩ | ⟨r, cap, e1, m1, m2, m3, m4⟩
    · omega
    · rcases own_shape o1 with ⟨_, h0, _⟩ | ⟨r', cap', e2, p1, p2, p3, p4⟩
      · omega
      · rw [e1] at e2; injection e2 with e3 _ _; injection e3 with e3; injection e3 with e3 _ _; subst e3
        apply List.ext_getElem?
        intro j
        by_cases hj : j < n + 1
        · rw [← m4 j (by omega), ← p4 j (by omega)]
        · rw [List.getElem?_eq_none (by omega), List.getElem?_eq_none (by have := o1.1; omega)]
  rw [← e]; exact R
end Go.Proofs.Ytkokgbmeienokaa
