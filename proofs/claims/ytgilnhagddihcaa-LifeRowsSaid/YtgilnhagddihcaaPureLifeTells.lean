/- For every input the law LifeTells returns true: states that are over, that may follow, their names, what a row of states comes to, are the reference's. No conditions. -/
import Derived.Test.YtgilnhagddihcaaPLifeTellsx2
import Derived.OpenShut
namespace Go.Proofs.Ytgilnhagddihcaa.Pure
open Go.RowKit Go.Proofs.Ytgilnhagddihcaa.PLifeTells Go.Proofs.YtgilnhagddihcaaW.PrintWords Go.Proofs.YtgilnhagddihcaaW.PrintLast

theorem within_some (v n : Int) (hn : 1 ≤ n) : ∃ r, hostlerkeep_Within.f v n = some r := by
  unfold hostlerkeep_Within.f
  rw [if_neg (by omega), if_neg (by omega)]
  split <;> exact ⟨_, rfl⟩

def may (a b : Int) : Bool := if a = 1 then (b == 2) || (decide (3 ≤ b) && decide (b ≤ 7)) else if a = 2 then decide (3 ≤ b) && decide (b ≤ 6) else false

theorem may_calls (a b : Int) : life_May.f a b = some (may a b) := by
  unfold life_May.f may life_Over.f
  by_cases h1 : a = 1
  · rw [if_pos h1, if_pos h1]
    by_cases h2 : b = 2
    · simp [h2]
    · rw [if_neg h2]
      by_cases h3 : b ≥ 3 <;> simp [h2, h3]
  · rw [if_neg h1, if_neg h1]
    by_cases h2 : a = 2
    · rw [if_pos h2, if_pos h2]
      by_cases h3 : b ≥ 3
      · simp only [h3, if_true, Option.bind_some]
        by_cases h4 : b ≤ 7
        · simp only [h4, decide_true, if_true]
          congr 1
          by_cases h5 : b = 7
          · subst h5; decide
          · have : b ≤ 6 := by omega
            simp [h5, this]
        · have : ¬ b ≤ 6 := by omega
          simp [h4, this]
      · simp [h3]
    · simp [h2]

theorem may_ref (a b : Int) : hostlerref09_May.f a b = some (may a b) := may_calls a b

def ofL : Int → List Int → Int
  | now, [] => now
  | now, x :: l => if may now x = true then ofL x l else 0

def step (w x : Int) : Int := if w = 0 then 0 else if may w x = true then x else 0

theorem foldl_zero (l : List Int) : l.foldl step 0 = 0 := by
  induction l with
  | nil => rfl
  | cons x l ih => simpa [step] using ih

theorem may_pos (a b : Int) (h : may a b = true) : b ≠ 0 := by
  intro e; subst e; revert h; unfold may; split <;> (try split) <;> simp

theorem ofL_fold (l : List Int) : ∀ now : Int, now ≠ 0 → ofL now l = l.foldl step now := by
  induction l with
  | nil => intro now _; rfl
  | cons x l ih =>
    intro now h
    simp only [ofL, List.foldl_cons]
    by_cases hm : may now x = true
    · rw [if_pos hm, ih x (may_pos _ _ hm)]; simp [step, h, hm]
    · rw [if_neg hm]; simp [step, h, hm, foldl_zero]

theorem of_loop (l : List Int) (hl : l.length ≤ 100) (d : Nat) : ∀ (k : Nat) (now i : Int), 0 ≤ i → i ≤ l.length → (l.length : Int) - i = d → d < k →
    life_Of.l0 k now l (l.length : Int) i = some (ofL now (l.drop i.toNat)) := by
  induction d with
  | zero =>
    intro k now i h0 h1 hd hk
    obtain ⟨k, rfl⟩ : ∃ m, k = m + 1 := ⟨k - 1, by omega⟩
    simp only [life_Of.l0]
    rw [if_neg (by omega), List.drop_eq_nil_of_le (by omega)]; rfl
  | succ d ih =>
    intro k now i h0 h1 hd hk
    obtain ⟨k, rfl⟩ : ∃ m, k = m + 1 := ⟨k - 1, by omega⟩
    have hlt : i.toNat < l.length := by omega
    simp only [life_Of.l0]
    rw [if_pos (by omega), if_pos h0, if_pos (by omega), may_calls]
    simp only [Option.bind_some]
    have e : wrap64 (i + 1) = i + 1 := by unfold wrap64; omega
    have e2 : (i + 1).toNat = i.toNat + 1 := by omega
    have er : rd l i = l[i.toNat] := by unfold rd; simp [List.getD, hlt]
    rw [List.drop_eq_getElem_cons hlt, er]
    simp only [ofL]
    by_cases hm : may now l[i.toNat] = true
    · rw [if_pos hm, if_pos hm, e, ih k _ (i + 1) (by omega) (by omega) (by omega) (by omega), e2]
    · rw [if_neg hm, if_neg hm]

theorem of_calls (k : Nat) (l : List Int) (hl : l.length ≤ 100) (hk : l.length < k) : life_Of.f k l = some (l.foldl step 1) := by
  unfold life_Of.f
  rw [of_loop l hl l.length k 1 0 (by omega) (by omega) (by omega) hk]
  simp [ofL_fold]

theorem name_same (a : Int) (h0 : -9223372036854775808 ≤ a) (h1 : a ≤ 9223372036854775807) : ∃ r, life_Name.f a = some r ∧ hostlerref09_Name.f a = some r := by
  have e : hostlerref09_Name.f a = life_Name.f a := rfl
  rw [e]
  suffices h : ∃ r, life_Name.f a = some r by obtain ⟨r, h⟩ := h; exact ⟨r, h, h⟩
  unfold life_Name.f
  by_cases h2 : a < 1
  · rw [if_pos h2]; exact ⟨_, rfl⟩
  · rw [if_neg h2]
    by_cases h3 : a > 7
    · rw [if_pos h3]; exact ⟨_, rfl⟩
    · rw [if_neg h3]
      have ew : wrap64 (a - 1) = a - 1 := by unfold wrap64; omega
      simp only [Option.bind_some, ew]
      rw [if_pos (by omega), if_pos (by simp; omega)]
      exact ⟨_, rfl⟩

theorem wakes_true (k : Nat) : hostlerlaw09_wakes.f (k + 1) = some true := by
  unfold hostlerlaw09_wakes.f
  rw [of_calls (k + 1) [] (by simp) (by simp)]
  simp only [List.foldl_nil, Option.bind_some, if_true]
  have : life_Name.f 6 = some (⟨#[108, 111, 115, 116]⟩ : ByteArray) := by unfold life_Name.f; simp [wrap64, rdOf]
  rw [this]
  simp only [Option.bind_some, ByteArray.toList_eq]
  decide

theorem over_same (a : Int) : ∃ r, life_Over.f a = some r ∧ hostlerref09_Over.f a = some r := by
  have e : hostlerref09_Over.f a = life_Over.f a := rfl
  rw [e]; unfold life_Over.f; split <;> exact ⟨_, rfl, rfl⟩

theorem loop_true (a b how : Int) (l : List Int) (h0 : -9223372036854775808 ≤ a) (h1 : a ≤ 9223372036854775807) (d : Nat) :
    ∀ (k : Nat) (s : List Int) (i : Int), i ≤ 6 → i ≤ l.length → i = s.length → 6 - i = d → 2 * d + 12 < k →
      hostlerlaw09_LifeTells.l0 k a b l how s (s.foldl step 1) i = some true := by
  induction d with
  | zero =>
    intro k s i h6 hil hs hd hk
    obtain ⟨k, rfl⟩ : ∃ m, k = m + 2 := ⟨k - 2, by omega⟩
    obtain ⟨o, ho, ho'⟩ := over_same a
    obtain ⟨n, hn, hn'⟩ := name_same a h0 h1
    have hof := of_calls k s (by omega) (by omega)
    obtain ⟨k', rfl⟩ : ∃ m, k = m + 1 := ⟨k - 1, by omega⟩
    have hw := wakes_true k'
    have i6 : ¬ i < 6 := by omega
    simp only [hostlerlaw09_LifeTells.l0, i6, decide_false, ite_self, hostlerlaw09_LifeTells.j2]
    rw [if_neg (by decide), ho, ho', may_calls, may_ref, hn, hn', hof, hw]
    simp
  | succ d ih =>
    intro k s i h6 hil hs hd hk
    obtain ⟨k, rfl⟩ : ∃ m, k = m + 2 := ⟨k - 2, by omega⟩
    obtain ⟨o, ho, ho'⟩ := over_same a
    obtain ⟨n, hn, hn'⟩ := name_same a h0 h1
    have hof := of_calls k s (by omega) (by omega)
    have hw : hostlerlaw09_wakes.f k = some true := by
      obtain ⟨k', rfl⟩ : ∃ m, k = m + 1 := ⟨k - 1, by omega⟩
      exact wakes_true k'
    have i6 : i < 6 := by omega
    have ew : wrap64 (i + 1) = i + 1 := by unfold wrap64; omega
    by_cases hlt : i < (l.length : Int)
    · have next : ∀ x : Int, (if (s.foldl step 1) = 0 then hostlerlaw09_LifeTells.l0 k a b l how (s ++ [x]) 0 (i + 1) else (hostlerref09_May.f (s.foldl step 1) x).bind fun t => if t = true then hostlerlaw09_LifeTells.l0 k a b l how (s ++ [x]) x (i + 1) else hostlerlaw09_LifeTells.l0 k a b l how (s ++ [x]) 0 (i + 1)) = some true := by
        intro x
        have hi := ih k (s ++ [x]) (i + 1) (by omega) (by omega) (by simp; omega) (by omega) (by omega)
        rw [List.foldl_append] at hi
        simp only [List.foldl_cons, List.foldl_nil] at hi
        by_cases hz : s.foldl step 1 = 0
        · rw [if_pos hz]; rw [hz] at hi; simpa [step] using hi
        · rw [if_neg hz, may_ref]
          simp only [Option.bind_some]
          by_cases hm : may (s.foldl step 1) x = true
          · rw [if_pos hm]; simpa [step, hz, hm] using hi
          · rw [if_neg hm]; simpa [step, hz, hm] using hi
      simp only [hostlerlaw09_LifeTells.l0, hlt, if_true, i6, decide_true, hostlerlaw09_LifeTells.j2, ew]
      rw [if_pos (by omega)]
      have hsl : s.length < 17592186044416 := by omega
      simp only [hsl, if_true, Option.bind_some]
      split
      · exact next _
      · obtain ⟨x, hx⟩ := within_some (rd l i) 7 (by omega)
        rw [hx]
        exact next _
    · simp only [hostlerlaw09_LifeTells.l0, hlt, if_false, hostlerlaw09_LifeTells.j2]
      rw [if_neg (by decide), ho, ho', may_calls, may_ref, hn, hn', hof, hw]
      simp

theorem j0_true (a b how : Int) (l : List Int) (h0 : -9223372036854775808 ≤ a) (h1 : a ≤ 9223372036854775807) : hostlerlaw09_LifeTells.j0 40 a b l how = some true := by
  simp only [hostlerlaw09_LifeTells.j0]
  exact loop_true a b how l h0 h1 6 39 [] 0 (by omega) (by omega) rfl (by omega) (by omega)

theorem LifeTells : hostlerlaw09_LifeTells.Pure := by
  intro a b l how ha _ _ _ _ _
  refine ⟨40, ?_⟩
  have ba := bounds_i64 ha
  unfold hostlerlaw09_LifeTells.f
  by_cases h : Int.tmod how 7 = 6
  · rw [if_pos h]; exact j0_true a b how l ba.1 ba.2
  · rw [if_neg h]
    obtain ⟨x, hx⟩ := within_some a 10 (by omega)
    obtain ⟨y, hy⟩ := within_some b 10 (by omega)
    rw [hx, hy]
    simp only [Option.bind_some]
    refine j0_true _ _ how l ?_ ?_ <;> unfold wrap64 <;> omega

end Go.Proofs.Ytgilnhagddihcaa.Pure
