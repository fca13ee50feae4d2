/- Package bin: boxes sorted by their age. -/
import Derived.Test.YtccamciijpmkjaaB1
set_option linter.unusedVariables false
set_option linter.unusedSimpArgs false
namespace Go.Proofs.Ytccamciijpmkjaa
open Go.RowKit Go.Sort

theorem flat_rb (l : List Bx) : flatK Bx.cs 4 l.toArray = (rb l).toArray := by
  apply ext_get!
  · rw [size_flatK]; show l.length * 4 = (rb l).length; rw [rb_len]
  · intro t ht
    have ht' : t < l.toArray.size * 4 := by simpa using ht
    have hl : t < l.length * 4 := ht'
    rw [get_flatK _ _ _ t ht']
    have hk : t / 4 < l.length := by omega
    have hj : t % 4 < 4 := by omega
    have e := rb_at l (t / 4) (t % 4) hk hj
    rw [show t / 4 * 4 + t % 4 = t by omega] at e
    have e1 : l.toArray[t / 4]! = l[t / 4] := by rw [getElem!_pos l.toArray (t / 4) (by simpa using hk)]; rfl
    rw [e1]
    have h1 : t < (rb l).length := by rw [rb_len]; exact hl
    rw [getElem!_pos (rb l).toArray t (by simpa using h1)]
    rw [List.getElem?_eq_getElem h1, List.getElem?_eq_getElem (show t % 4 < (l[t / 4]).cs.length from hj)] at e
    rw [getElem!_pos (l[t / 4]).cs (t % 4) hj]
    exact (Option.some.inj e).symm

theorem ext_bx {a b : Array Bx} (hs : a.size = b.size) (h : ∀ t, t < a.size → a[t]! = b[t]!) : a = b :=
  Array.ext hs fun t h1 h2 => by have := h t h1; rwa [getElem!_pos a t h1, getElem!_pos b t h2] at this
def cfB (x y : Bx) : Int := if x.s < y.s then -1 else if y.s < x.s then 1 else 0
theorem lt_cf (x y : Bx) : ltOf cfB x y = decide (x.s < y.s) := by
  unfold ltOf cfB
  by_cases h : x.s < y.s
  · rw [if_pos h, decide_eq_true h]; rfl
  · rw [if_neg h, decide_eq_false h]
    by_cases h2 : y.s < x.s
    · rw [if_pos h2]; rfl
    · rw [if_neg h2]; rfl

set_option maxRecDepth 100000 in
theorem cmp63_c (a b : Int) (w : World) : Calls Try.prog 63 #[.int .i64 a, .int .i64 b] w fun e w' => e = .returned (.int .i64 (if a < b then -1 else if b < a then 1 else 0)) ∧ w = w' := by
  have hn : ∀ (x : Int) (W : World), Calls Try.prog 76 #[.int .i64 x] W fun e w' => e = .returned (.bool false) ∧ W = w' := fun x W => by
    go_enter Try.func76, Try.ntmps76
    go_wp2
    go_ret
    exact ⟨by simp, rfl⟩
  by_cases h : a < b
  · rw [if_pos h]
    go_enter Try.func63, Try.ntmps63
    go_wp2_with fail
    refine (hn a w).mono ?_
    rintro e w' ⟨rfl, rfl⟩
    go_wp2_with fail
    refine (hn b w).mono ?_
    rintro e w' ⟨rfl, rfl⟩
    go_wp2
    go_ret
    exact ⟨rfl, rfl⟩
  · rw [if_neg h]
    by_cases h2 : b < a
    · rw [if_pos h2]
      go_enter Try.func63, Try.ntmps63
      go_wp2_with fail
      refine (hn a w).mono ?_
      rintro e w' ⟨rfl, rfl⟩
      go_wp2_with fail
      refine (hn b w).mono ?_
      rintro e w' ⟨rfl, rfl⟩
      go_wp2
      go_ret
      exact ⟨rfl, rfl⟩
    · rw [if_neg h2]
      go_enter Try.func63, Try.ntmps63
      go_wp2_with fail
      refine (hn a w).mono ?_
      rintro e w' ⟨rfl, rfl⟩
      go_wp2_with fail
      refine (hn b w).mono ?_
      rintro e w' ⟨rfl, rfl⟩
      go_wp2
      go_ret
      exact ⟨rfl, rfl⟩

set_option maxRecDepth 100000 in
theorem cmp62_c (x y : Bx) (w : World) : Calls Try.prog 62 #[x.ag, y.ag] w fun e w' => e = .returned (.int .i64 (cfB x y)) ∧ ∃ q os', w' = grow (w.drewN q) os' := by
  have hc := fun W => cmp63_c x.s y.s W
  have he : cfB x y = if x.s < y.s then -1 else if y.s < x.s then 1 else 0 := rfl
  rw [← he] at hc
  generalize cfB x y = r at hc ⊢
  clear he
  go_enter Try.func62, Try.ntmps62
  go_wp2_with fail
  refine (hc _).mono ?_
  rintro e w' ⟨rfl, rfl⟩
  go_wp2
  go_ret
  exact ⟨rfl, 0, #[.cells #[.string x.f, .string x.e, .int .i64 x.n, .int .i64 x.s] 63, .cells #[.string y.f, .string y.e, .int .i64 y.n, .int .i64 y.s] 63], by
    rw [World.alloc, World.alloc]
    unfold grow
    simp [World.drewN]
    apply Array.ext'
    simp⟩

/-- One box more, behind all that are as old. -/
def insR : List Bx → Bx → List Bx
  | [], x => [x]
  | y :: r, x => if x.s < y.s then y :: insR r x else x :: y :: r
def addB (l : List Bx) (x : Bx) : List Bx := (insR l.reverse x).reverse
def ltB (x y : Bx) : Bool := decide (x.s < y.s)
def UpB (l : List Bx) : Prop := ∀ i (h : i + 1 < l.length), ¬ l[i + 1].s < l[i].s

theorem swp_mid (p : List Bx) (y x : Bx) (q : List Bx) : swp (p ++ y :: x :: q).toArray (p.length + 1) p.length = (p ++ x :: y :: q).toArray := by
  apply ext_bx
  · rw [size_swp]; simp
  · intro t ht
    have hs : t < (p ++ y :: x :: q).length := by rw [size_swp] at ht; simpa using ht
    rw [swp_get _ (by simp) (by simp)]
    have g : ∀ (l : List Bx) (i : Nat) (h : i < l.length), l.toArray[i]! = l[i] := fun l i h => by rw [getElem!_pos l.toArray i (by simpa using h)]; rfl
    have hlen : (p ++ y :: x :: q).length = (p ++ x :: y :: q).length := by simp
    rw [g (p ++ x :: y :: q) t (by omega)]
    by_cases h1 : t = p.length + 1
    · subst h1
      rw [if_pos rfl, g _ p.length (by simp)]
      simp
    · rw [if_neg h1]
      by_cases h2 : t = p.length
      · subst h2
        rw [if_pos rfl, g _ (p.length + 1) (by simp)]
        simp
      · rw [if_neg h2, g _ t hs]
        by_cases h3 : t < p.length
        · rw [List.getElem_append_left h3, List.getElem_append_left h3]
        · rw [List.getElem_append_right (by omega), List.getElem_append_right (by omega)]
          obtain ⟨u, hu⟩ : ∃ u, t - p.length = u + 2 := ⟨t - p.length - 2, by omega⟩
          simp [hu]

theorem inner_eq (p : List Bx) : ∀ (x : Bx) (q : List Bx), insInner ltB 0 p.length (p ++ x :: q).toArray = (addB p x ++ q).toArray := by
  induction hn : p.length generalizing p with
  | zero =>
    intro x q
    obtain rfl := List.eq_nil_of_length_eq_zero hn
    rfl
  | succ n ih =>
    intro x q
    obtain ⟨p', y, rfl⟩ : ∃ p' y, p = p' ++ [y] := ⟨p.dropLast, p.getLast (by intro e; subst e; simp at hn), (List.dropLast_concat_getLast _).symm⟩
    have hp : p'.length = n := by simpa using hn
    have e0 : p' ++ [y] ++ x :: q = p' ++ y :: x :: q := by simp
    rw [e0]
    have g1 : (p' ++ y :: x :: q).toArray[n + 1]! = x := by rw [getElem!_pos _ _ (by simp [← hp])]; simp [← hp]
    have g0 : (p' ++ y :: x :: q).toArray[n]! = y := by rw [getElem!_pos _ _ (by simp [← hp])]; simp [← hp]
    have ea : addB (p' ++ [y]) x = if x.s < y.s then addB p' x ++ [y] else p' ++ [y, x] := by
      unfold addB
      rw [List.reverse_append, List.reverse_singleton, List.singleton_append, insR]
      by_cases h : x.s < y.s
      · rw [if_pos h, if_pos h, List.reverse_cons]
      · rw [if_neg h, if_neg h]; simp
    rw [insInner, g1, g0, ea]
    by_cases h : x.s < y.s
    · rw [if_pos (by unfold ltB; simp [h]), if_pos h]
      have := swp_mid p' y x q
      rw [hp] at this
      rw [this, ih p' hp x (y :: q)]
      simp
    · rw [if_neg (by unfold ltB; simp [h]), if_neg h]
      simp

theorem inner_stay (l : List Bx) (i : Nat) (hi : i < l.length) (hu : 0 < i → ∀ h : i - 1 < l.length, ¬ l[i].s < l[i - 1].s) : insInner ltB 0 i l.toArray = l.toArray := by
  cases i with
  | zero => rfl
  | succ j =>
    rw [insInner]
    have g : ∀ (i : Nat) (h : i < l.length), l.toArray[i]! = l[i] := fun i h => by rw [getElem!_pos l.toArray i (by simpa using h)]; rfl
    rw [g (j + 1) hi, g j (by omega)]
    have := hu (by omega) (by omega)
    rw [if_neg (by unfold ltB; simp only [Bool.and_eq_true, decide_eq_true_iff, not_and]; intro _; exact this)]

theorem outer_add (l : List Bx) (x : Bx) (hu : UpB l) : ∀ k i, l.length + 1 - i = k → 1 ≤ i → i ≤ l.length → insOuter ltB 0 (l.length + 1) i (l ++ [x]).toArray = (addB l x).toArray
  | 0, i, hk, h1, h2 => by omega
  | k + 1, i, hk, h1, h2 => by
    rw [insOuter, if_pos (by omega)]
    by_cases h : i = l.length
    · subst h
      rw [inner_eq l x [], List.append_nil, insOuter, if_neg (by omega)]
    · rw [inner_stay (l ++ [x]) i (by simp; omega) (fun h0 hb => by
        rw [List.getElem_append_left (by omega), List.getElem_append_left (by omega)]
        have := hu (i - 1) (by omega)
        simpa [show i - 1 + 1 = i by omega] using this)]
      exact outer_add l x hu k (i + 1) (by omega) (by omega) (by omega)
theorem ins_add (l : List Bx) (x : Bx) (hu : UpB l) : Sort.insertionSort ltB (l ++ [x]).toArray 0 (l.length + 1) = (addB l x).toArray := by
  unfold Sort.insertionSort
  by_cases h : l = []
  · subst h
    rw [insOuter, if_neg (by simp)]
    rfl
  · have : 1 ≤ l.length := by cases l with
      | nil => exact absurd rfl h
      | cons _ _ => simp
    exact outer_add l x hu _ (0 + 1) rfl (by omega) (by omega)
end Go.Proofs.Ytccamciijpmkjaa
