/- Contracts of package need, and of the reference's answers of it. -/
import Derived.Test.YtgilnhagddihcaaBk
import Derived.Test.YtgilnhagddihcaaFl
import Derived.WalkLawsBesides
import Derived.Laws.ComplexArith
import Derived.OwnWalk
set_option linter.unusedVariables false
set_option linter.unusedSimpArgs false
namespace Go.Proofs.Ytgilnhagddihcaa
open Go.RowKit

def geB (b c : Nat) : Bool := FloatKind.f64.format.order b c == some .gt || FloatKind.f64.format.order b c == some .eq
def leB (b c : Nat) : Bool := FloatKind.f64.format.order b c == some .lt || FloatKind.f64.format.order b c == some .eq
def eqB (b c : Nat) : Bool := FloatKind.f64.format.order b c == some .eq
def toI (b : Nat) : Int := (floatToIntVal .f64 b .i64).getD 0
/-- Is a float one whole number from nought to M? -/
def part (b : Nat) (M : Int) : Bool := geB b 0 && leB b (floatOfInt .f64 M) && eqB b (floatOfInt .f64 (toI b))

theorem ord (b c : Nat) : FloatKind.f64.format.order b c = Ieee.double.order b c := rfl

theorem num_or (b : Nat) : (∃ v q, Num b v q) ∨ (∃ s, Ieee.double.read b = .infinity s) ∨ (∃ s t, Ieee.double.read b = .nan s t) := by
  cases h : Ieee.double.read b with
  | number s m e => exact .inl ⟨_, _, s, m, e, h, rfl, rfl⟩
  | infinity s => exact .inr (.inl ⟨s, rfl⟩)
  | nan s t => exact .inr (.inr ⟨s, t, rfl⟩)

theorem Num.iff {b q : Nat} {v M : Int} (h : Num b v q) {c : Nat} (hc : Whole c M) : Ieee.double.order b c = some (compare v (M * ((2 ^ q : Nat) : Int))) := by
  obtain ⟨q', hc⟩ := hc
  rw [h.order hc]
  congr 1
  have hp : (0 : Int) < ((2 ^ q' : Nat) : Int) := by have := Nat.two_pow_pos q'; omega
  have e1 : M * ((2 ^ q' : Nat) : Int) * ((2 ^ q : Nat) : Int) = M * ((2 ^ q : Nat) : Int) * ((2 ^ q' : Nat) : Int) := by rw [Int.mul_assoc, Int.mul_assoc, Int.mul_comm ((2 ^ q' : Nat) : Int)]
  rw [e1]
  generalize M * ((2 ^ q : Nat) : Int) = y
  generalize ((2 ^ q' : Nat) : Int) = P at hp
  rcases Int.lt_trichotomy v y with h | h | h
  · rw [Int.compare_eq_lt.2 h, Int.compare_eq_lt.2 (Int.mul_lt_mul_of_pos_right h hp)]
  · subst h
    simp
  · rw [Int.compare_eq_gt.2 h, Int.compare_eq_gt.2 (Int.mul_lt_mul_of_pos_right h hp)]

theorem ge_of_order {b c : Nat} {x y : Int} (h : Ieee.double.order b c = some (compare x y)) : geB b c = decide (y ≤ x) := by
  unfold geB
  rw [ord, h]
  rcases Int.lt_trichotomy x y with h | h | h
  · rw [Int.compare_eq_lt.2 h, decide_eq_false (by omega)]; rfl
  · subst h; simp
  · rw [Int.compare_eq_gt.2 h, decide_eq_true (by omega)]; rfl
theorem le_of_order {b c : Nat} {x y : Int} (h : Ieee.double.order b c = some (compare x y)) : leB b c = decide (x ≤ y) := by
  unfold leB
  rw [ord, h]
  rcases Int.lt_trichotomy x y with h | h | h
  · rw [Int.compare_eq_lt.2 h, decide_eq_true (by omega)]; rfl
  · subst h; simp
  · rw [Int.compare_eq_gt.2 h, decide_eq_false (by omega)]; rfl
theorem eq_of_order {b c : Nat} {x y : Int} (h : Ieee.double.order b c = some (compare x y)) : eqB b c = decide (x = y) := by
  unfold eqB
  rw [ord, h]
  rcases Int.lt_trichotomy x y with h | h | h
  · rw [Int.compare_eq_lt.2 h, decide_eq_false (by omega)]; rfl
  · subst h; simp
  · rw [Int.compare_eq_gt.2 h, decide_eq_false (by omega)]; rfl

/-- What lies in a range is a number. -/
theorem in_range {b : Nat} {M : Int} (h0 : 0 ≤ M) (hM : M < 9007199254740992) (h1 : geB b 0 = true) (h2 : leB b (floatOfInt .f64 M) = true) :
    ∃ v q, Num b v q ∧ 0 ≤ v ∧ v ≤ M * ((2 ^ q : Nat) : Int) := by
  have wM := whole_fl M h0 hM
  rcases num_or b with ⟨v, q, h⟩ | ⟨s, h⟩ | ⟨s, t, h⟩
  · rw [ge_of_order (h.iff whole_zero)] at h1
    rw [le_of_order (h.iff wM)] at h2
    have e1 := of_decide_eq_true h1
    have e2 := of_decide_eq_true h2
    exact ⟨v, q, h, by omega, e2⟩
  · exfalso
    obtain ⟨q, s0, m0, i0, h0r, _⟩ := whole_zero
    obtain ⟨q, sM, mM, iM, hMr, _⟩ := wM
    unfold geB at h1
    unfold leB at h2
    rw [ord] at h1 h2
    unfold Ieee.Format.order at h1 h2
    rw [h, h0r] at h1
    rw [h, hMr] at h2
    cases s <;> simp [Ieee.Datum.order] at h1 h2
  · exfalso
    unfold geB at h1
    rw [ord] at h1
    unfold Ieee.Format.order at h1
    rw [h] at h1
    simp [Ieee.Datum.order] at h1

theorem num_toI {b q : Nat} {v M : Int} (h : Num b v q) (h0 : 0 ≤ v) (hM : v ≤ M * ((2 ^ q : Nat) : Int)) (hM0 : 0 ≤ M) (hM2 : M < 9007199254740992) : floatToIntVal .f64 b .i64 = some (v / ((2 ^ q : Nat) : Int)) ∧ 0 ≤ v / ((2 ^ q : Nat) : Int) ∧ v / ((2 ^ q : Nat) : Int) ≤ M := by
  have hp : (0 : Int) < ((2 ^ q : Nat) : Int) := by have := Nat.two_pow_pos q; omega
  have d0 : 0 ≤ v / ((2 ^ q : Nat) : Int) := Int.ediv_nonneg h0 (by omega)
  have d1 : v / ((2 ^ q : Nat) : Int) ≤ M := Int.ediv_le_of_le_mul hp hM
  refine ⟨?_, d0, d1⟩
  unfold floatToIntVal
  rw [h.toInt h0]
  have hw : IntKind.min .i64 ≤ v / ((2 ^ q : Nat) : Int) ∧ v / ((2 ^ q : Nat) : Int) ≤ IntKind.max .i64 := by
    have e1 : IntKind.min .i64 = -9223372036854775808 := by decide
    have e2 : IntKind.max .i64 = 9223372036854775807 := by decide
    omega
  simp only [hw, and_self, if_true]

/-- In a range the number is cut well. -/
theorem range_toI {b : Nat} {M : Int} (h0 : 0 ≤ M) (hM : M < 9007199254740992) (h1 : geB b 0 = true) (h2 : leB b (floatOfInt .f64 M) = true) : floatToIntVal .f64 b .i64 = some (toI b) ∧ 0 ≤ toI b ∧ toI b ≤ M := by
  obtain ⟨v, q, h, hv0, hv1⟩ := in_range h0 hM h1 h2
  obtain ⟨e1, e2, e3⟩ := num_toI h hv0 hv1 h0 hM
  unfold toI
  rw [e1]
  exact ⟨rfl, e2, e3⟩

theorem whole_toI {b : Nat} {n : Int} (h : Whole b n) (h0 : 0 ≤ n) (h1 : n < 9007199254740992) : toI b = n := by
  obtain ⟨q, h⟩ := h
  have hp : (0 : Int) < ((2 ^ q : Nat) : Int) := by have := Nat.two_pow_pos q; omega
  obtain ⟨e1, _, _⟩ := num_toI (M := n) h (Int.mul_nonneg h0 (by omega)) (Int.le_refl _) h0 h1
  unfold toI
  rw [e1]
  exact Int.mul_ediv_cancel _ (by omega)

/-- A part is a whole number of the range. -/
theorem part_iff {b : Nat} {M : Int} (h0 : 0 ≤ M) (hM : M < 9007199254740992) : part b M = true ↔ ∃ n, 0 ≤ n ∧ n ≤ M ∧ Whole b n := by
  constructor
  · intro h
    unfold part at h
    simp only [Bool.and_eq_true] at h
    obtain ⟨⟨h1, h2⟩, h3⟩ := h
    obtain ⟨v, q, hn, hv0, hv1⟩ := in_range h0 hM h1 h2
    obtain ⟨e1, e2, e3⟩ := range_toI h0 hM h1 h2
    have wI := whole_fl (toI b) e2 (by omega)
    rw [eq_of_order (hn.iff wI)] at h3
    have := of_decide_eq_true h3
    subst this
    exact ⟨toI b, e2, e3, q, hn⟩
  · rintro ⟨n, n0, n1, hw⟩
    have e := whole_toI hw n0 (by omega)
    unfold part
    rw [e, ge_of_order (hw.order whole_zero), le_of_order (hw.order (whole_fl M h0 hM)), eq_of_order (hw.order (whole_fl n n0 (by omega)))]
    simp [n0, n1]

theorem part_toI {b : Nat} {M : Int} (h0 : 0 ≤ M) (hM : M < 9007199254740992) (h : part b M = true) : 0 ≤ toI b ∧ toI b ≤ M ∧ Whole b (toI b) := by
  obtain ⟨n, n0, n1, hw⟩ := (part_iff h0 hM).1 h
  rw [whole_toI hw n0 (by omega)]
  exact ⟨n0, n1, hw⟩

/-- Up to the greatest need: a part of a room, that is no more. -/
theorem part_need (b : Nat) : part b 1000 = (part b 100000 && decide (toI b ≤ 1000)) := by
  rw [Bool.eq_iff_iff]
  simp only [Bool.and_eq_true, decide_eq_true_eq]
  constructor
  · intro h
    obtain ⟨n0, n1, hw⟩ := part_toI (by decide) (by decide) h
    exact ⟨(part_iff (by decide) (by decide)).2 ⟨_, n0, by omega, hw⟩, n1⟩
  · rintro ⟨h, h2⟩
    obtain ⟨n0, n1, hw⟩ := part_toI (by decide) (by decide) h
    exact (part_iff (by decide) (by decide)).2 ⟨_, n0, h2, hw⟩

theorem part_zero {b : Nat} {M : Int} (h0 : 0 ≤ M) (hM : M < 9007199254740992) (h : part b M = true) : eqB b 0 = decide (toI b = 0) := by
  obtain ⟨n0, n1, hw⟩ := part_toI h0 hM h
  exact eq_of_order (hw.order whole_zero)

theorem eqB_comm {b : Nat} {n : Int} (h0 : 0 ≤ n) (hn : n < 9007199254740992) (h : (∃ v q, Num b v q)) : eqB (floatOfInt .f64 n) b = eqB b (floatOfInt .f64 n) := by
  obtain ⟨v, q, h⟩ := h
  obtain ⟨q', hn'⟩ := whole_fl n h0 hn
  rw [eq_of_order (h.order hn'), eq_of_order (hn'.order h)]
  exact decide_eq_decide.2 ⟨fun x => x.symm, fun x => x.symm⟩

set_option maxRecDepth 100000 in
theorem part_c (b : Nat) (M : Int) (h0 : 0 ≤ M) (hM : M < 9007199254740992) (w : World) :
    Calls Try.prog 58 #[.float .f64 b, .int .i64 M] w fun e w' => e = .returned (.bool (part b M)) ∧ w = w' := by
  have hp : part b M = (geB b 0 && leB b (floatOfInt .f64 M) && eqB b (floatOfInt .f64 (toI b))) := rfl
  cases h1 : geB b 0 with
  | false =>
    rw [h1] at hp
    have h1' := h1
    unfold geB at h1'
    go_enter Try.func58, Try.ntmps58
    go_wp2
    go_ret
    exact ⟨ret_bool (by rw [hp]; rfl), rfl⟩
  | true =>
    cases h2 : leB b (floatOfInt .f64 M) with
    | false =>
      rw [h1, h2] at hp
      have h1' := h1
      unfold geB at h1'
      have h2' := h2
      unfold leB at h2'
      go_enter Try.func58, Try.ntmps58
      go_wp2
      go_ret
      exact ⟨ret_bool (by rw [hp]; rfl), rfl⟩
    | true =>
      obtain ⟨e1, e2, e3⟩ := range_toI h0 hM h1 h2
      have hcv := run_convert_float_int (P := Try.prog) w 35 3 .f64 .i64 b (toI b) rfl rfl e1
      rw [h1, h2] at hp
      have h1' := h1
      unfold geB at h1'
      have h2' := h2
      unfold leB at h2'
      clear e1 e2 e3 h1 h2
      go_enter Try.func58, Try.ntmps58
      go_wp2
      go_ret
      exact ⟨ret_bool (by rw [hp]; rfl), rfl⟩

/-- What a part tells: its number, or nought. -/
def pn (b : Nat) (M : Int) : Int := if part b M = true then toI b else 0

set_option maxRecDepth 100000 in
theorem whole_c (b : Nat) (M : Int) (h0 : 0 ≤ M) (hM : M < 9007199254740992) (w : World) :
    Calls Try.prog 53 #[.float .f64 b, .int .i64 M] w fun e w' => e = .returned (.tuple #[.int .i64 (pn b M), .bool (part b M)]) ∧ w = w' := by
  have hp : part b M = (geB b 0 && leB b (floatOfInt .f64 M) && eqB b (floatOfInt .f64 (toI b))) := rfl
  have hq : pn b M = if part b M = true then toI b else 0 := rfl
  cases h1 : geB b 0 with
  | false =>
    rw [h1] at hp
    rw [hp] at hq ⊢
    have h1' := h1
    unfold geB at h1'
    rw [hq]
    clear hp hq
    go_enter Try.func53, Try.ntmps53
    go_wp2
    go_ret2
    exact ⟨rfl, rfl⟩
  | true =>
    cases h2 : leB b (floatOfInt .f64 M) with
    | false =>
      rw [h1, h2] at hp
      rw [hp] at hq ⊢
      have h1' := h1
      unfold geB at h1'
      have h2' := h2
      unfold leB at h2'
      rw [hq]
      clear hp hq
      go_enter Try.func53, Try.ntmps53
      go_wp2
      go_ret2
      exact ⟨rfl, rfl⟩
    | true =>
      obtain ⟨e1, e2, e3⟩ := range_toI h0 hM h1 h2
      have hcv := run_convert_float_int (P := Try.prog) w 35 3 .f64 .i64 b (toI b) rfl rfl e1
      obtain ⟨v, q, hn, _⟩ := in_range h0 hM h1 h2
      have hcm := eqB_comm e2 (by omega) ⟨v, q, hn⟩
      rw [h1, h2, ← hcm] at hp
      have h1' := h1
      unfold geB at h1'
      have h2' := h2
      unfold leB at h2'
      clear e1 e2 e3 h1 h2 hn hcm
      cases h3 : eqB (floatOfInt .f64 (toI b)) b with
      | false =>
        rw [h3] at hp
        rw [hp] at hq ⊢
        rw [hq]
        clear hp hq
        have h3' := h3
        unfold eqB at h3'
        have h4 : (FloatKind.f64.format.order (floatOfInt .f64 (toI b)) b != some .eq) = true := by rw [bne, h3']; rfl
        go_enter Try.func53, Try.ntmps53
        go_wp2
        go_ret2
        exact ⟨rfl, rfl⟩
      | true =>
        rw [h3] at hp
        rw [hp] at hq ⊢
        rw [hq]
        clear hp hq
        have h3' := h3
        unfold eqB at h3'
        have h4 : (FloatKind.f64.format.order (floatOfInt .f64 (toI b)) b != some .eq) = false := by rw [bne, h3']; rfl
        go_enter Try.func53, Try.ntmps53
        go_wp2
        go_ret2
        exact ⟨rfl, rfl⟩

def within2 (r i : Nat) (M : Int) : Bool := part r M && part i M

set_option maxRecDepth 100000 in
theorem nwithin_c (r i : Nat) (M : Int) (h0 : 0 ≤ M) (hM : M < 9007199254740992) (w : World) :
    Calls Try.prog 54 #[.complex .f64 r i, .int .i64 M] w fun e w' => e = .returned (.bool (within2 r i M)) ∧ w = w' := by
  have hp : within2 r i M = (part r M && part i M) := rfl
  cases h1 : part r M with
  | false =>
    rw [h1] at hp
    go_enter Try.func54, Try.ntmps54
    go_wp2_with fail
    refine (part_c r M h0 hM _).mono ?_
    rintro e w' ⟨rfl, rfl⟩
    rw [h1]
    go_wp2
    go_ret
    exact ⟨ret_bool (by rw [hp]; rfl), rfl⟩
  | true =>
    rw [h1] at hp
    go_enter Try.func54, Try.ntmps54
    go_wp2_with fail
    refine (part_c r M h0 hM _).mono ?_
    rintro e w' ⟨rfl, rfl⟩
    rw [h1]
    go_wp2_with fail
    refine (part_c i M h0 hM _).mono ?_
    rintro e w' ⟨rfl, rfl⟩
    go_wp2
    go_ret
    exact ⟨ret_bool (by rw [hp]; rfl), rfl⟩

set_option maxRecDepth 100000 in
theorem room_c (r i : Nat) (w : World) :
    Calls Try.prog 26 #[.complex .f64 r i] w fun e w' => e = .returned (.bool (within2 r i 100000)) ∧ w = w' := by
  go_enter Try.func26, Try.ntmps26
  go_wp2_with fail
  refine (nwithin_c r i 100000 (by decide) (by decide) _).mono ?_
  rintro e w' ⟨rfl, rfl⟩
  go_wp2
  go_ret
  exact ⟨rfl, rfl⟩

def rightB (r i : Nat) : Bool := !(eqB r 0 && eqB i 0) && within2 r i 1000

set_option maxRecDepth 100000 in
theorem right_c (r i : Nat) (w : World) :
    Calls Try.prog 27 #[.complex .f64 r i] w fun e w' => e = .returned (.bool (rightB r i)) ∧ w = w' := by
  have hp : rightB r i = (!(eqB r 0 && eqB i 0) && within2 r i 1000) := rfl
  cases h1 : (eqB r 0 && eqB i 0) with
  | true =>
    rw [h1] at hp
    have h1' := h1
    unfold eqB at h1'
    go_enter Try.func27, Try.ntmps27
    go_wp2
    go_ret
    exact ⟨ret_bool (by rw [hp]; rfl), rfl⟩
  | false =>
    rw [h1] at hp
    have h1' := h1
    unfold eqB at h1'
    go_enter Try.func27, Try.ntmps27
    go_wp2_with fail
    refine (nwithin_c r i 1000 (by decide) (by decide) _).mono ?_
    rintro e w' ⟨rfl, rfl⟩
    go_wp2
    go_ret
    exact ⟨ret_bool (by rw [hp]; rfl), rfl⟩

set_option maxRecDepth 100000 in
theorem nparts_c (r i : Nat) (w : World) :
    Calls Try.prog 25 #[.complex .f64 r i] w fun e w' => e = .returned (.tuple #[.int .i64 (if within2 r i 100000 = true then toI r else 0), .int .i64 (if within2 r i 100000 = true then toI i else 0)]) ∧ w = w' := by
  have hp : within2 r i 100000 = (part r 100000 && part i 100000) := rfl
  cases h1 : within2 r i 100000 with
  | false =>
    go_enter Try.func25, Try.ntmps25
    go_wp2_with fail
    refine (room_c r i _).mono ?_
    rintro e w' ⟨rfl, rfl⟩
    rw [h1]
    go_wp2
    go_ret2
    exact ⟨rfl, rfl⟩
  | true =>
    have h2 := h1
    rw [hp, Bool.and_eq_true] at h2
    have g : ∀ b, part b 100000 = true → floatToIntVal .f64 b .i64 = some (toI b) := by
      intro b hb
      unfold part at hb
      simp only [Bool.and_eq_true] at hb
      exact (range_toI (by decide) (by decide) hb.1.1 hb.1.2).1
    have c1 := run_convert_float_int (P := Try.prog) w 35 3 .f64 .i64 r (toI r) rfl rfl (g r h2.1)
    have c2 := run_convert_float_int (P := Try.prog) w 35 3 .f64 .i64 i (toI i) rfl rfl (g i h2.2)
    clear g h2
    go_enter Try.func25, Try.ntmps25
    go_wp2_with fail
    refine (room_c r i _).mono ?_
    rintro e w' ⟨rfl, rfl⟩
    rw [h1]
    go_wp2
    go_ret2
    exact ⟨rfl, rfl⟩

set_option maxRecDepth 100000 in
theorem parts_c (r i : Nat) (w : World) :
    Calls Try.prog 24 #[.complex .f64 r i] w fun e w' => e = .returned (.tuple #[.int .i64 (if within2 r i 100000 = true then toI r else 0), .int .i64 (if within2 r i 100000 = true then toI i else 0), .bool (within2 r i 100000)]) ∧ w = w' := by
  have hp : within2 r i 100000 = (part r 100000 && part i 100000) := rfl
  have hr : pn r 100000 = if part r 100000 = true then toI r else 0 := rfl
  have hi : pn i 100000 = if part i 100000 = true then toI i else 0 := rfl
  cases h1 : part r 100000 with
  | false =>
    rw [h1] at hp
    rw [hp]
    clear hr hi
    go_enter Try.func24, Try.ntmps24
    go_wp2_with fail
    refine (whole_c r 100000 (by decide) (by decide) _).mono ?_
    rintro e w' ⟨rfl, rfl⟩
    rw [h1]
    go_wp2_with fail
    refine (whole_c i 100000 (by decide) (by decide) _).mono ?_
    rintro e w' ⟨rfl, rfl⟩
    go_wp2
    go_ret3
    exact ⟨rfl, rfl⟩
  | true =>
    rw [h1] at hp hr
    cases h2 : part i 100000 with
    | false =>
      rw [h2] at hp
      rw [hp]
      go_enter Try.func24, Try.ntmps24
      go_wp2_with fail
      refine (whole_c r 100000 (by decide) (by decide) _).mono ?_
      rintro e w' ⟨rfl, rfl⟩
      rw [h1]
      go_wp2_with fail
      refine (whole_c i 100000 (by decide) (by decide) _).mono ?_
      rintro e w' ⟨rfl, rfl⟩
      rw [h2]
      go_wp2
      go_ret3
      exact ⟨rfl, rfl⟩
    | true =>
      rw [h2] at hp hi
      rw [hp]
      go_enter Try.func24, Try.ntmps24
      go_wp2_with fail
      refine (whole_c r 100000 (by decide) (by decide) _).mono ?_
      rintro e w' ⟨rfl, rfl⟩
      rw [h1, hr]
      go_wp2_with fail
      refine (whole_c i 100000 (by decide) (by decide) _).mono ?_
      rintro e w' ⟨rfl, rfl⟩
      rw [h2, hi]
      go_wp2
      go_ret3
      exact ⟨rfl, rfl⟩

/-- The reference's need is the program's. -/
theorem right_is (r i : Nat) : rightB r i = (within2 r i 100000 && decide (toI r ≤ 1000) && decide (toI i ≤ 1000) && decide (toI r + toI i > 0)) := by
  unfold rightB within2
  rw [part_need r, part_need i]
  cases h1 : part r 100000 with
  | false => simp
  | true =>
    cases h2 : part i 100000 with
    | false => simp
    | true =>
      rw [part_zero (by decide) (by decide) h1, part_zero (by decide) (by decide) h2]
      obtain ⟨a0, a1, _⟩ := part_toI (by decide) (by decide) h1
      obtain ⟨b0, b1, _⟩ := part_toI (by decide) (by decide) h2
      rw [Bool.eq_iff_iff]
      simp
      omega

set_option maxRecDepth 100000 in
theorem need_c (r i : Nat) (w : World) :
    Calls Try.prog 28 #[.complex .f64 r i] w fun e w' => e = .returned (.bool (rightB r i)) ∧ w = w' := by
  rw [right_is]
  cases h1 : within2 r i 100000 with
  | false =>
    go_enter Try.func28, Try.ntmps28
    go_wp2_with fail
    refine (parts_c r i _).mono ?_
    rintro e w' ⟨rfl, rfl⟩
    rw [h1]
    go_wp2
    go_ret
    exact ⟨rfl, rfl⟩
  | true =>
    have h2 := h1
    unfold within2 at h2
    rw [Bool.and_eq_true] at h2
    obtain ⟨a0, a1, _⟩ := part_toI (by decide) (by decide) h2.1
    obtain ⟨b0, b1, _⟩ := part_toI (by decide) (by decide) h2.2
    clear h2
    generalize hx : toI r = x at *
    generalize hy : toI i = y at *
    have c0 : IntKind.i64.wrap (x + y) = x + y := by simp [IntKind.wrap, IntKind.bits, IntKind.signed]; omega
    by_cases c1 : x ≤ 1000
    · by_cases c2 : y ≤ 1000
      · go_enter Try.func28, Try.ntmps28
        go_wp2_with fail
        refine (parts_c r i _).mono ?_
        rintro e w' ⟨rfl, rfl⟩
        rw [h1, hx, hy]
        go_wp2
        go_ret
        exact ⟨ret_bool (by simp [c1, c2]), rfl⟩
      · go_enter Try.func28, Try.ntmps28
        go_wp2_with fail
        refine (parts_c r i _).mono ?_
        rintro e w' ⟨rfl, rfl⟩
        rw [h1, hx, hy]
        go_wp2
        go_ret
        exact ⟨ret_bool (by simp [c1, c2]; intros; omega), rfl⟩
    · go_enter Try.func28, Try.ntmps28
      go_wp2_with fail
      refine (parts_c r i _).mono ?_
      rintro e w' ⟨rfl, rfl⟩
      rw [h1, hx, hy]
      go_wp2
      go_ret
      exact ⟨ret_bool (by simp [c1]; intros; omega), rfl⟩

/-- What two parts make. -/
def ofR (m n : Int) : Nat := if 0 ≤ m ∧ m ≤ 100000 ∧ 0 ≤ n ∧ n ≤ 100000 then floatOfInt .f64 m else 0
def ofI (m n : Int) : Nat := if 0 ≤ m ∧ m ≤ 100000 ∧ 0 ≤ n ∧ n ≤ 100000 then floatOfInt .f64 n else 0

set_option maxRecDepth 100000 in
theorem of_c (m n : Int) (w : World) :
    Calls Try.prog 29 #[.int .i64 m, .int .i64 n] w fun e w' => e = .returned (.complex .f64 (ofR m n) (ofI m n)) ∧ w = w' := by
  have hr : ofR m n = if 0 ≤ m ∧ m ≤ 100000 ∧ 0 ≤ n ∧ n ≤ 100000 then floatOfInt .f64 m else 0 := rfl
  have hi : ofI m n = if 0 ≤ m ∧ m ≤ 100000 ∧ 0 ≤ n ∧ n ≤ 100000 then floatOfInt .f64 n else 0 := rfl
  by_cases h1 : m < 0
  · rw [if_neg (by omega)] at hr hi
    rw [hr, hi]
    clear hr hi
    go_enter Try.func29, Try.ntmps29
    go_wp2
    go_ret
    exact ⟨rfl, rfl⟩
  · by_cases h2 : 100000 < m
    · rw [if_neg (by omega)] at hr hi
      rw [hr, hi]
      clear hr hi
      go_enter Try.func29, Try.ntmps29
      go_wp2
      go_ret
      exact ⟨rfl, rfl⟩
    · by_cases h3 : n < 0
      · rw [if_neg (by omega)] at hr hi
        rw [hr, hi]
        clear hr hi
        go_enter Try.func29, Try.ntmps29
        go_wp2
        go_ret
        exact ⟨rfl, rfl⟩
      · by_cases h4 : 100000 < n
        · rw [if_neg (by omega)] at hr hi
          rw [hr, hi]
          clear hr hi
          go_enter Try.func29, Try.ntmps29
          go_wp2
          go_ret
          exact ⟨rfl, rfl⟩
        · rw [if_pos (by omega)] at hr hi
          rw [hr, hi]
          clear hr hi
          go_enter Try.func29, Try.ntmps29
          go_wp2
          go_ret
          exact ⟨rfl, rfl⟩

def fitsB (r i s j : Nat) : Bool := leB r s && leB i j

set_option maxRecDepth 100000 in
theorem fits_c (r i s j : Nat) (w : World) :
    Calls Try.prog 30 #[.complex .f64 r i, .complex .f64 s j] w fun e w' => e = .returned (.bool (fitsB r i s j)) ∧ w = w' := by
  have hp : fitsB r i s j = (leB r s && leB i j) := rfl
  rw [hp]
  cases h1 : leB r s with
  | false =>
    have h1' := h1
    unfold leB at h1'
    go_enter Try.func30, Try.ntmps30
    go_wp2
    go_ret
    exact ⟨rfl, rfl⟩
  | true =>
    have h1' := h1
    unfold leB at h1'
    go_enter Try.func30, Try.ntmps30
    go_wp2
    go_ret
    exact ⟨rfl, rfl⟩

set_option maxRecDepth 100000 in
theorem rfits_c (r i s j : Nat) (w : World) :
    Calls Try.prog 31 #[.complex .f64 r i, .complex .f64 s j] w fun e w' => e = .returned (.bool (fitsB r i s j)) ∧ w = w' := by
  have hp : fitsB r i s j = (leB r s && leB i j) := rfl
  rw [hp]
  cases h1 : leB r s with
  | false =>
    have h1' := h1
    unfold leB at h1'
    go_enter Try.func31, Try.ntmps31
    go_wp2
    go_ret
    exact ⟨rfl, rfl⟩
  | true =>
    have h1' := h1
    unfold leB at h1'
    go_enter Try.func31, Try.ntmps31
    go_wp2
    go_ret
    exact ⟨rfl, rfl⟩

set_option maxRecDepth 100000 in
theorem wakes2_c (w : World) : Calls Try.prog 32 #[] w fun e w' => e = .returned (.bool true) ∧ w = w' := by
  have o1 : ofR 2 3 = 4611686018427387904 := by decide +kernel
  have o2 : ofI 2 3 = 4613937818241073152 := by decide +kernel
  have o3 : rightB 4611686018427387904 4613937818241073152 = true := by decide +kernel
  have o4 : (FloatKind.f64.format.order 4611686018427387904 4611686018427387904 == some .eq) = true := by decide +kernel
  have o5 : (FloatKind.f64.format.order 4613937818241073152 4613937818241073152 == some .eq) = true := by decide +kernel
  go_enter Try.func32, Try.ntmps32
  go_wp2_with fail
  refine (of_c 2 3 _).mono ?_
  rintro e w' ⟨rfl, rfl⟩
  rw [o1, o2]
  go_wp2_with fail
  refine (of_c 2 3 _).mono ?_
  rintro e w' ⟨rfl, rfl⟩
  rw [o1, o2]
  go_wp2_with fail
  refine (right_c _ _ _).mono ?_
  rintro e w' ⟨rfl, rfl⟩
  rw [o3]
  go_wp2
  go_ret
  exact ⟨rfl, rfl⟩
end Go.Proofs.Ytgilnhagddihcaa
