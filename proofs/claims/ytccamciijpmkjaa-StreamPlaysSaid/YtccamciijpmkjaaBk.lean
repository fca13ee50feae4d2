/- Contracts of Within, of packages backoff and life, and of the reference's. -/
import Derived.Test.YtccamciijpmkjaaProg
import Derived.Test.YtccamciijpmkjaaKp
namespace Go.Proofs.Ytccamciijpmkjaa
open Go.RowKit

theorem within_c (v n : Int) (hn : 1 ≤ n) (h1 : n ≤ 9223372036854775807) (w : World) :
    Calls Try.prog 13 #[.int .i64 v, .int .i64 n] w fun e w' => e = .returned (.int .i64 (v % n)) ∧ w = w' := by
  obtain ⟨t1, t2, t3, t4, t5, t6⟩ := tmod_facts v n hn
  have c0 : (n == 0) = false := by rw [beq_eq_false_iff_ne]; omega
  by_cases h : v.tmod n < 0
  · have e := t1 h
    have HE := Lib.hid e
    clear e t1 t2
    go_enter Try.func13, Try.ntmps13
    go_wp2
    go_ret
    exact ⟨ret_int (by rw [HE.out]), rfl⟩
  · have e := t2 (by omega)
    have HE := Lib.hid e
    clear e t1 t2
    go_enter Try.func13, Try.ntmps13
    go_wp2
    go_ret
    exact ⟨ret_int (by rw [HE.out]), rfl⟩


def tick (n l : Int) : Int := if (if n < l then l else n) < 1048576 then (if n < l then l else n) else 1048576
def jit (d x : Int) : Int := (if 0 < x then x else 0) % (1 + tick d 1 / 2)
def due (n d x : Int) : Int := tick n 0 + (if tick d 1 - jit d x < 1 then 1 else tick d 1 - jit d x)
def next (d m : Int) : Int := if 2 * tick d 1 < tick m 1 then 2 * tick d 1 else tick m 1

theorem tick_range (n l : Int) (h : l ≤ 1048576) : l ≤ tick n l ∧ tick n l ≤ 1048576 := by unfold tick; split <;> split at * <;> omega
theorem jit_range (d x : Int) : 0 ≤ jit d x ∧ jit d x < 1 + tick d 1 / 2 := by
  have := tick_range d 1 (by omega)
  unfold jit
  exact ⟨Int.emod_nonneg _ (by omega), Int.emod_lt_of_pos _ (by omega)⟩

theorem tick_c (n l : Int) (w : World) :
    Calls Try.prog 68 #[.int .i64 n, .int .i64 l] w fun e w' => e = .returned (.int .i64 (tick n l)) ∧ w = w' := by
  go_enter Try.func68, Try.ntmps68
  go_wp2
  all_goals
    go_ret
    exact ⟨ret_int (by unfold tick; split <;> split at * <;> omega), rfl⟩


theorem jit_c (d x : Int) (w : World) :
    Calls Try.prog 69 #[.int .i64 d, .int .i64 x] w fun e w' => e = .returned (.int .i64 (jit d x)) ∧ w = w' := by
  obtain ⟨r1, r2⟩ := tick_range d 1 (by omega)
  have c0 : (1 + tick d 1 / 2 == 0) = false := by rw [beq_eq_false_iff_ne]; omega
  go_enter Try.func69, Try.ntmps69
  go_wp2_with (go_at_call 68; refine (tick_c _ _ _).mono ?_; rintro e w' ⟨rfl, rfl⟩)
  all_goals
    go_ret
    exact ⟨ret_int (by unfold jit; split <;> first | rfl | omega), rfl⟩

theorem due_c (n d x : Int) (w : World) :
    Calls Try.prog 49 #[.int .i64 n, .int .i64 d, .int .i64 x] w fun e w' => e = .returned (.int .i64 (due n d x)) ∧ w = w' := by
  obtain ⟨r1, r2⟩ := tick_range d 1 (by omega)
  obtain ⟨r3, r4⟩ := tick_range n 0 (by omega)
  obtain ⟨r5, r6⟩ := jit_range d x
  go_enter Try.func49, Try.ntmps49
  go_wp2_with fail
  refine (tick_c _ _ _).mono ?_
  rintro e w' ⟨rfl, rfl⟩
  go_wp2_with fail
  refine (tick_c _ _ _).mono ?_
  rintro e w' ⟨rfl, rfl⟩
  go_wp2_with fail
  refine (jit_c _ _ _).mono ?_
  rintro e w' ⟨rfl, rfl⟩
  go_wp2
  all_goals
    go_ret
    exact ⟨ret_int (by unfold due; split <;> omega), rfl⟩

theorem next_c (d m : Int) (w : World) :
    Calls Try.prog 48 #[.int .i64 d, .int .i64 m] w fun e w' => e = .returned (.int .i64 (next d m)) ∧ w = w' := by
  obtain ⟨r1, r2⟩ := tick_range d 1 (by omega)
  obtain ⟨r3, r4⟩ := tick_range m 1 (by omega)
  go_enter Try.func48, Try.ntmps48
  go_wp2_with fail
  refine (tick_c _ _ _).mono ?_
  rintro e w' ⟨rfl, rfl⟩
  go_wp2_with fail
  refine (tick_c _ _ _).mono ?_
  rintro e w' ⟨rfl, rfl⟩
  go_wp2
  all_goals
    go_ret
    exact ⟨ret_int (by unfold next; split <;> omega), rfl⟩

theorem within_x (v n : Int) (hn : 1 ≤ n) (h1 : n ≤ 9223372036854775807) (w : World) :
    Calls Try.prog 13 #[.int .i64 v, .int .i64 n] w fun e w' => ∃ r : Int, 0 ≤ r ∧ r < n ∧ e = .returned (.int .i64 r) ∧ w = w' :=
  (within_c v n hn h1 w).mono fun _ _ h => ⟨v % n, Int.emod_nonneg v (by omega), Int.emod_lt_of_pos v (by omega), h.1, h.2⟩

theorem tick_self (n l : Int) (h0 : l ≤ n) (h1 : n ≤ 1048576) : tick n l = n := by unfold tick; split <;> split at * <;> omega
theorem tick_low (n l : Int) (h0 : n ≤ l) (h1 : l ≤ 1048576) : tick n l = l := by unfold tick; split <;> split at * <;> omega
theorem tick_high (n l : Int) (h0 : 1048576 ≤ n) (h1 : l ≤ 1048576) : tick n l = 1048576 := by unfold tick; split <;> split at * <;> omega

def ov (a : Int) : Bool := decide (3 ≤ a) && decide (a ≤ 7)
def my (a b : Int) : Bool := if a = 1 then (b == 2) || ov b else if a = 2 then ov b && (b != 7) else false

theorem over_c (a : Int) (w : World) : Calls Try.prog 50 #[.int .i64 a] w fun e w' => e = .returned (.bool (ov a)) ∧ w = w' := by
  by_cases h : 3 ≤ a
  · go_enter Try.func50, Try.ntmps50
    go_wp2
    all_goals
      go_ret
      exact ⟨ret_bool (by unfold ov; simp [h]), rfl⟩
  · have h' : a < 3 := by omega
    go_enter Try.func50, Try.ntmps50
    go_wp2
    go_ret
    exact ⟨ret_bool (by unfold ov; simp; omega), rfl⟩

theorem may_c (a b : Int) (w : World) : Calls Try.prog 47 #[.int .i64 a, .int .i64 b] w fun e w' => e = .returned (.bool (my a b)) ∧ w = w' := by
  by_cases h1 : a = 1
  · subst h1
    have e : my 1 b = ((b == 2) || ov b) := rfl
    by_cases h2 : (b == 2) = true
    · have e' : my 1 b = true := by rw [e, h2]; rfl
      have E := Lib.hid e'
      clear e e'
      go_enter Try.func47, Try.ntmps47
      go_wp2
      go_ret
      exact ⟨ret_bool E.out.symm, rfl⟩
    · have h3 : (b == 2) = false := by simpa using h2
      have e' : my 1 b = ov b := by rw [e, h3]; rfl
      have E := Lib.hid e'
      clear e e' h2
      go_enter Try.func47, Try.ntmps47
      go_wp2_with (go_at_call 50; refine (over_c _ _).mono ?_; rintro e w' ⟨rfl, rfl⟩)
      go_ret
      exact ⟨ret_bool E.out.symm, rfl⟩
  · have c1 : (a == 1) = false := by simpa using h1
    by_cases h2 : a = 2
    · subst h2
      have e : my 2 b = (ov b && (b != 7)) := rfl
      have E := Lib.hid e
      clear e
      by_cases h3 : ov b = true
      · go_enter Try.func47, Try.ntmps47
        go_wp2_with (go_at_call 50; refine (over_c _ _).mono ?_; rintro e w' ⟨rfl, rfl⟩)
        go_ret
        exact ⟨ret_bool (by rw [E.out, h3]; rfl), rfl⟩
      · have h4 : ov b = false := by simpa using h3
        clear h3
        go_enter Try.func47, Try.ntmps47
        go_wp2_with (go_at_call 50; refine (over_c _ _).mono ?_; rintro e w' ⟨rfl, rfl⟩)
        go_ret
        exact ⟨ret_bool (by rw [E.out, h4]; rfl), rfl⟩
    · have c2 : (a == 2) = false := by simpa using h2
      have e : my a b = false := by unfold my; rw [if_neg h1, if_neg h2]
      have E := Lib.hid e
      clear e
      go_enter Try.func47, Try.ntmps47
      go_wp2
      go_ret
      exact ⟨ret_bool E.out.symm, rfl⟩

theorem rtick_c (n l : Int) (w : World) :
    Calls Try.prog 71 #[.int .i64 n, .int .i64 l] w fun e w' => e = .returned (.int .i64 (tick n l)) ∧ w = w' := by
  go_enter Try.func71, Try.ntmps71
  go_wp2
  all_goals
    go_ret
    exact ⟨ret_int (by unfold tick; split <;> split at * <;> omega), rfl⟩


theorem rjit_c (d x : Int) (w : World) :
    Calls Try.prog 72 #[.int .i64 d, .int .i64 x] w fun e w' => e = .returned (.int .i64 (jit d x)) ∧ w = w' := by
  obtain ⟨r1, r2⟩ := tick_range d 1 (by omega)
  have c0 : (1 + tick d 1 / 2 == 0) = false := by rw [beq_eq_false_iff_ne]; omega
  go_enter Try.func72, Try.ntmps72
  go_wp2_with (go_at_call 71; refine (rtick_c _ _ _).mono ?_; rintro e w' ⟨rfl, rfl⟩)
  all_goals
    go_ret
    exact ⟨ret_int (by unfold jit; first | (rw [if_neg (by omega)]; done) | (rw [if_neg (by omega)]; simp; done) | (congr 1; split <;> omega)), rfl⟩

theorem rdue_c (n d x : Int) (w : World) :
    Calls Try.prog 55 #[.int .i64 n, .int .i64 d, .int .i64 x] w fun e w' => e = .returned (.int .i64 (due n d x)) ∧ w = w' := by
  obtain ⟨r1, r2⟩ := tick_range d 1 (by omega)
  obtain ⟨r3, r4⟩ := tick_range n 0 (by omega)
  obtain ⟨r5, r6⟩ := jit_range d x
  go_enter Try.func55, Try.ntmps55
  go_wp2_with fail
  refine (rtick_c _ _ _).mono ?_
  rintro e w' ⟨rfl, rfl⟩
  go_wp2_with fail
  refine (rtick_c _ _ _).mono ?_
  rintro e w' ⟨rfl, rfl⟩
  go_wp2_with fail
  refine (rjit_c _ _ _).mono ?_
  rintro e w' ⟨rfl, rfl⟩
  go_wp2
  all_goals
    go_ret
    exact ⟨ret_int (by unfold due; split <;> omega), rfl⟩

theorem rnext_c (d m : Int) (w : World) :
    Calls Try.prog 56 #[.int .i64 d, .int .i64 m] w fun e w' => e = .returned (.int .i64 (next d m)) ∧ w = w' := by
  obtain ⟨r1, r2⟩ := tick_range d 1 (by omega)
  obtain ⟨r3, r4⟩ := tick_range m 1 (by omega)
  go_enter Try.func56, Try.ntmps56
  go_wp2_with fail
  refine (rtick_c _ _ _).mono ?_
  rintro e w' ⟨rfl, rfl⟩
  go_wp2_with fail
  refine (rtick_c _ _ _).mono ?_
  rintro e w' ⟨rfl, rfl⟩
  go_wp2
  all_goals
    go_ret
    exact ⟨ret_int (by unfold next; split <;> omega), rfl⟩

theorem rover_c (a : Int) (w : World) : Calls Try.prog 70 #[.int .i64 a] w fun e w' => e = .returned (.bool (ov a)) ∧ w = w' := by
  by_cases h : 3 ≤ a
  · go_enter Try.func70, Try.ntmps70
    go_wp2
    all_goals
      go_ret
      exact ⟨ret_bool (by unfold ov; simp [h]), rfl⟩
  · have h' : a < 3 := by omega
    go_enter Try.func70, Try.ntmps70
    go_wp2
    go_ret
    exact ⟨ret_bool (by unfold ov; simp; omega), rfl⟩

theorem rmay_c (a b : Int) (w : World) : Calls Try.prog 52 #[.int .i64 a, .int .i64 b] w fun e w' => e = .returned (.bool (my a b)) ∧ w = w' := by
  by_cases h1 : a = 1
  · subst h1
    have e : my 1 b = ((b == 2) || ov b) := rfl
    by_cases h2 : (b == 2) = true
    · have e' : my 1 b = true := by rw [e, h2]; rfl
      have E := Lib.hid e'
      clear e e'
      go_enter Try.func52, Try.ntmps52
      go_wp2
      go_ret
      exact ⟨ret_bool E.out.symm, rfl⟩
    · have h3 : (b == 2) = false := by simpa using h2
      have e' : my 1 b = ov b := by rw [e, h3]; rfl
      have E := Lib.hid e'
      clear e e' h2
      go_enter Try.func52, Try.ntmps52
      go_wp2_with (go_at_call 70; refine (rover_c _ _).mono ?_; rintro e w' ⟨rfl, rfl⟩)
      go_ret
      exact ⟨ret_bool E.out.symm, rfl⟩
  · have c1 : (a == 1) = false := by simpa using h1
    by_cases h2 : a = 2
    · subst h2
      have e : my 2 b = (ov b && (b != 7)) := rfl
      have E := Lib.hid e
      clear e
      by_cases h3 : ov b = true
      · go_enter Try.func52, Try.ntmps52
        go_wp2_with (go_at_call 70; refine (rover_c _ _).mono ?_; rintro e w' ⟨rfl, rfl⟩)
        go_ret
        exact ⟨ret_bool (by rw [E.out, h3]; rfl), rfl⟩
      · have h4 : ov b = false := by simpa using h3
        clear h3
        go_enter Try.func52, Try.ntmps52
        go_wp2_with (go_at_call 70; refine (rover_c _ _).mono ?_; rintro e w' ⟨rfl, rfl⟩)
        go_ret
        exact ⟨ret_bool (by rw [E.out, h4]; rfl), rfl⟩
    · have c2 : (a == 2) = false := by simpa using h2
      have e : my a b = false := by unfold my; rw [if_neg h1, if_neg h2]
      have E := Lib.hid e
      clear e
      go_enter Try.func52, Try.ntmps52
      go_wp2
      go_ret
      exact ⟨ret_bool E.out.symm, rfl⟩


end Go.Proofs.Ytccamciijpmkjaa
