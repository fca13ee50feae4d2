/- Contracts of the functions of package backoff, and of Within. -/
import Derived.Test.YtgilnhagddihcaaProg
import Derived.WalkKit
import Derived.KernelRfl
import Derived.Lib.Hide
import Derived.WalkLawsBesides
import Derived.WalkSpells
namespace Go.Proofs.Ytgilnhagddihcaa
open Go.RowKit

theorem tmod_facts (v n : Int) (hn : 1 ≤ n) : (v.tmod n < 0 → v % n = v.tmod n + n) ∧ (0 ≤ v.tmod n → v % n = v.tmod n) ∧ 0 ≤ v % n ∧ v % n < n ∧ -n < v.tmod n ∧ v.tmod n < n := by
  have h1 := Int.emod_nonneg v (show n ≠ 0 by omega)
  have h2 := Int.emod_lt_of_pos v (show 0 < n by omega)
  have h3 := Int.tmod_lt_of_pos v (show 0 < n by omega)
  have h4 := Int.lt_tmod_of_pos v (show 0 < n by omega)
  have h5 := Int.tmod_eq_emod (a := v) (b := n)
  refine ⟨fun h => ?_, fun h => ?_, h1, h2, h4, h3⟩ <;> split at h5 <;> omega

theorem ret_int {k : IntKind} {a b : Int} (h : a = b) : Ending.returned (.int k a) = .returned (.int k b) := by rw [h]
theorem ret_bool {a b : Bool} (h : a = b) : Ending.returned (.bool a) = .returned (.bool b) := by rw [h]

theorem within_c (v n : Int) (hn : 1 ≤ n) (h1 : n ≤ 9223372036854775807) (w : World) :
    Calls Try.prog 15 #[.int .i64 v, .int .i64 n] w fun e w' => e = .returned (.int .i64 (v % n)) ∧ w = w' := by
  obtain ⟨t1, t2, t3, t4, t5, t6⟩ := tmod_facts v n hn
  have c0 : (n == 0) = false := by rw [beq_eq_false_iff_ne]; omega
  by_cases h : v.tmod n < 0
  · have e := t1 h
    have HE := Lib.hid e
    clear e t1 t2
    go_enter Try.func15, Try.ntmps15
    go_wp2
    go_ret
    exact ⟨ret_int (by rw [HE.out]), rfl⟩
  · have e := t2 (by omega)
    have HE := Lib.hid e
    clear e t1 t2
    go_enter Try.func15, Try.ntmps15
    go_wp2
    go_ret
    exact ⟨ret_int (by rw [HE.out]), rfl⟩


def tick (n l : Int) : Int := if (if n < l then l else n) < 1048576 then (if n < l then l else n) else 1048576
def jit (d x : Int) : Int := (if 0 < x then x else 0) % (1 + tick d 1 / 2)
def due (n d x : Int) : Int := tick n 0 + (if tick d 1 - jit d x < 1 then 1 else tick d 1 - jit d x)
def next (d m : Int) : Int := if 2 * tick d 1 < tick m 1 then 2 * tick d 1 else tick m 1

theorem tick_range (n l : Int) (h : l ≤ 1048576) : l ≤ tick n l ∧ tick n l ≤ 1048576 := by unfold tick; split <;> split at * <;> omega
theorem jit_range (d x : Int) : 0 ≤ jit d x ∧ jit d x < 1 + tick d 1 / 2 := by
  have := tick_range d 1 (by omega)
  unfold jit
  exact ⟨Int.emod_nonneg _ (by omega), Int.emod_lt_of_pos _ (by omega)⟩

theorem tick_c (n l : Int) (w : World) :
    Calls Try.prog 51 #[.int .i64 n, .int .i64 l] w fun e w' => e = .returned (.int .i64 (tick n l)) ∧ w = w' := by
  go_enter Try.func51, Try.ntmps51
  go_wp2
  all_goals
    go_ret
    exact ⟨ret_int (by unfold tick; split <;> split at * <;> omega), rfl⟩


theorem jit_c (d x : Int) (w : World) :
    Calls Try.prog 16 #[.int .i64 d, .int .i64 x] w fun e w' => e = .returned (.int .i64 (jit d x)) ∧ w = w' := by
  obtain ⟨r1, r2⟩ := tick_range d 1 (by omega)
  have c0 : (1 + tick d 1 / 2 == 0) = false := by rw [beq_eq_false_iff_ne]; omega
  go_enter Try.func16, Try.ntmps16
  go_wp2_with (go_at_call 51; refine (tick_c _ _ _).mono ?_; rintro e w' ⟨rfl, rfl⟩)
  all_goals
    go_ret
    exact ⟨ret_int (by unfold jit; split <;> first | rfl | omega), rfl⟩

theorem due_c (n d x : Int) (w : World) :
    Calls Try.prog 17 #[.int .i64 n, .int .i64 d, .int .i64 x] w fun e w' => e = .returned (.int .i64 (due n d x)) ∧ w = w' := by
  obtain ⟨r1, r2⟩ := tick_range d 1 (by omega)
  obtain ⟨r3, r4⟩ := tick_range n 0 (by omega)
  obtain ⟨r5, r6⟩ := jit_range d x
  go_enter Try.func17, Try.ntmps17
  go_wp2_with fail
  refine (tick_c _ _ _).mono ?_
  rintro e w' ⟨rfl, rfl⟩
  go_wp2_with fail
  refine (tick_c _ _ _).mono ?_
  rintro e w' ⟨rfl, rfl⟩
  go_wp2_with fail
  refine (jit_c _ _ _).mono ?_
  rintro e w' ⟨rfl, rfl⟩
  go_wp2
  all_goals
    go_ret
    exact ⟨ret_int (by unfold due; split <;> omega), rfl⟩

theorem next_c (d m : Int) (w : World) :
    Calls Try.prog 18 #[.int .i64 d, .int .i64 m] w fun e w' => e = .returned (.int .i64 (next d m)) ∧ w = w' := by
  obtain ⟨r1, r2⟩ := tick_range d 1 (by omega)
  obtain ⟨r3, r4⟩ := tick_range m 1 (by omega)
  go_enter Try.func18, Try.ntmps18
  go_wp2_with fail
  refine (tick_c _ _ _).mono ?_
  rintro e w' ⟨rfl, rfl⟩
  go_wp2_with fail
  refine (tick_c _ _ _).mono ?_
  rintro e w' ⟨rfl, rfl⟩
  go_wp2
  all_goals
    go_ret
    exact ⟨ret_int (by unfold next; split <;> omega), rfl⟩

theorem wakes10_c (w : World) :
    Calls Try.prog 19 #[] w fun e w' => e = .returned (.bool true) ∧ w = w' := by
  have h1 : due 10 4 1 = 13 := by decide
  have h2 : next 4 20 = 8 := by decide
  go_enter Try.func19, Try.ntmps19
  go_wp2_with fail
  refine (due_c _ _ _ _).mono ?_
  rintro e w' ⟨rfl, rfl⟩
  go_wp2_with fail
  refine (next_c _ _ _).mono ?_
  rintro e w' ⟨rfl, rfl⟩
  go_wp2
  go_ret
  exact ⟨rfl, rfl⟩


theorem within_x (v n : Int) (hn : 1 ≤ n) (h1 : n ≤ 9223372036854775807) (w : World) :
    Calls Try.prog 15 #[.int .i64 v, .int .i64 n] w fun e w' => ∃ r : Int, 0 ≤ r ∧ r < n ∧ e = .returned (.int .i64 r) ∧ w = w' :=
  (within_c v n hn h1 w).mono fun _ _ h => ⟨v % n, Int.emod_nonneg v (by omega), Int.emod_lt_of_pos v (by omega), h.1, h.2⟩

theorem jit_e (d x r : Int) (h : jit d x = r) (w : World) :
    Calls Try.prog 16 #[.int .i64 d, .int .i64 x] w fun e w' => e = .returned (.int .i64 r) ∧ w = w' := h ▸ jit_c d x w
theorem due_e (n d x r : Int) (h : due n d x = r) (w : World) :
    Calls Try.prog 17 #[.int .i64 n, .int .i64 d, .int .i64 x] w fun e w' => e = .returned (.int .i64 r) ∧ w = w' := h ▸ due_c n d x w
theorem next_e (d m r : Int) (h : next d m = r) (w : World) :
    Calls Try.prog 18 #[.int .i64 d, .int .i64 m] w fun e w' => e = .returned (.int .i64 r) ∧ w = w' := h ▸ next_c d m w
theorem tick_self (n l : Int) (h0 : l ≤ n) (h1 : n ≤ 1048576) : tick n l = n := by unfold tick; split <;> split at * <;> omega
theorem tick_low (n l : Int) (h0 : n ≤ l) (h1 : l ≤ 1048576) : tick n l = l := by unfold tick; split <;> split at * <;> omega
theorem tick_high (n l : Int) (h0 : 1048576 ≤ n) (h1 : l ≤ 1048576) : tick n l = 1048576 := by unfold tick; split <;> split at * <;> omega

set_option maxHeartbeats 1000000 in
theorem draws_c (a b c : Int) (w : World) :
    Calls Try.prog 3 #[.int .i64 a, .int .i64 b, .int .i64 c] w fun e w' => e = .returned (.bool true) ∧ w = w' := by
  go_enter Try.func3, Try.ntmps3
  go_wp2_with fail
  refine (within_x _ _ (by omega) (by omega) _).mono ?_
  rintro e w' ⟨D, hD0, hD1, rfl, rfl⟩
  go_wp2_with fail
  refine (within_x _ _ (by omega) (by omega) _).mono ?_
  rintro e w' ⟨X, hX0, hX1, rfl, rfl⟩
  go_wp2_with fail
  refine (within_x _ _ (by omega) (by omega) _).mono ?_
  rintro e w' ⟨N, hN0, hN1, rfl, rfl⟩
  have cm : ((1 + D) / 2 + 1 == 0) = false := by rw [beq_eq_false_iff_ne]; omega
  have tD : tick (1 + D) 1 = 1 + D := by unfold tick; split <;> split at * <;> omega
  have j1 : jit (1 + D) X = X % ((1 + D) / 2 + 1) := by
    unfold jit; rw [tD, Int.add_comm 1 ((1 + D) / 2)]
    split
    · rfl
    · have : X = 0 := by omega
      rw [this]
  have j2 : jit (1 + D) (X + ((1 + D) / 2 + 1)) = jit (1 + D) X := by
    rw [j1]; unfold jit; rw [tD, Int.add_comm 1 ((1 + D) / 2), if_pos (by omega), Int.add_emod_right]
  have j3 : jit (1 + D) (-1 - X) = 0 := by unfold jit; rw [if_neg (by omega)]; simp
  have j4 : jit 1 X = 0 := by
    unfold jit
    have : tick 1 1 = 1 := by decide
    rw [this]; simp
  have jr := jit_range (1 + D) X
  rw [tD] at jr
  have d1 : due N (1 + D) X = N + (if (1 + D) - jit (1 + D) X < 1 then 1 else (1 + D) - jit (1 + D) X) := by unfold due; rw [tD, tick_self N 0 (by omega) (by omega)]
  rw [j1] at d1 j2 jr
  have n1 : next 0 5 = 2 := by decide
  have n2 : next 1 5 = 2 := by decide
  have n3 : next (-X) 5 = 2 := by unfold next; rw [tick_low (-X) 1 (by omega) (by omega)]; decide
  have n4 : next (1 + D) 0 = 1 := by unfold next; rw [tD, tick_low 0 1 (by omega) (by omega)]; split <;> omega
  have n5 : next (1 + D) (-X - 1) = 1 := by unfold next; rw [tD, tick_low (-X - 1) 1 (by omega) (by omega)]; split <;> omega
  have n6 : next (1048576 + X) (1048576 + X) = 1048576 := by unfold next; rw [tick_high _ 1 (by omega) (by omega)]; decide
  have j0 : jit 3 0 = 0 := by decide
  have d2 : due (-1 - N) 3 0 = 3 := by unfold due; rw [tick_low (-1 - N) 0 (by omega) (by omega), j0]; decide
  have d3 : due (1048576 + N) 3 0 = 1048579 := by unfold due; rw [tick_high _ 0 (by omega) (by omega), j0]; decide
  generalize hJ : X % ((1 + D) / 2 + 1) = J at *
  rw [if_neg (by omega)] at d1
  have HJ := Lib.hid hJ
  have J1 := Lib.hid j1; have J2 := Lib.hid j2; have J3 := Lib.hid j3; have J4 := Lib.hid j4
  have D1 := Lib.hid d1; have D2 := Lib.hid d2; have D3 := Lib.hid d3
  have N1 := Lib.hid n1; have N2 := Lib.hid n2; have N3 := Lib.hid n3; have N4 := Lib.hid n4; have N5 := Lib.hid n5; have N6 := Lib.hid n6
  clear j1 j2 j3 j4 d1 d2 d3 n1 n2 n3 n4 n5 n6 tD j0 hJ
  have hJB : (J == X % ((1 + D) / 2 + 1)) = true := by rw [HJ.out]; simp
  go_wp2_with fail
  refine (jit_e _ _ J J1.out _).mono ?_
  rintro e w' ⟨rfl, rfl⟩
  go_wp2_with fail
  refine (jit_e _ _ J J2.out _).mono ?_
  rintro e w' ⟨rfl, rfl⟩
  go_wp2_with fail
  refine (jit_e _ _ 0 J3.out _).mono ?_
  rintro e w' ⟨rfl, rfl⟩
  go_wp2_with fail
  refine (jit_e _ _ 0 J4.out _).mono ?_
  rintro e w' ⟨rfl, rfl⟩
  go_wp2_with fail
  refine (due_e _ _ _ _ D1.out _).mono ?_
  rintro e w' ⟨rfl, rfl⟩
  go_wp2_with fail
  refine (next_e _ _ _ N1.out _).mono ?_
  rintro e w' ⟨rfl, rfl⟩
  go_wp2_with fail
  refine (next_e _ _ _ N2.out _).mono ?_
  rintro e w' ⟨rfl, rfl⟩
  go_wp2_with fail
  refine (next_e _ _ _ N3.out _).mono ?_
  rintro e w' ⟨rfl, rfl⟩
  go_wp2_with fail
  refine (next_e _ _ _ N4.out _).mono ?_
  rintro e w' ⟨rfl, rfl⟩
  go_wp2_with fail
  refine (next_e _ _ _ N5.out _).mono ?_
  rintro e w' ⟨rfl, rfl⟩
  go_wp2_with fail
  refine (next_e _ _ _ N6.out _).mono ?_
  rintro e w' ⟨rfl, rfl⟩
  go_wp2_with fail
  refine (due_e _ _ _ _ D2.out _).mono ?_
  rintro e w' ⟨rfl, rfl⟩
  go_wp2_with fail
  refine (due_e _ _ _ _ D3.out _).mono ?_
  rintro e w' ⟨rfl, rfl⟩
  go_wp2_with fail
  refine (wakes10_c _).mono ?_
  rintro e w' ⟨rfl, rfl⟩
  go_wp2
  go_ret
  exact ⟨rfl, rfl⟩

end Go.Proofs.Ytgilnhagddihcaa
