/- Contracts of package life, and the walk of LifeEnds. -/
import Derived.Test.YtgilnhagddihcaaBk
import Derived.Test.YtgilnhagddihcaaPureLifeTells
namespace Go.Proofs.Ytgilnhagddihcaa
open Go.RowKit
open Go.Proofs.Ytgilnhagddihcaa.PLifeTells Go.Proofs.YtgilnhagddihcaaW.PrintWords

def ov (a : Int) : Bool := decide (3 ≤ a) && decide (a ≤ 7)
def my (a b : Int) : Bool := if a = 1 then (b == 2) || ov b else if a = 2 then ov b && (b != 7) else false

theorem over_c (a : Int) (w : World) : Calls Try.prog 37 #[.int .i64 a] w fun e w' => e = .returned (.bool (ov a)) ∧ w = w' := by
  by_cases h : 3 ≤ a
  · go_enter Try.func37, Try.ntmps37
    go_wp2
    all_goals
      go_ret
      exact ⟨ret_bool (by unfold ov; simp [h]), rfl⟩
  · have h' : a < 3 := by omega
    go_enter Try.func37, Try.ntmps37
    go_wp2
    go_ret
    exact ⟨ret_bool (by unfold ov; simp; omega), rfl⟩

theorem may_c (a b : Int) (w : World) : Calls Try.prog 39 #[.int .i64 a, .int .i64 b] w fun e w' => e = .returned (.bool (my a b)) ∧ w = w' := by
  by_cases h1 : a = 1
  · subst h1
    have e : my 1 b = ((b == 2) || ov b) := rfl
    by_cases h2 : (b == 2) = true
    · have e' : my 1 b = true := by rw [e, h2]; rfl
      have E := Lib.hid e'
      clear e e'
      go_enter Try.func39, Try.ntmps39
      go_wp2
      go_ret
      exact ⟨ret_bool E.out.symm, rfl⟩
    · have h3 : (b == 2) = false := by simpa using h2
      have e' : my 1 b = ov b := by rw [e, h3]; rfl
      have E := Lib.hid e'
      clear e e' h2
      go_enter Try.func39, Try.ntmps39
      go_wp2_with (go_at_call 37; refine (over_c _ _).mono ?_; rintro e w' ⟨rfl, rfl⟩)
      go_ret
      exact ⟨ret_bool E.out.symm, rfl⟩
  · have c1 : (a == 1) = false := by simpa using h1
    by_cases h2 : a = 2
    · subst h2
      have e : my 2 b = (ov b && (b != 7)) := rfl
      have E := Lib.hid e
      clear e
      by_cases h3 : ov b = true
      · go_enter Try.func39, Try.ntmps39
        go_wp2_with (go_at_call 37; refine (over_c _ _).mono ?_; rintro e w' ⟨rfl, rfl⟩)
        go_ret
        exact ⟨ret_bool (by rw [E.out, h3]; rfl), rfl⟩
      · have h4 : ov b = false := by simpa using h3
        clear h3
        go_enter Try.func39, Try.ntmps39
        go_wp2_with (go_at_call 37; refine (over_c _ _).mono ?_; rintro e w' ⟨rfl, rfl⟩)
        go_ret
        exact ⟨ret_bool (by rw [E.out, h4]; rfl), rfl⟩
    · have c2 : (a == 2) = false := by simpa using h2
      have e : my a b = false := by unfold my; rw [if_neg h1, if_neg h2]
      have E := Lib.hid e
      clear e
      go_enter Try.func39, Try.ntmps39
      go_wp2
      go_ret
      exact ⟨ret_bool E.out.symm, rfl⟩

theorem name_c (a : Int) (h0 : -9223372036854775808 ≤ a) (h1 : a ≤ 9223372036854775807) (w : World) : Calls Try.prog 40 #[.int .i64 a] w fun e w' => ∃ s : ByteArray, e = .returned (.string s) ∧ s.toList.isEmpty = (decide (a < 1) || decide (7 < a)) ∧ Below w.heap.size w w' := by
  obtain ⟨r, hr, _⟩ := Pure.name_same a h0 h1
  refine (life_Name.calls a r w hr).mono fun _ _ h => ⟨r, h.1, ?_, h.2⟩
  unfold life_Name.f at hr
  by_cases h2 : a < 1
  · rw [if_pos h2] at hr; obtain rfl := Option.some.inj hr; simp [h2, ByteArray.toList_eq]
  · rw [if_neg h2] at hr
    by_cases h3 : a > 7
    · rw [if_pos h3] at hr; obtain rfl := Option.some.inj hr
      have : 7 < a := h3
      simp [this, ByteArray.toList_eq]
    · rw [if_neg h3] at hr
      have : a = 1 ∨ a = 2 ∨ a = 3 ∨ a = 4 ∨ a = 5 ∨ a = 6 ∨ a = 7 := by omega
      rcases this with rfl | rfl | rfl | rfl | rfl | rfl | rfl <;> simp [wrap64, rdOf] at hr <;> subst hr <;> simp [ByteArray.toList_eq]

theorem wakes9_c (w : World) : Calls Try.prog 35 #[] w fun e w' => e = .returned (.bool true) ∧ Below w.heap.size w w' :=
  hostlerlaw09_wakes.calls 1 true w (Pure.wakes_true 0)

end Go.Proofs.Ytgilnhagddihcaa
