/- The walk of BackoffBounds. -/
import Derived.Test.YtgilnhagddihcaaBk
namespace Go.Proofs.Ytgilnhagddihcaa
open Go.RowKit

def BRel (first most : Int) (d : Int) (i : Nat) : Prop :=
  i ≤ 16 ∧ 1 ≤ d ∧ d ≤ 5000 ∧ (i = 0 → d = first) ∧ (d = most ∨ (2 : Int) ^ i ≤ d) 

theorem BRel.step {first most d : Int} {i : Nat} (h : BRel first most d i) (hm : 1 ≤ most ∧ most ≤ 5000) (hi : i < 16) :
    next d most = (if 2 * d < most then 2 * d else most) ∧ BRel first most (next d most) (i + 1) := by
  obtain ⟨h1, h2, h3, h4, h5⟩ := h
  have e : next d most = (if 2 * d < most then 2 * d else most) := by
    unfold next; rw [tick_self d 1 (by omega) (by omega), tick_self most 1 (by omega) (by omega)]
  refine ⟨e, by omega, ?_, ?_, by omega, ?_⟩
  · rw [e]; split <;> omega
  · rw [e]; split <;> omega
  · rw [e, Int.pow_succ]; split
    · right; omega
    · left; rfl

set_option maxHeartbeats 1000000 in
theorem bounds_c (a b c x : Int) (w : World) :
    Calls Try.prog 5 #[.int .i64 a, .int .i64 b, .int .i64 c, .int .i64 x] w fun e w' => e = .returned (.bool true) ∧ w = w' := by
  go_enter Try.func5, Try.ntmps5
  go_wp2_with fail
  refine (within_x _ _ (by omega) (by omega) _).mono ?_
  rintro e w' ⟨N, hN0, hN1, rfl, rfl⟩
  go_wp2_with fail
  refine (within_x _ _ (by omega) (by omega) _).mono ?_
  rintro e w' ⟨F, hF0, hF1, rfl, rfl⟩
  go_wp2_with fail
  refine (within_x _ _ (by omega) (by omega) _).mono ?_
  rintro e w' ⟨M, hM0, hM1, rfl, rfl⟩
  go_wp2_with fail
  go_loop [9, 10] (fun d i => ∃ (D : Int) (I : Nat), BRel (1 + F) (1 + M) D I ∧ d = .int .i64 D ∧ i = .int .i64 I) (fun _ i => (16 - intOf i).toNat)
  case atStart => exact ⟨_, 0, ⟨by omega, by omega, by omega, fun _ => rfl, .inr (by simp; omega)⟩, rfl, rfl⟩
  case round =>
    obtain ⟨D, I, hR, rfl, rfl⟩ := hrel
    have hR' := hR
    obtain ⟨r1, r2, r3, r4, r5⟩ := hR'
    have HR := Lib.hid hR
    have tD : tick D 1 = D := tick_self D 1 (by omega) (by omega)
    have jr := jit_range D x
    rw [tD] at jr
    have dd : due N D x = N + (D - jit D x) := by unfold due; rw [tD, tick_self N 0 (by omega) (by omega), if_neg (by omega)]
    generalize hJ : jit D x = J at *
    have DD := Lib.hid dd; have HJ := Lib.hid hJ
    have R5 := Lib.hid r5
    clear dd hJ tD hR r4 r5
    by_cases hlt : I < 16
    · obtain ⟨n1, n2⟩ := HR.out.step (by omega) hlt
      generalize hE : next D (1 + M) = E at *
      have N1 := Lib.hid n1; have N2 := Lib.hid n2; have HE := Lib.hid hE
      have e1 : E ≤ 1 + M ∧ 1 ≤ E := by rw [n1]; split <;> omega
      clear n1 n2 hE
      go_wp2_with fail
      refine (due_e _ _ _ _ DD.out _).mono ?_
      rintro e w' ⟨rfl, rfl⟩
      go_wp2_with fail
      refine (jit_e _ _ _ HJ.out _).mono ?_
      rintro e w' ⟨rfl, rfl⟩
      go_wp2_with fail
      refine (jit_e _ _ _ HJ.out _).mono ?_
      rintro e w' ⟨rfl, rfl⟩
      go_wp2_with fail
      refine (next_e _ _ _ HE.out _).mono ?_
      rintro e w' ⟨rfl, rfl⟩
      have hb : (E != if 1 + M < 2 * D then 1 + M else 2 * D) = false := by
        rw [bne_eq_false_iff_eq, N1.out]; split <;> split <;> omega
      clear N1
      go_wp2
      go_round
      case rel => exact ⟨_, I + 1, N2.out, rfl, by go_num⟩
      case measure => simp [intOf]; omega
    · obtain rfl : I = 16 := by omega
      have hD : D = 1 + M := by
        rcases R5.out with h | h
        · exact h
        · have : (2 : Int) ^ 16 = 65536 := by decide
          omega
      subst hD
      have d1 : due N 1 x = N + 1 := by
        unfold due
        have e1 : tick 1 1 = 1 := by decide
        have e2 := jit_range 1 x
        rw [e1] at e2
        rw [e1, tick_self N 0 (by omega) (by omega)]
        split <;> omega
      have n1 : next 1048576 1048576 = 1048576 := by decide
      have D1 := Lib.hid d1; have N1 := Lib.hid n1
      clear d1 n1
      go_wp2_with fail
      refine (due_e _ _ _ _ D1.out _).mono ?_
      rintro e w' ⟨rfl, rfl⟩
      go_wp2_with fail
      refine (next_e _ _ _ N1.out _).mono ?_
      rintro e w' ⟨rfl, rfl⟩
      go_wp2_with fail
      refine (wakes10_c _).mono ?_
      rintro e w' ⟨rfl, rfl⟩
      go_wp2
      go_ret
      exact ⟨rfl, rfl⟩


theorem bounds_w (a b c x : Int) (w : World) (_ : (Lit.int .i64 a).wf = true) (_ : (Lit.int .i64 b).wf = true) (_ : (Lit.int .i64 c).wf = true) (_ : (Lit.int .i64 x).wf = true) :
    Calls Try.prog 5 #[.int .i64 a, .int .i64 b, .int .i64 c, .int .i64 x] w fun e w' => e = .returned (.bool true) ∧ Below w.heap.size w w' :=
  (bounds_c a b c x w).mono fun _ _ h => ⟨h.1, h.2 ▸ Below.refl _ _⟩

theorem draws_w (a b c : Int) (w : World) (_ : (Lit.int .i64 a).wf = true) (_ : (Lit.int .i64 b).wf = true) (_ : (Lit.int .i64 c).wf = true) :
    Calls Try.prog 3 #[.int .i64 a, .int .i64 b, .int .i64 c] w fun e w' => e = .returned (.bool true) ∧ Below w.heap.size w w' :=
  (draws_c a b c w).mono fun _ _ h => ⟨h.1, h.2 ▸ Below.refl _ _⟩

end Go.Proofs.Ytgilnhagddihcaa
