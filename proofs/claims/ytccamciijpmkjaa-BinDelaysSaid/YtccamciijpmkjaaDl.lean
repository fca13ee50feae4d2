/- bin.Delay, the reference's one, and the law BinDelays. -/
import Derived.Test.YtccamciijpmkjaaBk
import Derived.OpenShut
set_option linter.unusedVariables false
namespace Go.Proofs.Ytccamciijpmkjaa
open Go.RowKit Go.ChangeShapes Go.WideShapes

def dl (k u q : Int) : Int :=
  if k < 1 ∨ q < 1 then 0 else if 2 * u ≤ q then k else if 4 * u ≤ 3 * q then k / 2 else 0

theorem delay_c (k u q : Int) (hk9 : k < 9223372036854775808) (hu0 : 0 ≤ u) (hu : u ≤ 1099511627776) (hq : q ≤ 1099511627776) (w : World) :
    Calls Try.prog 32 #[.int .i64 k, .int .i64 u, .int .i64 q] w fun e w' => e = .returned (.int .i64 (dl k u q)) ∧ w = w' := by
  by_cases hk : k < 1
  · go_enter Try.func32, Try.ntmps32
    go_wp2
    go_ret
    exact ⟨ret_int (by unfold dl; simp [hk]), rfl⟩
  · by_cases hq1 : q < 1
    · go_enter Try.func32, Try.ntmps32
      go_wp2
      go_ret
      exact ⟨ret_int (by unfold dl; simp [hq1]), rfl⟩
    · go_enter Try.func32, Try.ntmps32
      go_wp2
      all_goals
        go_ret
        exact ⟨ret_int (by unfold dl; rw [if_neg (by omega)]; (try rw [Int.tdiv_eq_ediv_of_nonneg (by omega), wrap64_in _ (by omega)]); repeat (first | omega | split | rfl)), rfl⟩

theorem rdelay_c (k u q : Int) (hk9 : k < 9223372036854775808) (hu0 : 0 ≤ u) (hu : u ≤ 1099511627776) (hq : q ≤ 1099511627776) (w : World) :
    Calls Try.prog 33 #[.int .i64 k, .int .i64 u, .int .i64 q] w fun e w' => e = .returned (.int .i64 (dl k u q)) ∧ w = w' := by
  by_cases hk : k < 1
  · go_enter Try.func33, Try.ntmps33
    go_wp2
    go_ret
    exact ⟨ret_int (by unfold dl; simp [hk]), rfl⟩
  · by_cases hq1 : q < 1
    · go_enter Try.func33, Try.ntmps33
      go_wp2
      go_ret
      exact ⟨ret_int (by unfold dl; simp [hq1]), rfl⟩
    · go_enter Try.func33, Try.ntmps33
      go_wp2
      all_goals
        go_ret
        exact ⟨ret_int (by unfold dl; rw [if_neg (by omega)]; (try rw [Int.tdiv_eq_ediv_of_nonneg (by omega), wrap64_in _ (by omega)]); repeat (first | omega | split | rfl)), rfl⟩

theorem binNew_c (w : World) :
    Calls Try.prog 35 #[] w fun e w' => ∃ g, e = .returned (.pointer (some ⟨g, 0, none⟩)) ∧ g = w.heap.size ∧ Kp0 w w' := by
  go_enter Try.func35, Try.ntmps35
  go_wp2
  go_ret
  exact ⟨_, rfl, rfl, by repeat (first | exact Kp.refl _ _ | apply Kp.drewN | apply Kp.drew | apply Kp.alloc)⟩

theorem binWakes_c (w : World) :
    Calls Try.prog 34 #[] w fun e w' => e = .returned (.bool true) ∧ Kp0 w w' := by
  go_enter Try.func34, Try.ntmps34
  go_wp2_with fail
  refine (delay_c 8 60 100 (by omega) (by omega) (by omega) (by omega) _).mono ?_
  rintro e w' ⟨rfl, rfl⟩
  have e1 : dl 8 60 100 = 4 := rfl
  rw [e1]
  go_wp2_with fail
  refine (delay_c 8 50 100 (by omega) (by omega) (by omega) (by omega) _).mono ?_
  rintro e w' ⟨rfl, rfl⟩
  have e2 : dl 8 50 100 = 8 := rfl
  rw [e2]
  go_wp2_with fail
  refine (binNew_c _).mono ?_
  rintro e w' ⟨g, rfl, hg, hk⟩
  go_wp2_with fail
  go_ret
  exact ⟨rfl, hk⟩
end Go.Proofs.Ytccamciijpmkjaa
namespace Go.Proofs.Ytccamciijpmkjaa
open Go.RowKit Go.ChangeShapes Go.WideShapes

theorem dl_le (k u q : Int) : 0 ≤ dl k u q ∧ dl k u q ≤ (if k < 0 then 0 else k) := by
  unfold dl; repeat' (first | omega | split)
theorem dl_more (k u q : Int) (hu0 : 0 ≤ u) : dl k (u + 1) q ≤ dl k u q := by
  unfold dl; repeat' (first | omega | split)
theorem dl_zero (k q : Int) (hk : 1 ≤ k) (hq : 1 ≤ q) : dl k 0 q = k := by
  unfold dl; repeat' (first | omega | split)
theorem dl_full (k q : Int) (hk : 1 ≤ k) (hq : 1 ≤ q) : dl k q q = 0 := by
  unfold dl; repeat' (first | omega | split)

set_option maxHeartbeats 4000000 in
theorem binDelays_w (k u q how : Int) (w : World) (wk : (Lit.int .i64 k).wf = true) (_ : (Lit.int .i64 u).wf = true) (_ : (Lit.int .i64 q).wf = true) (_ : (Lit.int .i64 how).wf = true) :
    Calls Try.prog 8 #[.int .i64 k, .int .i64 u, .int .i64 q, .int .i64 how] w fun e w' => e = .returned (.bool true) ∧ Below w.heap.size w w' := by
  have hk9 : k < 9223372036854775808 := by have := (bounds_i64 wk).2; omega
  by_cases h : (how.tmod 5 == 4) = true
  · have hn : (how.tmod 5 != 4) = false := by rw [bne, h]; rfl
    go_enter Try.func8, Try.ntmps8
    go_wp2_with fail
    refine (within_x _ _ (by omega) (by omega) _).mono ?_
    rintro e w1 ⟨U, hu0, hu1, rfl, rfl⟩
    go_wp2_with fail
    refine (within_x _ _ (by omega) (by omega) _).mono ?_
    rintro e w1 ⟨Q, hq0, hq1, rfl, rfl⟩
    have f1 := (dl_le k U Q).1
    have f2 : (k < 0 ∧ dl k U Q ≤ 0) ∨ (0 ≤ k ∧ dl k U Q ≤ k) := by have := (dl_le k U Q).2; split at this <;> omega
    have f3 := dl_more k U Q hu0
    go_wp2_with fail
    refine (delay_c _ _ _ (by omega) (by omega) (by omega) (by omega) _).mono ?_
    rintro e w1 ⟨rfl, rfl⟩
    go_wp2_with fail
    refine (rdelay_c _ _ _ (by omega) (by omega) (by omega) (by omega) _).mono ?_
    rintro e w1 ⟨rfl, rfl⟩
    by_cases b : k < 1 ∨ Q < 1
    · go_wp2_with (first
        | (go_at_call 32; refine (delay_c _ _ _ (by omega) (by omega) (by omega) (by omega) _).mono ?_; rintro e w' ⟨rfl, rfl⟩)
        | (go_at_call 34; refine (binWakes_c _).mono ?_; rintro e w' ⟨rfl, kk⟩))
      all_goals
        go_ret
        exact ⟨rfl, kk.below0⟩
    · have f4 := dl_zero k Q (by omega) (by omega)
      have f5 := dl_full k Q (by omega) (by omega)
      go_wp2_with (first
        | (go_at_call 32; refine (delay_c _ _ _ (by omega) (by omega) (by omega) (by omega) _).mono ?_; rintro e w' ⟨rfl, rfl⟩)
        | (go_at_call 34; refine (binWakes_c _).mono ?_; rintro e w' ⟨rfl, kk⟩))
      all_goals
        go_ret
        exact ⟨rfl, kk.below0⟩
  · have h' : (how.tmod 5 == 4) = false := by simpa using h
    have hn : (how.tmod 5 != 4) = true := by rw [bne, h']; rfl
    go_enter Try.func8, Try.ntmps8
    go_wp2_with fail
    refine (within_x _ _ (by omega) (by omega) _).mono ?_
    rintro e w1 ⟨K0, hK0, hK1, rfl, rfl⟩
    go_wp2_with fail
    refine (within_x _ _ (by omega) (by omega) _).mono ?_
    rintro e w1 ⟨U, hu0, hu1, rfl, rfl⟩
    go_wp2_with fail
    refine (within_x _ _ (by omega) (by omega) _).mono ?_
    rintro e w1 ⟨Q0, hq0, hq1, rfl, rfl⟩
    obtain ⟨K, hK⟩ : ∃ K, K = K0 - 2 := ⟨_, rfl⟩
    obtain ⟨Q, hQ⟩ : ∃ Q, Q = Q0 - 1 := ⟨_, rfl⟩
    obtain rfl : K0 = K + 2 := by omega
    obtain rfl : Q0 = Q + 1 := by omega
    have eK : K + 2 - 2 = K := by omega
    have eQ : Q + 1 - 1 = Q := by omega
    clear hK hQ
    have f1 := (dl_le K U Q).1
    have f2 : (K < 0 ∧ dl K U Q ≤ 0) ∨ (0 ≤ K ∧ dl K U Q ≤ K) := by have := (dl_le K U Q).2; split at this <;> omega
    have f3 := dl_more K U Q hu0
    go_wp2_with fail
    refine (delay_c _ _ _ (by omega) (by omega) (by omega) (by omega) _).mono ?_
    rintro e w1 ⟨rfl, rfl⟩
    go_wp2_with fail
    refine (rdelay_c _ _ _ (by omega) (by omega) (by omega) (by omega) _).mono ?_
    rintro e w1 ⟨rfl, rfl⟩
    by_cases b : K < 1 ∨ Q < 1
    · go_wp2_with (first
        | (go_at_call 32; refine (delay_c _ _ _ (by omega) (by omega) (by omega) (by omega) _).mono ?_; rintro e w' ⟨rfl, rfl⟩)
        | (go_at_call 34; refine (binWakes_c _).mono ?_; rintro e w' ⟨rfl, kk⟩))
      all_goals
        go_ret
        exact ⟨rfl, kk.below0⟩
    · have f4 := dl_zero K Q (by omega) (by omega)
      have f5 := dl_full K Q (by omega) (by omega)
      go_wp2_with (first
        | (go_at_call 32; refine (delay_c _ _ _ (by omega) (by omega) (by omega) (by omega) _).mono ?_; rintro e w' ⟨rfl, rfl⟩)
        | (go_at_call 34; refine (binWakes_c _).mono ?_; rintro e w' ⟨rfl, kk⟩))
      all_goals
        go_ret
        exact ⟨rfl, kk.below0⟩
end Go.Proofs.Ytccamciijpmkjaa
