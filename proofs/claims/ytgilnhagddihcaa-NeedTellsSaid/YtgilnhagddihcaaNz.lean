/- NeedTells: its numbers, and the walk. -/
import Derived.Test.YtgilnhagddihcaaNd
import Derived.Deep.CutRange
set_option linter.unusedVariables false
set_option linter.unusedSimpArgs false
namespace Go.Proofs.Ytgilnhagddihcaa
open Go.RowKit

/-- Whatever floats come: an operation ends in a float. -/
theorem run_farith (op : BinOp) (hop : op = .add ∨ op = .mul ∨ op = .quo) (t : TypeId) (x y : Nat) (w : World) : ∃ r n, (binOp op t (.float .f64 x) (.float .f64 y)).run Try.prog w = .ok (.float .f64 r) (w.drewN n) := by
  cases h : floatBits op .f64 x y with
  | some r => exact ⟨r, 0, run_float_arith w op t .f64 x y r h⟩
  | none =>
    unfold floatBits at h
    rcases hop with rfl | rfl | rfl
    all_goals
      refine ⟨(Question.nanBits .f64 x y).cut (w.tape w.drawn (Question.nanBits .f64 x y)), 1, ?_⟩
      simp only at h
      simp [binOp, Op.floatArith, h]
      rfl

theorem run_fneg (x : Nat) (w : World) : ∃ r, (Op.unary .neg (.float .f64 x)).run Try.prog w = .ok (.float .f64 r) w := by
  exact ⟨Op.negFloat .f64 x, rfl⟩

set_option maxRecDepth 100000 in
set_option maxHeartbeats 2000000 in
theorem z_c (a b how : Int) (w : World) :
    Calls Try.prog 23 #[.int .i64 a, .int .i64 b, .int .i64 how] w fun e w' => ∃ r i n, e = .returned (.complex .f64 r i) ∧ w' = w.drewN n := by
  go_enter Try.func23, Try.ntmps23
  go_wp2_with fail
  refine (within_c a 1002 (by decide) (by decide) _).mono ?_
  rintro e w' ⟨rfl, rfl⟩
  go_wp2_with fail
  refine (within_c b 1002 (by decide) (by decide) _).mono ?_
  rintro e w' ⟨rfl, rfl⟩
  go_wp2_with fail
  refine (within_x how 12 (by decide) (by decide) _).mono ?_
  rintro e w' ⟨k, k0, k1, rfl, rfl⟩
  by_cases h0 : k = 0
  · subst h0
    obtain ⟨r, hr⟩ := run_fneg (floatOfInt .f64 (a % 1002)) w
    go_wp2
    go_ret
    exact ⟨_, _, 0, rfl, rfl⟩
  by_cases h1 : k = 1
  · subst h1
    obtain ⟨r1, n1, e1⟩ := run_farith .add (.inl rfl) 35 (floatOfInt .f64 (b % 1002)) 4602678819172646912 w
    go_wp2
    go_ret
    exact ⟨_, _, _, rfl, rfl⟩
  by_cases h2 : k = 2
  · subst h2
    go_wp2
    go_ret
    exact ⟨_, _, 0, rfl, rfl⟩
  by_cases h3 : k = 3
  · subst h3
    obtain ⟨r1, n1, e1⟩ := run_farith .quo (.inr (.inr rfl)) 35 (floatOfInt .f64 b) 4620693217682128896 w
    go_wp2
    go_ret
    exact ⟨_, _, _, rfl, rfl⟩
  by_cases h4 : k = 4
  · subst h4
    obtain ⟨r1, n1, e1⟩ := run_farith .mul (.inr (.inl rfl)) 35 0 (floatOfInt .f64 b) w
    obtain ⟨r2, n2, e2⟩ := run_farith .quo (.inr (.inr rfl)) 35 0 r1 (w.drewN n1)
    go_wp2
    go_ret
    exact ⟨_, _, _, rfl, rfl⟩
  by_cases h5 : k = 5
  · subst h5
    go_wp2
    go_ret
    exact ⟨_, _, 0, rfl, rfl⟩
  by_cases h6 : k = 6
  · subst h6
    go_wp2_with fail
    refine (within_c a 200000 (by decide) (by decide) _).mono ?_
    rintro e w' ⟨rfl, rfl⟩
    go_wp2
    go_ret
    exact ⟨_, _, 0, rfl, rfl⟩
  have t0 : (k == 0) = false := by rw [beq_eq_false_iff_ne]; exact h0
  have t1 : (k == 1) = false := by rw [beq_eq_false_iff_ne]; exact h1
  have t2 : (k == 2) = false := by rw [beq_eq_false_iff_ne]; exact h2
  have t3 : (k == 3) = false := by rw [beq_eq_false_iff_ne]; exact h3
  have t4 : (k == 4) = false := by rw [beq_eq_false_iff_ne]; exact h4
  have t5 : (k == 5) = false := by rw [beq_eq_false_iff_ne]; exact h5
  have t6 : (k == 6) = false := by rw [beq_eq_false_iff_ne]; exact h6
  go_wp2
  go_ret
  exact ⟨_, _, 0, rfl, rfl⟩

theorem of_self (m n : Int) : (FloatKind.f64.format.order (ofR m n) (ofR m n) == some .eq) = true ∧ (FloatKind.f64.format.order (ofI m n) (ofI m n) == some .eq) = true := by
  have h : ∀ k : Int, 0 ≤ k → k ≤ 100000 → (FloatKind.f64.format.order (floatOfInt .f64 k) (floatOfInt .f64 k) == some .eq) = true := by
    intro k h0 h1
    have := eq_of_order ((whole_fl k h0 (by omega)).order (whole_fl k h0 (by omega)))
    unfold eqB at this
    rw [this]
    simp
  have z : (FloatKind.f64.format.order 0 0 == some .eq) = true := by decide
  unfold ofR ofI
  by_cases hc : 0 ≤ m ∧ m ≤ 100000 ∧ 0 ≤ n ∧ n ≤ 100000
  · rw [if_pos hc, if_pos hc]
    exact ⟨h m hc.1 hc.2.1, h n hc.2.2.1 hc.2.2.2⟩
  · rw [if_neg hc, if_neg hc]
    exact ⟨z, z⟩

set_option maxRecDepth 100000 in
set_option maxHeartbeats 4000000 in
theorem needTells_c (a b how c d other m n : Int) (w : World) :
    Calls Try.prog 6 #[.int .i64 a, .int .i64 b, .int .i64 how, .int .i64 c, .int .i64 d, .int .i64 other, .int .i64 m, .int .i64 n] w fun e w' => e = .returned (.bool true) ∧ ∃ k, w' = w.drewN k := by
  go_enter Try.func6, Try.ntmps6
  go_wp2_with fail
  refine (z_c a b how _).mono ?_
  rintro e w1 ⟨r, i, n1, rfl, rfl⟩
  go_wp2_with fail
  refine (z_c c d other _).mono ?_
  rintro e w2 ⟨s, j, n2, rfl, rfl⟩
  go_wp2_with fail
  refine (parts_c r i _).mono ?_
  rintro e w3 ⟨rfl, rfl⟩
  generalize hP : (if within2 r i 100000 = true then toI r else 0) = P
  generalize hQ : (if within2 r i 100000 = true then toI i else 0) = Q
  go_wp2_with fail
  refine (nparts_c r i _).mono ?_
  rintro e w3 ⟨rfl, rfl⟩
  rw [hP, hQ]
  clear hP hQ
  have tP : (P != P) = false := by simp
  have tQ : (Q != Q) = false := by simp
  go_wp2_with fail
  refine (room_c r i _).mono ?_
  rintro e w3 ⟨rfl, rfl⟩
  generalize within2 r i 100000 = ok
  have tO : (ok != ok) = false := by simp
  go_wp2_with fail
  refine (right_c r i _).mono ?_
  rintro e w3 ⟨rfl, rfl⟩
  go_wp2_with fail
  refine (need_c r i _).mono ?_
  rintro e w3 ⟨rfl, rfl⟩
  generalize rightB r i = rt
  have tR : (rt != rt) = false := by simp
  go_upto_if 70 with fail
  go_cut [6, 7] from 68 to 76 (fun s6 s7 wx => (∃ m' n' : Int, s6 = .int .i64 m' ∧ s7 = .int .i64 n') ∧ ∃ k, wx = w.drewN k)
  case first =>
    by_cases h5 : Int.tmod how 5 = 4
    · have t5 : (Int.tmod how 5 != 4) = false := by simp [h5]
      go_wp2_with fail
      go_meet
      exact ⟨⟨m, n, rfl, rfl⟩, _, rfl⟩
    · have t5 : (Int.tmod how 5 != 4) = true := by simp [h5]
      go_wp2_with fail
      refine (within_x m 100003 (by decide) (by decide) _).mono ?_
      rintro e w4 ⟨m', m0, m1, rfl, rfl⟩
      go_wp2_with fail
      refine (within_x n 100003 (by decide) (by decide) _).mono ?_
      rintro e w4 ⟨n', n0, n1', rfl, rfl⟩
      go_wp2_with fail
      go_meet
      exact ⟨⟨_, _, rfl, rfl⟩, _, rfl⟩
  case rest =>
  obtain ⟨⟨m', n', rfl, rfl⟩, k, rfl⟩ := hcut
  clear tP tQ tO tR
  obtain ⟨o1, o2⟩ := of_self m' n'
  have hR : ofR m' n' = if 0 ≤ m' ∧ m' ≤ 100000 ∧ 0 ≤ n' ∧ n' ≤ 100000 then floatOfInt .f64 m' else 0 := rfl
  have hI : ofI m' n' = if 0 ≤ m' ∧ m' ≤ 100000 ∧ 0 ≤ n' ∧ n' ≤ 100000 then floatOfInt .f64 n' else 0 := rfl
  have hof := of_c m' n'
  generalize ofR m' n' = R at *
  generalize ofI m' n' = I at *
  go_upto_region 9 with fail
  go_cut [90] from 77 to 90 (fun s90 wx => s90 = .bool (decide (0 ≤ m' ∧ m' ≤ 100000 ∧ 0 ≤ n' ∧ n' ≤ 100000)) ∧ wx = w.drewN k)
  case first =>
    clear hR hI hof o1 o2
    by_cases h1 : 0 ≤ m'
    · by_cases h2 : m' ≤ 100000
      · by_cases h3 : 0 ≤ n'
        · by_cases h4 : n' ≤ 100000
          · go_wp2_with fail
            go_meet
            exact ⟨congrArg Value.bool (decide_eq_true ⟨h1, h2, h3, h4⟩).symm, rfl⟩
          · go_wp2_with fail
            go_meet
            exact ⟨congrArg Value.bool (decide_eq_false (by omega)).symm, rfl⟩
        · go_wp2_with fail
          go_meet
          exact ⟨congrArg Value.bool (decide_eq_false (by omega)).symm, rfl⟩
      · go_wp2_with fail
        go_meet
        exact ⟨congrArg Value.bool (decide_eq_false (by omega)).symm, rfl⟩
    · go_wp2_with fail
      go_meet
      exact ⟨congrArg Value.bool (decide_eq_false (by omega)).symm, rfl⟩
  case rest =>
  obtain ⟨rfl, rfl⟩ := hcut
  go_upto_if 90 with fail
  go_cut [24] from 90 to 95 (fun s24 wx => s24 = .complex .f64 R I ∧ wx = w.drewN k)
  case first =>
    by_cases hin : 0 ≤ m' ∧ m' ≤ 100000 ∧ 0 ≤ n' ∧ n' ≤ 100000
    · rw [if_pos hin] at hR hI
      rw [decide_eq_true hin]
      subst hR
      subst hI
      clear hof o1 o2
      go_wp2_with fail
      go_meet
      exact ⟨rfl, rfl⟩
    · rw [if_neg hin] at hR hI
      rw [decide_eq_false hin]
      subst hR
      subst hI
      clear hof o1 o2
      go_wp2_with fail
      go_meet
      exact ⟨rfl, rfl⟩
  case rest =>
  obtain ⟨rfl, rfl⟩ := hcut
  clear hR hI
  generalize decide (0 ≤ m' ∧ m' ≤ 100000 ∧ 0 ≤ n' ∧ n' ≤ 100000) = dd
  go_wp2_with fail
  refine (parts_c s j _).mono ?_
  rintro e w4 ⟨rfl, rfl⟩
  generalize within2 s j 100000 = is
  generalize (if is = true then toI s else 0) = P2
  generalize (if is = true then toI j else 0) = Q2
  go_wp2_with fail
  refine (hof _).mono ?_
  rintro e w4 ⟨rfl, rfl⟩
  clear hof
  have ho : ((FloatKind.f64.format.order R R == some .eq) && (FloatKind.f64.format.order I I == some .eq)) = true := by rw [o1, o2]; rfl
  cases ok with
  | false =>
    go_wp2_with fail
    refine (wakes2_c _).mono ?_
    rintro e w5 ⟨rfl, rfl⟩
    go_wp2
    go_ret
    exact ⟨rfl, _, rfl⟩
  | true =>
    cases is with
    | false =>
      go_wp2_with fail
      refine (wakes2_c _).mono ?_
      rintro e w5 ⟨rfl, rfl⟩
      go_wp2
      go_ret
      exact ⟨rfl, _, rfl⟩
    | true =>
      go_wp2_with fail
      refine (fits_c r i s j _).mono ?_
      rintro e w5 ⟨rfl, rfl⟩
      go_wp2_with fail
      refine (rfits_c r i s j _).mono ?_
      rintro e w5 ⟨rfl, rfl⟩
      generalize fitsB r i s j = ft
      have tF : (ft == ft) = true := by simp
      go_wp2_with fail
      refine (wakes2_c _).mono ?_
      rintro e w5 ⟨rfl, rfl⟩
      go_wp2
      go_ret
      exact ⟨rfl, _, rfl⟩

theorem needTells_w (a b how c d other m n : Int) (w : World) (h0 : (Lit.int .i64 a).wf = true) (h1 : (Lit.int .i64 b).wf = true) (h2 : (Lit.int .i64 how).wf = true) (h3 : (Lit.int .i64 c).wf = true) (h4 : (Lit.int .i64 d).wf = true) (h5 : (Lit.int .i64 other).wf = true) (h6 : (Lit.int .i64 m).wf = true) (h7 : (Lit.int .i64 n).wf = true) :
    Calls Try.prog 6 #[.int .i64 a, .int .i64 b, .int .i64 how, .int .i64 c, .int .i64 d, .int .i64 other, .int .i64 m, .int .i64 n] w fun e w' => e = .returned (.bool true) ∧ Below w.heap.size w w' :=
  (needTells_c a b how c d other m n w).mono fun e w' ⟨h, k, hk⟩ => ⟨h, by subst hk; exact ⟨rfl, rfl, rfl, Nat.le_refl _, fun _ _ => rfl⟩⟩
end Go.Proofs.Ytgilnhagddihcaa
