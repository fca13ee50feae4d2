/- The walk of StreamAgain. -/
import Derived.Test.YtccamciijpmkjaaSo
import Derived.Test.YtccamciijpmkjaaOwn
set_option linter.unusedVariables false
set_option linter.unusedSimpArgs false
namespace Go.Proofs.Ytccamciijpmkjaa
open Go.RowKit

theorem due_facts (L D x : Int) (h0 : 0 ≤ L) (h1 : L ≤ 2000) (h2 : 1 ≤ D) (h3 : D ≤ 100) : L + 1 ≤ due L D x ∧ due L D x ≤ L + D ∧ D ≤ 2 * (due L D x - L) := by
  have a := jit_range D x
  have b := tick_self D 1 (by omega) (by omega)
  have c := tick_self L 0 (by omega) (by omega)
  rw [b] at a
  unfold due
  rw [b, c]
  split <;> omega

structure AgRel (w : World) (g : Nat) (N M : Int) (d l y t i : Value) (wr : World) (L D T X U : Int) (q : Option Nat) : Prop where
  ed : ∃ x, d = .int .i64 x
  el : l = .int .i64 L
  ey : y = .int .i64 D
  et : t = .int .i64 T
  ei : i = .int .i64 X
  b0 : N ≤ L ∧ L < X ∧ X ≤ N + 200 ∧ X ≤ U
  b1 : L + 1 ≤ U ∧ U ≤ L + D ∧ D ≤ 2 * (U - L)
  b2 : 1 ≤ D ∧ D ≤ M
  b3 : 0 ≤ T ∧ T ≤ L - N
  b4 : L - N ≤ T * M
  st : StAt wr g q ⟨[2], 0, true, D, U⟩
  hi : Hi w.heap.size g q
  k : Kp0 w wr

set_option maxRecDepth 100000 in
set_option maxHeartbeats 2000000 in
theorem again_law (v1 v2 v3 : Int) (a : Option Addr) (len cap : Nat) (zs : List Int) (w : World) (hz : IsInts .i64 w a len cap zs) (hy : len * 8 ≤ 140737488351232) :
    Calls Try.prog 3 #[.int .i64 v1, .int .i64 v2, .int .i64 v3, .slice a len cap] w fun e' w' => e' = .returned (.bool true) ∧ Kp0 w w' := by
  have hrd : ∀ j : Nat, j < len → ∃ b off z, a = some ⟨b, off, none⟩ ∧ b < w.heap.size ∧ w.cell? ⟨b, off + j, none⟩ = some (.int .i64 z) := by
    intro j hj
    rcases hz with ⟨_, h, _⟩ | ⟨⟨b, off, p⟩, e, h1, h2, h3, h4, _⟩
    · omega
    · have t0 := h4 0 (by omega)
      have t1 := h4 j (by omega)
      have hp : p = none := by
        cases p with
        | none => rfl
        | some p =>
          exfalso
          rw [Addr.add, if_pos rfl] at t0
          unfold World.cell? at t0
          split at t0 <;> simp at t0
      subst hp
      have t2 : w.cell? ⟨b, off + j, none⟩ = some (.int .i64 (zs.getD j 0)) := by
        rw [← t1]
        unfold Addr.add
        by_cases hj0 : j = 0
        · subst hj0; rfl
        · rw [if_neg hj0]
      exact ⟨b, off, _, e, World.block_lt_of_cell? w ⟨b, _, none⟩ t2, t2⟩
  have hcap : len ≤ cap := by rcases hz with ⟨_, h, h', _⟩ | ⟨_, _, h1, _⟩ <;> omega
  go_enter Try.func3, Try.ntmps3
  go_wp2_with fail
  refine (new_c _).mono ?_
  rintro e' w1 ⟨g, rfl, hg, h1, k1⟩
  go_wp2_with fail
  refine (within_x _ _ (by omega) (by omega) _).mono ?_
  rintro e' w' ⟨F, hF0, hF1, rfl, rfl⟩
  go_wp2_with fail
  refine (within_x _ _ (by omega) (by omega) _).mono ?_
  rintro e' w' ⟨M0, hM0, hM1, rfl, rfl⟩
  go_wp2_with fail
  refine (within_x _ _ (by omega) (by omega) _).mono ?_
  rintro e' w' ⟨N, hN0, hN1, rfl, rfl⟩
  go_wp2_with fail
  refine (add_x h1 (by decide) (show St.add ⟨[], 0, false, 0, 0⟩ 2 = ((1, 2, 0), ⟨[2], 0, false, 0, 0⟩) from rfl)).mono ?_
  rintro e w3 ⟨q, rfl, h3, k3, b3⟩
  have hi : Hi w.heap.size g q := (Hi.of hg (.inl rfl)).add k1.size b3
  have K3 : Kp0 w w3 := k1.step k3 (Hi.of hg (.inl rfl))
  clear k1 k3 h1 b3
  go_wp2_with fail
  refine (again_x (h3.alloc _) (show St.again ⟨[2], 0, false, 0, 0⟩ _ _ _ = ((0, 0, false), ⟨[2], 0, false, 0, 0⟩) from rfl)).mono ?_
  rintro e w4 ⟨rfl, h4, k4⟩
  have K4 : Kp0 w w4 := (K3.alloc _).step k4 hi
  clear k4 K3 h3
  obtain ⟨M, hM⟩ : ∃ M : Int, 5 + M0 = M := ⟨_, rfl⟩
  obtain ⟨F', hF'⟩ : ∃ F' : Int, 1 + F = F' := ⟨_, rfl⟩
  have loop : ∀ (K : Nat), True := fun _ => trivial
  by_cases hlen : 0 < len
  · obtain ⟨b, off, z, rfl, hb, hc⟩ := hrd 0 hlen
    have hc' := (K4.below0.cell (p := ⟨b, _, none⟩) hb).trans hc
    have hc2 : w4.cell? ⟨b, off, none⟩ = some (.int .i64 z) := hc'
    have hb4 : b < w4.heap.size := Nat.lt_of_lt_of_le hb K4.size
    clear hc hc'
    have hlen' : (0 : Int) < len := by omega
    go_wp2_with fail
    refine (say_x (h4.alloc _) (show St.say ⟨[2], 0, false, 0, 0⟩ N F' z = ((1, 2, true), ⟨[2], 0, true, F', due N F' z⟩) from rfl)).mono ?_
    rintro e w5 ⟨rfl, h5, k5⟩
    have K5 : Kp0 w w5 := (K4.alloc _).step k5 hi
    have df := due_facts N F' z (by omega) (by omega) (by omega) (by omega)
    have hR : AgRel w g N M (.int .i64 z) (.int .i64 N) (.int .i64 F') (.int .i64 0) (.int .i64 (N + 1)) (w5.alloc (.cells #[.int .i64 1, .int .i64 2] 27)) N F' 0 (N + 1) (due N F' z) q :=
      ⟨⟨_, rfl⟩, rfl, rfl, rfl, rfl, by omega, by omega, by omega, by omega, by omega, h5.alloc _, hi, K5.alloc _⟩
    clear k5 K4 h4 h5 K5
    go_wp2_with fail
    go_loopw [14, 17, 18, 19, 20] (fun d l y t i wr => ∃ L D T X U q, AgRel w g N M d l y t i wr L D T X U q) (fun _ _ _ _ i _ => (N + 200 - intOf i).toNat)
    case atStart => exact ⟨_, _, _, _, _, _, hR⟩
    case round =>
      clear hR
      obtain ⟨L, D, T, X, U, q, ⟨z9, rfl⟩, rfl, rfl, rfl, rfl, b0, b1, b2, b3, b4, hs, hi, K⟩ := hrel
      by_cases hx : X < N + 200
      · by_cases hd : T + 1 < len
        · obtain ⟨n, rfl⟩ : ∃ n : Nat, T = n := ⟨T.toNat, by omega⟩
          obtain ⟨b', off', z', e9, hb', hc'⟩ := hrd (n + 1) (by omega)
          cases e9
          have hcr := (K.below0.cell (p := ⟨b, _, none⟩) hb').trans hc'
          clear hc'
          by_cases hu : X = U
          · subst hu
            by_cases hm : 2 * D < M
            · have hn : next D M = 2 * D := by unfold next; rw [tick_self D 1 (by omega) (by omega), tick_self M 1 (by omega) (by omega), if_pos hm]
              have df := due_facts X (2 * D) z' (by omega) (by omega) (by omega) (by omega)
              have hb4 : X - N ≤ ((n : Int) + 1) * M := by rw [Int.add_mul]; omega
              go_wp2_with fail
              refine (again_x hs (show St.again ⟨[2], 0, true, D, X⟩ X M z' = ((1, 2, true), ⟨[2], 0, true, 2 * D, due X (2 * D) z'⟩) from by
                rw [← hn]
                show (if X < X then ((0, 0, false), (⟨[2], 0, true, D, X⟩ : St)) else _) = _
                rw [if_neg (by omega)]; rfl)).mono ?_
              rintro e w7 ⟨rfl, h7, k7⟩
              have K7 := K.step k7 hi
              clear k7 hs K
              go_wp2
              all_goals
                go_roundw
                case rel => exact ⟨X, 2 * D, (n : Int) + 1, X + 1, _, q, ⟨_, rfl⟩, by go_num, by go_num, by go_num, by go_num, by omega, df, by omega, by omega, hb4, h7.alloc _, hi, K7.alloc _⟩
                case measure => simp [intOf]; omega
            · have hn : next D M = M := by unfold next; rw [tick_self D 1 (by omega) (by omega), tick_self M 1 (by omega) (by omega), if_neg hm]
              have hmin : (if M < 2 * D then M else 2 * D) = M := by split <;> omega
              have df := due_facts X M z' (by omega) (by omega) (by omega) (by omega)
              have hb4 : X - N ≤ ((n : Int) + 1) * M := by rw [Int.add_mul]; omega
              go_wp2_with fail
              refine (again_x hs (show St.again ⟨[2], 0, true, D, X⟩ X M z' = ((1, 2, true), ⟨[2], 0, true, M, due X M z'⟩) from by
                show (if X < X then ((0, 0, false), (⟨[2], 0, true, D, X⟩ : St)) else ((1, 2, true), (⟨[2], 0, true, next D M, due X (next D M) z'⟩ : St))) = _
                rw [if_neg (by omega), hn])).mono ?_
              rintro e w7 ⟨rfl, h7, k7⟩
              have K7 := K.step k7 hi
              clear k7 hs K
              go_wp2
              all_goals
                go_roundw
                case rel => exact ⟨X, M, (n : Int) + 1, X + 1, _, q, ⟨_, rfl⟩, by go_num, by go_num, by go_num, by go_num, by omega, df, by omega, by omega, hb4, h7.alloc _, hi, K7.alloc _⟩
                case measure => simp [intOf]; omega
          · go_wp2_with fail
            refine (again_x hs (show St.again ⟨[2], 0, true, D, U⟩ X M z' = ((0, 0, false), ⟨[2], 0, true, D, U⟩) from by
              show (if X < U then ((0, 0, false), (⟨[2], 0, true, D, U⟩ : St)) else _) = _
              rw [if_pos (by omega)])).mono ?_
            rintro e w7 ⟨rfl, h7, k7⟩
            have K7 := K.step k7 hi
            clear k7 hs K
            go_wp2
            all_goals
              go_roundw
              case rel => exact ⟨L, D, n, X + 1, U, q, ⟨_, rfl⟩, by go_num, by go_num, by go_num, by go_num, by omega, b1, b2, by omega, b4, h7.alloc _, hi, K7.alloc _⟩
              case measure => simp [intOf]; omega
        · by_cases hu : X = U
          · subst hu
            by_cases hm : 2 * D < M
            · have hn : next D M = 2 * D := by unfold next; rw [tick_self D 1 (by omega) (by omega), tick_self M 1 (by omega) (by omega), if_pos hm]
              have df := due_facts X (2 * D) z9 (by omega) (by omega) (by omega) (by omega)
              have hb4 : X - N ≤ (T + 1) * M := by rw [Int.add_mul]; omega
              go_wp2_with fail
              refine (again_x hs (show St.again ⟨[2], 0, true, D, X⟩ X M z9 = ((1, 2, true), ⟨[2], 0, true, 2 * D, due X (2 * D) z9⟩) from by
                rw [← hn]
                show (if X < X then ((0, 0, false), (⟨[2], 0, true, D, X⟩ : St)) else _) = _
                rw [if_neg (by omega)]; rfl)).mono ?_
              rintro e w7 ⟨rfl, h7, k7⟩
              have K7 := K.step k7 hi
              clear k7 hs K
              go_wp2
              all_goals
                go_roundw
                case rel => exact ⟨X, 2 * D, T + 1, X + 1, _, q, ⟨_, rfl⟩, by go_num, by go_num, by go_num, by go_num, by omega, df, by omega, by omega, hb4, h7.alloc _, hi, K7.alloc _⟩
                case measure => simp [intOf]; omega
            · have hn : next D M = M := by unfold next; rw [tick_self D 1 (by omega) (by omega), tick_self M 1 (by omega) (by omega), if_neg hm]
              have hmin : (if M < 2 * D then M else 2 * D) = M := by split <;> omega
              have df := due_facts X M z9 (by omega) (by omega) (by omega) (by omega)
              have hb4 : X - N ≤ (T + 1) * M := by rw [Int.add_mul]; omega
              go_wp2_with fail
              refine (again_x hs (show St.again ⟨[2], 0, true, D, X⟩ X M z9 = ((1, 2, true), ⟨[2], 0, true, M, due X M z9⟩) from by
                show (if X < X then ((0, 0, false), (⟨[2], 0, true, D, X⟩ : St)) else ((1, 2, true), (⟨[2], 0, true, next D M, due X (next D M) z9⟩ : St))) = _
                rw [if_neg (by omega), hn])).mono ?_
              rintro e w7 ⟨rfl, h7, k7⟩
              have K7 := K.step k7 hi
              clear k7 hs K
              go_wp2
              all_goals
                go_roundw
                case rel => exact ⟨X, M, T + 1, X + 1, _, q, ⟨_, rfl⟩, by go_num, by go_num, by go_num, by go_num, by omega, df, by omega, by omega, hb4, h7.alloc _, hi, K7.alloc _⟩
                case measure => simp [intOf]; omega
          · go_wp2_with fail
            refine (again_x hs (show St.again ⟨[2], 0, true, D, U⟩ X M z9 = ((0, 0, false), ⟨[2], 0, true, D, U⟩) from by
              show (if X < U then ((0, 0, false), (⟨[2], 0, true, D, U⟩ : St)) else _) = _
              rw [if_pos (by omega)])).mono ?_
            rintro e w7 ⟨rfl, h7, k7⟩
            have K7 := K.step k7 hi
            clear k7 hs K
            go_wp2
            all_goals
              go_roundw
              case rel => exact ⟨L, D, T, X + 1, U, q, ⟨_, rfl⟩, by go_num, by go_num, by go_num, by go_num, by omega, b1, b2, by omega, b4, h7.alloc _, hi, K7.alloc _⟩
              case measure => simp [intOf]; omega
      · obtain rfl : X = N + 200 := by omega
        have hc0 : (M == 0) = false := by rw [beq_eq_false_iff_ne]; omega
        have hq : Int.tdiv 200 M ≤ T + 1 := by
          rw [Int.tdiv_eq_ediv_of_nonneg (by omega)]
          exact Int.ediv_le_of_le_mul (by omega) (by rw [Int.add_mul]; omega)
        have hq0 : 0 ≤ Int.tdiv 200 M := by
          rw [Int.tdiv_eq_ediv_of_nonneg (by omega)]
          exact Int.ediv_nonneg (by omega) (by omega)
        go_wp2_with fail
        refine (ack_x hs (show St.ack ⟨[2], 0, true, D, U⟩ 1 = (0, ⟨[2], 1, false, D, U⟩) from rfl)).mono ?_
        rintro e w7 ⟨rfl, h7, k7⟩
        have K7 := K.step k7 hi
        clear k7 hs K
        go_wp2_with fail
        refine (wakes11_c _).mono ?_
        rintro e' w9 ⟨rfl, k9⟩
        go_wp2
        go_ret
        exact ⟨rfl, K7.then0 k9⟩
  · have hlen0 : len = 0 := by omega
    have hlen' : ¬ (0 : Int) < len := by omega
    go_wp2_with fail
    refine (say_x (h4.alloc _) (show St.say ⟨[2], 0, false, 0, 0⟩ N F' 0 = ((1, 2, true), ⟨[2], 0, true, F', due N F' 0⟩) from rfl)).mono ?_
    rintro e w5 ⟨rfl, h5, k5⟩
    have K5 : Kp0 w w5 := (K4.alloc _).step k5 hi
    have df := due_facts N F' 0 (by omega) (by omega) (by omega) (by omega)
    have hR : AgRel w g N M (.int .i64 0) (.int .i64 N) (.int .i64 F') (.int .i64 0) (.int .i64 (N + 1)) (w5.alloc (.cells #[.int .i64 1, .int .i64 2] 27)) N F' 0 (N + 1) (due N F' 0) q :=
      ⟨⟨_, rfl⟩, rfl, rfl, rfl, rfl, by omega, by omega, by omega, by omega, by omega, h5.alloc _, hi, K5.alloc _⟩
    clear k5 K4 h4 h5 K5
    go_wp2_with fail
    go_loopw [14, 17, 18, 19, 20] (fun d l y t i wr => ∃ L D T X U q, AgRel w g N M d l y t i wr L D T X U q) (fun _ _ _ _ i _ => (N + 200 - intOf i).toNat)
    case atStart => exact ⟨_, _, _, _, _, _, hR⟩
    case round =>
      clear hR
      obtain ⟨L, D, T, X, U, q, ⟨z9, rfl⟩, rfl, rfl, rfl, rfl, b0, b1, b2, b3, b4, hs, hi, K⟩ := hrel
      by_cases hx : X < N + 200
      · have hd : ¬ T + 1 < (len : Int) := by omega
        by_cases hu : X = U
        · subst hu
          by_cases hm : 2 * D < M
          · have hn : next D M = 2 * D := by unfold next; rw [tick_self D 1 (by omega) (by omega), tick_self M 1 (by omega) (by omega), if_pos hm]
            have df := due_facts X (2 * D) z9 (by omega) (by omega) (by omega) (by omega)
            have hb4 : X - N ≤ (T + 1) * M := by rw [Int.add_mul]; omega
            go_wp2_with fail
            refine (again_x hs (show St.again ⟨[2], 0, true, D, X⟩ X M z9 = ((1, 2, true), ⟨[2], 0, true, 2 * D, due X (2 * D) z9⟩) from by
              rw [← hn]
              show (if X < X then ((0, 0, false), (⟨[2], 0, true, D, X⟩ : St)) else _) = _
              rw [if_neg (by omega)]; rfl)).mono ?_
            rintro e w7 ⟨rfl, h7, k7⟩
            have K7 := K.step k7 hi
            clear k7 hs K
            go_wp2
            all_goals
              go_roundw
              case rel => exact ⟨X, 2 * D, T + 1, X + 1, _, q, ⟨_, rfl⟩, by go_num, by go_num, by go_num, by go_num, by omega, df, by omega, by omega, hb4, h7.alloc _, hi, K7.alloc _⟩
              case measure => simp [intOf]; omega
          · have hn : next D M = M := by unfold next; rw [tick_self D 1 (by omega) (by omega), tick_self M 1 (by omega) (by omega), if_neg hm]
            have hmin : (if M < 2 * D then M else 2 * D) = M := by split <;> omega
            have df := due_facts X M z9 (by omega) (by omega) (by omega) (by omega)
            have hb4 : X - N ≤ (T + 1) * M := by rw [Int.add_mul]; omega
            go_wp2_with fail
            refine (again_x hs (show St.again ⟨[2], 0, true, D, X⟩ X M z9 = ((1, 2, true), ⟨[2], 0, true, M, due X M z9⟩) from by
              show (if X < X then ((0, 0, false), (⟨[2], 0, true, D, X⟩ : St)) else ((1, 2, true), (⟨[2], 0, true, next D M, due X (next D M) z9⟩ : St))) = _
              rw [if_neg (by omega), hn])).mono ?_
            rintro e w7 ⟨rfl, h7, k7⟩
            have K7 := K.step k7 hi
            clear k7 hs K
            go_wp2
            all_goals
              go_roundw
              case rel => exact ⟨X, M, T + 1, X + 1, _, q, ⟨_, rfl⟩, by go_num, by go_num, by go_num, by go_num, by omega, df, by omega, by omega, hb4, h7.alloc _, hi, K7.alloc _⟩
              case measure => simp [intOf]; omega
        · go_wp2_with fail
          refine (again_x hs (show St.again ⟨[2], 0, true, D, U⟩ X M z9 = ((0, 0, false), ⟨[2], 0, true, D, U⟩) from by
            show (if X < U then ((0, 0, false), (⟨[2], 0, true, D, U⟩ : St)) else _) = _
            rw [if_pos (by omega)])).mono ?_
          rintro e w7 ⟨rfl, h7, k7⟩
          have K7 := K.step k7 hi
          clear k7 hs K
          go_wp2
          all_goals
            go_roundw
            case rel => exact ⟨L, D, T, X + 1, U, q, ⟨_, rfl⟩, by go_num, by go_num, by go_num, by go_num, by omega, b1, b2, by omega, b4, h7.alloc _, hi, K7.alloc _⟩
            case measure => simp [intOf]; omega
      · obtain rfl : X = N + 200 := by omega
        have hc0 : (M == 0) = false := by rw [beq_eq_false_iff_ne]; omega
        have hq : Int.tdiv 200 M ≤ T + 1 := by
          rw [Int.tdiv_eq_ediv_of_nonneg (by omega)]
          exact Int.ediv_le_of_le_mul (by omega) (by rw [Int.add_mul]; omega)
        have hq0 : 0 ≤ Int.tdiv 200 M := by
          rw [Int.tdiv_eq_ediv_of_nonneg (by omega)]
          exact Int.ediv_nonneg (by omega) (by omega)
        go_wp2_with fail
        refine (ack_x hs (show St.ack ⟨[2], 0, true, D, U⟩ 1 = (0, ⟨[2], 1, false, D, U⟩) from rfl)).mono ?_
        rintro e w7 ⟨rfl, h7, k7⟩
        have K7 := K.step k7 hi
        clear k7 hs K
        go_wp2_with fail
        refine (wakes11_c _).mono ?_
        rintro e' w9 ⟨rfl, k9⟩
        go_wp2
        go_ret
        exact ⟨rfl, K7.then0 k9⟩
theorem streamAgain_w (v1 v2 v3 : Int) (a : Option Addr) (len cap : Nat) (zs : List Int) (w : World) (_ : (Lit.int .i64 v1).wf = true) (_ : (Lit.int .i64 v2).wf = true) (_ : (Lit.int .i64 v3).wf = true) (hz : IsInts .i64 w a len cap zs) (hy : len * 8 ≤ 140737488351232) :
    Calls Try.prog 3 #[.int .i64 v1, .int .i64 v2, .int .i64 v3, .slice a len cap] w fun e' w' => e' = .returned (.bool true) ∧ Below w.heap.size w w' :=
  (again_law v1 v2 v3 a len cap zs w hz hy).mono fun _ _ h => ⟨h.1, h.2.below0⟩
end Go.Proofs.Ytccamciijpmkjaa
