/- NeedSums: the walk. -/
import Derived.Test.YtgilnhagddihcaaNe
import Derived.Test.YtgilnhagddihcaaOwn
import Derived.BigQuiet
set_option linter.unusedVariables false
set_option linter.unusedSimpArgs false
namespace Go.Proofs.Ytgilnhagddihcaa
open Go.RowKit

theorem sumTo_congr {f g : Nat → Nat} : ∀ n, (∀ j, j < n → f j = g j) → sumTo f n = sumTo g n
  | 0, _ => rfl
  | n + 1, h => by rw [sumTo, sumTo, sumTo_congr n (fun j hj => h j (by omega)), h n (by omega)]

def cx (p : Nat × Nat) : Value := .complex .f64 (floatOfInt .f64 (p.1 : Int)) (floatOfInt .f64 (p.2 : Int))
def put (N : Nat → Nat × Nat) (k : Nat) (p : Nat × Nat) : Nat → Nat × Nat := fun j => if j = k then p else N j

theorem put_map (N : Nat → Nat × Nat) (k : Nat) (p : Nat × Nat) : (List.range (k + 1)).map (fun j => cx (put N k p j)) = (List.range k).map (fun j => cx (N j)) ++ [cx p] := by
  rw [List.range_succ, List.map_append]
  congr 1
  · apply List.map_congr_left
    intro j hj
    have := List.mem_range.1 hj
    unfold put
    rw [if_neg (by omega)]
  · simp [put]
theorem put_sum1 (N : Nat → Nat × Nat) (k : Nat) (p : Nat × Nat) : sumTo (fun j => (put N k p j).1) (k + 1) = sumTo (fun j => (N j).1) k + p.1 := by
  rw [sumTo, sumTo_congr (g := fun j => (N j).1) k (fun j hj => by unfold put; rw [if_neg (by omega)])]
  simp [put]
theorem put_sum2 (N : Nat → Nat × Nat) (k : Nat) (p : Nat × Nat) : sumTo (fun j => (put N k p j).2) (k + 1) = sumTo (fun j => (N j).2) k + p.2 := by
  rw [sumTo, sumTo_congr (g := fun j => (N j).2) k (fun j hj => by unfold put; rw [if_neg (by omega)])]
  simp [put]

/-- What the law gathers. -/
structure Gs (w wr : World) (v : Value) (k : Nat) (N : Nat → Nat × Nat) : Prop where
  lim : ∀ j, j < k → (N j).1 ≤ 1000 ∧ (N j).2 ≤ 1000
  row : wr.ownsRow 0 28 1 v k ((List.range k).map (fun j => cx (N j)))
  fr : ∀ i, v.ownBlock = some i → w.heap.size ≤ i
  k : Kp0 w wr
theorem Gs.s1 {w wr : World} {v : Value} {k : Nat} {N : Nat → Nat × Nat} (G : Gs w wr v k N) : sumTo (fun j => (N j).1) k ≤ k * 1000 := sumTo_le _ 1000 k (fun j hj => (G.lim j hj).1)
theorem Gs.s2 {w wr : World} {v : Value} {k : Nat} {N : Nat → Nat × Nat} (G : Gs w wr v k N) : sumTo (fun j => (N j).2) k ≤ k * 1000 := sumTo_le _ 1000 k (fun j hj => (G.lim j hj).2)

theorem row_slice1 {w : World} {e n : Nat} {v : Value} {xs : List Value} (h : w.ownsRow 0 e 1 v n xs) : ∃ A c, v = .slice A n c := by
  rcases own_shape h with ⟨rfl, rfl, _⟩ | ⟨r, cap, rfl, _, _, _, hcell⟩
  · exact ⟨none, 0, rfl⟩
  · exact ⟨_, _, rfl⟩

set_option maxRecDepth 100000 in
set_option maxHeartbeats 8000000 in
theorem needSums_c (a0 : Option Addr) (len0 cap0 : Nat) (a1 : Option Addr) (len1 cap1 : Nat) (v2 v3 : Int) (w : World)
    (hz : ∀ j : Nat, j < len0 → ∃ b off z, a0 = some ⟨b, off, none⟩ ∧ b < w.heap.size ∧ w.cell? ⟨b, off + j, none⟩ = some (.int .i64 z)) (hc0 : len0 ≤ 9223372036854775807)
    (hy : ∀ j : Nat, j < len1 → ∃ b off z, a1 = some ⟨b, off, none⟩ ∧ b < w.heap.size ∧ w.cell? ⟨b, off + j, none⟩ = some (.int .i64 z)) (hc1 : len1 ≤ 9223372036854775807) :
    Calls Try.prog 8 #[.slice a0 len0 cap0, .slice a1 len1 cap1, .int .i64 v2, .int .i64 v3] w fun e' w' => e' = .returned (.bool true) ∧ Kp0 w w' := by
  go_enter Try.func8, Try.ntmps8
  go_wp2_with fail
  go_loopw [9, 10, 11, 12] (fun v9 s10 s11 i wr => ∃ (k : Nat) (N : Nat → Nat × Nat), k ≤ 30 ∧ i = .int .i64 k ∧ s10 = .int .i64 (sumTo (fun j => (N j).1) k : Nat) ∧ s11 = .int .i64 (sumTo (fun j => (N j).2) k : Nat) ∧ Gs w wr v9 k N) (fun _ _ _ i _ => (30 - intOf i).toNat)
  case atStart => exact ⟨0, fun _ => (0, 0), by decide, rfl, rfl, rfl, fun j hj => by omega, World.ownsRow_nil _ _ _ _, by simp [Value.ownBlock], Kp.refl _ _⟩
  case round =>
    obtain ⟨k, N, hk, rfl, rfl, rfl, G⟩ := hrel
    obtain ⟨A9, c9, rfl⟩ := row_slice1 G.row
    have hs1 := G.s1
    have hs2 := G.s2
    obtain ⟨SA, hSA⟩ : ∃ x, sumTo (fun j => (N j).1) k = x := ⟨_, rfl⟩
    obtain ⟨SB, hSB⟩ : ∃ x, sumTo (fun j => (N j).2) k = x := ⟨_, rfl⟩
    rw [hSA] at hs1
    rw [hSB] at hs2
    simp only [hSA, hSB]
    go_upto_region 4 with fail
    go_cut [33] from 20 to 93 (fun s33 wx => s33 = .bool (decide (k < len0 ∧ k < len1 ∧ k < 30)) ∧ wr = wx)
    case first =>
      by_cases i1 : k < len0
      · by_cases i2 : k < len1
        · by_cases i3 : k < 30
          · go_wp2_with fail
            go_meet
            exact ⟨congrArg Value.bool (by rw [decide_eq_decide]; omega), rfl⟩
          · go_wp2_with fail
            go_meet
            exact ⟨congrArg Value.bool (by rw [decide_eq_decide]; omega), rfl⟩
        · go_wp2_with fail
          go_meet
          exact ⟨congrArg Value.bool (decide_eq_false (fun h => i2 h.2.1)).symm, rfl⟩
      · go_wp2_with fail
        go_meet
        exact ⟨congrArg Value.bool (decide_eq_false (fun h => i1 h.1)).symm, rfl⟩
    case rest =>
    obtain ⟨rfl, rfl⟩ := hcut
    by_cases hin : k < len0 ∧ k < len1 ∧ k < 30
    · rw [decide_eq_true hin]
      obtain ⟨i1, i2, i3⟩ := hin
      obtain ⟨b1, o1, z1, rfl, hb1, hcz⟩ := hz _ i1
      obtain ⟨b2, o2, z2, rfl, hb2, hcy⟩ := hy _ i2
      have cz := (G.k.below0.cell (p := ⟨b1, _, none⟩) hb1).trans hcz
      have cy := (G.k.below0.cell (p := ⟨b2, _, none⟩) hb2).trans hcy
      clear hcz hcy
      go_upto_region 6 with fail
      go_cut [13, 14] from 20 to 93 (fun s13 s14 wx => ∃ x y : Nat, x < 1000 ∧ y < 1000 ∧ s13 = .int .i64 x ∧ s14 = .int .i64 y ∧ Kp0 wr wx)
      case first =>
        clear G
        go_quiet (first | (go_at_call 15; exact Calls.quiet_of_same ((within_c _ 1000 (by decide) (by decide) _).mono fun _ _ h => ⟨h.1, h.2.symm⟩)))
        go_wp2_with fail
        go_meet
        have m1 := Int.emod_nonneg z1 (show (1000 : Int) ≠ 0 by decide)
        have m2 := Int.emod_lt_of_pos z1 (show (0 : Int) < 1000 by decide)
        have m3 := Int.emod_nonneg z2 (show (1000 : Int) ≠ 0 by decide)
        have m4 := Int.emod_lt_of_pos z2 (show (0 : Int) < 1000 by decide)
        exact ⟨(z1 % 1000).toNat, (z2 % 1000).toNat, by omega, by omega, by rw [Int.toNat_of_nonneg m1], by rw [Int.toNat_of_nonneg m3], (Kp.refl _ _).drewN _⟩
      case rest =>
        obtain ⟨x, y, hx, hy', rfl, rfl, kx⟩ := hcut
        clear cz cy hz hy
        have o1 := own_kp G.row kx (fun _ _ h => h)
        have K1 := G.k.then0 kx
        have of1 := of_in (m := x) (n := y) (by omega)
        go_wp2_with fail
        refine (of_c _ _ _).mono ?_
        rintro e w' ⟨rfl, rfl⟩
        rw [of1.1, of1.2]
        clear of1
        have k2 : Kp0 wc (wc.alloc (.cells #[cx (x, y)] 28)) := (Kp.refl _ _).alloc _
        have o2 := own_kp o1 k2 (fun _ _ h => h)
        go_wp2_with (at_builtin; refine list_app rfl _ _ 42 28 (.complex .f64 0 0) 1 16 rfl rfl rfl rfl (by decide) (.slice A9 k c9) k _ rfl wc.heap.size 0 1 1 [cx (x, y)] rfl rfl (by simp [Value.oneCell', cx]) (Vw.of_blk (blk_new _ _ rfl)) o2 (by omega) (by omega) ?_)
        intro v91 w3 o3 k3 b3
        have K3 : Kp0 w w3 := (K1.then0 k2).trans k3 (fun i hi h => by have := G.fr i h; omega)
        have fr3 : ∀ i, v91.ownBlock = some i → w.heap.size ≤ i := by
          intro i hi
          rcases b3 with b3 | b3
          · exact G.fr i (b3 ▸ hi)
          · rw [b3] at hi; injection hi with hi; have := K1.size; (try simp at hi); omega
        rw [← put_map] at o3
        rcases own_shape o3 with ⟨_, hn0, _⟩ | ⟨g3, c3, rfl, _, _, _, hc3⟩
        · omega
        have cell3 : w3.cell? ⟨g3, k, none⟩ = some (.complex .f64 (floatOfInt .f64 (x : Int)) (floatOfInt .f64 (y : Int))) := by
          rw [hc3 k (by omega), List.getElem?_map, List.getElem?_range (by omega)]
          simp [put, cx]
        have lim3 : ∀ j, j < k + 1 → (put N k (x, y) j).1 ≤ 1000 ∧ (put N k (x, y) j).2 ≤ 1000 := by
          intro j hj
          by_cases hjk : j = k
          · subst hjk; simp [put]; omega
          · have := G.lim j (by omega)
            simpa [put, hjk] using this
        have G3 : Gs w w3 (.slice (some ⟨g3, 0, none⟩) (k + 1) c3) (k + 1) (put N k (x, y)) := ⟨lim3, o3, fr3, K3⟩
        have q1 := put_sum1 N k (x, y)
        have q2 := put_sum2 N k (x, y)
        rw [hSA] at q1
        rw [hSB] at q2
        have wx := wn_fl x (by omega)
        have wy := wn_fl y (by omega)
        have f1 := room_wn wx wy (by omega) (by omega)
        have e1 := right_wn wx wy (by omega) (by omega)
        have g1 := toI_wn wx (by omega)
        have g2 := toI_wn wy (by omega)
        clear hSA hSB lim3 fr3 K3 hc3 o3 b3 k3 o2 k2 o1 K1 G kx wx wy
        generalize put N k (x, y) = N3 at G3 q1 q2
        generalize hX : floatOfInt .f64 (x : Int) = X at cell3 f1 e1 g1
        generalize hY : floatOfInt .f64 (y : Int) = Y at cell3 f1 e1 g2
        obtain ⟨bb, hbb⟩ : ∃ bb : Bool, decide (0 < x + y) = bb := ⟨_, rfl⟩
        rw [hbb] at e1
        have hbc : decide ((0 : Int) < (x : Int) + (y : Int)) = bb := by rw [← hbb, decide_eq_decide]; omega
        have tb : (bb != bb) = false := by simp
        go_wp2_with fail
        refine (nparts_c _ _ _).mono ?_
        rintro e w' ⟨rfl, rfl⟩
        rw [f1, if_pos rfl, if_pos rfl, g1, g2]
        go_upto_region 10 with fail
        go_cut [93] from 20 to 93 (fun s93 wx => s93 = .bool false ∧ w3 = wx)
        case first =>
          clear G3 q1 q2
          go_wp2_with fail
          refine (right_c X Y _).mono ?_
          rintro e w' ⟨rfl, rfl⟩
          rw [e1]
          go_wp2_with fail
          refine (room_c X Y _).mono ?_
          rintro e w' ⟨rfl, rfl⟩
          rw [f1]
          go_wp2_with fail
          go_meet
          exact ⟨rfl, rfl⟩
        case rest =>
          obtain ⟨rfl, rfl⟩ := hcut
          go_wp2
          go_roundw
          case rel => exact ⟨k + 1, N3, by omega, by go_num, by rw [q1]; go_num, by rw [q2]; go_num, G3⟩
          case measure => simp [intOf]; omega
    · rw [decide_eq_false hin]
      clear hz hy
      have hkl : ((k * 1000 : Nat) : Int) ≤ 30000 := by omega
      obtain ⟨hr, hfr⟩ : (∀ j : Nat, j < k → ∃ b off, A9 = some ⟨b, off, none⟩ ∧ wr.cell? ⟨b, off + j, none⟩ = some (cx (N j))) ∧ True := by
        refine ⟨fun j hj => ?_, trivial⟩
        rcases own_shape G.row with ⟨_, hn0, _⟩ | ⟨g3, c3, e3, _, _, _, hc3⟩
        · omega
        · injection e3 with e31 e32 e33
          subst e31
          refine ⟨g3, 0, rfl, ?_⟩
          rw [Nat.zero_add, hc3 j (by omega), List.getElem?_map, List.getElem?_range hj]
          rfl
      have hsum : ∀ W : World, (∀ p v, wr.cell? p = some v → W.cell? p = some v) → Calls Try.prog 33 #[.slice A9 k c9] W fun e w' => ∃ R I, e = .returned (.complex .f64 R I) ∧ WN R SA ∧ WN I SB ∧ W = w' := by
        intro W hW
        rw [← hSA, ← hSB]
        refine sum_c A9 k c9 (fun j => (floatOfInt .f64 ((N j).1 : Int), floatOfInt .f64 ((N j).2 : Int))) N (by omega) W (fun j hj => ?_)
        obtain ⟨b, off, e, hc⟩ := hr j hj
        have l := G.lim j hj
        exact ⟨b, off, e, hW _ _ hc, wn_fl _ (by omega), wn_fl _ (by omega), by omega, by omega⟩
      have K := G.k
      have hnil : ∀ W : World, Calls Try.prog 33 #[.slice none 0 0] W fun e w' => ∃ R I, e = .returned (.complex .f64 R I) ∧ WN R 0 ∧ WN I 0 ∧ W = w' :=
        fun W => sum_c none 0 0 (fun _ => (0, 0)) (fun _ => (0, 0)) (by decide) W (fun j hj => by omega)
      clear hr G hSA hSB hin
      go_wp2_with fail
      refine (within_x v2 30000 (by decide) (by decide) _).mono ?_
      rintro e w' ⟨c', hc0', hc1', rfl, rfl⟩
      obtain ⟨c, rfl⟩ := Int.eq_ofNat_of_zero_le hc0'
      go_wp2_with fail
      refine (within_x v3 30000 (by decide) (by decide) _).mono ?_
      rintro e w' ⟨m', hm0', hm1', rfl, rfl⟩
      obtain ⟨m, rfl⟩ := Int.eq_ofNat_of_zero_le hm0'
      go_wp2_with fail
      refine (hsum _ (fun _ _ h => h)).mono ?_
      rintro e w' ⟨R, I, rfl, wR, wI, rfl⟩
      have f1 := room_wn wR wI (by omega) (by omega)
      have g1 := toI_wn wR (by omega)
      have g2 := toI_wn wI (by omega)
      go_wp2_with fail
      refine (nparts_c _ _ _).mono ?_
      rintro e w' ⟨rfl, rfl⟩
      rw [f1, if_pos rfl, if_pos rfl, g1, g2]
      have of1 := of_in (m := c) (n := m) (by omega)
      have wc := wn_fl c (by omega)
      have wm := wn_fl m (by omega)
      have h1 : fitsB R I (floatOfInt .f64 (c : Int)) (floatOfInt .f64 (m : Int)) = (decide (SA ≤ c) && decide (SB ≤ m)) := by
        unfold fitsB; rw [le_wn wR wc, le_wn wI wm]
      have h2 : fitsB R I R I = true := by unfold fitsB; rw [le_wn wR wR, le_wn wI wI]; simp
      have h3 : fitsB 0 0 (floatOfInt .f64 (c : Int)) (floatOfInt .f64 (m : Int)) = true := by
        unfold fitsB; rw [le_wn wn_zero wc, le_wn wn_zero wm]; simp
      clear wR wI f1 g1 g2 wc wm hsum
      obtain ⟨d1, hd1⟩ : ∃ d, decide (SA ≤ c) = d := ⟨_, rfl⟩
      obtain ⟨d2, hd2⟩ : ∃ d, decide (SB ≤ m) = d := ⟨_, rfl⟩
      have hi1 : decide ((SA : Int) ≤ (c : Int)) = d1 := by rw [← hd1, decide_eq_decide]; omega
      have hi2 : decide ((SB : Int) ≤ (m : Int)) = d2 := by rw [← hd2, decide_eq_decide]; omega
      rw [hd1, hd2] at h1
      go_wp2_with fail
      refine (of_c _ _ _).mono ?_
      rintro e w' ⟨rfl, rfl⟩
      rw [of1.1, of1.2]
      cases d1 <;> cases d2
      all_goals
        go_wp2_with fail
        refine (fits_c _ _ _ _ _).mono ?_
        rintro e w' ⟨rfl, rfl⟩
        rw [h1]
        go_wp2_with fail
        refine (fits_c _ _ _ _ _).mono ?_
        rintro e w' ⟨rfl, rfl⟩
        rw [h2]
        go_wp2_with fail
        refine (hnil _).mono ?_
        rintro e w' ⟨R0, I0, rfl, wR0, wI0, rfl⟩
        have z1 : (FloatKind.f64.format.order R0 0 == some .eq) = true := by
          have := eq_of_order (wR0.whole.order whole_zero)
          unfold eqB at this
          rw [this]; rfl
        have z2 : (FloatKind.f64.format.order I0 0 == some .eq) = true := by
          have := eq_of_order (wI0.whole.order whole_zero)
          unfold eqB at this
          rw [this]; rfl
        clear wR0 wI0
        go_wp2_with fail
        refine (of_c _ _ _).mono ?_
        rintro e w' ⟨rfl, rfl⟩
        rw [of1.1, of1.2]
        go_wp2_with fail
        refine (fits_c _ _ _ _ _).mono ?_
        rintro e w' ⟨rfl, rfl⟩
        rw [h3]
        go_wp2_with fail
        refine (wakes2_c _).mono ?_
        rintro e w' ⟨rfl, rfl⟩
        go_wp2
        go_ret
        exact ⟨rfl, K⟩

theorem ints_cell {k : IntKind} {w : World} {a : Option Addr} {len cap : Nat} {zs : List Int} (hz : IsInts k w a len cap zs) : ∀ j : Nat, j < len → ∃ b off z, a = some ⟨b, off, none⟩ ∧ b < w.heap.size ∧ w.cell? ⟨b, off + j, none⟩ = some (.int k z) := by
  intro j hj
  rcases hz with ⟨_, h, _⟩ | ⟨⟨b, off, p⟩, e, h1, h2, h3, h4, _⟩
  · omega
  · have t0 := h4 0 (by omega)
    have t1 := h4 j (by omega)
    have hp : p = none := by
      cases p with
      | none => rfl
      | some p =>
        exfalso
        rw [Addr.add, if_pos rfl] at t0
        unfold World.cell? at t0
        split at t0 <;> simp at t0
    subst hp
    have t2 : w.cell? ⟨b, off + j, none⟩ = some (.int k (zs.getD j 0)) := by
      rw [← t1]
      unfold Addr.add
      by_cases hj0 : j = 0
      · subst hj0; rfl
      · rw [if_neg hj0]
    exact ⟨b, off, _, e, World.block_lt_of_cell? w ⟨b, _, none⟩ t2, t2⟩

theorem needSums_w (a0 : Option Addr) (len0 cap0 : Nat) (zs0 : List Int) (a1 : Option Addr) (len1 cap1 : Nat) (zs1 : List Int) (v2 v3 : Int) (w : World)
    (h0 : IsInts .i64 w a0 len0 cap0 zs0) (l0 : len0 * 8 ≤ 140737488351232) (h1 : IsInts .i64 w a1 len1 cap1 zs1) (l1 : len1 * 8 ≤ 140737488351232) (h2 : (Lit.int .i64 v2).wf = true) (h3 : (Lit.int .i64 v3).wf = true) :
    Calls Try.prog 8 #[.slice a0 len0 cap0, .slice a1 len1 cap1, .int .i64 v2, .int .i64 v3] w fun e' w' => e' = .returned (.bool true) ∧ Below w.heap.size w w' :=
  (needSums_c a0 len0 cap0 a1 len1 cap1 v2 v3 w (ints_cell h0) (by omega) (ints_cell h1) (by omega)).mono fun _ _ h => ⟨h.1, h.2.below0⟩
end Go.Proofs.Ytgilnhagddihcaa
