/- Package bin: the example; boxes compared. -/
import Derived.Test.YtccamciijpmkjaaB7
import Derived.Laws.StructEq
set_option linter.unusedVariables false
set_option linter.unusedSimpArgs false
namespace Go.Proofs.Ytccamciijpmkjaa
open Go.RowKit

theorem neq63 (x : Bx) (W : World) : (binOp .neq 63 x.ag x.ag).run Try.prog W = .ok (.bool false) W := by
  rw [run_neq_struct, run_equalIn_agg _ _ _ _ _ (by kernel_rfl) (by kernel_rfl)]
  simp only [Program.fieldsOf, Try.underlying63]
  simp [Op.eqFields, go_sem]

set_option maxRecDepth 100000 in
theorem same41_c (v1 v2 : Value) (l : List Bx) (hl : l.length ≤ 100000) (w : World) (h1 : w.ownsRow 0 63 4 v1 l.length (rb l)) (h2 : w.ownsRow 0 63 4 v2 l.length (rb l)) :
    Calls Try.prog 41 #[v1, v2] w fun e w' => e = .returned (.bool true) ∧ Kp0 w w' := by
  have hsh : ∀ v, w.ownsRow 0 63 4 v l.length (rb l) → ∃ A c, v = .slice A l.length c ∧ ∀ k (hk : k < l.length), ∃ b, A = some ⟨b, 0, none⟩ ∧ ∀ W, Kp0 w W →
      W.cell? ⟨b, k * 4, none⟩ = some (.string l[k].f) ∧ W.cell? ⟨b, k * 4 + 1, none⟩ = some (.string l[k].e) ∧ W.cell? ⟨b, k * 4 + 2, none⟩ = some (.int .i64 l[k].n) ∧ W.cell? ⟨b, k * 4 + 3, none⟩ = some (.int .i64 l[k].s) := fun v h => by
    rcases own_shape h with ⟨e, e0, _⟩ | ⟨b, cap, e, m1, m2, m3, m4⟩
    · exact ⟨none, 0, by rw [e, e0], fun k hk => by omega⟩
    · subst e
      refine ⟨_, cap, rfl, fun k hk => ⟨b, rfl, fun W kk => ?_⟩⟩
      have o := own_kp h kk (fun _ _ x => x)
      have q := own_cells o rfl k hk
      have q0 := q 0 _ rfl
      have q1 := q 1 _ rfl
      have q2 := q 2 _ rfl
      have q3 := q 3 _ rfl
      rw [Nat.zero_add] at q0 q1 q2 q3
      exact ⟨q0, q1, q2, q3⟩
  obtain ⟨A1, c1, rfl, g1⟩ := hsh v1 h1
  obtain ⟨A2, c2, rfl, g2⟩ := hsh v2 h2
  have G1 := Lib.hid g1
  have G2 := Lib.hid g2
  clear g1 g2 hsh h1 h2
  go_enter Try.func41, Try.ntmps41
  go_wp2_with fail
  go_loopw [5] (fun s5 wr => ∃ k : Nat, k ≤ l.length ∧ s5 = .int .i64 (k : Nat) ∧ Kp0 w wr) (fun s5 _ => (l.length - intOf s5).toNat)
  case atStart => exact ⟨0, by omega, rfl, Kp.refl _ _⟩
  case round =>
    obtain ⟨k, hk, rfl, kx⟩ := hrel
    by_cases hkl : k < l.length
    · obtain ⟨b1, rfl, q1⟩ := G1.out k hkl
      obtain ⟨b2, rfl, q2⟩ := G2.out k hkl
      obtain ⟨x0, x1, x2, x3⟩ := q1 _ kx.drew
      obtain ⟨y0, y1, y2, y3⟩ := q2 _ kx.drew
      have hkl' : (k : Int) < (l.length : Int) ∧ (0 : Int) ≤ (k : Int) := by omega
      have ne := neq63 l[k]
      obtain ⟨x0, x1, x2, x3⟩ := q1 _ kx
      obtain ⟨y0, y1, y2, y3⟩ := q2 _ kx
      generalize l[k] = x at *
      clear q1 q2 G1 G2
      go_wp2_with fail
      go_quiet (fail)
      go_wp2
      go_roundw
      case rel => exact ⟨k + 1, by omega, by go_num, kx.drewN _⟩
      case measure => simp [intOf]; omega
    · obtain rfl : k = l.length := by omega
      go_wp2
      go_ret
      exact ⟨rfl, kx⟩

set_option maxRecDepth 100000 in
theorem wakes34_c (w : World) : Calls Try.prog 34 #[] w fun e w' => e = .returned (.bool true) ∧ Kp0 w w' := by
  have d1 : ∀ W, Calls Try.prog 32 #[.int .i64 8, .int .i64 60, .int .i64 100] W fun e w' => e = .returned (.int .i64 4) ∧ W = w' := fun W => by
    go_enter Try.func32, Try.ntmps32
    go_wp2
    go_ret
    exact ⟨rfl, rfl⟩
  have d2 : ∀ W, Calls Try.prog 32 #[.int .i64 8, .int .i64 50, .int .i64 100] W fun e w' => e = .returned (.int .i64 8) ∧ W = w' := fun W => by
    go_enter Try.func32, Try.ntmps32
    go_wp2
    go_ret
    exact ⟨rfl, rfl⟩
  go_enter Try.func34, Try.ntmps34
  go_wp2_with fail
  refine (d1 _).mono ?_
  rintro e w' ⟨rfl, rfl⟩
  go_wp2_with fail
  refine (d2 _).mono ?_
  rintro e w' ⟨rfl, rfl⟩
  go_wp2_with fail
  refine (bin_new_c _).mono ?_
  rintro e w' ⟨rfl, _, k⟩
  go_wp2
  go_ret
  exact ⟨rfl, k⟩
end Go.Proofs.Ytccamciijpmkjaa
