/- The walk of RunWays. -/
import Derived.Test.YtnlkkcpcjeeplaaRun
namespace Go.Proofs.Ytnlkkcpcjeeplaa
open Go.RowKit

theorem hello_e (g : Nat) (S S' : Rn) (v : Int) (he : S.hello = (v, S')) (w : World) (h : RunAt w g S) :
    Calls Try.prog 36 #[.pointer (some ⟨g, 0, none⟩)] w fun e w' => e = .returned (.int .i64 v) ∧ RunAt w' g S' ∧ Kp (· = g) w w' := by
  have := hello_c g S w h; rw [he] at this; exact this
theorem stop_e (g : Nat) (S S' : Rn) (v due : Int) (he : S.stop due = (v, S')) (w : World) (h : RunAt w g S) :
    Calls Try.prog 37 #[.pointer (some ⟨g, 0, none⟩), .int .i64 due] w fun e w' => e = .returned (.int .i64 v) ∧ RunAt w' g S' ∧ Kp (· = g) w w' := by
  have := stop_c g S due w h; rw [he] at this; exact this
theorem fin_e (g : Nat) (S S' : Rn) (v : Int) (he : S.fin = (v, S')) (w : World) (h : RunAt w g S) :
    Calls Try.prog 38 #[.pointer (some ⟨g, 0, none⟩)] w fun e w' => e = .returned (.int .i64 v) ∧ RunAt w' g S' ∧ Kp (· = g) w w' := by
  have := fin_c g S w h; rw [he] at this; exact this
theorem begin_e (g : Nat) (S S' : Rn) (v ph due : Int) (he : S.begin ph due = (v, S')) (w : World) (h : RunAt w g S) :
    Calls Try.prog 40 #[.pointer (some ⟨g, 0, none⟩), .int .i64 ph, .int .i64 due] w fun e w' => e = .returned (.int .i64 v) ∧ RunAt w' g S' ∧ Kp (· = g) w w' := by
  have := begin_c g S ph due w h; rw [he] at this; exact this
theorem late_e (g : Nat) (S : Rn) (now : Int) (b : Bool) (he : S.late now = b) (w : World) (h : RunAt w g S) :
    Calls Try.prog 39 #[.pointer (some ⟨g, 0, none⟩), .int .i64 now] w fun e w' => e = .returned (.bool b) ∧ w = w' := he ▸ late_c g S now w h

theorem wakes12_c (w : World) :
    Calls Try.prog 42 #[] w fun e w' => e = .returned (.bool true) ∧ Kp0 w w' := by
  go_enter Try.func42, Try.ntmps42
  go_wp2_with fail
  refine (run_new_c _ _ _ _).mono ?_
  rintro e w0 ⟨g, rfl, hg, h, K⟩
  go_wp2_with fail
  refine (who_c g _ _ h).mono ?_
  rintro e w1 ⟨rfl, k'⟩
  have h' := h.kp k' (fun x => x)
  have K' := K.then0 k'
  clear h K k'
  have h := h'
  have K := K'
  clear h' K'
  go_wp2_with fail
  refine (phase_c g _ _ h).mono ?_
  rintro e w' ⟨rfl, rfl⟩
  go_wp2_with fail
  refine (begin_e g _ ⟨_, _, 2, 1, 5, true⟩ 0 1 5 rfl _ h).mono ?_
  rintro e w2 ⟨rfl, h', k'⟩
  have K' := K.new k' hg
  clear h K k'
  have h := h'
  have K := K'
  clear h' K'
  go_wp2_with fail
  refine (late_e g _ 5 true rfl _ h).mono ?_
  rintro e w' ⟨rfl, rfl⟩
  go_wp2
  go_ret
  exact ⟨rfl, K⟩

set_option maxRecDepth 100000 in
set_option maxHeartbeats 4000000 in
theorem ways_c (a b c : Int) (w : World) :
    Calls Try.prog 7 #[.int .i64 a, .int .i64 b, .int .i64 c] w fun e w' => e = .returned (.bool true) ∧ Kp0 w w' := by
  go_enter Try.func7, Try.ntmps7
  go_wp2_with fail
  refine (within_x _ _ (by omega) (by omega) _).mono ?_
  rintro e w' ⟨D, hD0, hD1, rfl, rfl⟩
  go_wp2_with fail
  refine (run_new_c _ _ _ _).mono ?_
  rintro e w0 ⟨g, rfl, hg, h, K⟩
  go_wp2_with fail
  refine (hello_e g _ ⟨_, _, 1, 0, 0, false⟩ 8 rfl _ h).mono ?_
  rintro e w1 ⟨rfl, h', k'⟩
  have K' := K.new k' hg
  clear h K k'
  have h := h'
  have K := K'
  clear h' K'
  go_wp2_with fail
  refine (stop_e g _ ⟨_, _, 1, 0, 0, false⟩ 8 _ rfl _ h).mono ?_
  rintro e w2 ⟨rfl, h', k'⟩
  have K' := K.new k' hg
  clear h K k'
  have h := h'
  have K := K'
  clear h' K'
  go_wp2_with fail
  refine (fin_e g _ ⟨_, _, 1, 0, 0, false⟩ 8 rfl _ h).mono ?_
  rintro e w3 ⟨rfl, h', k'⟩
  have K' := K.new k' hg
  clear h K k'
  have h := h'
  have K := K'
  clear h' K'
  go_wp2_with fail
  refine (late_e g _ _ false rfl _ h).mono ?_
  rintro e w' ⟨rfl, rfl⟩
  go_wp2_with fail
  refine (begin_e g _ ⟨_, _, 1, 0, 0, false⟩ 1 _ _ rfl _ h).mono ?_
  rintro e w4 ⟨rfl, h', k'⟩
  have K' := K.new k' hg
  clear h K k'
  have h := h'
  have K := K'
  clear h' K'
  go_wp2_with fail
  refine (begin_e g _ ⟨_, _, 1, 0, 0, false⟩ 1 _ _ rfl _ h).mono ?_
  rintro e w5 ⟨rfl, h', k'⟩
  have K' := K.new k' hg
  clear h K k'
  have h := h'
  have K := K'
  clear h' K'
  go_wp2_with fail
  refine (begin_e g _ ⟨_, _, 1, 0, 0, false⟩ 1 _ _ rfl _ h).mono ?_
  rintro e w6 ⟨rfl, h', k'⟩
  have K' := K.new k' hg
  clear h K k'
  have h := h'
  have K := K'
  clear h' K'
  go_wp2_with fail
  refine (within_x _ _ (by omega) (by omega) _).mono ?_
  rintro e w' ⟨R, hR0, hR1, rfl, rfl⟩
  go_wp2_with fail
  obtain ⟨P, hP, hP14⟩ : ∃ P : Int, [Value.int .i64 1, Value.int .i64 4][R.toNat]'(by simp; omega) = .int .i64 P ∧ (P = 1 ∨ P = 4) := by
    have : R = 0 ∨ R = 1 := by omega
    rcases this with rfl | rfl
    · exact ⟨1, rfl, .inl rfl⟩
    · exact ⟨4, rfl, .inr rfl⟩
  rw [hP]
  have b1 : (P != 1 && P != 4) = false := by rcases hP14 with rfl | rfl <;> rfl
  have o1 : on P = true := by rcases hP14 with rfl | rfl <;> rfl
  have z1 : (P != 0) = true := by rcases hP14 with rfl | rfl <;> rfl
  have g1 : ∀ F E : ByteArray, Rn.begin ⟨F, E, 1, 0, 0, false⟩ P D = (0, ⟨F, E, 1, P, D, true⟩) := by intro F E; unfold Rn.begin; rw [b1]; rfl
  have g2 : ∀ F E : ByteArray, Rn.begin ⟨F, E, 1, P, D, true⟩ P D = (8, ⟨F, E, 1, P, D, true⟩) := by intro F E; unfold Rn.begin; rw [b1]; simp [z1]
  have l1 : ∀ F E : ByteArray, Rn.late ⟨F, E, 1, P, D, true⟩ D = true := by intro F E; unfold Rn.late; simp
  have l2 : ∀ F E : ByteArray, Rn.late ⟨F, E, 1, P, D, true⟩ (D + 1) = true := by intro F E; unfold Rn.late; simp; omega
  have l3 : ∀ F E : ByteArray, Rn.late ⟨F, E, 1, P, D, true⟩ (D - 1) = false := by intro F E; unfold Rn.late; simp; omega
  have s1 : ∀ F E : ByteArray, Rn.hello ⟨F, E, 1, P, D, true⟩ = (0, ⟨F, E, 1, 2, 0, false⟩) := by intro F E; unfold Rn.hello; rw [o1]; rfl
  have p1 : ∀ F E : ByteArray, Rn.stop ⟨F, E, 1, P, D, true⟩ (D + 5) = (0, ⟨F, E, 1, 3, D + 5, true⟩) := by intro F E; unfold Rn.stop; rw [o1]; rfl
  have p2 : ∀ F E : ByteArray, Rn.stop ⟨F, E, 1, 2, 0, false⟩ (D + 5) = (0, ⟨F, E, 1, 3, D + 5, true⟩) := by intro F E; rfl
  have m1 : ∀ F E : ByteArray, Rn.late ⟨F, E, 1, 3, D + 5, true⟩ (D + 4) = false := by intro F E; unfold Rn.late; simp
  have m2 : ∀ F E : ByteArray, Rn.late ⟨F, E, 1, 3, D + 5, true⟩ (D + 5) = true := by intro F E; unfold Rn.late; simp
  have m3 : ∀ F E : ByteArray, Rn.begin ⟨F, E, 1, 5, 0, false⟩ P D = (8, ⟨F, E, 1, 5, 0, false⟩) := by intro F E; unfold Rn.begin; rw [b1]; rfl
  have G1 := Lib.hid g1; have G2 := Lib.hid g2; have L1 := Lib.hid l1; have L2 := Lib.hid l2; have L3 := Lib.hid l3; have S1 := Lib.hid s1; have P1 := Lib.hid p1; have P2 := Lib.hid p2; have M1 := Lib.hid m1; have M2 := Lib.hid m2; have M3 := Lib.hid m3
  clear g1 g2 l1 l2 l3 s1 p1 p2 m1 m2 m3 b1 o1 z1 hP hP14
  have h' := Blk.alloc h (.cells #[.int .i64 1, .int .i64 4] 3)
  have K' := K.alloc (.cells #[.int .i64 1, .int .i64 4] 3)
  clear h K
  have h := h'
  have K := K'
  clear h' K'

  by_cases hd : 0 < D
  · by_cases hb0 : (b.tmod 2 == 0) = true
    · have hb : (b.tmod 2 == 0) = true := hb0
      clear hb0
      go_wp2_with fail
      refine (begin_e g _ ⟨_, _, 1, P, D, true⟩ 0 _ _ (G1.out _ _) _ h).mono ?_
      rintro e w21 ⟨rfl, h', k'⟩
      have K' := K.new k' hg
      clear h K k'
      have h := h'
      have K := K'
      clear h' K'
      go_wp2_with fail
      refine (begin_e g _ ⟨_, _, 1, P, D, true⟩ 8 _ _ (G2.out _ _) _ h).mono ?_
      rintro e w22 ⟨rfl, h', k'⟩
      have K' := K.new k' hg
      clear h K k'
      have h := h'
      have K := K'
      clear h' K'
      go_wp2_with fail
      refine (phase_c g _ _ h).mono ?_
      rintro e w' ⟨rfl, rfl⟩
      go_wp2_with fail
      refine (late_e g _ _ true (L1.out _ _) _ h).mono ?_
      rintro e w' ⟨rfl, rfl⟩
      go_wp2_with fail
      refine (late_e g _ _ true (L2.out _ _) _ h).mono ?_
      rintro e w' ⟨rfl, rfl⟩
      go_wp2_with fail
      refine (late_e g _ _ false (L3.out _ _) _ h).mono ?_
      rintro e w' ⟨rfl, rfl⟩
      go_wp2_with fail
      refine (hello_e g _ ⟨_, _, 1, 2, 0, false⟩ 0 (S1.out _ _) _ h).mono ?_
      rintro e w23 ⟨rfl, h', k'⟩
      have K' := K.new k' hg
      clear h K k'
      have h := h'
      have K := K'
      clear h' K'
      go_wp2_with fail
      refine (phase_c g _ _ h).mono ?_
      rintro e w' ⟨rfl, rfl⟩
      go_wp2_with fail
      refine (late_e g _ _ false rfl _ h).mono ?_
      rintro e w' ⟨rfl, rfl⟩
      go_wp2_with fail
      refine (hello_e g _ ⟨_, _, 1, 2, 0, false⟩ 0 rfl _ h).mono ?_
      rintro e w24 ⟨rfl, h', k'⟩
      have K' := K.new k' hg
      clear h K k'
      have h := h'
      have K := K'
      clear h' K'
      go_wp2_with fail
      refine (stop_e g _ ⟨_, _, 1, 3, D + 5, true⟩ 0 _ (P2.out _ _) _ h).mono ?_
      rintro e w25 ⟨rfl, h', k'⟩
      have K' := K.new k' hg
      clear h K k'
      have h := h'
      have K := K'
      clear h' K'
      go_wp2_with fail
      refine (phase_c g _ _ h).mono ?_
      rintro e w' ⟨rfl, rfl⟩
      go_wp2_with fail
      refine (late_e g _ _ false (M1.out _ _) _ h).mono ?_
      rintro e w' ⟨rfl, rfl⟩
      go_wp2_with fail
      refine (late_e g _ _ true (M2.out _ _) _ h).mono ?_
      rintro e w' ⟨rfl, rfl⟩
      go_wp2_with fail
      refine (hello_e g _ ⟨_, _, 1, 3, D + 5, true⟩ 8 rfl _ h).mono ?_
      rintro e w26 ⟨rfl, h', k'⟩
      have K' := K.new k' hg
      clear h K k'
      have h := h'
      have K := K'
      clear h' K'
      go_wp2_with fail
      refine (stop_e g _ ⟨_, _, 1, 3, D + 5, true⟩ 8 _ rfl _ h).mono ?_
      rintro e w27 ⟨rfl, h', k'⟩
      have K' := K.new k' hg
      clear h K k'
      have h := h'
      have K := K'
      clear h' K'
      go_wp2_with fail
      refine (fin_e g _ ⟨_, _, 1, 5, 0, false⟩ 0 rfl _ h).mono ?_
      rintro e w28 ⟨rfl, h', k'⟩
      have K' := K.new k' hg
      clear h K k'
      have h := h'
      have K := K'
      clear h' K'
      go_wp2_with fail
      refine (phase_c g _ _ h).mono ?_
      rintro e w' ⟨rfl, rfl⟩
      go_wp2_with fail
      refine (late_e g _ _ false rfl _ h).mono ?_
      rintro e w' ⟨rfl, rfl⟩
      go_wp2_with fail
      refine (fin_e g _ ⟨_, _, 1, 5, 0, false⟩ 8 rfl _ h).mono ?_
      rintro e w29 ⟨rfl, h', k'⟩
      have K' := K.new k' hg
      clear h K k'
      have h := h'
      have K := K'
      clear h' K'
      go_wp2_with fail
      refine (hello_e g _ ⟨_, _, 1, 5, 0, false⟩ 8 rfl _ h).mono ?_
      rintro e w30 ⟨rfl, h', k'⟩
      have K' := K.new k' hg
      clear h K k'
      have h := h'
      have K := K'
      clear h' K'
      go_wp2_with fail
      refine (begin_e g _ ⟨_, _, 1, 5, 0, false⟩ 8 _ _ (M3.out _ _) _ h).mono ?_
      rintro e w31 ⟨rfl, h', k'⟩
      have K' := K.new k' hg
      clear h K k'
      have h := h'
      have K := K'
      clear h' K'
      go_wp2_with fail
      refine (wakes12_c _).mono ?_
      rintro e w99 ⟨rfl, k'⟩
      go_wp2
      go_ret
      exact ⟨rfl, K.then0 k'⟩
    · have hb : (b.tmod 2 == 0) = false := by simpa using hb0
      clear hb0
      go_wp2_with fail
      refine (begin_e g _ ⟨_, _, 1, P, D, true⟩ 0 _ _ (G1.out _ _) _ h).mono ?_
      rintro e w21 ⟨rfl, h', k'⟩
      have K' := K.new k' hg
      clear h K k'
      have h := h'
      have K := K'
      clear h' K'
      go_wp2_with fail
      refine (begin_e g _ ⟨_, _, 1, P, D, true⟩ 8 _ _ (G2.out _ _) _ h).mono ?_
      rintro e w22 ⟨rfl, h', k'⟩
      have K' := K.new k' hg
      clear h K k'
      have h := h'
      have K := K'
      clear h' K'
      go_wp2_with fail
      refine (phase_c g _ _ h).mono ?_
      rintro e w' ⟨rfl, rfl⟩
      go_wp2_with fail
      refine (late_e g _ _ true (L1.out _ _) _ h).mono ?_
      rintro e w' ⟨rfl, rfl⟩
      go_wp2_with fail
      refine (late_e g _ _ true (L2.out _ _) _ h).mono ?_
      rintro e w' ⟨rfl, rfl⟩
      go_wp2_with fail
      refine (late_e g _ _ false (L3.out _ _) _ h).mono ?_
      rintro e w' ⟨rfl, rfl⟩
      go_wp2_with fail
      refine (stop_e g _ ⟨_, _, 1, 3, D + 5, true⟩ 0 _ (P1.out _ _) _ h).mono ?_
      rintro e w23 ⟨rfl, h', k'⟩
      have K' := K.new k' hg
      clear h K k'
      have h := h'
      have K := K'
      clear h' K'
      go_wp2_with fail
      refine (phase_c g _ _ h).mono ?_
      rintro e w' ⟨rfl, rfl⟩
      go_wp2_with fail
      refine (late_e g _ _ false (M1.out _ _) _ h).mono ?_
      rintro e w' ⟨rfl, rfl⟩
      go_wp2_with fail
      refine (late_e g _ _ true (M2.out _ _) _ h).mono ?_
      rintro e w' ⟨rfl, rfl⟩
      go_wp2_with fail
      refine (hello_e g _ ⟨_, _, 1, 3, D + 5, true⟩ 8 rfl _ h).mono ?_
      rintro e w24 ⟨rfl, h', k'⟩
      have K' := K.new k' hg
      clear h K k'
      have h := h'
      have K := K'
      clear h' K'
      go_wp2_with fail
      refine (stop_e g _ ⟨_, _, 1, 3, D + 5, true⟩ 8 _ rfl _ h).mono ?_
      rintro e w25 ⟨rfl, h', k'⟩
      have K' := K.new k' hg
      clear h K k'
      have h := h'
      have K := K'
      clear h' K'
      go_wp2_with fail
      refine (fin_e g _ ⟨_, _, 1, 5, 0, false⟩ 0 rfl _ h).mono ?_
      rintro e w26 ⟨rfl, h', k'⟩
      have K' := K.new k' hg
      clear h K k'
      have h := h'
      have K := K'
      clear h' K'
      go_wp2_with fail
      refine (phase_c g _ _ h).mono ?_
      rintro e w' ⟨rfl, rfl⟩
      go_wp2_with fail
      refine (late_e g _ _ false rfl _ h).mono ?_
      rintro e w' ⟨rfl, rfl⟩
      go_wp2_with fail
      refine (fin_e g _ ⟨_, _, 1, 5, 0, false⟩ 8 rfl _ h).mono ?_
      rintro e w27 ⟨rfl, h', k'⟩
      have K' := K.new k' hg
      clear h K k'
      have h := h'
      have K := K'
      clear h' K'
      go_wp2_with fail
      refine (hello_e g _ ⟨_, _, 1, 5, 0, false⟩ 8 rfl _ h).mono ?_
      rintro e w28 ⟨rfl, h', k'⟩
      have K' := K.new k' hg
      clear h K k'
      have h := h'
      have K := K'
      clear h' K'
      go_wp2_with fail
      refine (begin_e g _ ⟨_, _, 1, 5, 0, false⟩ 8 _ _ (M3.out _ _) _ h).mono ?_
      rintro e w29 ⟨rfl, h', k'⟩
      have K' := K.new k' hg
      clear h K k'
      have h := h'
      have K := K'
      clear h' K'
      go_wp2_with fail
      refine (wakes12_c _).mono ?_
      rintro e w99 ⟨rfl, k'⟩
      go_wp2
      go_ret
      exact ⟨rfl, K.then0 k'⟩
  · have hd' : D ≤ 0 := by omega
    clear hd
    by_cases hb0 : (b.tmod 2 == 0) = true
    · have hb : (b.tmod 2 == 0) = true := hb0
      clear hb0
      go_wp2_with fail
      refine (begin_e g _ ⟨_, _, 1, P, D, true⟩ 0 _ _ (G1.out _ _) _ h).mono ?_
      rintro e w21 ⟨rfl, h', k'⟩
      have K' := K.new k' hg
      clear h K k'
      have h := h'
      have K := K'
      clear h' K'
      go_wp2_with fail
      refine (begin_e g _ ⟨_, _, 1, P, D, true⟩ 8 _ _ (G2.out _ _) _ h).mono ?_
      rintro e w22 ⟨rfl, h', k'⟩
      have K' := K.new k' hg
      clear h K k'
      have h := h'
      have K := K'
      clear h' K'
      go_wp2_with fail
      refine (phase_c g _ _ h).mono ?_
      rintro e w' ⟨rfl, rfl⟩
      go_wp2_with fail
      refine (late_e g _ _ true (L1.out _ _) _ h).mono ?_
      rintro e w' ⟨rfl, rfl⟩
      go_wp2_with fail
      refine (late_e g _ _ true (L2.out _ _) _ h).mono ?_
      rintro e w' ⟨rfl, rfl⟩
      go_wp2_with fail
      refine (hello_e g _ ⟨_, _, 1, 2, 0, false⟩ 0 (S1.out _ _) _ h).mono ?_
      rintro e w23 ⟨rfl, h', k'⟩
      have K' := K.new k' hg
      clear h K k'
      have h := h'
      have K := K'
      clear h' K'
      go_wp2_with fail
      refine (phase_c g _ _ h).mono ?_
      rintro e w' ⟨rfl, rfl⟩
      go_wp2_with fail
      refine (late_e g _ _ false rfl _ h).mono ?_
      rintro e w' ⟨rfl, rfl⟩
      go_wp2_with fail
      refine (hello_e g _ ⟨_, _, 1, 2, 0, false⟩ 0 rfl _ h).mono ?_
      rintro e w24 ⟨rfl, h', k'⟩
      have K' := K.new k' hg
      clear h K k'
      have h := h'
      have K := K'
      clear h' K'
      go_wp2_with fail
      refine (stop_e g _ ⟨_, _, 1, 3, D + 5, true⟩ 0 _ (P2.out _ _) _ h).mono ?_
      rintro e w25 ⟨rfl, h', k'⟩
      have K' := K.new k' hg
      clear h K k'
      have h := h'
      have K := K'
      clear h' K'
      go_wp2_with fail
      refine (phase_c g _ _ h).mono ?_
      rintro e w' ⟨rfl, rfl⟩
      go_wp2_with fail
      refine (late_e g _ _ false (M1.out _ _) _ h).mono ?_
      rintro e w' ⟨rfl, rfl⟩
      go_wp2_with fail
      refine (late_e g _ _ true (M2.out _ _) _ h).mono ?_
      rintro e w' ⟨rfl, rfl⟩
      go_wp2_with fail
      refine (hello_e g _ ⟨_, _, 1, 3, D + 5, true⟩ 8 rfl _ h).mono ?_
      rintro e w26 ⟨rfl, h', k'⟩
      have K' := K.new k' hg
      clear h K k'
      have h := h'
      have K := K'
      clear h' K'
      go_wp2_with fail
      refine (stop_e g _ ⟨_, _, 1, 3, D + 5, true⟩ 8 _ rfl _ h).mono ?_
      rintro e w27 ⟨rfl, h', k'⟩
      have K' := K.new k' hg
      clear h K k'
      have h := h'
      have K := K'
      clear h' K'
      go_wp2_with fail
      refine (fin_e g _ ⟨_, _, 1, 5, 0, false⟩ 0 rfl _ h).mono ?_
      rintro e w28 ⟨rfl, h', k'⟩
      have K' := K.new k' hg
      clear h K k'
      have h := h'
      have K := K'
      clear h' K'
      go_wp2_with fail
      refine (phase_c g _ _ h).mono ?_
      rintro e w' ⟨rfl, rfl⟩
      go_wp2_with fail
      refine (late_e g _ _ false rfl _ h).mono ?_
      rintro e w' ⟨rfl, rfl⟩
      go_wp2_with fail
      refine (fin_e g _ ⟨_, _, 1, 5, 0, false⟩ 8 rfl _ h).mono ?_
      rintro e w29 ⟨rfl, h', k'⟩
      have K' := K.new k' hg
      clear h K k'
      have h := h'
      have K := K'
      clear h' K'
      go_wp2_with fail
      refine (hello_e g _ ⟨_, _, 1, 5, 0, false⟩ 8 rfl _ h).mono ?_
      rintro e w30 ⟨rfl, h', k'⟩
      have K' := K.new k' hg
      clear h K k'
      have h := h'
      have K := K'
      clear h' K'
      go_wp2_with fail
      refine (begin_e g _ ⟨_, _, 1, 5, 0, false⟩ 8 _ _ (M3.out _ _) _ h).mono ?_
      rintro e w31 ⟨rfl, h', k'⟩
      have K' := K.new k' hg
      clear h K k'
      have h := h'
      have K := K'
      clear h' K'
      go_wp2_with fail
      refine (wakes12_c _).mono ?_
      rintro e w99 ⟨rfl, k'⟩
      go_wp2
      go_ret
      exact ⟨rfl, K.then0 k'⟩
    · have hb : (b.tmod 2 == 0) = false := by simpa using hb0
      clear hb0
      go_wp2_with fail
      refine (begin_e g _ ⟨_, _, 1, P, D, true⟩ 0 _ _ (G1.out _ _) _ h).mono ?_
      rintro e w21 ⟨rfl, h', k'⟩
      have K' := K.new k' hg
      clear h K k'
      have h := h'
      have K := K'
      clear h' K'
      go_wp2_with fail
      refine (begin_e g _ ⟨_, _, 1, P, D, true⟩ 8 _ _ (G2.out _ _) _ h).mono ?_
      rintro e w22 ⟨rfl, h', k'⟩
      have K' := K.new k' hg
      clear h K k'
      have h := h'
      have K := K'
      clear h' K'
      go_wp2_with fail
      refine (phase_c g _ _ h).mono ?_
      rintro e w' ⟨rfl, rfl⟩
      go_wp2_with fail
      refine (late_e g _ _ true (L1.out _ _) _ h).mono ?_
      rintro e w' ⟨rfl, rfl⟩
      go_wp2_with fail
      refine (late_e g _ _ true (L2.out _ _) _ h).mono ?_
      rintro e w' ⟨rfl, rfl⟩
      go_wp2_with fail
      refine (stop_e g _ ⟨_, _, 1, 3, D + 5, true⟩ 0 _ (P1.out _ _) _ h).mono ?_
      rintro e w23 ⟨rfl, h', k'⟩
      have K' := K.new k' hg
      clear h K k'
      have h := h'
      have K := K'
      clear h' K'
      go_wp2_with fail
      refine (phase_c g _ _ h).mono ?_
      rintro e w' ⟨rfl, rfl⟩
      go_wp2_with fail
      refine (late_e g _ _ false (M1.out _ _) _ h).mono ?_
      rintro e w' ⟨rfl, rfl⟩
      go_wp2_with fail
      refine (late_e g _ _ true (M2.out _ _) _ h).mono ?_
      rintro e w' ⟨rfl, rfl⟩
      go_wp2_with fail
      refine (hello_e g _ ⟨_, _, 1, 3, D + 5, true⟩ 8 rfl _ h).mono ?_
      rintro e w24 ⟨rfl, h', k'⟩
      have K' := K.new k' hg
      clear h K k'
      have h := h'
      have K := K'
      clear h' K'
      go_wp2_with fail
      refine (stop_e g _ ⟨_, _, 1, 3, D + 5, true⟩ 8 _ rfl _ h).mono ?_
      rintro e w25 ⟨rfl, h', k'⟩
      have K' := K.new k' hg
      clear h K k'
      have h := h'
      have K := K'
      clear h' K'
      go_wp2_with fail
      refine (fin_e g _ ⟨_, _, 1, 5, 0, false⟩ 0 rfl _ h).mono ?_
      rintro e w26 ⟨rfl, h', k'⟩
      have K' := K.new k' hg
      clear h K k'
      have h := h'
      have K := K'
      clear h' K'
      go_wp2_with fail
      refine (phase_c g _ _ h).mono ?_
      rintro e w' ⟨rfl, rfl⟩
      go_wp2_with fail
      refine (late_e g _ _ false rfl _ h).mono ?_
      rintro e w' ⟨rfl, rfl⟩
      go_wp2_with fail
      refine (fin_e g _ ⟨_, _, 1, 5, 0, false⟩ 8 rfl _ h).mono ?_
      rintro e w27 ⟨rfl, h', k'⟩
      have K' := K.new k' hg
      clear h K k'
      have h := h'
      have K := K'
      clear h' K'
      go_wp2_with fail
      refine (hello_e g _ ⟨_, _, 1, 5, 0, false⟩ 8 rfl _ h).mono ?_
      rintro e w28 ⟨rfl, h', k'⟩
      have K' := K.new k' hg
      clear h K k'
      have h := h'
      have K := K'
      clear h' K'
      go_wp2_with fail
      refine (begin_e g _ ⟨_, _, 1, 5, 0, false⟩ 8 _ _ (M3.out _ _) _ h).mono ?_
      rintro e w29 ⟨rfl, h', k'⟩
      have K' := K.new k' hg
      clear h K k'
      have h := h'
      have K := K'
      clear h' K'
      go_wp2_with fail
      refine (wakes12_c _).mono ?_
      rintro e w99 ⟨rfl, k'⟩
      go_wp2
      go_ret
      exact ⟨rfl, K.then0 k'⟩

theorem ways_w (a b c : Int) (w : World) (_ : (Lit.int .i64 a).wf = true) (_ : (Lit.int .i64 b).wf = true) (_ : (Lit.int .i64 c).wf = true) :
    Calls Try.prog 7 #[.int .i64 a, .int .i64 b, .int .i64 c] w fun e w' => e = .returned (.bool true) ∧ Below w.heap.size w w' :=
  (ways_c a b c w).mono fun _ _ h => ⟨h.1, h.2.below0⟩

end Go.Proofs.Ytnlkkcpcjeeplaa
