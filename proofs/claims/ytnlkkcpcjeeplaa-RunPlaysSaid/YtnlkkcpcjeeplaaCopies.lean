/- The walk of RunCopies. -/
import Derived.Test.YtnlkkcpcjeeplaaWays
namespace Go.Proofs.Ytnlkkcpcjeeplaa
open Go.RowKit

theorem RunAt.lt {w : World} {g : Nat} {r : Rn} (h : RunAt w g r) : g < w.heap.size := Blk.lt h

set_option maxRecDepth 100000 in
set_option maxHeartbeats 4000000 in
theorem copies_c (a b : Int) (w : World) :
    Calls Try.prog 8 #[.int .i64 a, .int .i64 b] w fun e w' => e = .returned (.bool true) ∧ Kp0 w w' := by
  go_enter Try.func8, Try.ntmps8
  go_wp2_with fail
  refine (within_x _ _ (by omega) (by omega) _).mono ?_
  rintro e w' ⟨D, hD0, hD1, rfl, rfl⟩
  go_wp2_with fail
  refine (within_x _ _ (by omega) (by omega) _).mono ?_
  rintro e w' ⟨M, hM0, hM1, rfl, rfl⟩
  have l1 : ∀ F E : ByteArray, Rn.late ⟨F, E, M, 4, D, true⟩ D = true := by intro F E; unfold Rn.late; simp
  have m1 : ∀ F E : ByteArray, Rn.late ⟨F, E, M, 3, D + 7, true⟩ (D + 6) = false := by intro F E; unfold Rn.late; simp
  have m2 : ∀ F E : ByteArray, Rn.late ⟨F, E, M, 3, D + 7, true⟩ (D + 7) = true := by intro F E; unfold Rn.late; simp
  have L1 := Lib.hid l1; have M1 := Lib.hid m1; have M2 := Lib.hid m2
  clear l1 m1 m2
  go_wp2_with fail
  refine (run_new_c _ _ _ _).mono ?_
  rintro e w1 ⟨gr, rfl, br', hr, k'⟩
  have br := br'
  have K := k'
  clear br' k'
  go_wp2_with fail
  refine (begin_e gr _ ⟨_, _, M, 4, D, true⟩ 0 4 D rfl _ hr).mono ?_
  rintro e w2 ⟨rfl, hh, k'⟩
  clear hr
  have hr := hh
  clear hh
  have K' := K.new k' br
  clear K k'
  have K := K'
  clear K'
  go_wp2_with fail
  refine (clone_c gr _ _ hr).mono ?_
  rintro e w3 ⟨gc, rfl, bc', hc, k'⟩
  have bc : w.heap.size ≤ gc := Nat.le_trans K.size bc'
  have nrc : gr ≠ gc := Nat.ne_of_lt (Nat.lt_of_lt_of_le hr.lt bc')
  have hr' := hr.kp k' (fun x => x)
  clear hr
  have hr := hr'
  clear hr'
  have K' := K.then0 k'
  clear K
  have K := K'
  clear K'
  clear bc' k'
  go_wp2_with fail
  refine (phase_c gc _ _ hc).mono ?_
  rintro e w' ⟨rfl, rfl⟩
  go_wp2_with fail
  refine (late_e gc _ _ true (L1.out _ _) _ hc).mono ?_
  rintro e w' ⟨rfl, rfl⟩
  go_wp2_with fail
  refine (hello_e gc _ ⟨_, _, M, 2, 0, false⟩ 0 rfl _ hc).mono ?_
  rintro e w4 ⟨rfl, hh, k'⟩
  clear hc
  have hc := hh
  clear hh
  have hr' := hr.kp k' nrc
  clear hr
  have hr := hr'
  clear hr'
  have K' := K.new k' bc
  clear K k'
  have K := K'
  clear K'
  go_wp2_with fail
  refine (phase_c gr _ _ hr).mono ?_
  rintro e w' ⟨rfl, rfl⟩
  go_wp2_with fail
  refine (late_e gr _ _ true (L1.out _ _) _ hr).mono ?_
  rintro e w' ⟨rfl, rfl⟩
  go_wp2_with fail
  refine (clone_c gc _ _ hc).mono ?_
  rintro e w5 ⟨gd, rfl, bd', hd, k'⟩
  have bd : w.heap.size ≤ gd := Nat.le_trans K.size bd'
  have nrd : gr ≠ gd := Nat.ne_of_lt (Nat.lt_of_lt_of_le hr.lt bd')
  have hr' := hr.kp k' (fun x => x)
  clear hr
  have hr := hr'
  clear hr'
  have ncd : gc ≠ gd := Nat.ne_of_lt (Nat.lt_of_lt_of_le hc.lt bd')
  have hc' := hc.kp k' (fun x => x)
  clear hc
  have hc := hc'
  clear hc'
  have K' := K.then0 k'
  clear K
  have K := K'
  clear K'
  clear bd' k'
  go_wp2_with fail
  refine (phase_c gd _ _ hd).mono ?_
  rintro e w' ⟨rfl, rfl⟩
  go_wp2_with fail
  refine (stop_e gd _ ⟨_, _, M, 3, D + 7, true⟩ 0 (D + 7) rfl _ hd).mono ?_
  rintro e w6 ⟨rfl, hh, k'⟩
  clear hd
  have hd := hh
  clear hh
  have hr' := hr.kp k' nrd
  clear hr
  have hr := hr'
  clear hr'
  have hc' := hc.kp k' ncd
  clear hc
  have hc := hc'
  clear hc'
  have K' := K.new k' bd
  clear K k'
  have K := K'
  clear K'
  go_wp2_with fail
  refine (phase_c gc _ _ hc).mono ?_
  rintro e w' ⟨rfl, rfl⟩
  go_wp2_with fail
  refine (late_e gd _ _ false (M1.out _ _) _ hd).mono ?_
  rintro e w' ⟨rfl, rfl⟩
  go_wp2_with fail
  refine (late_e gd _ _ true (M2.out _ _) _ hd).mono ?_
  rintro e w' ⟨rfl, rfl⟩
  go_wp2_with fail
  refine (fin_e gr _ ⟨_, _, M, 5, 0, false⟩ 0 rfl _ hr).mono ?_
  rintro e w7 ⟨rfl, hh, k'⟩
  clear hr
  have hr := hh
  clear hh
  have hc' := hc.kp k' nrc.symm
  clear hc
  have hc := hc'
  clear hc'
  have hd' := hd.kp k' nrd.symm
  clear hd
  have hd := hd'
  clear hd'
  have K' := K.new k' br
  clear K k'
  have K := K'
  clear K'
  go_wp2_with fail
  refine (phase_c gc _ _ hc).mono ?_
  rintro e w' ⟨rfl, rfl⟩
  go_wp2_with fail
  refine (phase_c gd _ _ hd).mono ?_
  rintro e w' ⟨rfl, rfl⟩
  go_wp2_with fail
  refine (who_c gd _ _ hd).mono ?_
  rintro e w8 ⟨rfl, k'⟩
  have hr' := hr.kp k' (fun x => x)
  clear hr
  have hr := hr'
  clear hr'
  have hc' := hc.kp k' (fun x => x)
  clear hc
  have hc := hc'
  clear hc'
  have hd' := hd.kp k' (fun x => x)
  clear hd
  have hd := hd'
  clear hd'
  have K' := K.then0 k'
  clear K k'
  have K := K'
  clear K'
  go_wp2_with fail
  refine (wakes12_c _).mono ?_
  rintro e w99 ⟨rfl, k'⟩
  go_wp2
  go_ret
  exact ⟨rfl, K.then0 k'⟩

theorem copies_w (a b : Int) (w : World) (_ : (Lit.int .i64 a).wf = true) (_ : (Lit.int .i64 b).wf = true) :
    Calls Try.prog 8 #[.int .i64 a, .int .i64 b] w fun e w' => e = .returned (.bool true) ∧ Below w.heap.size w w' :=
  (copies_c a b w).mono fun _ _ h => ⟨h.1, h.2.below0⟩

end Go.Proofs.Ytnlkkcpcjeeplaa
