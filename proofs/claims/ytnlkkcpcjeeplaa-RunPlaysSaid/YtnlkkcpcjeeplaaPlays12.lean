/- The walk of RunPlays. -/
import Derived.Test.YtnlkkcpcjeeplaaRef12
import Derived.Test.YtnlkkcpcjeeplaaOwn
namespace Go.Proofs.Ytnlkkcpcjeeplaa
open Go.RowKit

def PlRel (f e : ByteArray) (n : Int) (w : World) (g g2 : Nat) (wr : World) : Prop := ∃ r, RunAt wr g r ∧ RfAt wr g2 r ∧ WfR r ∧ Who f e n r ∧ Kp0 w wr

set_option maxRecDepth 100000 in
set_option maxHeartbeats 8000000 in
theorem plays12_c (f e : ByteArray) (n : Int) (a : Option Addr) (len cap : Nat) (V : Nat → Nat → Int) (w : World) (hs : Sl w a len cap 4 (fun i j => .int .i64 (V i j))) :
    Calls Try.prog 9 #[.string f, .string e, .int .i64 n, .slice a len cap] w fun e' w' => e' = .returned (.bool true) ∧ Kp0 w w' := by
  obtain ⟨hl, hc, hz⟩ := hs
  go_enter Try.func9, Try.ntmps9
  go_wp2_with fail
  refine (run_new_c _ _ _ _).mono ?_
  rintro e' w1 ⟨g, rfl, hg, h1, k1⟩
  go_wp2_with fail
  refine (rnew_c _ _ _ _).mono ?_
  rintro e' w2 ⟨g2, rfl, hg2, h2, k2⟩
  have ne : g ≠ g2 := Nat.ne_of_lt (Nat.lt_of_lt_of_le h1.lt hg2)
  have hg2' : w.heap.size ≤ g2 := Nat.le_trans k1.size hg2
  have h1' := h1.kp k2 (fun x => x)
  have K := k1.then0 k2
  have hR : PlRel f e n w g g2 w2 := ⟨_, h1', h2, rfl, ⟨rfl, rfl, rfl⟩, K⟩
  clear h1 h1' h2 k1 k2 K hg2
  go_wp2_with fail
  go_loopw [11] (fun i wr => ∃ I : Nat, I ≤ len ∧ i = .int .i64 I ∧ PlRel f e n w g g2 wr) (fun i _ => len - (intOf i).toNat)
  case atStart => exact ⟨0, Nat.zero_le _, rfl, hR⟩
  case round =>
    clear hR
    obtain ⟨I, hI, rfl, r, hr, hq, hwf, hwho, K⟩ := hrel
    by_cases hlt : I < len
    · by_cases h24 : I < 24
      · have hz' := hz.resolve_left (by omega)
        obtain ⟨b, off, rfl, hcell⟩ := hz'
        clear hz
        have hb : b < w.heap.size := World.block_lt_of_cell? w ⟨b, _, none⟩ (hcell I hlt 0 (by omega))
        have cc : ∀ j, j < 4 → wr.cell? ⟨b, off + (I * 4 + j), none⟩ = some (.int .i64 (V I j)) := fun j hj => (K.below0.cell (p := ⟨b, _, none⟩) hb).trans (hcell I hlt j hj)
        have c0 : wr.cell? ⟨b, off + I * 4, none⟩ = some (.int .i64 (V I 0)) := cc 0 (by omega)
        have c1 : wr.cell? ⟨b, off + I * 4 + 1, none⟩ = some (.int .i64 (V I 1)) := cc 1 (by omega)
        have c2 : wr.cell? ⟨b, off + I * 4 + 2, none⟩ = some (.int .i64 (V I 2)) := cc 2 (by omega)
        have c3 : wr.cell? ⟨b, off + I * 4 + 3, none⟩ = some (.int .i64 (V I 3)) := cc 3 (by omega)
        clear cc hcell
        go_wp2_with fail
        have hA := Blk.new wr #[.int .i64 (V I 0), .int .i64 (V I 1), .int .i64 (V I 2), .int .i64 (V I 3)] 63
        have hr' : RunAt (wr.alloc (.cells #[.int .i64 (V I 0), .int .i64 (V I 1), .int .i64 (V I 2), .int .i64 (V I 3)] 63)) g r := Blk.alloc hr _
        have hq' : RfAt (wr.alloc (.cells #[.int .i64 (V I 0), .int .i64 (V I 1), .int .i64 (V I 2), .int .i64 (V I 3)] 63)) g2 r := hq.kp ((Kp.refl (fun _ => False) wr).alloc _) (fun x => x)
        have K' := K.alloc (.cells #[.int .i64 (V I 0), .int .i64 (V I 1), .int .i64 (V I 2), .int .i64 (V I 3)] 63)
        have na : g ≠ wr.heap.size := Nat.ne_of_lt hr.lt
        have na2 : g2 ≠ wr.heap.size := Nat.ne_of_lt hq.lt
        have bA := K.size
        clear hr hq K c0 c1 c2 c3
        generalize wr.heap.size = ga at *
        generalize wr.alloc (.cells #[.int .i64 (V I 0), .int .i64 (V I 1), .int .i64 (V I 2), .int .i64 (V I 3)] 63) = wa at *
        refine (within_x _ _ (by omega) (by omega) _).mono ?_
        rintro e' w' ⟨D, hD0, hD1, rfl, rfl⟩
        have d0 := Blk.cell hA 0
        have d1 := Blk.cell hA 1
        simp at d0 d1
        go_wp2_with fail
        refine (within_x _ _ (by omega) (by omega) _).mono ?_
        rintro e' w' ⟨X, hX0, hX1, rfl, rfl⟩
        have hX : X = 0 ∨ X = 1 ∨ X = 2 ∨ X = 3 ∨ X = 4 ∨ X = 5 ∨ X = 6 ∨ X = 7 ∨ X = 8 := by omega
        clear hX0 hX1
        rcases hX with rfl | rfl | rfl | rfl | rfl | rfl | rfl | rfl | rfl
        · have d0 := trivial
          go_wp2_with fail
          refine (within_x _ _ (by omega) (by omega) _).mono ?_
          rintro e' w' ⟨P, hP0, hP1, rfl, rfl⟩

          go_wp2_with fail
          refine (begin_c g _ _ _ _ hr').mono ?_
          rintro e' w4 ⟨rfl, hr4, k4⟩
          have hq4 := hq'.kp k4 ne.symm
          have hA4 := hA.kp k4 na.symm
          have K4 := K'.new k4 hg
          clear hr' hq' hA K' k4
          go_wp2_with fail
          refine (rbegin_c g2 _ _ _ _ hq4).mono ?_
          rintro e' w5 ⟨rfl, hq', k5⟩
          have hr' := hr4.kp k5 ne
          have hA := hA4.kp k5 na2.symm
          have K' := K4.new k5 hg2'
          clear hr4 hq4 hA4 K4 k5

          go_wp2_with fail
          refine (who_c g _ _ hr').mono ?_
          rintro e' w9 ⟨rfl, k9⟩
          have hr9 := hr'.kp k9 (fun x => x)
          have hq9 := hq'.kp k9 (fun x => x)
          have hA9 := hA.kp0 k9
          have K9 := K'.then0 k9
          clear hr' hq' hA K' k9
          have hwf9 := wf_begin hwf P D
          have hwho9 := who_begin hwho P D
          have e3 := Blk.cell hA9 3
          simp at e3
          obtain ⟨t, hb9, ht9⟩ := hq9
          have hq9 : RfAt w9 g2 _ := ⟨t, hb9, ht9⟩
          have e4 := Blk.cell hb9 3
          simp at e4
          obtain ⟨y1, y2, y3⟩ := hwho9
          have hwho9 : Who f e n _ := ⟨y1, y2, y3⟩
          go_wp2_with fail
          go_quiet (first | (go_at_call 41; exact Calls.quiet_of_same ((phase_c g _ _ (Blk.drewN hr9 _)).mono fun _ _ h => ⟨h.1, h.2.symm⟩)) | (go_at_call 15; exact Calls.quiet_of_same ((within_c _ _ (by omega) (by omega) _).mono fun _ _ h => ⟨h.1, h.2.symm⟩)) | (go_at_call 39; exact Calls.quiet_of_same ((late_c g _ _ _ (Blk.drewN hr9 _)).mono fun _ _ h => ⟨h.1, h.2.symm⟩)) | (go_at_call 50; exact Calls.quiet_of_same ((rlate_c g2 _ _ _ (hq9.kp ((Kp.refl (fun _ => False) _).drewN _) (fun x => x)) hwf9).mono fun _ _ h => ⟨h.1, h.2.symm⟩)))
          go_wp2
          go_roundw
          case rel => exact ⟨I + 1, by omega, by go_num, _, Blk.drewN hr9 _, hq9.kp ((Kp.refl (fun _ => False) _).drewN _) (fun x => x), hwf9, hwho9, K9.drewN _⟩
          case measure => simp [intOf]; omega
        · have d0 := trivial
          go_wp2_with fail
          refine (within_x _ _ (by omega) (by omega) _).mono ?_
          rintro e' w' ⟨P, hP0, hP1, rfl, rfl⟩

          go_wp2_with fail
          refine (begin_c g _ _ _ _ hr').mono ?_
          rintro e' w4 ⟨rfl, hr4, k4⟩
          have hq4 := hq'.kp k4 ne.symm
          have hA4 := hA.kp k4 na.symm
          have K4 := K'.new k4 hg
          clear hr' hq' hA K' k4
          go_wp2_with fail
          refine (rbegin_c g2 _ _ _ _ hq4).mono ?_
          rintro e' w5 ⟨rfl, hq', k5⟩
          have hr' := hr4.kp k5 ne
          have hA := hA4.kp k5 na2.symm
          have K' := K4.new k5 hg2'
          clear hr4 hq4 hA4 K4 k5

          go_wp2_with fail
          refine (who_c g _ _ hr').mono ?_
          rintro e' w9 ⟨rfl, k9⟩
          have hr9 := hr'.kp k9 (fun x => x)
          have hq9 := hq'.kp k9 (fun x => x)
          have hA9 := hA.kp0 k9
          have K9 := K'.then0 k9
          clear hr' hq' hA K' k9
          have hwf9 := wf_begin hwf P D
          have hwho9 := who_begin hwho P D
          have e3 := Blk.cell hA9 3
          simp at e3
          obtain ⟨t, hb9, ht9⟩ := hq9
          have hq9 : RfAt w9 g2 _ := ⟨t, hb9, ht9⟩
          have e4 := Blk.cell hb9 3
          simp at e4
          obtain ⟨y1, y2, y3⟩ := hwho9
          have hwho9 : Who f e n _ := ⟨y1, y2, y3⟩
          go_wp2_with fail
          go_quiet (first | (go_at_call 41; exact Calls.quiet_of_same ((phase_c g _ _ (Blk.drewN hr9 _)).mono fun _ _ h => ⟨h.1, h.2.symm⟩)) | (go_at_call 15; exact Calls.quiet_of_same ((within_c _ _ (by omega) (by omega) _).mono fun _ _ h => ⟨h.1, h.2.symm⟩)) | (go_at_call 39; exact Calls.quiet_of_same ((late_c g _ _ _ (Blk.drewN hr9 _)).mono fun _ _ h => ⟨h.1, h.2.symm⟩)) | (go_at_call 50; exact Calls.quiet_of_same ((rlate_c g2 _ _ _ (hq9.kp ((Kp.refl (fun _ => False) _).drewN _) (fun x => x)) hwf9).mono fun _ _ h => ⟨h.1, h.2.symm⟩)))
          go_wp2
          go_roundw
          case rel => exact ⟨I + 1, by omega, by go_num, _, Blk.drewN hr9 _, hq9.kp ((Kp.refl (fun _ => False) _).drewN _) (fun x => x), hwf9, hwho9, K9.drewN _⟩
          case measure => simp [intOf]; omega
        · go_wp2_with fail
          refine (hello_c g _ _ hr').mono ?_
          rintro e' w4 ⟨rfl, hr4, k4⟩
          have hq4 := hq'.kp k4 ne.symm
          have hA4 := hA.kp k4 na.symm
          have K4 := K'.new k4 hg
          clear hr' hq' hA K' k4
          go_wp2_with fail
          refine (rhello_c g2 _ _ hq4).mono ?_
          rintro e' w5 ⟨rfl, hq', k5⟩
          have hr' := hr4.kp k5 ne
          have hA := hA4.kp k5 na2.symm
          have K' := K4.new k5 hg2'
          clear hr4 hq4 hA4 K4 k5

          go_wp2_with fail
          refine (who_c g _ _ hr').mono ?_
          rintro e' w9 ⟨rfl, k9⟩
          have hr9 := hr'.kp k9 (fun x => x)
          have hq9 := hq'.kp k9 (fun x => x)
          have hA9 := hA.kp0 k9
          have K9 := K'.then0 k9
          clear hr' hq' hA K' k9
          have hwf9 := wf_hello hwf
          have hwho9 := who_hello hwho
          have e3 := Blk.cell hA9 3
          simp at e3
          obtain ⟨t, hb9, ht9⟩ := hq9
          have hq9 : RfAt w9 g2 _ := ⟨t, hb9, ht9⟩
          have e4 := Blk.cell hb9 3
          simp at e4
          obtain ⟨y1, y2, y3⟩ := hwho9
          have hwho9 : Who f e n _ := ⟨y1, y2, y3⟩
          go_wp2_with fail
          go_quiet (first | (go_at_call 41; exact Calls.quiet_of_same ((phase_c g _ _ (Blk.drewN hr9 _)).mono fun _ _ h => ⟨h.1, h.2.symm⟩)) | (go_at_call 15; exact Calls.quiet_of_same ((within_c _ _ (by omega) (by omega) _).mono fun _ _ h => ⟨h.1, h.2.symm⟩)) | (go_at_call 39; exact Calls.quiet_of_same ((late_c g _ _ _ (Blk.drewN hr9 _)).mono fun _ _ h => ⟨h.1, h.2.symm⟩)) | (go_at_call 50; exact Calls.quiet_of_same ((rlate_c g2 _ _ _ (hq9.kp ((Kp.refl (fun _ => False) _).drewN _) (fun x => x)) hwf9).mono fun _ _ h => ⟨h.1, h.2.symm⟩)))
          go_wp2
          go_roundw
          case rel => exact ⟨I + 1, by omega, by go_num, _, Blk.drewN hr9 _, hq9.kp ((Kp.refl (fun _ => False) _).drewN _) (fun x => x), hwf9, hwho9, K9.drewN _⟩
          case measure => simp [intOf]; omega
        · go_wp2_with fail
          refine (hello_c g _ _ hr').mono ?_
          rintro e' w4 ⟨rfl, hr4, k4⟩
          have hq4 := hq'.kp k4 ne.symm
          have hA4 := hA.kp k4 na.symm
          have K4 := K'.new k4 hg
          clear hr' hq' hA K' k4
          go_wp2_with fail
          refine (rhello_c g2 _ _ hq4).mono ?_
          rintro e' w5 ⟨rfl, hq', k5⟩
          have hr' := hr4.kp k5 ne
          have hA := hA4.kp k5 na2.symm
          have K' := K4.new k5 hg2'
          clear hr4 hq4 hA4 K4 k5

          go_wp2_with fail
          refine (who_c g _ _ hr').mono ?_
          rintro e' w9 ⟨rfl, k9⟩
          have hr9 := hr'.kp k9 (fun x => x)
          have hq9 := hq'.kp k9 (fun x => x)
          have hA9 := hA.kp0 k9
          have K9 := K'.then0 k9
          clear hr' hq' hA K' k9
          have hwf9 := wf_hello hwf
          have hwho9 := who_hello hwho
          have e3 := Blk.cell hA9 3
          simp at e3
          obtain ⟨t, hb9, ht9⟩ := hq9
          have hq9 : RfAt w9 g2 _ := ⟨t, hb9, ht9⟩
          have e4 := Blk.cell hb9 3
          simp at e4
          obtain ⟨y1, y2, y3⟩ := hwho9
          have hwho9 : Who f e n _ := ⟨y1, y2, y3⟩
          go_wp2_with fail
          go_quiet (first | (go_at_call 41; exact Calls.quiet_of_same ((phase_c g _ _ (Blk.drewN hr9 _)).mono fun _ _ h => ⟨h.1, h.2.symm⟩)) | (go_at_call 15; exact Calls.quiet_of_same ((within_c _ _ (by omega) (by omega) _).mono fun _ _ h => ⟨h.1, h.2.symm⟩)) | (go_at_call 39; exact Calls.quiet_of_same ((late_c g _ _ _ (Blk.drewN hr9 _)).mono fun _ _ h => ⟨h.1, h.2.symm⟩)) | (go_at_call 50; exact Calls.quiet_of_same ((rlate_c g2 _ _ _ (hq9.kp ((Kp.refl (fun _ => False) _).drewN _) (fun x => x)) hwf9).mono fun _ _ h => ⟨h.1, h.2.symm⟩)))
          go_wp2
          go_roundw
          case rel => exact ⟨I + 1, by omega, by go_num, _, Blk.drewN hr9 _, hq9.kp ((Kp.refl (fun _ => False) _).drewN _) (fun x => x), hwf9, hwho9, K9.drewN _⟩
          case measure => simp [intOf]; omega
        · go_wp2_with fail
          refine (hello_c g _ _ hr').mono ?_
          rintro e' w4 ⟨rfl, hr4, k4⟩
          have hq4 := hq'.kp k4 ne.symm
          have hA4 := hA.kp k4 na.symm
          have K4 := K'.new k4 hg
          clear hr' hq' hA K' k4
          go_wp2_with fail
          refine (rhello_c g2 _ _ hq4).mono ?_
          rintro e' w5 ⟨rfl, hq', k5⟩
          have hr' := hr4.kp k5 ne
          have hA := hA4.kp k5 na2.symm
          have K' := K4.new k5 hg2'
          clear hr4 hq4 hA4 K4 k5

          go_wp2_with fail
          refine (who_c g _ _ hr').mono ?_
          rintro e' w9 ⟨rfl, k9⟩
          have hr9 := hr'.kp k9 (fun x => x)
          have hq9 := hq'.kp k9 (fun x => x)
          have hA9 := hA.kp0 k9
          have K9 := K'.then0 k9
          clear hr' hq' hA K' k9
          have hwf9 := wf_hello hwf
          have hwho9 := who_hello hwho
          have e3 := Blk.cell hA9 3
          simp at e3
          obtain ⟨t, hb9, ht9⟩ := hq9
          have hq9 : RfAt w9 g2 _ := ⟨t, hb9, ht9⟩
          have e4 := Blk.cell hb9 3
          simp at e4
          obtain ⟨y1, y2, y3⟩ := hwho9
          have hwho9 : Who f e n _ := ⟨y1, y2, y3⟩
          go_wp2_with fail
          go_quiet (first | (go_at_call 41; exact Calls.quiet_of_same ((phase_c g _ _ (Blk.drewN hr9 _)).mono fun _ _ h => ⟨h.1, h.2.symm⟩)) | (go_at_call 15; exact Calls.quiet_of_same ((within_c _ _ (by omega) (by omega) _).mono fun _ _ h => ⟨h.1, h.2.symm⟩)) | (go_at_call 39; exact Calls.quiet_of_same ((late_c g _ _ _ (Blk.drewN hr9 _)).mono fun _ _ h => ⟨h.1, h.2.symm⟩)) | (go_at_call 50; exact Calls.quiet_of_same ((rlate_c g2 _ _ _ (hq9.kp ((Kp.refl (fun _ => False) _).drewN _) (fun x => x)) hwf9).mono fun _ _ h => ⟨h.1, h.2.symm⟩)))
          go_wp2
          go_roundw
          case rel => exact ⟨I + 1, by omega, by go_num, _, Blk.drewN hr9 _, hq9.kp ((Kp.refl (fun _ => False) _).drewN _) (fun x => x), hwf9, hwho9, K9.drewN _⟩
          case measure => simp [intOf]; omega
        · go_wp2_with fail
          refine (stop_c g _ _ _ hr').mono ?_
          rintro e' w4 ⟨rfl, hr4, k4⟩
          have hq4 := hq'.kp k4 ne.symm
          have hA4 := hA.kp k4 na.symm
          have K4 := K'.new k4 hg
          clear hr' hq' hA K' k4
          go_wp2_with fail
          refine (rstop_c g2 _ _ _ hq4).mono ?_
          rintro e' w5 ⟨rfl, hq', k5⟩
          have hr' := hr4.kp k5 ne
          have hA := hA4.kp k5 na2.symm
          have K' := K4.new k5 hg2'
          clear hr4 hq4 hA4 K4 k5

          go_wp2_with fail
          refine (who_c g _ _ hr').mono ?_
          rintro e' w9 ⟨rfl, k9⟩
          have hr9 := hr'.kp k9 (fun x => x)
          have hq9 := hq'.kp k9 (fun x => x)
          have hA9 := hA.kp0 k9
          have K9 := K'.then0 k9
          clear hr' hq' hA K' k9
          have hwf9 := wf_stop hwf D
          have hwho9 := who_stop hwho D
          have e3 := Blk.cell hA9 3
          simp at e3
          obtain ⟨t, hb9, ht9⟩ := hq9
          have hq9 : RfAt w9 g2 _ := ⟨t, hb9, ht9⟩
          have e4 := Blk.cell hb9 3
          simp at e4
          obtain ⟨y1, y2, y3⟩ := hwho9
          have hwho9 : Who f e n _ := ⟨y1, y2, y3⟩
          go_wp2_with fail
          go_quiet (first | (go_at_call 41; exact Calls.quiet_of_same ((phase_c g _ _ (Blk.drewN hr9 _)).mono fun _ _ h => ⟨h.1, h.2.symm⟩)) | (go_at_call 15; exact Calls.quiet_of_same ((within_c _ _ (by omega) (by omega) _).mono fun _ _ h => ⟨h.1, h.2.symm⟩)) | (go_at_call 39; exact Calls.quiet_of_same ((late_c g _ _ _ (Blk.drewN hr9 _)).mono fun _ _ h => ⟨h.1, h.2.symm⟩)) | (go_at_call 50; exact Calls.quiet_of_same ((rlate_c g2 _ _ _ (hq9.kp ((Kp.refl (fun _ => False) _).drewN _) (fun x => x)) hwf9).mono fun _ _ h => ⟨h.1, h.2.symm⟩)))
          go_wp2
          go_roundw
          case rel => exact ⟨I + 1, by omega, by go_num, _, Blk.drewN hr9 _, hq9.kp ((Kp.refl (fun _ => False) _).drewN _) (fun x => x), hwf9, hwho9, K9.drewN _⟩
          case measure => simp [intOf]; omega
        · go_wp2_with fail
          refine (stop_c g _ _ _ hr').mono ?_
          rintro e' w4 ⟨rfl, hr4, k4⟩
          have hq4 := hq'.kp k4 ne.symm
          have hA4 := hA.kp k4 na.symm
          have K4 := K'.new k4 hg
          clear hr' hq' hA K' k4
          go_wp2_with fail
          refine (rstop_c g2 _ _ _ hq4).mono ?_
          rintro e' w5 ⟨rfl, hq', k5⟩
          have hr' := hr4.kp k5 ne
          have hA := hA4.kp k5 na2.symm
          have K' := K4.new k5 hg2'
          clear hr4 hq4 hA4 K4 k5

          go_wp2_with fail
          refine (who_c g _ _ hr').mono ?_
          rintro e' w9 ⟨rfl, k9⟩
          have hr9 := hr'.kp k9 (fun x => x)
          have hq9 := hq'.kp k9 (fun x => x)
          have hA9 := hA.kp0 k9
          have K9 := K'.then0 k9
          clear hr' hq' hA K' k9
          have hwf9 := wf_stop hwf D
          have hwho9 := who_stop hwho D
          have e3 := Blk.cell hA9 3
          simp at e3
          obtain ⟨t, hb9, ht9⟩ := hq9
          have hq9 : RfAt w9 g2 _ := ⟨t, hb9, ht9⟩
          have e4 := Blk.cell hb9 3
          simp at e4
          obtain ⟨y1, y2, y3⟩ := hwho9
          have hwho9 : Who f e n _ := ⟨y1, y2, y3⟩
          go_wp2_with fail
          go_quiet (first | (go_at_call 41; exact Calls.quiet_of_same ((phase_c g _ _ (Blk.drewN hr9 _)).mono fun _ _ h => ⟨h.1, h.2.symm⟩)) | (go_at_call 15; exact Calls.quiet_of_same ((within_c _ _ (by omega) (by omega) _).mono fun _ _ h => ⟨h.1, h.2.symm⟩)) | (go_at_call 39; exact Calls.quiet_of_same ((late_c g _ _ _ (Blk.drewN hr9 _)).mono fun _ _ h => ⟨h.1, h.2.symm⟩)) | (go_at_call 50; exact Calls.quiet_of_same ((rlate_c g2 _ _ _ (hq9.kp ((Kp.refl (fun _ => False) _).drewN _) (fun x => x)) hwf9).mono fun _ _ h => ⟨h.1, h.2.symm⟩)))
          go_wp2
          go_roundw
          case rel => exact ⟨I + 1, by omega, by go_num, _, Blk.drewN hr9 _, hq9.kp ((Kp.refl (fun _ => False) _).drewN _) (fun x => x), hwf9, hwho9, K9.drewN _⟩
          case measure => simp [intOf]; omega
        · by_cases h3 : ((V I 1).tmod 3 != 0) = true
          · go_wp2
            go_roundw
            case rel => exact ⟨I + 1, by omega, by go_num, r, hr', hq', hwf, hwho, K'⟩
            case measure => simp [intOf]; omega
          · have h3' : ((V I 1).tmod 3 != 0) = false := by simpa using h3
            clear h3
            go_wp2_with fail
            refine (fin_c g _ _ hr').mono ?_
            rintro e' w4 ⟨rfl, hr4, k4⟩
            have hq4 := hq'.kp k4 ne.symm
            have hA4 := hA.kp k4 na.symm
            have K4 := K'.new k4 hg
            clear hr' hq' hA K' k4
            go_wp2_with fail
            refine (rfin_c g2 _ _ hq4).mono ?_
            rintro e' w5 ⟨rfl, hq', k5⟩
            have hr' := hr4.kp k5 ne
            have hA := hA4.kp k5 na2.symm
            have K' := K4.new k5 hg2'
            clear hr4 hq4 hA4 K4 k5

            go_wp2_with fail
            refine (who_c g _ _ hr').mono ?_
            rintro e' w9 ⟨rfl, k9⟩
            have hr9 := hr'.kp k9 (fun x => x)
            have hq9 := hq'.kp k9 (fun x => x)
            have hA9 := hA.kp0 k9
            have K9 := K'.then0 k9
            clear hr' hq' hA K' k9
            have hwf9 := wf_fin hwf
            have hwho9 := who_fin hwho
            have e3 := Blk.cell hA9 3
            simp at e3
            obtain ⟨t, hb9, ht9⟩ := hq9
            have hq9 : RfAt w9 g2 _ := ⟨t, hb9, ht9⟩
            have e4 := Blk.cell hb9 3
            simp at e4
            obtain ⟨y1, y2, y3⟩ := hwho9
            have hwho9 : Who f e n _ := ⟨y1, y2, y3⟩
            go_wp2_with fail
            go_quiet (first | (go_at_call 41; exact Calls.quiet_of_same ((phase_c g _ _ (Blk.drewN hr9 _)).mono fun _ _ h => ⟨h.1, h.2.symm⟩)) | (go_at_call 15; exact Calls.quiet_of_same ((within_c _ _ (by omega) (by omega) _).mono fun _ _ h => ⟨h.1, h.2.symm⟩)) | (go_at_call 39; exact Calls.quiet_of_same ((late_c g _ _ _ (Blk.drewN hr9 _)).mono fun _ _ h => ⟨h.1, h.2.symm⟩)) | (go_at_call 50; exact Calls.quiet_of_same ((rlate_c g2 _ _ _ (hq9.kp ((Kp.refl (fun _ => False) _).drewN _) (fun x => x)) hwf9).mono fun _ _ h => ⟨h.1, h.2.symm⟩)))
            go_wp2
            go_roundw
            case rel => exact ⟨I + 1, by omega, by go_num, _, Blk.drewN hr9 _, hq9.kp ((Kp.refl (fun _ => False) _).drewN _) (fun x => x), hwf9, hwho9, K9.drewN _⟩
            case measure => simp [intOf]; omega
        · go_wp2_with fail
          refine (clone_c g _ _ hr').mono ?_
          rintro e' w4 ⟨gc, rfl, hgc, hc4, k4⟩
          have nc : gc ≠ g := (Nat.ne_of_lt (Nat.lt_of_lt_of_le hr'.lt hgc)).symm
          have nc2 : gc ≠ g2 := (Nat.ne_of_lt (Nat.lt_of_lt_of_le hq'.lt hgc)).symm
          have nca : gc ≠ ga := (Nat.ne_of_lt (Nat.lt_of_lt_of_le hA.lt hgc)).symm
          have bc : w.heap.size ≤ gc := Nat.le_trans K'.size hgc
          have hr4 := hr'.kp k4 (fun x => x)
          have hq4 := hq'.kp k4 (fun x => x)
          have hA4 := hA.kp0 k4
          have K4 := K'.then0 k4
          clear hr' hq' hA K' k4
          go_wp2_with fail
          refine (hello_c gc _ _ hc4).mono ?_
          rintro e' w5 ⟨rfl, hc5, k5⟩
          have hr5 := hr4.kp k5 nc.symm
          have hq5 := hq4.kp k5 nc2.symm
          have hA5 := hA4.kp k5 nca.symm
          have K5 := K4.new k5 bc
          clear hr4 hq4 hA4 K4 k5 hc4
          go_wp2_with fail
          refine (fin_c gc _ _ hc5).mono ?_
          rintro e' w6 ⟨rfl, hc6, k6⟩
          have hr' := hr5.kp k6 nc.symm
          have hq' := hq5.kp k6 nc2.symm
          have hA := hA5.kp k6 nca.symm
          have K' := K5.new k6 bc
          clear hr5 hq5 hA5 K5 k6 hc5 hc6

          go_wp2_with fail
          refine (who_c g _ _ hr').mono ?_
          rintro e' w9 ⟨rfl, k9⟩
          have hr9 := hr'.kp k9 (fun x => x)
          have hq9 := hq'.kp k9 (fun x => x)
          have hA9 := hA.kp0 k9
          have K9 := K'.then0 k9
          clear hr' hq' hA K' k9
          have hwf9 := hwf
          have hwho9 := hwho
          have e3 := Blk.cell hA9 3
          simp at e3
          obtain ⟨t, hb9, ht9⟩ := hq9
          have hq9 : RfAt w9 g2 _ := ⟨t, hb9, ht9⟩
          have e4 := Blk.cell hb9 3
          simp at e4
          obtain ⟨y1, y2, y3⟩ := hwho9
          have hwho9 : Who f e n _ := ⟨y1, y2, y3⟩
          go_wp2_with fail
          go_quiet (first | (go_at_call 41; exact Calls.quiet_of_same ((phase_c g _ _ (Blk.drewN hr9 _)).mono fun _ _ h => ⟨h.1, h.2.symm⟩)) | (go_at_call 15; exact Calls.quiet_of_same ((within_c _ _ (by omega) (by omega) _).mono fun _ _ h => ⟨h.1, h.2.symm⟩)) | (go_at_call 39; exact Calls.quiet_of_same ((late_c g _ _ _ (Blk.drewN hr9 _)).mono fun _ _ h => ⟨h.1, h.2.symm⟩)) | (go_at_call 50; exact Calls.quiet_of_same ((rlate_c g2 _ _ _ (hq9.kp ((Kp.refl (fun _ => False) _).drewN _) (fun x => x)) hwf9).mono fun _ _ h => ⟨h.1, h.2.symm⟩)))
          go_wp2
          go_roundw
          case rel => exact ⟨I + 1, by omega, by go_num, _, Blk.drewN hr9 _, hq9.kp ((Kp.refl (fun _ => False) _).drewN _) (fun x => x), hwf9, hwho9, K9.drewN _⟩
          case measure => simp [intOf]; omega
      · have h24' : 24 ≤ (I : Int) := by omega
        clear h24
        go_wp2_with fail
        refine (wakes12_c _).mono ?_
        rintro e' w99 ⟨rfl, k'⟩
        go_wp2
        go_ret
        exact ⟨rfl, K.then0 k'⟩
    · obtain rfl : I = len := by omega
      go_wp2_with fail
      refine (wakes12_c _).mono ?_
      rintro e' w99 ⟨rfl, k'⟩
      go_wp2
      go_ret
      exact ⟨rfl, K.then0 k'⟩

theorem plays12_w (f e : ByteArray) (n : Int) (a : Option Addr) (len cap : Nat) (V : Nat → Nat → Int) (w : World) (_ : f.size ≤ 140737488351232) (_ : e.size ≤ 140737488351232) (_ : (Lit.int .i64 n).wf = true)
    (hs : Sl w a len cap 4 (fun i j => .int .i64 (V i j))) (_ : ∀ i, i < len → ∀ j, j < 4 → (Lit.int .i64 (V i j)).wf = true) :
    Calls Try.prog 9 #[.string f, .string e, .int .i64 n, .slice a len cap] w fun e' w' => e' = .returned (.bool true) ∧ Below w.heap.size w w' :=
  (plays12_c f e n a len cap V w hs).mono fun _ _ h => ⟨h.1, h.2.below0⟩

end Go.Proofs.Ytnlkkcpcjeeplaa
