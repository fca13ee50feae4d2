/- Contracts of the reference's stream, the rest; two lists of updates compared; two streams compared. -/
import Derived.Test.YtccamciijpmkjaaRs
import Derived.Deep.RegionHeld3
import Derived.Deep.DeepFit
import Derived.BigQuiet
import Derived.Deep.CutRange
set_option linter.unusedVariables false
set_option linter.unusedSimpArgs false
namespace Go.Proofs.Ytccamciijpmkjaa
open Go.RowKit

theorem rsaid_c (g : Nat) (q : Option Nat) (s : St) (w : World) (h : RtAt w g q s) (hs : s.said = true → s.acked < s.l.length) :
    Calls Try.prog 57 #[.pointer (some ⟨g, 0, none⟩)] w fun e w' => e = .returned (.bool s.said) ∧ Kp0 w w' := by
  obtain ⟨v, h1, h2, _, h4, h5⟩ := h
  have c0 := Blk.cell h1 0
  have c1 := Blk.cell h1 1
  have c2 := Blk.cell h1 2
  simp at c0 c1 c2
  obtain ⟨A, n, c, rfl, hn⟩ : ∃ A n c, v = .slice A n c ∧ n = s.l.length := by
    rcases own_shape h2 with ⟨rfl, hn, _⟩ | ⟨r, cap, rfl, _⟩
    · exact ⟨_, _, _, rfl, hn.symm⟩
    · exact ⟨_, _, _, rfl, rfl⟩
  by_cases ha : s.acked < s.l.length
  · have hd : decide ((s.acked : Int) < n) = true := decide_eq_true (by omega)
    have hd' : (s.acked : Int) < n := by omega
    clear h1 h2 hs
    go_enter Try.func57, Try.ntmps57
    go_wp2_with fail
    go_quiet (fail)
    go_wp2
    go_ret
    exact ⟨rfl, (Kp.refl _ _).drewN _⟩
  · have hd : decide ((s.acked : Int) < n) = false := decide_eq_false (by omega)
    have hd' : ¬ (s.acked : Int) < n := by omega
    have hf : s.said = false := by
      cases hh : s.said with
      | false => rfl
      | true => exact absurd (hs hh) ha
    rw [hf]
    clear h1 h2 hs
    go_enter Try.func57, Try.ntmps57
    go_wp2_with fail
    go_quiet (fail)
    go_wp2
    go_ret
    exact ⟨rfl, (Kp.refl _ _).drewN _⟩

theorem rclosed_c (g : Nat) (q : Option Nat) (s : St) (w : World) (h : RtAt w g q s) :
    Calls Try.prog 59 #[.pointer (some ⟨g, 0, none⟩)] w fun e w' => e = .returned (.bool (ov s.state && ((s.l.length : Int) - s.acked == 0))) ∧ Kp0 w w' := by
  have h0 := h
  obtain ⟨v, h1, h2, _, h4, h5⟩ := h
  have c0 := Blk.cell h1 0
  have c1 := Blk.cell h1 1
  simp at c0 c1
  obtain ⟨A, n, c, rfl, hn⟩ : ∃ A n c, v = .slice A n c ∧ n = s.l.length := by
    rcases own_shape h2 with ⟨rfl, hn, _⟩ | ⟨r, cap, rfl, _⟩
    · exact ⟨_, _, _, rfl, hn.symm⟩
    · exact ⟨_, _, _, rfl, rfl⟩
  have hq : ((s.l.length : Int) - s.acked == 0) = ((s.acked : Int) == n) := by
    rw [hn]
    by_cases hh : s.acked = s.l.length
    · rw [hh]; simp
    · rw [beq_eq_false_iff_ne.2 (by omega), beq_eq_false_iff_ne.2 (by omega)]
  rw [hq]
  clear h1 h2 hq
  cases ho : ov s.state with
  | true =>
    have cO : ∀ w, Calls Try.prog 70 #[.int .i64 s.state] w fun e w' => e = .returned (.bool true) ∧ w = w' := fun w => by have := rover_c s.state w; rw [ho] at this; exact this
    have cS : ∀ W, Kp0 w W → Calls Try.prog 53 #[.pointer (some ⟨g, 0, none⟩)] W fun e w' => e = .returned (.int .i64 s.state) ∧ ∃ n, w' = W.drewN n := fun W k => rstate_c g q s W (h0.kp0 k)
    have cS1 := cS w.drew ((Kp.refl _ _).drew)
    go_enter Try.func59, Try.ntmps59
    go_wp2_with fail
    go_region_held3 (fun W => W.cell? ⟨g, 0, none⟩ = some (.slice A n c) ∧ W.cell? ⟨g, 1, none⟩ = some (.int .i64 s.acked)) (first | exact ⟨c0, c1⟩) (first | (go_at_call 53; go_fit (rstate_c g q s _ (h0.drewN 1)); rintro e w' ⟨rfl, n1, rfl⟩) | (go_at_call 53; go_fit cS1; rintro e w' ⟨rfl, n1, rfl⟩) | (go_at_call 53; go_fit (rstate_c g q s _ h0); rintro e w' ⟨rfl, n1, rfl⟩) | (go_at_call 70; go_fit (cO _); rintro e w' ⟨rfl, rfl⟩))
    go_wp2
    go_ret
    exact ⟨by simp [hn], (by repeat (first | exact Kp.refl _ _ | apply Kp.drewN | apply Kp.drew))⟩
  | false =>
    have cO : ∀ w, Calls Try.prog 70 #[.int .i64 s.state] w fun e w' => e = .returned (.bool false) ∧ w = w' := fun w => by have := rover_c s.state w; rw [ho] at this; exact this
    have cS : ∀ W, Kp0 w W → Calls Try.prog 53 #[.pointer (some ⟨g, 0, none⟩)] W fun e w' => e = .returned (.int .i64 s.state) ∧ ∃ n, w' = W.drewN n := fun W k => rstate_c g q s W (h0.kp0 k)
    have cS1 := cS w.drew ((Kp.refl _ _).drew)
    go_enter Try.func59, Try.ntmps59
    go_wp2_with fail
    refine wp_region_any (by kernel_rfl) ?_
    change wpAny _ _ _ _ _ _ _ (World.drew _)
    refine wpAny_take (i := 0) (v := ?_) rfl (by kernel_rfl) (by kernel_rfl) (by kernel_rfl) (fun _ _ _ h => h) (Or.inl ⟨by kernel_rfl, ?_⟩) ?_
    rotate_left
    · intro w; go_simp; first | with_reducible rfl | (first | with_reducible rfl | exact rfl)
    rotate_left
    refine wpAny_ready (rs := [1]) (by kernel_rfl) (by simp) ?_
    refine (AllReady.cons rfl (fun K hK => ?_) AllReady.nil)
    go_simp
    go_wp2_with (go_at_call 53; go_fit cS1; rintro e w' ⟨rfl, n1, rfl⟩)
    refine wpAny_ready (rs := [2]) (by kernel_rfl) (by simp) ?_
    refine (AllReady.cons rfl (fun K hK => ?_) AllReady.nil)
    go_simp
    go_wp2_with (go_at_call 70; go_fit (cO _); rintro e w' ⟨rfl, rfl⟩)
    refine wpAny_take (i := 3) (v := ?_) rfl (by kernel_rfl) (by kernel_rfl) (by kernel_rfl) (fun _ _ _ h => h) (Or.inl ⟨by kernel_rfl, ?_⟩) ?_
    rotate_left
    · intro w; go_simp; first | with_reducible rfl | (first | with_reducible rfl | exact rfl)
    rotate_left
    refine wpAny_take (i := 4) (v := undef) rfl (by kernel_rfl) (by kernel_rfl) (by kernel_rfl) (fun _ _ _ h => h) (Or.inr ⟨by kernel_rfl, rfl⟩) ?_
    refine wpAny_take (i := 5) (v := undef) rfl (by kernel_rfl) (by kernel_rfl) (by kernel_rfl) (fun _ _ _ h => h) (Or.inr ⟨by kernel_rfl, rfl⟩) ?_
    refine wpAny_take (i := 6) (v := undef) rfl (by kernel_rfl) (by kernel_rfl) (by kernel_rfl) (fun _ _ _ h => h) (Or.inr ⟨by kernel_rfl, rfl⟩) ?_
    refine wpAny_take (i := 7) (v := undef) rfl (by kernel_rfl) (by kernel_rfl) (by kernel_rfl) (fun _ _ _ h => h) (Or.inr ⟨by kernel_rfl, rfl⟩) ?_
    refine wpAny_take (i := 8) (v := undef) rfl (by kernel_rfl) (by kernel_rfl) (by kernel_rfl) (fun _ _ _ h => h) (Or.inr ⟨by kernel_rfl, rfl⟩) ?_
    refine wpAny_take (i := 9) (v := undef) rfl (by kernel_rfl) (by kernel_rfl) (by kernel_rfl) (fun _ _ _ h => h) (Or.inr ⟨by kernel_rfl, rfl⟩) ?_
    refine wpAny_take (i := 10) (v := undef) rfl (by kernel_rfl) (by kernel_rfl) (by kernel_rfl) (fun _ _ _ h => h) (Or.inr ⟨by kernel_rfl, rfl⟩) ?_
    refine wpAny_take (i := 11) (v := undef) rfl (by kernel_rfl) (by kernel_rfl) (by kernel_rfl) (fun _ _ _ h => h) (Or.inr ⟨by kernel_rfl, rfl⟩) ?_
    refine wpAny_take (i := 12) (v := undef) rfl (by kernel_rfl) (by kernel_rfl) (by kernel_rfl) (fun _ _ _ h => h) (Or.inr ⟨by kernel_rfl, rfl⟩) ?_
    refine wpAny_take (i := 13) (v := undef) rfl (by kernel_rfl) (by kernel_rfl) (by kernel_rfl) (fun _ _ _ h => h) (Or.inr ⟨by kernel_rfl, rfl⟩) ?_
    refine wpAny_take (i := 14) (v := ?_) rfl (by kernel_rfl) (by kernel_rfl) (by kernel_rfl) (fun _ _ _ h => h) (Or.inl ⟨by kernel_rfl, ?_⟩) ?_
    rotate_left
    · intro w; go_simp; first | with_reducible rfl | (first | with_reducible rfl | exact rfl)
    rotate_left
    refine wpAny_take (i := 15) (v := ?_) rfl (by kernel_rfl) (by kernel_rfl) (by kernel_rfl) (fun _ _ _ h => h) (Or.inl ⟨by kernel_rfl, ?_⟩) ?_
    rotate_left
    · intro w; go_simp; first | with_reducible rfl | (first | with_reducible rfl | exact rfl)
    rotate_left
    refine wpAny_done (by kernel_rfl) ?_ _
    go_wp2
    simp only [List.getElem_toArray, List.getElem_cons_succ, List.getElem_cons_zero, Act.put, List.setIfInBounds_toArray, List.set_cons_succ, List.set_cons_zero]
    go_ret
    exact ⟨by first | rfl | simp [hn], (by repeat (first | exact Kp.refl _ _ | apply Kp.drewN | apply Kp.drew))⟩


theorem usame_c (v v' : Value) (l : List Int) (w : World) (hl : l.length ≤ 100) (h : w.ownsRow 0 27 2 v l.length (rowsFrom 0 l)) (h' : w.ownsRow 0 27 2 v' l.length (rowsFrom 0 l)) :
    Calls Try.prog 58 #[v, v'] w fun e w' => e = .returned (.bool true) ∧ Kp0 w w' := by
  have key : ∀ {v : Value}, w.ownsRow 0 27 2 v l.length (rowsFrom 0 l) → ∃ A c, v = .slice A l.length c ∧ ∀ k, k < l.length → ∃ g, A = some ⟨g, 0, none⟩ ∧ w.cell? ⟨g, k * 2, none⟩ = some (.int .i64 ((k : Int) + 1)) ∧ w.cell? ⟨g, k * 2 + 1, none⟩ = some (.int .i64 (l.getD k 0)) := by
    intro v h
    rcases own_shape h with ⟨rfl, hn, _⟩ | ⟨r, cap, rfl, _, _, _, hcell⟩
    · exact ⟨none, 0, by rw [hn], fun k hk => by omega⟩
    · refine ⟨_, _, rfl, fun k hk => ⟨r, rfl, ?_, ?_⟩⟩
      · rw [hcell (k * 2) (by omega), (rowsFrom_num l 0 k hk).1, Nat.zero_add]
      · rw [hcell (k * 2 + 1) (by omega), (rowsFrom_num l 0 k hk).2]
  obtain ⟨A, c, rfl, ha⟩ := key h
  obtain ⟨A', c', rfl, ha'⟩ := key h'
  clear h h' key
  go_enter Try.func58, Try.ntmps58
  go_wp2_with fail
  go_loopw [5] (fun i wr => ∃ (k d : Nat), i = .int .i64 k ∧ k ≤ l.length ∧ wr = w.drewN d) (fun i _ => (l.length - intOf i).toNat)
  case atStart => exact ⟨0, 0, rfl, by omega, rfl⟩
  case round =>
    obtain ⟨k, d, rfl, hk, rfl⟩ := hrel
    by_cases hkl : k < l.length
    · obtain ⟨g, rfl, b0, b1⟩ := ha k hkl
      obtain ⟨g', rfl, b2, b3⟩ := ha' k hkl
      clear ha ha'
      go_wp2_with fail
      go_quiet (fail)
      go_wp2
      go_roundw
      case rel => exact ⟨k + 1, _, by go_num, by omega, rfl⟩
      case measure => simp [intOf]; omega
    · have hkl' : k = l.length := by omega
      subst hkl'
      go_wp2
      go_ret
      exact ⟨rfl, (Kp.refl _ _).drewN _⟩


set_option maxRecDepth 100000 in
set_option maxHeartbeats 8000000 in
theorem same11_c (g h : Nat) (q p : Option Nat) (s : St) (w : World) (a : StAt w g q s) (b : RtAt w h p s) (hs : s.said = true → s.acked < s.l.length) :
    Calls Try.prog 31 #[.pointer (some ⟨g, 0, none⟩), .pointer (some ⟨h, 0, none⟩)] w fun e w' => e = .returned (.bool true) ∧ Kp0 w w' := by
  go_enter Try.func31, Try.ntmps31
  go_wp2_with fail
  refine (front_c g q s _ a).mono ?_
  rintro e w1 ⟨rfl, k1⟩
  go_wp2_with fail
  refine (rfront_c h p s _ ((b.kp0 k1).kp0 ((Kp.refl _ _).alloc _))).mono ?_
  rintro e w2 ⟨rfl, k2⟩
  go_upto_region 5 with fail
  have bu := (((show Blk (w1.alloc (.cells #[.int .i64 s.front.1, .int .i64 s.front.2.1] 27)) w1.heap.size _ 27 from blk_new _ _ rfl).kp0 k2).kp0 ((Kp.refl (fun _ => False) w2).alloc (.cells #[.int .i64 s.front.1, .int .i64 s.front.2.1] 27)))
  have bv := (show Blk (w2.alloc (.cells #[.int .i64 s.front.1, .int .i64 s.front.2.1] 27)) w2.heap.size _ 27 from blk_new _ _ rfl)
  have K3 : Kp0 w (w2.alloc (.cells #[.int .i64 s.front.1, .int .i64 s.front.2.1] 27)) := ((k1.alloc _).then0 k2).alloc _
  have a3 := a.kp0 K3
  have b3 := b.kp0 K3
  generalize w2.alloc (.cells #[.int .i64 s.front.1, .int .i64 s.front.2.1] 27) = w3 at *
  generalize w1.heap.size = pu at *
  generalize w2.heap.size = pv at *
  clear k1 k2 a b
  obtain ⟨vr, hb, ho, _, h4, h5⟩ := id b3
  obtain ⟨A, n, c, rfl, hn⟩ : ∃ A n c, vr = .slice A n c ∧ n = s.l.length := by
    rcases own_shape ho with ⟨rfl, hn, _⟩ | ⟨r, cap, rfl, _⟩
    · exact ⟨_, _, _, rfl, hn.symm⟩
    · exact ⟨_, _, _, rfl, rfl⟩
  subst hn
  have hk : ∀ W, Kp0 w3 W → (W.cell? ⟨pu, 0, none⟩ = some (.int .i64 s.front.1) ∧ W.cell? ⟨pu, 1, none⟩ = some (.int .i64 s.front.2.1) ∧ W.cell? ⟨pv, 0, none⟩ = some (.int .i64 s.front.1) ∧ W.cell? ⟨pv, 1, none⟩ = some (.int .i64 s.front.2.1) ∧ W.cell? ⟨h, 0, none⟩ = some (.slice A s.l.length c) ∧ W.cell? ⟨h, 1, none⟩ = some (.int .i64 s.acked)) := fun W k =>
    ⟨(bu.kp0 k).cell 0, (bu.kp0 k).cell 1, (bv.kp0 k).cell 0, (bv.kp0 k).cell 1, (hb.kp0 k).cell 0, (hb.kp0 k).cell 1⟩
  have cA : ∀ W, Kp0 w3 W → Calls Try.prog 22 #[.pointer (some ⟨g, 0, none⟩)] W fun e w' => e = .returned (.bool s.said) ∧ Kp0 w3 w' := fun W k => (said_c g q s W (a3.kp0 k)).mono (by rintro e w' ⟨rfl, rfl⟩; exact ⟨rfl, k⟩)
  have cB : ∀ W, Kp0 w3 W → Calls Try.prog 57 #[.pointer (some ⟨h, 0, none⟩)] W fun e w' => e = .returned (.bool s.said) ∧ Kp0 w3 w' := fun W k => (rsaid_c h p s W (b3.kp0 k) hs).mono (by rintro e w' ⟨rfl, k'⟩; exact ⟨rfl, k.then0 k'⟩)
  have cC : ∀ W, Kp0 w3 W → Calls Try.prog 19 #[.pointer (some ⟨g, 0, none⟩)] W fun e w' => e = .returned (.int .i64 s.state) ∧ Kp0 w3 w' := fun W k => (state_c g q s W (a3.kp0 k)).mono (by rintro e w' ⟨rfl, m, rfl⟩; exact ⟨rfl, k.drewN _⟩)
  have cD : ∀ W, Kp0 w3 W → Calls Try.prog 53 #[.pointer (some ⟨h, 0, none⟩)] W fun e w' => e = .returned (.int .i64 s.state) ∧ Kp0 w3 w' := fun W k => (rstate_c h p s W (b3.kp0 k)).mono (by rintro e w' ⟨rfl, m, rfl⟩; exact ⟨rfl, k.drewN _⟩)
  obtain ⟨D, hD⟩ : ∃ D : Int, (s.l.length : Int) - s.acked = D := ⟨_, rfl⟩
  have hDw : IntKind.i64.wrap D = D := by rw [IntKind.wrap_i64]; omega
  have cE : ∀ W, Kp0 w3 W → Calls Try.prog 24 #[.pointer (some ⟨g, 0, none⟩)] W fun e w' => e = .returned (.int .i64 D) ∧ Kp0 w3 w' := fun W k => (pending_c g q s W (a3.kp0 k)).mono (by rintro e w' ⟨rfl, m, rfl⟩; exact ⟨by rw [hD], k.drewN _⟩)
  have cF : ∀ W, Kp0 w3 W → Calls Try.prog 23 #[.pointer (some ⟨g, 0, none⟩)] W fun e w' => e = .returned (.int .i64 s.acked) ∧ Kp0 w3 w' := fun W k => (acked_c g q s W (a3.kp0 k)).mono (by rintro e w' ⟨rfl, rfl⟩; exact ⟨rfl, k⟩)
  have cG : ∀ W, Kp0 w3 W → Calls Try.prog 25 #[.pointer (some ⟨g, 0, none⟩)] W fun e w' => ∃ v', e = .returned v' ∧ w'.ownsRow 0 27 2 v' s.l.length (rowsFrom 0 s.l) ∧ Kp0 w3 w' := fun W k => (updates_c g q s W (a3.kp0 k)).mono (by rintro e w' ⟨v', rfl, o, k', _⟩; exact ⟨v', rfl, o, k.then0 k'⟩)
  have cH : ∀ W v', Kp0 w3 W → W.ownsRow 0 27 2 v' s.l.length (rowsFrom 0 s.l) → Calls Try.prog 58 #[v', .slice A s.l.length c] W fun e w' => e = .returned (.bool true) ∧ Kp0 w3 w' := fun W v' k o => (usame_c v' _ s.l W h5 o (own_kp ho k (fun _ _ x => x))).mono (by rintro e w' ⟨rfl, k'⟩; exact ⟨rfl, k.then0 k'⟩)
  obtain ⟨cl, hcl⟩ : ∃ cl : Bool, (ov s.state && ((s.l.length : Int) - s.acked == 0)) = cl := ⟨_, rfl⟩
  have cI : ∀ W, Kp0 w3 W → Calls Try.prog 20 #[.pointer (some ⟨g, 0, none⟩)] W fun e w' => e = .returned (.bool cl) ∧ Kp0 w3 w' := fun W k => (closed_c g q s W (a3.kp0 k)).mono (by rintro e w' ⟨rfl, k'⟩; exact ⟨by rw [hcl], k.then0 k'⟩)
  have cJ : ∀ W, Kp0 w3 W → Calls Try.prog 59 #[.pointer (some ⟨h, 0, none⟩)] W fun e w' => e = .returned (.bool cl) ∧ Kp0 w3 w' := fun W k => (rclosed_c h p s W (b3.kp0 k)).mono (by rintro e w' ⟨rfl, k'⟩; exact ⟨by rw [hcl], k.then0 k'⟩)
  have K0 : Kp0 w3 w3.drew := (Kp.refl _ _).drew
  clear hcl a3 b3 bu bv hb ho hs h4 h5
  generalize s.front.1 = f1 at *
  generalize s.front.2.1 = f2 at *
  generalize s.front.2.2 = f3 at *
  generalize s.said = f4 at *
  generalize s.state = f5 at *
  generalize s.acked = f6 at *
  generalize s.l.length = f7 at *
  generalize rowsFrom 0 s.l = f8 at *
  go_region_held3 (fun W => W.cell? ⟨pu, 0, none⟩ = some (.int .i64 f1) ∧ W.cell? ⟨pu, 1, none⟩ = some (.int .i64 f2) ∧ W.cell? ⟨pv, 0, none⟩ = some (.int .i64 f1) ∧ W.cell? ⟨pv, 1, none⟩ = some (.int .i64 f2) ∧ W.cell? ⟨h, 0, none⟩ = some (.slice A f7 c) ∧ W.cell? ⟨h, 1, none⟩ = some (.int .i64 f6)) (first | exact hk _ K0 | exact hk _ KA | exact hk _ KB | exact hk _ KC | exact hk _ KD | exact hk _ KE | exact hk _ KF | exact hk _ KG | exact hk _ KH | exact hk _ KI | exact hk _ KJ)
    (first
     | (go_at_call 22; go_fit (cA _ K0); rintro e wA ⟨rfl, KA⟩)
     | (go_at_call 57; go_fit (cB _ KA); rintro e wB ⟨rfl, KB⟩)
     | (go_at_call 19; go_fit (cC _ KB); rintro e wC ⟨rfl, KC⟩)
     | (go_at_call 53; go_fit (cD _ KC); rintro e wD ⟨rfl, KD⟩)
     | (go_at_call 24; go_fit (cE _ KD); rintro e wE ⟨rfl, KE⟩)
     | (go_at_call 23; go_fit (cF _ KE); rintro e wF ⟨rfl, KF⟩)
     | (go_at_call 25; go_fit (cG _ KF); rintro e wG ⟨vG, rfl, oG, KG⟩)
     | (go_at_call 58; go_fit (cH _ vG KG oG); rintro e wH ⟨rfl, KH⟩)
     | (go_at_call 20; go_fit (cI _ KH); rintro e wI ⟨rfl, KI⟩)
     | (go_at_call 59; go_fit (cJ _ KI); rintro e wJ ⟨rfl, KJ⟩))
  go_wp2
  go_ret
  exact ⟨rfl, K3.then0 KJ⟩
end Go.Proofs.Ytccamciijpmkjaa
