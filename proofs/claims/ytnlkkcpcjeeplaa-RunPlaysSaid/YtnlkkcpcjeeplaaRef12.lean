/- Contracts of the reference's runs, told in the words of the program's own. -/
import Derived.Test.YtnlkkcpcjeeplaaCopies
namespace Go.Proofs.Ytnlkkcpcjeeplaa
open Go.RowKit

def RfAt (w : World) (g : Nat) (r : Rn) : Prop := ∃ t : Int, Blk w g #[.string r.f, .string r.e, .int .i64 r.n, .int .i64 r.ph, .int .i64 t] 65 ∧ (r.waits = true → t = r.due)

theorem RfAt.kp {S : Nat → Prop} {w w' : World} {g : Nat} {r : Rn} (h : RfAt w g r) (k : Kp S w w') (hn : ¬ S g) : RfAt w' g r := let ⟨t, a, b⟩ := h; ⟨t, a.kp k hn, b⟩
theorem RfAt.lt {w : World} {g : Nat} {r : Rn} (h : RfAt w g r) : g < w.heap.size := let ⟨_, a, _⟩ := h; a.lt

def WfR (r : Rn) : Prop := r.waits = (r.ph != 0 && r.ph != 2 && r.ph != 5)

theorem rnew_c (f e : ByteArray) (n : Int) (w : World) :
    Calls Try.prog 45 #[.string f, .string e, .int .i64 n] w fun e' w' => ∃ g, e' = .returned (.pointer (some ⟨g, 0, none⟩)) ∧ w.heap.size ≤ g ∧ RfAt w' g ⟨f, e, n, 0, 0, false⟩ ∧ Kp0 w w' := by
  go_enter Try.func45, Try.ntmps45
  go_wp2
  go_ret
  exact ⟨w.heap.size, rfl, Nat.le_refl _, ⟨_, Blk.new _ _ _, by simp⟩, (Kp.refl _ _).alloc _⟩

theorem rbegin_c (g : Nat) (r : Rn) (ph due : Int) (w : World) (h : RfAt w g r) :
    Calls Try.prog 46 #[.pointer (some ⟨g, 0, none⟩), .int .i64 ph, .int .i64 due] w fun e w' => e = .returned (.int .i64 (r.begin ph due).1) ∧ RfAt w' g (r.begin ph due).2 ∧ Kp (· = g) w w' := by
  obtain ⟨t, hb, ht⟩ := h
  have c3 := Blk.cell hb 3
  have c4 := Blk.cell hb 4
  have f3 := Blk.free hb 3
  have f4 := Blk.free hb 4
  simp at c3 c4
  by_cases h0 : (ph != 1 && ph != 4) = true
  · have e : r.begin ph due = (1, r) := by unfold Rn.begin; rw [if_pos h0]
    have h1 : (ph != 1) = true := by rw [Bool.and_eq_true] at h0; exact h0.1
    have h4 : (ph != 4) = true := by rw [Bool.and_eq_true] at h0; exact h0.2
    rw [e]
    clear e h0
    go_enter Try.func46, Try.ntmps46
    go_wp2
    go_ret
    exact ⟨rfl, ⟨t, hb, ht⟩, Kp.self g w⟩
  · have h3 : (ph != 1) = false ∨ ((ph != 1) = true ∧ (ph != 4) = false) := by
      cases ha : (ph != 1) <;> cases hb : (ph != 4) <;> simp_all
    by_cases hp : (r.ph != 0) = true
    · have e : r.begin ph due = (8, r) := by unfold Rn.begin; rw [if_neg h0, if_pos hp]
      rw [e]
      clear e h0
      rcases h3 with h3 | ⟨h3, h4⟩ <;>
      · go_enter Try.func46, Try.ntmps46
        go_wp2
        go_ret
        exact ⟨rfl, ⟨t, hb, ht⟩, Kp.self g w⟩
    · have e : r.begin ph due = (0, { r with ph := ph, due := due, waits := true }) := by unfold Rn.begin; rw [if_neg h0, if_neg hp]
      rw [e]
      have hp' : (r.ph != 0) = false := by simpa using hp
      clear e h0 hp
      rcases h3 with h3 | ⟨h3, h4⟩ <;>
      · go_enter Try.func46, Try.ntmps46
        go_wp2
        go_ret
        exact ⟨rfl, ⟨due, (hb.set 3 _).set 4 _, fun _ => rfl⟩, ((Kp.self g w).put 3 _).put 4 _⟩

theorem on_not (p : Int) : on p = !((p != 1) && (p != 4) && (p != 2)) := by
  unfold on
  cases h1 : (p == 1) <;> cases h2 : (p == 2) <;> cases h4 : (p == 4) <;> simp_all [bne]

theorem not_on {p : Int} (h : on p = false) : (p != 1) = true ∧ (p != 4) = true ∧ (p != 2) = true := by
  rw [on_not] at h
  simpa [and_assoc] using h

theorem yes_on {p : Int} (h : on p = true) : (p != 1) = false ∨ ((p != 1) = true ∧ (p != 4) = false) ∨ ((p != 1) = true ∧ (p != 4) = true ∧ (p != 2) = false) := by
  rw [on_not] at h
  cases h1 : (p != 1) <;> cases h2 : (p != 2) <;> cases h4 : (p != 4) <;> simp_all

theorem rhello_c (g : Nat) (r : Rn) (w : World) (h : RfAt w g r) :
    Calls Try.prog 47 #[.pointer (some ⟨g, 0, none⟩)] w fun e w' => e = .returned (.int .i64 r.hello.1) ∧ RfAt w' g r.hello.2 ∧ Kp (· = g) w w' := by
  obtain ⟨t, hb, ht⟩ := h
  have c3 := Blk.cell hb 3
  have c4 := Blk.cell hb 4
  have f3 := Blk.free hb 3
  have f4 := Blk.free hb 4
  simp at c3 c4
  by_cases ho : on r.ph = true
  · have e : r.hello = (0, { r with ph := 2, due := 0, waits := false }) := by unfold Rn.hello; rw [if_pos ho]
    rw [e]
    have h3 := yes_on ho
    clear e ho
    rcases h3 with h1 | ⟨h1, h2⟩ | ⟨h1, h2, h4⟩ <;>
    · go_enter Try.func47, Try.ntmps47
      go_wp2
      go_ret
      exact ⟨rfl, ⟨_, (hb.set 3 _).set 4 _, by simp⟩, ((Kp.self g w).put 3 _).put 4 _⟩
  · have e : r.hello = (8, r) := by unfold Rn.hello; rw [if_neg ho]
    obtain ⟨h1, h4, h2⟩ := not_on (by simpa using ho)
    rw [e]
    clear e ho
    go_enter Try.func47, Try.ntmps47
    go_wp2
    go_ret
    exact ⟨rfl, ⟨t, hb, ht⟩, Kp.self g w⟩

theorem rstop_c (g : Nat) (r : Rn) (due : Int) (w : World) (h : RfAt w g r) :
    Calls Try.prog 48 #[.pointer (some ⟨g, 0, none⟩), .int .i64 due] w fun e w' => e = .returned (.int .i64 (r.stop due).1) ∧ RfAt w' g (r.stop due).2 ∧ Kp (· = g) w w' := by
  obtain ⟨t, hb, ht⟩ := h
  have c3 := Blk.cell hb 3
  have c4 := Blk.cell hb 4
  have f3 := Blk.free hb 3
  have f4 := Blk.free hb 4
  simp at c3 c4
  by_cases ho : on r.ph = true
  · have e : r.stop due = (0, { r with ph := 3, due := due, waits := true }) := by unfold Rn.stop; rw [if_pos ho]
    rw [e]
    have h3 := yes_on ho
    clear e ho
    rcases h3 with h1 | ⟨h1, h2⟩ | ⟨h1, h2, h4⟩ <;>
    · go_enter Try.func48, Try.ntmps48
      go_wp2
      go_ret
      exact ⟨rfl, ⟨_, (hb.set 3 _).set 4 _, fun _ => rfl⟩, ((Kp.self g w).put 3 _).put 4 _⟩
  · have e : r.stop due = (8, r) := by unfold Rn.stop; rw [if_neg ho]
    obtain ⟨h1, h4, h2⟩ := not_on (by simpa using ho)
    rw [e]
    clear e ho
    go_enter Try.func48, Try.ntmps48
    go_wp2
    go_ret
    exact ⟨rfl, ⟨t, hb, ht⟩, Kp.self g w⟩

theorem rfin_c (g : Nat) (r : Rn) (w : World) (h : RfAt w g r) :
    Calls Try.prog 49 #[.pointer (some ⟨g, 0, none⟩)] w fun e w' => e = .returned (.int .i64 r.fin.1) ∧ RfAt w' g r.fin.2 ∧ Kp (· = g) w w' := by
  obtain ⟨t, hb, ht⟩ := h
  have c3 := Blk.cell hb 3
  have c4 := Blk.cell hb 4
  have f3 := Blk.free hb 3
  have f4 := Blk.free hb 4
  simp at c3 c4
  by_cases h0 : (r.ph == 0) = true
  · have e : r.fin = (8, r) := by unfold Rn.fin; rw [h0]; rfl
    rw [e]
    clear e
    go_enter Try.func49, Try.ntmps49
    go_wp2
    go_ret
    exact ⟨rfl, ⟨t, hb, ht⟩, Kp.self g w⟩
  · have h0' : (r.ph == 0) = false := by simpa using h0
    clear h0
    by_cases h5 : (r.ph == 5) = true
    · have e : r.fin = (8, r) := by unfold Rn.fin; rw [h0', h5]; rfl
      rw [e]
      clear e
      go_enter Try.func49, Try.ntmps49
      go_wp2
      go_ret
      exact ⟨rfl, ⟨t, hb, ht⟩, Kp.self g w⟩
    · have h5' : (r.ph == 5) = false := by simpa using h5
      have e : r.fin = (0, { r with ph := 5, due := 0, waits := false }) := by unfold Rn.fin; rw [h0', h5']; rfl
      rw [e]
      clear e h5
      go_enter Try.func49, Try.ntmps49
      go_wp2
      go_ret
      exact ⟨rfl, ⟨_, (hb.set 3 _).set 4 _, by simp⟩, ((Kp.self g w).put 3 _).put 4 _⟩

theorem rlate_c (g : Nat) (r : Rn) (now : Int) (w : World) (h : RfAt w g r) (hw : WfR r) :
    Calls Try.prog 50 #[.pointer (some ⟨g, 0, none⟩), .int .i64 now] w fun e w' => e = .returned (.bool (r.late now)) ∧ w = w' := by
  obtain ⟨t, hb, ht⟩ := h
  have c3 := Blk.cell hb 3
  have c4 := Blk.cell hb 4
  simp at c3 c4
  unfold WfR at hw
  by_cases h0 : (r.ph != 0) = true
  · by_cases h2 : (r.ph != 2) = true
    · by_cases h5 : (r.ph != 5) = true
      · have hw' : r.waits = true := by rw [hw, h0, h2, h5]; rfl
        obtain rfl := ht hw'
        have e : r.late now = decide (r.due ≤ now) := by unfold Rn.late; rw [hw']; rfl
        have E := Lib.hid e
        clear e hw ht hw'
        go_enter Try.func50, Try.ntmps50
        go_wp2
        go_ret
        exact ⟨ret_bool (by rw [E.out]), rfl⟩
      · have h5' : (r.ph != 5) = false := by simpa using h5
        have hw' : r.waits = false := by rw [hw, h5']; simp
        have e : r.late now = false := by unfold Rn.late; rw [hw']; rfl
        have E := Lib.hid e
        clear e hw ht hw' h5
        go_enter Try.func50, Try.ntmps50
        go_wp2
        go_ret
        exact ⟨ret_bool (by rw [E.out]), rfl⟩
    · have h2' : (r.ph != 2) = false := by simpa using h2
      have hw' : r.waits = false := by rw [hw, h2']; simp
      have e : r.late now = false := by unfold Rn.late; rw [hw']; rfl
      have E := Lib.hid e
      clear e hw ht hw' h2
      go_enter Try.func50, Try.ntmps50
      go_wp2
      go_ret
      exact ⟨ret_bool (by rw [E.out]), rfl⟩
  · have h0' : (r.ph != 0) = false := by simpa using h0
    have hw' : r.waits = false := by rw [hw, h0']; simp
    have e : r.late now = false := by unfold Rn.late; rw [hw']; rfl
    have E := Lib.hid e
    clear e hw ht hw' h0
    go_enter Try.func50, Try.ntmps50
    go_wp2
    go_ret
    exact ⟨ret_bool (by rw [E.out]), rfl⟩

/-! A well-formed run stays so; it stays the same run. -/
theorem wf_hello {r : Rn} (h : WfR r) : WfR r.hello.2 := by unfold Rn.hello; split <;> first | exact h | rfl
theorem wf_stop {r : Rn} (h : WfR r) (d : Int) : WfR (r.stop d).2 := by unfold Rn.stop; split <;> first | exact h | rfl
theorem wf_fin {r : Rn} (h : WfR r) : WfR r.fin.2 := by unfold Rn.fin; split <;> first | exact h | rfl
theorem wf_begin {r : Rn} (h : WfR r) (p d : Int) : WfR (r.begin p d).2 := by
  unfold Rn.begin
  split
  · exact h
  · rename_i h0
    split
    · exact h
    · unfold WfR
      simp only [Bool.and_eq_true, bne_iff_ne, not_and, Decidable.not_not] at h0
      by_cases h1 : p = 1
      · subst h1; rfl
      · have := h0 h1; subst this; rfl

def Who (f e : ByteArray) (n : Int) (r : Rn) : Prop := r.f = f ∧ r.e = e ∧ r.n = n
theorem who_hello {f e n} {r : Rn} (h : Who f e n r) : Who f e n r.hello.2 := by unfold Rn.hello; split <;> exact h
theorem who_stop {f e n} {r : Rn} (h : Who f e n r) (d : Int) : Who f e n (r.stop d).2 := by unfold Rn.stop; split <;> exact h
theorem who_fin {f e n} {r : Rn} (h : Who f e n r) : Who f e n r.fin.2 := by unfold Rn.fin; split <;> exact h
theorem who_begin {f e n} {r : Rn} (h : Who f e n r) (p d : Int) : Who f e n (r.begin p d).2 := by unfold Rn.begin; split <;> (try split) <;> exact h

end Go.Proofs.Ytnlkkcpcjeeplaa
