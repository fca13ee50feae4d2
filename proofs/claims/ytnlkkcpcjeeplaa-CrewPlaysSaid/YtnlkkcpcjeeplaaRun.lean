/- Contracts of Within and of package run. -/
import Derived.Test.YtnlkkcpcjeeplaaProg
import Derived.Test.YtnlkkcpcjeeplaaKp
namespace Go.Proofs.Ytnlkkcpcjeeplaa
open Go.RowKit

theorem within_c (v n : Int) (hn : 1 ≤ n) (h1 : n ≤ 9223372036854775807) (w : World) :
    Calls Try.prog 15 #[.int .i64 v, .int .i64 n] w fun e w' => e = .returned (.int .i64 (v % n)) ∧ w = w' := by
  obtain ⟨t1, t2, t3, t4, t5, t6⟩ := tmod_facts v n hn
  have c0 : (n == 0) = false := by rw [beq_eq_false_iff_ne]; omega
  by_cases h : v.tmod n < 0
  · have e := t1 h
    have HE := Lib.hid e
    clear e t1 t2
    go_enter Try.func15, Try.ntmps15
    go_wp2
    go_ret
    exact ⟨ret_int (by rw [HE.out]), rfl⟩
  · have e := t2 (by omega)
    have HE := Lib.hid e
    clear e t1 t2
    go_enter Try.func15, Try.ntmps15
    go_wp2
    go_ret
    exact ⟨ret_int (by rw [HE.out]), rfl⟩

theorem within_x (v n : Int) (hn : 1 ≤ n) (h1 : n ≤ 9223372036854775807) (w : World) :
    Calls Try.prog 15 #[.int .i64 v, .int .i64 n] w fun e w' => ∃ r : Int, 0 ≤ r ∧ r < n ∧ e = .returned (.int .i64 r) ∧ w = w' :=
  (within_c v n hn h1 w).mono fun _ _ h => ⟨v % n, Int.emod_nonneg v (by omega), Int.emod_lt_of_pos v (by omega), h.1, h.2⟩

/-- A run's state. -/
structure Rn where
  f : ByteArray
  e : ByteArray
  n : Int
  ph : Int
  due : Int
  waits : Bool

def RunAt (w : World) (g : Nat) (r : Rn) : Prop := Blk w g #[.string r.f, .string r.e, .int .i64 r.n, .int .i64 r.ph, .int .i64 r.due, .bool r.waits] 114

theorem RunAt.kp {S : Nat → Prop} {w w' : World} {g : Nat} {r : Rn} (h : RunAt w g r) (k : Kp S w w') (hn : ¬ S g) : RunAt w' g r := Blk.kp h k hn

theorem run_new_c (f e : ByteArray) (n : Int) (w : World) :
    Calls Try.prog 35 #[.string f, .string e, .int .i64 n] w fun e' w' => ∃ g, e' = .returned (.pointer (some ⟨g, 0, none⟩)) ∧ w.heap.size ≤ g ∧ RunAt w' g ⟨f, e, n, 0, 0, false⟩ ∧ Kp0 w w' := by
  go_enter Try.func35, Try.ntmps35
  go_wp2
  go_ret
  exact ⟨w.heap.size, rfl, Nat.le_refl _, Blk.new _ _ _, (Kp.refl _ _).alloc _⟩

def on (ph : Int) : Bool := ph == 1 || ph == 2 || ph == 4

theorem on_c (g : Nat) (r : Rn) (w : World) (h : RunAt w g r) :
    Calls Try.prog 71 #[.pointer (some ⟨g, 0, none⟩)] w fun e w' => e = .returned (.bool (on r.ph)) ∧ Kp0 w w' := by
  have c3 := Blk.cell h 3
  simp at c3
  have e : on r.ph = (r.ph == 1 || r.ph == 2 || r.ph == 4) := rfl
  have E := Lib.hid e
  clear e
  by_cases h1 : (r.ph == 1) = true
  · go_enter Try.func71, Try.ntmps71
    go_wp2
    go_ret
    exact ⟨ret_bool (by rw [E.out, h1]; rfl), Kp.refl _ _⟩
  · have h1' : (r.ph == 1) = false := by simpa using h1
    clear h1
    by_cases h2 : (r.ph == 2) = true
    · go_enter Try.func71, Try.ntmps71
      go_wp2
      go_ret
      exact ⟨ret_bool (by rw [E.out, h2]; simp), Kp.refl _ _⟩
    · have h2' : (r.ph == 2) = false := by simpa using h2
      clear h2
      go_enter Try.func71, Try.ntmps71
      go_wp2
      go_ret
      exact ⟨ret_bool (by rw [E.out, h1', h2']; rfl), Kp.refl _ _⟩

/-- 'stay' and 'wait': three fields are written. -/
theorem stay_c (g : Nat) (r : Rn) (ph : Int) (w : World) (h : RunAt w g r) :
    Calls Try.prog 72 #[.pointer (some ⟨g, 0, none⟩), .int .i64 ph] w fun e w' => e = .returned (.tuple #[]) ∧ RunAt w' g { r with ph := ph, due := 0, waits := false } ∧ Kp (· = g) w w' := by
  have c3 := Blk.cell h 3
  have c4 := Blk.cell h 4
  have c5 := Blk.cell h 5
  have f3 := Blk.free h 3
  have f4 := Blk.free h 4
  have f5 := Blk.free h 5
  simp at c3 c4 c5
  go_enter Try.func72, Try.ntmps72
  go_wp2
  go_end0
  exact ⟨rfl, ((Blk.set h 3 _).set 4 _).set 5 _, (((Kp.self g w).put 3 _).put 4 _).put 5 _⟩

theorem wait_c (g : Nat) (r : Rn) (ph due : Int) (w : World) (h : RunAt w g r) :
    Calls Try.prog 73 #[.pointer (some ⟨g, 0, none⟩), .int .i64 ph, .int .i64 due] w fun e w' => e = .returned (.tuple #[]) ∧ RunAt w' g { r with ph := ph, due := due, waits := true } ∧ Kp (· = g) w w' := by
  have c3 := Blk.cell h 3
  have c4 := Blk.cell h 4
  have c5 := Blk.cell h 5
  have f3 := Blk.free h 3
  have f4 := Blk.free h 4
  have f5 := Blk.free h 5
  simp at c3 c4 c5
  go_enter Try.func73, Try.ntmps73
  go_wp2
  go_end0
  exact ⟨rfl, ((Blk.set h 3 _).set 4 _).set 5 _, (((Kp.self g w).put 3 _).put 4 _).put 5 _⟩

def Rn.hello (r : Rn) : Int × Rn := if on r.ph = true then (0, { r with ph := 2, due := 0, waits := false }) else (8, r)
def Rn.stop (r : Rn) (due : Int) : Int × Rn := if on r.ph = true then (0, { r with ph := 3, due := due, waits := true }) else (8, r)
def Rn.fin (r : Rn) : Int × Rn := if (r.ph == 0 || r.ph == 5) = true then (8, r) else (0, { r with ph := 5, due := 0, waits := false })
def Rn.begin (r : Rn) (ph due : Int) : Int × Rn := if (ph != 1 && ph != 4) = true then (1, r) else if (r.ph != 0) = true then (8, r) else (0, { r with ph := ph, due := due, waits := true })
def Rn.late (r : Rn) (now : Int) : Bool := r.waits && decide (r.due ≤ now)

theorem hello_c (g : Nat) (r : Rn) (w : World) (h : RunAt w g r) :
    Calls Try.prog 36 #[.pointer (some ⟨g, 0, none⟩)] w fun e w' => e = .returned (.int .i64 r.hello.1) ∧ RunAt w' g r.hello.2 ∧ Kp (· = g) w w' := by
  by_cases ho : on r.ph = true
  · have e : r.hello = (0, { r with ph := 2, due := 0, waits := false }) := by unfold Rn.hello; rw [if_pos ho]
    rw [e]
    clear e
    go_enter Try.func36, Try.ntmps36
    go_wp2_with fail
    refine (on_c g r _ h).mono ?_
    rintro e w1 ⟨rfl, k1⟩
    go_wp2_with fail
    refine (stay_c g r _ _ (h.kp k1 (fun x => x))).mono ?_
    rintro e w2 ⟨rfl, h2, k2⟩
    go_wp2
    go_ret
    exact ⟨rfl, h2, (k1.mono (fun _ _ x => x.elim)).trans k2 (fun _ _ x => x)⟩
  · have e : r.hello = (8, r) := by unfold Rn.hello; rw [if_neg ho]
    have ho' : on r.ph = false := by simpa using ho
    rw [e]
    clear e ho
    go_enter Try.func36, Try.ntmps36
    go_wp2_with fail
    refine (on_c g r _ h).mono ?_
    rintro e w1 ⟨rfl, k1⟩
    go_wp2
    go_ret
    exact ⟨rfl, h.kp k1 (fun x => x), k1.mono (fun _ _ x => x.elim)⟩

theorem stop_c (g : Nat) (r : Rn) (due : Int) (w : World) (h : RunAt w g r) :
    Calls Try.prog 37 #[.pointer (some ⟨g, 0, none⟩), .int .i64 due] w fun e w' => e = .returned (.int .i64 (r.stop due).1) ∧ RunAt w' g (r.stop due).2 ∧ Kp (· = g) w w' := by
  by_cases ho : on r.ph = true
  · have e : r.stop due = (0, { r with ph := 3, due := due, waits := true }) := by unfold Rn.stop; rw [if_pos ho]
    rw [e]
    clear e
    go_enter Try.func37, Try.ntmps37
    go_wp2_with fail
    refine (on_c g r _ h).mono ?_
    rintro e w1 ⟨rfl, k1⟩
    go_wp2_with fail
    refine (wait_c g r _ _ _ (h.kp k1 (fun x => x))).mono ?_
    rintro e w2 ⟨rfl, h2, k2⟩
    go_wp2
    go_ret
    exact ⟨rfl, h2, (k1.mono (fun _ _ x => x.elim)).trans k2 (fun _ _ x => x)⟩
  · have e : r.stop due = (8, r) := by unfold Rn.stop; rw [if_neg ho]
    have ho' : on r.ph = false := by simpa using ho
    rw [e]
    clear e ho
    go_enter Try.func37, Try.ntmps37
    go_wp2_with fail
    refine (on_c g r _ h).mono ?_
    rintro e w1 ⟨rfl, k1⟩
    go_wp2
    go_ret
    exact ⟨rfl, h.kp k1 (fun x => x), k1.mono (fun _ _ x => x.elim)⟩

theorem fin_c (g : Nat) (r : Rn) (w : World) (h : RunAt w g r) :
    Calls Try.prog 38 #[.pointer (some ⟨g, 0, none⟩)] w fun e w' => e = .returned (.int .i64 r.fin.1) ∧ RunAt w' g r.fin.2 ∧ Kp (· = g) w w' := by
  have c3 := Blk.cell h 3
  simp at c3
  by_cases h0 : (r.ph == 0) = true
  · have e : r.fin = (8, r) := by unfold Rn.fin; rw [h0]; rfl
    rw [e]
    clear e
    go_enter Try.func38, Try.ntmps38
    go_wp2
    go_ret
    exact ⟨rfl, h, Kp.self g w⟩
  · have h0' : (r.ph == 0) = false := by simpa using h0
    clear h0
    by_cases h5 : (r.ph == 5) = true
    · have e : r.fin = (8, r) := by unfold Rn.fin; rw [h0', h5]; rfl
      rw [e]
      clear e
      go_enter Try.func38, Try.ntmps38
      go_wp2
      go_ret
      exact ⟨rfl, h, Kp.self g w⟩
    · have h5' : (r.ph == 5) = false := by simpa using h5
      have e : r.fin = (0, { r with ph := 5, due := 0, waits := false }) := by unfold Rn.fin; rw [h0', h5']; rfl
      rw [e]
      clear e h5
      go_enter Try.func38, Try.ntmps38
      go_wp2_with fail
      refine (stay_c g r _ _ h).mono ?_
      rintro e w2 ⟨rfl, h2, k2⟩
      go_wp2
      go_ret
      exact ⟨rfl, h2, k2⟩

theorem begin_c (g : Nat) (r : Rn) (ph due : Int) (w : World) (h : RunAt w g r) :
    Calls Try.prog 40 #[.pointer (some ⟨g, 0, none⟩), .int .i64 ph, .int .i64 due] w fun e w' => e = .returned (.int .i64 (r.begin ph due).1) ∧ RunAt w' g (r.begin ph due).2 ∧ Kp (· = g) w w' := by
  have c3 := Blk.cell h 3
  simp at c3
  by_cases h0 : (ph != 1 && ph != 4) = true
  · have e : r.begin ph due = (1, r) := by unfold Rn.begin; rw [if_pos h0]
    have h1 : (ph != 1) = true := by rw [Bool.and_eq_true] at h0; exact h0.1
    have h4 : (ph != 4) = true := by rw [Bool.and_eq_true] at h0; exact h0.2
    rw [e]
    clear e h0
    go_enter Try.func40, Try.ntmps40
    go_wp2
    go_ret
    exact ⟨rfl, h, Kp.self g w⟩
  · by_cases hp : (r.ph != 0) = true
    · have e : r.begin ph due = (8, r) := by unfold Rn.begin; rw [if_neg h0, if_pos hp]
      rw [e]
      have h3 : (ph != 1) = false ∨ ((ph != 1) = true ∧ (ph != 4) = false) := by
        cases ha : (ph != 1) <;> cases hb : (ph != 4) <;> simp_all
      clear e h0
      rcases h3 with h3 | ⟨h3, h4⟩
      · go_enter Try.func40, Try.ntmps40
        go_wp2
        go_ret
        exact ⟨rfl, h, Kp.self g w⟩
      · go_enter Try.func40, Try.ntmps40
        go_wp2
        go_ret
        exact ⟨rfl, h, Kp.self g w⟩
    · have e : r.begin ph due = (0, { r with ph := ph, due := due, waits := true }) := by unfold Rn.begin; rw [if_neg h0, if_neg hp]
      rw [e]
      have hp' : (r.ph != 0) = false := by simpa using hp
      have h3 : (ph != 1) = false ∨ ((ph != 1) = true ∧ (ph != 4) = false) := by
        cases ha : (ph != 1) <;> cases hb : (ph != 4) <;> simp_all
      clear e h0 hp
      rcases h3 with h3 | ⟨h3, h4⟩
      · go_enter Try.func40, Try.ntmps40
        go_wp2_with fail
        refine (wait_c g r _ _ _ h).mono ?_
        rintro e w2 ⟨rfl, h2, k2⟩
        go_wp2
        go_ret
        exact ⟨rfl, h2, k2⟩
      · go_enter Try.func40, Try.ntmps40
        go_wp2_with fail
        refine (wait_c g r _ _ _ h).mono ?_
        rintro e w2 ⟨rfl, h2, k2⟩
        go_wp2
        go_ret
        exact ⟨rfl, h2, k2⟩

theorem late_c (g : Nat) (r : Rn) (now : Int) (w : World) (h : RunAt w g r) :
    Calls Try.prog 39 #[.pointer (some ⟨g, 0, none⟩), .int .i64 now] w fun e w' => e = .returned (.bool (r.late now)) ∧ w = w' := by
  have c4 := Blk.cell h 4
  have c5 := Blk.cell h 5
  simp at c4 c5
  have e : r.late now = (r.waits && decide (r.due ≤ now)) := rfl
  have E := Lib.hid e
  clear e
  by_cases hw : r.waits = true
  · go_enter Try.func39, Try.ntmps39
    go_wp2
    go_ret
    exact ⟨ret_bool (by rw [E.out, hw]; rfl), rfl⟩
  · have hw' : r.waits = false := by simpa using hw
    clear hw
    go_enter Try.func39, Try.ntmps39
    go_wp2
    go_ret
    exact ⟨ret_bool (by rw [E.out, hw']; rfl), rfl⟩

theorem phase_c (g : Nat) (r : Rn) (w : World) (h : RunAt w g r) :
    Calls Try.prog 41 #[.pointer (some ⟨g, 0, none⟩)] w fun e w' => e = .returned (.int .i64 r.ph) ∧ w = w' := by
  have c3 := Blk.cell h 3
  simp at c3
  go_enter Try.func41, Try.ntmps41
  go_wp2
  go_ret
  exact ⟨rfl, rfl⟩

theorem who_c (g : Nat) (r : Rn) (w : World) (h : RunAt w g r) :
    Calls Try.prog 44 #[.pointer (some ⟨g, 0, none⟩)] w fun e w' => e = .returned (.tuple #[.string r.f, .string r.e, .int .i64 r.n]) ∧ Kp0 w w' := by
  have c0 := Blk.cell h 0
  have c1 := Blk.cell h 1
  have c2 := Blk.cell h 2
  simp at c0 c1 c2
  go_enter Try.func44, Try.ntmps44
  go_wp2_with fail
  go_quiet (fail)
  go_wp2
  go_ret3
  exact ⟨rfl, (Kp.refl _ _).drewN _⟩

theorem clone_c (g : Nat) (r : Rn) (w : World) (h : RunAt w g r) :
    Calls Try.prog 43 #[.pointer (some ⟨g, 0, none⟩)] w fun e w' => ∃ g', e = .returned (.pointer (some ⟨g', 0, none⟩)) ∧ w.heap.size ≤ g' ∧ RunAt w' g' r ∧ Kp0 w w' := by
  have c0 := Blk.cell h 0
  have c1 := Blk.cell h 1
  have c2 := Blk.cell h 2
  have c3 := Blk.cell h 3
  have c4 := Blk.cell h 4
  have c5 := Blk.cell h 5
  simp at c0 c1 c2 c3 c4 c5
  go_enter Try.func43, Try.ntmps43
  go_wp2
  go_ret
  exact ⟨w.heap.size, rfl, Nat.le_refl _, Blk.new _ _ _, (Kp.refl _ _).alloc _⟩

end Go.Proofs.Ytnlkkcpcjeeplaa
