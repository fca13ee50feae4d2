/- The example of the law's package; the law StreamOwn. -/
import Derived.Test.YtccamciijpmkjaaCl
set_option linter.unusedVariables false
set_option linter.unusedSimpArgs false
namespace Go.Proofs.Ytccamciijpmkjaa
open Go.RowKit

theorem add_x {g : Nat} {q : Option Nat} {s s' : St} {x a b c : Int} {w : World} (h : StAt w g q s) (hn : s.l.length < 100) (hr : s.add x = ((a, b, c), s')) :
    Calls Try.prog 14 #[.pointer (some ⟨g, 0, none⟩), .int .i64 x] w fun e w' => ∃ q', e = .returned (.tuple #[.agg #[.int .i64 a, .int .i64 b], .int .i64 c]) ∧ StAt w' g q' s' ∧ Kp (Ft g q) w w' ∧ (q' = q ∨ ∃ b, q' = some b ∧ w.heap.size ≤ b) := by
  have := add_c g q s x w h hn; rw [hr] at this; exact this
theorem say_x {g : Nat} {q : Option Nat} {s s' : St} {now first draw a b : Int} {c : Bool} {w : World} (h : StAt w g q s) (hr : s.say now first draw = ((a, b, c), s')) :
    Calls Try.prog 16 #[.pointer (some ⟨g, 0, none⟩), .int .i64 now, .int .i64 first, .int .i64 draw] w fun e w' => e = .returned (.tuple #[.agg #[.int .i64 a, .int .i64 b], .bool c]) ∧ StAt w' g q s' ∧ Kp (Ft g q) w w' := by
  have := say_c g q s now first draw w h; rw [hr] at this; exact this
theorem again_x {g : Nat} {q : Option Nat} {s s' : St} {now first draw a b : Int} {c : Bool} {w : World} (h : StAt w g q s) (hr : s.again now first draw = ((a, b, c), s')) :
    Calls Try.prog 15 #[.pointer (some ⟨g, 0, none⟩), .int .i64 now, .int .i64 first, .int .i64 draw] w fun e w' => e = .returned (.tuple #[.agg #[.int .i64 a, .int .i64 b], .bool c]) ∧ StAt w' g q s' ∧ Kp (Ft g q) w w' := by
  have := again_c g q s now first draw w h; rw [hr] at this; exact this
theorem ack_x {g : Nat} {q : Option Nat} {s s' : St} {n a : Int} {w : World} (h : StAt w g q s) (hr : s.ack n = (a, s')) :
    Calls Try.prog 17 #[.pointer (some ⟨g, 0, none⟩), .int .i64 n] w fun e w' => e = .returned (.int .i64 a) ∧ StAt w' g q s' ∧ Kp (Ft g q) w w' := by
  have := ack_c g q s n w h; rw [hr] at this; exact this
theorem front_x {g : Nat} {q : Option Nat} {s : St} {a b : Int} {c : Bool} {w : World} (h : StAt w g q s) (hr : s.front = (a, b, c)) :
    Calls Try.prog 21 #[.pointer (some ⟨g, 0, none⟩)] w fun e w' => e = .returned (.tuple #[.agg #[.int .i64 a, .int .i64 b], .bool c]) ∧ Kp0 w w' := by
  have := front_c g q s w h; rw [hr] at this; exact this

/-- All blocks of a stream are at or above N. -/
def Hi (N g : Nat) (q : Option Nat) : Prop := ∀ i, Ft g q i → N ≤ i
theorem Hi.add {N g : Nat} {q q' : Option Nat} {w : World} (h : Hi N g q) (hN : N ≤ w.heap.size) (b : q' = q ∨ ∃ b, q' = some b ∧ w.heap.size ≤ b) : Hi N g q' := by
  rintro i (rfl | hi)
  · exact h _ (.inl rfl)
  · rcases b with rfl | ⟨b, rfl, hb⟩
    · exact h _ (.inr hi)
    · cases hi; omega
theorem Hi.of {N g : Nat} {q : Option Nat} (hg : N ≤ g) (hq : q = none ∨ ∃ b, q = some b ∧ N ≤ b) : Hi N g q := by
  rintro i (rfl | hi)
  · exact hg
  · rcases hq with rfl | ⟨b, rfl, hb⟩
    · cases hi
    · cases hi; exact hb
theorem Kp.step {w0 w w1 : World} {g : Nat} {q : Option Nat} (h : Kp0 w0 w) (k : Kp (Ft g q) w w1) (f : Hi w0.heap.size g q) : Kp0 w0 w1 :=
  h.trans k (fun i hi x => by have := f i x; omega)
theorem StAt.past {w w1 : World} {g h : Nat} {q p : Option Nat} {s : St} {N : Nat} (a : StAt w g q s) (k : Kp (Ft h p) w w1) (hlo : ∀ i, Ft g q i → i < N) (hhi : Hi N h p) : StAt w1 g q s :=
  a.kp k (fun i x y => by have := hlo i x; have := hhi i y; omega)
theorem StAt.past' {w w1 : World} {g h : Nat} {q p : Option Nat} {s : St} {N : Nat} (a : StAt w g q s) (k : Kp (Ft h p) w w1) (hhi : Hi N g q) (hlo : ∀ i, Ft h p i → i < N) : StAt w1 g q s :=
  a.kp k (fun i x y => by have := hlo i y; have := hhi i x; omega)

set_option maxHeartbeats 1000000 in
theorem wakes11_c (w : World) :
    Calls Try.prog 18 #[] w fun e w' => e = .returned (.bool true) ∧ Kp0 w w' := by
  go_enter Try.func18, Try.ntmps18
  go_wp2_with fail
  refine (new_c _).mono ?_
  rintro e w1 ⟨g, rfl, hg, h1, k1⟩
  go_wp2_with fail
  refine (front_x h1 (show St.front ⟨[], 0, false, 0, 0⟩ = (0, 0, false) from rfl)).mono ?_
  rintro e w2 ⟨rfl, k2⟩
  have h2 := h1.kp0 k2
  have K2 := k1.then0 k2
  clear h1 k1 k2
  go_wp2_with fail
  refine (add_x (h2.alloc _) (by decide) (show St.add ⟨[], 0, false, 0, 0⟩ 2 = ((1, 2, 0), ⟨[2], 0, false, 0, 0⟩) from rfl)).mono ?_
  rintro e w3 ⟨q3, rfl, h3, k3, b3⟩
  have K3 : Kp0 w w3 := (K2.alloc _).step k3 (Hi.of hg (.inl rfl))
  clear K2 k3 h2
  go_wp2_with fail
  refine (pending_c g q3 _ _ (h3.alloc _)).mono ?_
  rintro e w4 ⟨rfl, n4, rfl⟩
  go_wp2_with fail
  go_ret
  exact ⟨rfl, (K3.alloc _).drewN _⟩

theorem due_4 (n : Int) (h0 : 0 ≤ n) (h1 : n ≤ 2000) : due n 4 0 = n + 4 := by
  have e : due n 4 0 = tick n 0 + 4 := rfl
  rw [e, tick_self n 0 h0 (by omega)]
theorem due_8 (n : Int) (h0 : 0 ≤ n) (h1 : n ≤ 2000) : due n 8 0 = n + 8 := by
  have e : due n 8 0 = tick n 0 + 8 := rfl
  rw [e, tick_self n 0 h0 (by omega)]

/-- A row's whole block. -/
theorem own_blk {w : World} {b e size n r m cap : Nat} {xs : List Value} (h : w.ownsRow b e size (.slice (some ⟨r, 0, none⟩) m cap) n xs) (j : Nat) (hj : j < n * size) :
    w.cell? ⟨r, j, none⟩ = xs[j]? ∧ w.frozen? ⟨r, j, none⟩ = false := by
  have hl := h.1
  have h' := h
  obtain ⟨h1, ⟨h2, _⟩ | ⟨g, c, cur, hv, _, h3, _⟩⟩ := h
  · cases h2
  · cases hv
    exact ⟨h'.cellAt j hj, Blk.free (cs := cur) (T := e) h3 j⟩

set_option maxRecDepth 100000 in
set_option maxHeartbeats 2000000 in
theorem streamOwn_w (now : Int) (w : World) (_ : (Lit.int .i64 now).wf = true) :
    Calls Try.prog 6 #[.int .i64 now] w fun e w' => e = .returned (.bool true) ∧ Below w.heap.size w w' := by
  go_enter Try.func6, Try.ntmps6
  go_wp2_with fail
  refine (new_c _).mono ?_
  rintro e w1 ⟨g, rfl, hg, h1, k1⟩
  go_wp2_with fail
  refine (within_x _ _ (by omega) (by omega) _).mono ?_
  rintro e w2 ⟨N, hN0, hN1, rfl, rfl⟩
  have d1 := due_4 N (by omega) (by omega)
  have d2 := due_8 (N + 4) (by omega) (by omega)
  go_wp2_with fail
  refine (add_x h1 (by decide) (show St.add ⟨[], 0, false, 0, 0⟩ 2 = ((1, 2, 0), ⟨[2], 0, false, 0, 0⟩) from rfl)).mono ?_
  rintro e w3 ⟨q3, rfl, h3, k3, b3⟩
  have g3 : Hi w.heap.size g q3 := (Hi.of hg (.inl rfl)).add k1.size b3
  have K3 : Kp0 w w3 := k1.step k3 (Hi.of hg (.inl rfl))
  clear k1 k3 h1 b3
  go_wp2_with fail
  refine (add_x h3 (by decide) (show St.add ⟨[2], 0, false, 0, 0⟩ 4 = ((2, 4, 0), ⟨[2, 4], 0, false, 0, 0⟩) from rfl)).mono ?_
  rintro e w4 ⟨q, rfl, h4, k4, b4⟩
  have g4 : Hi w.heap.size g q := g3.add K3.size b4
  have K4 : Kp0 w w4 := K3.step k4 g3
  clear k4 h3 b4 K3 g3
  go_wp2_with fail
  refine (say_x h4 (show St.say ⟨[2, 4], 0, false, 0, 0⟩ N 4 0 = ((1, 2, true), ⟨[2, 4], 0, true, 4, N + 4⟩) from by rw [← d1]; rfl)).mono ?_
  rintro e w5 ⟨rfl, h5, k5⟩
  have K5 : Kp0 w w5 := K4.step k5 g4
  clear k5 h4 K4
  go_wp2_with fail
  refine (sclone_c g q _ _ h5).mono ?_
  rintro e w6 ⟨c, p, rfl, hc, c6, k6, b6⟩
  have hi6 : Hi w5.heap.size c p := Hi.of hc b6
  have lo6 := h5.lt
  have h6 := h5.kp0 k6
  have K6 : Kp0 w w6 := K5.then0 k6
  have hs6 : w.heap.size ≤ w5.heap.size := K5.size
  have g6 : Hi w.heap.size c p := fun i x => Nat.le_trans hs6 (hi6 i x)
  clear k6 K5 h5 b6 hc
  go_wp2_with fail
  refine (said_c c p _ _ c6).mono ?_
  rintro e w7 ⟨rfl, rfl⟩
  go_wp2_with fail
  refine (updates_c g q _ _ h6).mono ?_
  rintro e w7 ⟨v, rfl, o7, k7, b7⟩
  obtain ⟨r, cap, rfl⟩ := own_some o7 (by simp)
  obtain ⟨t0, t1⟩ := own_blk o7 1 (by simp)
  have t0' : w7.cell? ⟨r, 1, none⟩ = some (.int .i64 2) := t0
  have hr : w6.heap.size ≤ r := by
    rcases b7 with b7 | ⟨b, b7, hb⟩
    · cases b7
    · cases b7; exact hb
  have l6 := h6.lt
  have m6 := c6.lt
  have h7 := (h6.kp0 k7).other (p := ⟨r, 1, none⟩) (fun i x => by have := l6 i x; show i ≠ r; omega) (.int .i64 9)
  have c7 := (c6.kp0 k7).other (p := ⟨r, 1, none⟩) (fun i x => by have := m6 i x; show i ≠ r; omega) (.int .i64 9)
  have K7 : Kp0 w (w7.setCell ⟨r, 1, none⟩ (.int .i64 9)) := (K6.then0 k7).setCell (p := ⟨r, 1, none⟩) (fun hx => by have := K6.size; simp at hx; omega) _
  clear t0 o7 k7 b7 K6 h6 c6 l6 m6
  go_wp2_with fail
  refine (ack_x h7 (show St.ack ⟨[2, 4], 0, true, 4, N + 4⟩ 1 = (0, ⟨[2, 4], 1, false, 4, N + 4⟩) from rfl)).mono ?_
  rintro e w8 ⟨rfl, h8, k8⟩
  have c8 := c7.past' k8 hi6 lo6
  have K8 : Kp0 w w8 := K7.step k8 g4
  clear k8 K7 c7 h7
  go_wp2_with fail
  refine (acked_c c p _ _ c8).mono ?_
  rintro e w9 ⟨rfl, rfl⟩
  go_wp2_with fail
  refine (again_x c8 (show St.again ⟨[2, 4], 0, true, 4, N + 4⟩ (N + 3) 9 0 = ((0, 0, false), ⟨[2, 4], 0, true, 4, N + 4⟩) from by
    show (if N + 3 < N + 4 then ((0, 0, false), (⟨[2, 4], 0, true, 4, N + 4⟩ : St)) else _) = _
    rw [if_pos (by omega)])).mono ?_
  rintro e w9 ⟨rfl, c9, k9⟩
  have h9 := h8.past k9 lo6 hi6
  have K9 : Kp0 w w9 := K8.step k9 g6
  clear k9 K8 c8 h8
  go_wp2_with fail
  refine (again_x (c9.alloc _) (show St.again ⟨[2, 4], 0, true, 4, N + 4⟩ (N + 4) 9 0 = ((1, 2, true), ⟨[2, 4], 0, true, 8, N + 4 + 8⟩) from by
    show (if N + 4 < N + 4 then ((0, 0, false), (⟨[2, 4], 0, true, 4, N + 4⟩ : St)) else _) = _
    rw [if_neg (by omega), ← d2]; rfl)).mono ?_
  rintro e w10 ⟨rfl, c10, k10⟩
  have h10 := (h9.alloc _).past k10 lo6 hi6
  have K10 : Kp0 w w10 := (K9.alloc _).step k10 g6
  clear k10 K9 c9 h9
  go_wp2_with fail
  refine (again_x (c10.alloc _) (show St.again ⟨[2, 4], 0, true, 8, N + 4 + 8⟩ (N + 5) 9 0 = ((0, 0, false), ⟨[2, 4], 0, true, 8, N + 4 + 8⟩) from by
    show (if N + 5 < N + 4 + 8 then ((0, 0, false), (⟨[2, 4], 0, true, 8, N + 4 + 8⟩ : St)) else _) = _
    rw [if_pos (by omega)])).mono ?_
  rintro e w11 ⟨rfl, c11, k11⟩
  have h10' := h10
  have h11 := (h10.alloc _).past k11 lo6 hi6
  have K11 : Kp0 w w11 := (K10.alloc _).step k11 g6
  have n10 : ¬ Ft c p w10.heap.size := fun x => by have := c10.lt _ x; omega
  have n10' : ¬ Ft g q w10.heap.size := fun x => by have := h10'.lt _ x; omega
  have B11 := kp_blk k11 (Blk.new w10 #[.int .i64 1, .int .i64 2] 27) n10
  clear k11 K10 c10 h10'
  go_wp2_with fail
  refine (say_x (h11.alloc _) (show St.say ⟨[2, 4], 1, false, 4, N + 4⟩ N 4 0 = ((2, 4, true), ⟨[2, 4], 1, true, 4, N + 4⟩) from by rw [← d1]; rfl)).mono ?_
  rintro e w12 ⟨rfl, h12, k12⟩
  have K12 : Kp0 w w12 := (K11.alloc _).step k12 g4
  have B12 := kp_blk k12 (B11.alloc _) n10'
  have x0 := B12.cell 0
  have x1 := B12.cell 1
  simp at x0 x1
  have hw12 : w10.heap.size < w12.heap.size := B12.lt
  clear k12 K11 c11 h11 B11 B12
  go_wp2_with (go_at_call 18; refine (wakes11_c _).mono ?_; rintro e w13 ⟨rfl, k13⟩)
  go_ret
  exact ⟨rfl, ((K12.alloc _).then0 k13).below0⟩
end Go.Proofs.Ytccamciijpmkjaa
