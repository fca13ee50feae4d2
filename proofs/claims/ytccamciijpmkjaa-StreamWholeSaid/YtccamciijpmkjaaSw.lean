/- The walk of StreamWhole. -/
import Derived.Test.YtccamciijpmkjaaSo
import Derived.Deep.CutRange
import Derived.Deep.DeepFit
set_option linter.unusedVariables false
set_option linter.unusedSimpArgs false
namespace Go.Proofs.Ytccamciijpmkjaa
open Go.RowKit

theorem within_k (v n : Int) (hn : 1 ≤ n) (h1 : n ≤ 9223372036854775807) :
    ∃ F : Int, 0 ≤ F ∧ F < n ∧ ∀ w, Calls Try.prog 13 #[.int .i64 v, .int .i64 n] w fun e w' => e = .returned (.int .i64 F) ∧ w = w' :=
  ⟨v % n, Int.emod_nonneg v (by omega), Int.emod_lt_of_pos v (by omega), fun w => within_c v n hn h1 w⟩

theorem closed_x {g : Nat} {q : Option Nat} {s : St} {b : Bool} {w : World} (h : StAt w g q s) (hr : (ov s.state && ((s.l.length : Int) - s.acked == 0)) = b) :
    Calls Try.prog 20 #[.pointer (some ⟨g, 0, none⟩)] w fun e w' => e = .returned (.bool b) ∧ Kp0 w w' := by
  have := closed_c g q s w h; rw [hr] at this; exact this

/-- Two cells that a stream's own writes leave as they are. -/
structure Hold (wr : World) (g : Nat) (q : Option Nat) (p : Nat) (x y : Value) : Prop where
  nb : ¬ Ft g q p
  lt : p < wr.heap.size
  c0 : wr.cell? ⟨p, 0, none⟩ = some x
  c1 : wr.cell? ⟨p, 1, none⟩ = some y
theorem Hold.kp {wr w1 : World} {g p : Nat} {q : Option Nat} {x y : Value} (h : Hold wr g q p x y) (k : Kp (Ft g q) wr w1) : Hold w1 g q p x y := by
  have e := k.block p h.lt h.nb
  refine ⟨h.nb, Nat.lt_of_lt_of_le h.lt k.size, ?_, ?_⟩
  · rw [← h.c0]; unfold World.cell?; simp only [e]
  · rw [← h.c1]; unfold World.cell?; simp only [e]
theorem Hold.kp0 {wr w1 : World} {g p : Nat} {q : Option Nat} {x y : Value} (h : Hold wr g q p x y) (k : Kp0 wr w1) : Hold w1 g q p x y := h.kp (k.mono fun _ _ x => x.elim)
theorem Hold.alloc {wr : World} {g p : Nat} {q : Option Nat} {x y : Value} (h : Hold wr g q p x y) (o : Obj) : Hold (wr.alloc o) g q p x y := h.kp0 ((Kp.refl _ _).alloc _)
theorem Hold.drewN {wr : World} {g p : Nat} {q : Option Nat} {x y : Value} (h : Hold wr g q p x y) (n : Nat) : Hold (wr.drewN n) g q p x y := h.kp0 ((Kp.refl _ _).drewN _)
theorem Hold.new {wr : World} {g : Nat} {q : Option Nat} {s : St} (h : StAt wr g q s) (x y : Value) (T : TypeId) : Hold (wr.alloc (.cells #[x, y] T)) g q wr.heap.size x y := by
  have hb : Blk (wr.alloc (.cells #[x, y] T)) wr.heap.size #[x, y] T := blk_new _ _ rfl
  have c0 := Blk.cell hb 0
  have c1 := Blk.cell hb 1
  exact ⟨fun hx => by have := h.lt _ hx; omega, hb.lt, c0, c1⟩

/-- A stream beside the list of states that it is fed with. -/
structure WhR (w wr : World) (g b : Nat) (P : Int) (q : Option Nat) (s : St) : Prop where
  st : StAt wr g q s
  hi : Hi w.heap.size g q
  k : Kp0 w wr
  hd : Hold wr g q b (.int .i64 2) (.int .i64 P)

theorem WhR.kp0 {w wr w1 : World} {g b : Nat} {P : Int} {q : Option Nat} {s : St} (h : WhR w wr g b P q s) (kk : Kp0 wr w1) : WhR w w1 g b P q s :=
  ⟨h.st.kp0 kk, h.hi, h.k.then0 kk, h.hd.kp0 kk⟩
theorem WhR.alloc {w wr : World} {g b : Nat} {P : Int} {q : Option Nat} {s : St} (h : WhR w wr g b P q s) (o : Obj) : WhR w (wr.alloc o) g b P q s := h.kp0 ((Kp.refl _ _).alloc _)
theorem WhR.drewN {w wr : World} {g b : Nat} {P : Int} {q : Option Nat} {s : St} (h : WhR w wr g b P q s) (n : Nat) : WhR w (wr.drewN n) g b P q s := h.kp0 ((Kp.refl _ _).drewN _)
theorem WhR.same {w wr w1 : World} {g b : Nat} {P : Int} {q : Option Nat} {s s' : St} (h : WhR w wr g b P q s) (h1 : StAt w1 g q s') (k : Kp (Ft g q) wr w1) : WhR w w1 g b P q s' :=
  ⟨h1, h.hi, h.k.step k h.hi, h.hd.kp k⟩
theorem WhR.step {w wr w1 : World} {g b : Nat} {P : Int} {q q' : Option Nat} {s s' : St} (h : WhR w wr g b P q s) (h1 : StAt w1 g q' s') (k : Kp (Ft g q) wr w1) (bb : q' = q ∨ ∃ b, q' = some b ∧ wr.heap.size ≤ b) : WhR w w1 g b P q' s' := by
  have H := h.hd.kp k
  refine ⟨h1, h.hi.add h.k.size bb, h.k.step k h.hi, ⟨?_, H.lt, H.c0, H.c1⟩⟩
  intro hx
  have hb := h.hd.lt
  rcases bb with rfl | ⟨b', rfl, hb'⟩
  · exact h.hd.nb hx
  · rcases hx with hx | hx
    · exact h.hd.nb (.inl hx)
    · injection hx with hx; omega

set_option maxRecDepth 100000 in
set_option maxHeartbeats 8000000 in
theorem whole_c (v1 v2 dr : Int) (sh : Bool) (w : World) :
    Calls Try.prog 4 #[.int .i64 v1, .int .i64 v2, .int .i64 dr, .bool sh] w fun e' w' => e' = .returned (.bool true) ∧ Kp0 w w' := by
  obtain ⟨F, hF0, hF3, cF⟩ := within_k v1 4 (by omega) (by omega)
  obtain ⟨N, hN0, hN3, cN⟩ := within_k v2 1000 (by omega) (by omega)
  have hF : F = 0 ∨ F = 1 ∨ F = 2 ∨ F = 3 := by omega
  go_enter Try.func4, Try.ntmps4
  go_wp2_with fail
  refine (new_c _).mono ?_
  rintro e' w1 ⟨g, rfl, hg, h1, k1⟩
  go_upto_region 4 with fail
  go_cut [0, 1] from 33 to 39 (fun s0 s1 wx => ∃ P : Int, s0 = .int .i64 P ∧ s1 = .int .i64 N ∧ 3 ≤ P ∧ P ≤ 6 ∧ Kp0 w1 wx)
  case first =>
    clear hF0 hF3
    rcases hF with rfl | rfl | rfl | rfl
    all_goals
      go_region_with (first | (go_at_call 13; go_fit (cF _); rintro e w' ⟨rfl, rfl⟩) | (go_at_call 13; go_fit (cN _); rintro e w' ⟨rfl, rfl⟩))
      all_goals
        go_wp2_with fail
        go_meet
        exact ⟨_, rfl, rfl, by decide, by decide, (((Kp.refl _ _).drewN _).alloc _)⟩
  case rest =>
    obtain ⟨P, rfl, rfl, hP3, hP6, kx⟩ := hcut
    have hP : P = 3 ∨ P = 4 ∨ P = 5 ∨ P = 6 := by omega
    have hm1 : my 1 P = true := by rcases hP with rfl | rfl | rfl | rfl <;> rfl
    have hm2 : my 2 P = true := by rcases hP with rfl | rfl | rfl | rfl <;> rfl
    have hm0 : my P 2 = false := by rcases hP with rfl | rfl | rfl | rfl <;> rfl
    have hov : ov P = true := by rcases hP with rfl | rfl | rfl | rfl <;> rfl
    have hR : WhR w (wc.alloc (.cells #[.int .i64 2, .int .i64 P] 3)) g wc.heap.size P none ⟨[], 0, false, 0, 0⟩ :=
      ⟨(h1.kp0 kx).alloc _, Hi.of hg (.inl rfl), (k1.then0 kx).alloc _, Hold.new (h1.kp0 kx) _ _ _⟩
    clear h1 k1 kx cF cN hF hF0 hF3 hP
    cases sh
    · go_wp2_with fail
      go_loopw [47] (fun i wr => ∃ (n : Nat) (q : Option Nat), n ≤ 2 ∧ i = .int .i64 n ∧ WhR w wr g wc.heap.size P q ⟨[2, P].take n, 0, false, 0, 0⟩) (fun i _ => (2 - intOf i).toNat)
      case atStart => exact ⟨0, none, by decide, rfl, hR⟩
      case round =>
        clear hR
        obtain ⟨n, q, hn, rfl, R⟩ := hrel
        have hn3 : n = 0 ∨ n = 1 ∨ n = 2 := by omega
        rcases hn3 with rfl | rfl | rfl
        · have c0 := R.hd.c0
          have c1 := R.hd.c1
          go_wp2_with fail
          refine (add_x R.st (by show (0 : Nat) < 100; decide) (show St.add ⟨[], 0, false, 0, 0⟩ 2 = ((1, 2, 0), ⟨[2], 0, false, 0, 0⟩) from rfl)).mono ?_
          rintro e w3 ⟨q3, rfl, h3, k3, b3⟩
          have R3 := R.step h3 k3 b3
          clear h3 k3 b3 R
          go_wp2
          go_roundw
          case rel => exact ⟨1, q3, by decide, rfl, R3.alloc _⟩
          case measure => simp [intOf]
        · have c0 := R.hd.c0
          have c1 := R.hd.c1
          go_wp2_with fail
          refine (add_x R.st (by show (1 : Nat) < 100; decide) (show St.add ⟨[2], 0, false, 0, 0⟩ P = ((2, P, 0), ⟨[2, P], 0, false, 0, 0⟩) from by rw [show St.add ⟨[2], 0, false, 0, 0⟩ P = (if my 2 P = true then (((1 : Int) + 1, P, 0), ⟨[2] ++ [P], 0, false, 0, 0⟩) else ((0, 0, 8), ⟨[2], 0, false, 0, 0⟩)) from rfl, if_pos hm2]; rfl)).mono ?_
          rintro e w3 ⟨q3, rfl, h3, k3, b3⟩
          have R3 := R.step h3 k3 b3
          clear h3 k3 b3 R
          go_wp2
          go_roundw
          case rel => exact ⟨2, q3, by decide, rfl, R3.alloc _⟩
          case measure => simp [intOf]
        · go_wp2_with fail
          refine (add_x R.st (by show (2 : Nat) < 100; decide) (show St.add ⟨[2, P], 0, false, 0, 0⟩ 2 = ((0, 0, 8), ⟨[2, P], 0, false, 0, 0⟩) from by rw [show St.add ⟨[2, P], 0, false, 0, 0⟩ 2 = (if my P 2 = true then (((2 : Int) + 1, 2, 0), ⟨[2, P] ++ [2], 0, false, 0, 0⟩) else ((0, 0, 8), ⟨[2, P], 0, false, 0, 0⟩)) from rfl, if_neg (by rw [hm0]; decide)])).mono ?_
          rintro e w3 ⟨q3, rfl, h3, k3, b3⟩
          have R3 := R.step h3 k3 b3
          clear h3 k3 b3 R
          go_wp2_with fail
          refine (state_c _ _ _ _ (R3.alloc _).st).mono ?_
          rintro e w4 ⟨rfl, n4, rfl⟩
          have R4 := (R3.alloc (.cells #[.int .i64 0, .int .i64 0] 27)).drewN n4
          clear R3
          have es : St.state ⟨[2, P], 0, false, 0, 0⟩ = P := rfl
          go_wp2_with fail
          refine (closed_x R4.st (b := false) (by simp)).mono ?_
          rintro e w5 ⟨rfl, k5⟩
          have R5 := R4.kp0 k5
          clear k5 R4
          go_wp2_with fail
          go_loopw [79] (fun i wr => ∃ (n : Nat) (q : Option Nat) (D U : Int), n ≤ 2 ∧ i = .int .i64 n ∧ WhR w wr g wc.heap.size P q ⟨[2, P], n, false, D, U⟩) (fun i _ => (2 - intOf i).toNat)
          case atStart => exact ⟨0, q3, _, _, by decide, rfl, R5⟩
          case round =>
            clear R5
            obtain ⟨n, q, D, U, hn, rfl, R⟩ := hrel
            have hn3 : n = 0 ∨ n = 1 ∨ n = 2 := by omega
            rcases hn3 with rfl | rfl | rfl
            · have c0 := R.hd.c0
              have c1 := R.hd.c1
              go_wp2_with fail
              refine (front_x R.st (show St.front ⟨[2, P], 0, false, D, U⟩ = (1, 2, true) from rfl)).mono ?_
              rintro e w6 ⟨rfl, k6⟩
              have R6 := (R.kp0 k6).alloc (.cells #[.int .i64 1, .int .i64 2] 27)
              have U6 : Hold _ _ _ _ _ _ := Hold.new (R.kp0 k6).st (.int .i64 1) (.int .i64 2) 27
              clear k6 R c0 c1
              go_wp2_with fail
              refine (said_c _ _ _ _ R6.st).mono ?_
              rintro e w' ⟨rfl, rfl⟩
              go_wp2_with fail
              refine (ack_x R6.st (show St.ack ⟨[2, P], 0, false, D, U⟩ 1 = (3, ⟨[2, P], 0, false, D, U⟩) from rfl)).mono ?_
              rintro e w7 ⟨rfl, h7, k7⟩
              have R7 := R6.same h7 k7
              have U7 := U6.kp k7
              clear h7 k7 R6 U6
              go_wp2_with fail
              refine (say_x R7.st (show St.say ⟨[2, P], 0, false, D, U⟩ N 3 dr = ((1, 2, true), ⟨[2, P], 0, true, 3, (due N 3 dr)⟩) from rfl)).mono ?_
              rintro e w8 ⟨rfl, h8, k8⟩
              have R8 := (R7.same h8 k8).alloc (.cells #[.int .i64 1, .int .i64 2] 27)
              have U8 := (U7.kp k8).alloc (.cells #[.int .i64 1, .int .i64 2] 27)
              have V8 : Hold _ _ _ _ _ _ := Hold.new h8 (.int .i64 1) (.int .i64 2) 27
              clear h8 k8 R7 U7
              go_wp2_with fail
              refine (say_x R8.st (show St.say ⟨[2, P], 0, true, 3, (due N 3 dr)⟩ N 3 dr = ((0, 0, false), ⟨[2, P], 0, true, 3, (due N 3 dr)⟩) from rfl)).mono ?_
              rintro e w9 ⟨rfl, h9, k9⟩
              have R9 := (R8.same h9 k9).alloc (.cells #[.int .i64 0, .int .i64 0] 27)
              have U9 := (U8.kp k9).alloc (.cells #[.int .i64 0, .int .i64 0] 27)
              have V9 := (V8.kp k9).alloc (.cells #[.int .i64 0, .int .i64 0] 27)
              have a0 := (U8.kp k9).c0
              have a1 := (U8.kp k9).c1
              have a2 := (V8.kp k9).c0
              have a3 := (V8.kp k9).c1
              clear h9 k9 R8 U8 V8
              have b0 := U9.c0
              have b1 := U9.c1
              have b2 := V9.c0
              have b3 := V9.c1
              go_wp2_with fail
              refine (said_c _ _ _ _ R9.st).mono ?_
              rintro e w' ⟨rfl, rfl⟩
              clear a0 a1 a2 a3 b0 b1 b2 b3
              go_wp2_with fail
              refine (ack_x R9.st (show St.ack ⟨[2, P], 0, true, 3, (due N 3 dr)⟩ 2 = (3, ⟨[2, P], 0, true, 3, (due N 3 dr)⟩) from rfl)).mono ?_
              rintro e w10 ⟨rfl, h10, k10⟩
              have R10 := R9.same h10 k10
              clear h10 k10 R9 U9 V9
              go_wp2_with fail
              refine (closed_x R10.st (b := false) (by simp)).mono ?_
              rintro e w11 ⟨rfl, k11⟩
              have R11 := R10.kp0 k11
              clear k11 R10
              go_wp2_with fail
              refine (ack_x R11.st (show St.ack ⟨[2, P], 0, true, 3, (due N 3 dr)⟩ 1 = (0, ⟨[2, P], 1, false, 3, (due N 3 dr)⟩) from rfl)).mono ?_
              rintro e w12 ⟨rfl, h12, k12⟩
              have R12 := R11.same h12 k12
              clear h12 k12 R11
              go_wp2_with fail
              refine (ack_x R12.st (show St.ack ⟨[2, P], 1, false, 3, (due N 3 dr)⟩ 1 = (3, ⟨[2, P], 1, false, 3, (due N 3 dr)⟩) from rfl)).mono ?_
              rintro e w13 ⟨rfl, h13, k13⟩
              have R13 := R12.same h13 k13
              clear h13 k13 R12
              go_wp2_with fail
              refine (acked_c _ _ _ _ R13.st).mono ?_
              rintro e w' ⟨rfl, rfl⟩
              go_wp2_with fail
              refine (pending_c _ _ _ _ R13.st).mono ?_
              rintro e w14 ⟨rfl, n14, rfl⟩
              have R14 := R13.drewN n14
              clear R13
              go_wp2
              go_roundw
              case rel => exact ⟨1, q, 3, _, by decide, rfl, R14⟩
              case measure => simp [intOf]
            · have c0 := R.hd.c0
              have c1 := R.hd.c1
              go_wp2_with fail
              refine (front_x R.st (show St.front ⟨[2, P], 1, false, D, U⟩ = (2, P, true) from rfl)).mono ?_
              rintro e w6 ⟨rfl, k6⟩
              have R6 := (R.kp0 k6).alloc (.cells #[.int .i64 2, .int .i64 P] 27)
              have U6 : Hold _ _ _ _ _ _ := Hold.new (R.kp0 k6).st (.int .i64 2) (.int .i64 P) 27
              clear k6 R c0 c1
              go_wp2_with fail
              refine (said_c _ _ _ _ R6.st).mono ?_
              rintro e w' ⟨rfl, rfl⟩
              go_wp2_with fail
              refine (ack_x R6.st (show St.ack ⟨[2, P], 1, false, D, U⟩ 2 = (3, ⟨[2, P], 1, false, D, U⟩) from rfl)).mono ?_
              rintro e w7 ⟨rfl, h7, k7⟩
              have R7 := R6.same h7 k7
              have U7 := U6.kp k7
              clear h7 k7 R6 U6
              go_wp2_with fail
              refine (say_x R7.st (show St.say ⟨[2, P], 1, false, D, U⟩ N 3 dr = ((2, P, true), ⟨[2, P], 1, true, 3, (due N 3 dr)⟩) from rfl)).mono ?_
              rintro e w8 ⟨rfl, h8, k8⟩
              have R8 := (R7.same h8 k8).alloc (.cells #[.int .i64 2, .int .i64 P] 27)
              have U8 := (U7.kp k8).alloc (.cells #[.int .i64 2, .int .i64 P] 27)
              have V8 : Hold _ _ _ _ _ _ := Hold.new h8 (.int .i64 2) (.int .i64 P) 27
              clear h8 k8 R7 U7
              go_wp2_with fail
              refine (say_x R8.st (show St.say ⟨[2, P], 1, true, 3, (due N 3 dr)⟩ N 3 dr = ((0, 0, false), ⟨[2, P], 1, true, 3, (due N 3 dr)⟩) from rfl)).mono ?_
              rintro e w9 ⟨rfl, h9, k9⟩
              have R9 := (R8.same h9 k9).alloc (.cells #[.int .i64 0, .int .i64 0] 27)
              have U9 := (U8.kp k9).alloc (.cells #[.int .i64 0, .int .i64 0] 27)
              have V9 := (V8.kp k9).alloc (.cells #[.int .i64 0, .int .i64 0] 27)
              have a0 := (U8.kp k9).c0
              have a1 := (U8.kp k9).c1
              have a2 := (V8.kp k9).c0
              have a3 := (V8.kp k9).c1
              clear h9 k9 R8 U8 V8
              have b0 := U9.c0
              have b1 := U9.c1
              have b2 := V9.c0
              have b3 := V9.c1
              go_wp2_with fail
              refine (said_c _ _ _ _ R9.st).mono ?_
              rintro e w' ⟨rfl, rfl⟩
              clear a0 a1 a2 a3 b0 b1 b2 b3
              go_wp2_with fail
              refine (ack_x R9.st (show St.ack ⟨[2, P], 1, true, 3, (due N 3 dr)⟩ 3 = (3, ⟨[2, P], 1, true, 3, (due N 3 dr)⟩) from rfl)).mono ?_
              rintro e w10 ⟨rfl, h10, k10⟩
              have R10 := R9.same h10 k10
              clear h10 k10 R9 U9 V9
              go_wp2_with fail
              refine (closed_x R10.st (b := false) (by simp)).mono ?_
              rintro e w11 ⟨rfl, k11⟩
              have R11 := R10.kp0 k11
              clear k11 R10
              go_wp2_with fail
              refine (ack_x R11.st (show St.ack ⟨[2, P], 1, true, 3, (due N 3 dr)⟩ 2 = (0, ⟨[2, P], 2, false, 3, (due N 3 dr)⟩) from rfl)).mono ?_
              rintro e w12 ⟨rfl, h12, k12⟩
              have R12 := R11.same h12 k12
              clear h12 k12 R11
              go_wp2_with fail
              refine (ack_x R12.st (show St.ack ⟨[2, P], 2, false, 3, (due N 3 dr)⟩ 2 = (3, ⟨[2, P], 2, false, 3, (due N 3 dr)⟩) from rfl)).mono ?_
              rintro e w13 ⟨rfl, h13, k13⟩
              have R13 := R12.same h13 k13
              clear h13 k13 R12
              go_wp2_with fail
              refine (acked_c _ _ _ _ R13.st).mono ?_
              rintro e w' ⟨rfl, rfl⟩
              go_wp2_with fail
              refine (pending_c _ _ _ _ R13.st).mono ?_
              rintro e w14 ⟨rfl, n14, rfl⟩
              have R14 := R13.drewN n14
              clear R13
              go_wp2
              go_roundw
              case rel => exact ⟨2, q, 3, _, by decide, rfl, R14⟩
              case measure => simp [intOf]
            · go_wp2_with fail
              refine (front_x R.st (show St.front ⟨[2, P], 2, false, D, U⟩ = (0, 0, false) from rfl)).mono ?_
              rintro e w6 ⟨rfl, k6⟩
              have R6 := (R.kp0 k6).alloc (.cells #[.int .i64 0, .int .i64 0] 27)
              clear k6 R
              go_wp2_with fail
              refine (say_x R6.st (show St.say ⟨[2, P], 2, false, D, U⟩ N 3 dr = ((0, 0, false), ⟨[2, P], 2, false, D, U⟩) from rfl)).mono ?_
              rintro e w7 ⟨rfl, h7, k7⟩
              have R7 := (R6.same h7 k7).alloc (.cells #[.int .i64 0, .int .i64 0] 27)
              clear h7 k7 R6
              go_wp2_with fail
              refine (again_x R7.st (show St.again ⟨[2, P], 2, false, D, U⟩ (N + 1000) 9 dr = ((0, 0, false), ⟨[2, P], 2, false, D, U⟩) from rfl)).mono ?_
              rintro e w8 ⟨rfl, h8, k8⟩
              have R8 := (R7.same h8 k8).alloc (.cells #[.int .i64 0, .int .i64 0] 27)
              clear h8 k8 R7
              go_wp2_with fail
              refine (closed_x R8.st (b := true) (by show (ov P && _) = true; rw [hov]; rfl)).mono ?_
              rintro e w9 ⟨rfl, k9⟩
              have R9 := R8.kp0 k9
              clear k9 R8
              go_wp2_with fail
              refine (said_c _ _ _ _ R9.st).mono ?_
              rintro e w' ⟨rfl, rfl⟩
              go_wp2_with fail
              refine (wakes11_c _).mono ?_
              rintro e w10 ⟨rfl, k10⟩
              go_wp2
              go_ret
              exact ⟨rfl, R9.k.then0 k10⟩
    · go_wp2_with fail
      have hR := hR
      go_loopw [47] (fun i wr => ∃ (n : Nat) (q : Option Nat), n ≤ 1 ∧ i = .int .i64 n ∧ WhR w wr g wc.heap.size P q ⟨[P].take n, 0, false, 0, 0⟩) (fun i _ => (1 - intOf i).toNat)
      case atStart => exact ⟨0, none, by decide, rfl, hR⟩
      case round =>
        clear hR
        obtain ⟨n, q, hn, rfl, R⟩ := hrel
        have hn3 : n = 0 ∨ n = 1 := by omega
        rcases hn3 with rfl | rfl
        · have c0 := R.hd.c0
          have c1 := R.hd.c1
          go_wp2_with fail
          refine (add_x R.st (by show (0 : Nat) < 100; decide) (show St.add ⟨[], 0, false, 0, 0⟩ P = ((1, P, 0), ⟨[P], 0, false, 0, 0⟩) from by rw [show St.add ⟨[], 0, false, 0, 0⟩ P = (if my 1 P = true then (((0 : Int) + 1, P, 0), ⟨[] ++ [P], 0, false, 0, 0⟩) else ((0, 0, 8), ⟨[], 0, false, 0, 0⟩)) from rfl, if_pos hm1]; rfl)).mono ?_
          rintro e w3 ⟨q3, rfl, h3, k3, b3⟩
          have R3 := R.step h3 k3 b3
          clear h3 k3 b3 R
          go_wp2
          go_roundw
          case rel => exact ⟨1, q3, by decide, rfl, R3.alloc _⟩
          case measure => simp [intOf]
        · go_wp2_with fail
          refine (add_x R.st (by show (1 : Nat) < 100; decide) (show St.add ⟨[P], 0, false, 0, 0⟩ 2 = ((0, 0, 8), ⟨[P], 0, false, 0, 0⟩) from by rw [show St.add ⟨[P], 0, false, 0, 0⟩ 2 = (if my P 2 = true then (((1 : Int) + 1, 2, 0), ⟨[P] ++ [2], 0, false, 0, 0⟩) else ((0, 0, 8), ⟨[P], 0, false, 0, 0⟩)) from rfl, if_neg (by rw [hm0]; decide)])).mono ?_
          rintro e w3 ⟨q3, rfl, h3, k3, b3⟩
          have R3 := R.step h3 k3 b3
          clear h3 k3 b3 R
          go_wp2_with fail
          refine (state_c _ _ _ _ (R3.alloc _).st).mono ?_
          rintro e w4 ⟨rfl, n4, rfl⟩
          have R4 := (R3.alloc (.cells #[.int .i64 0, .int .i64 0] 27)).drewN n4
          clear R3
          have es : St.state ⟨[P], 0, false, 0, 0⟩ = P := rfl
          go_wp2_with fail
          refine (closed_x R4.st (b := false) (by simp)).mono ?_
          rintro e w5 ⟨rfl, k5⟩
          have R5 := R4.kp0 k5
          clear k5 R4
          go_wp2_with fail
          go_loopw [79] (fun i wr => ∃ (n : Nat) (q : Option Nat) (D U : Int), n ≤ 1 ∧ i = .int .i64 n ∧ WhR w wr g wc.heap.size P q ⟨[P], n, false, D, U⟩) (fun i _ => (1 - intOf i).toNat)
          case atStart => exact ⟨0, q3, _, _, by decide, rfl, R5⟩
          case round =>
            clear R5
            obtain ⟨n, q, D, U, hn, rfl, R⟩ := hrel
            have hn3 : n = 0 ∨ n = 1 := by omega
            rcases hn3 with rfl | rfl
            · have c0 := R.hd.c0
              have c1 := R.hd.c1
              go_wp2_with fail
              refine (front_x R.st (show St.front ⟨[P], 0, false, D, U⟩ = (1, P, true) from rfl)).mono ?_
              rintro e w6 ⟨rfl, k6⟩
              have R6 := (R.kp0 k6).alloc (.cells #[.int .i64 1, .int .i64 P] 27)
              have U6 : Hold _ _ _ _ _ _ := Hold.new (R.kp0 k6).st (.int .i64 1) (.int .i64 P) 27
              clear k6 R c0 c1
              go_wp2_with fail
              refine (said_c _ _ _ _ R6.st).mono ?_
              rintro e w' ⟨rfl, rfl⟩
              go_wp2_with fail
              refine (ack_x R6.st (show St.ack ⟨[P], 0, false, D, U⟩ 1 = (3, ⟨[P], 0, false, D, U⟩) from rfl)).mono ?_
              rintro e w7 ⟨rfl, h7, k7⟩
              have R7 := R6.same h7 k7
              have U7 := U6.kp k7
              clear h7 k7 R6 U6
              go_wp2_with fail
              refine (say_x R7.st (show St.say ⟨[P], 0, false, D, U⟩ N 3 dr = ((1, P, true), ⟨[P], 0, true, 3, (due N 3 dr)⟩) from rfl)).mono ?_
              rintro e w8 ⟨rfl, h8, k8⟩
              have R8 := (R7.same h8 k8).alloc (.cells #[.int .i64 1, .int .i64 P] 27)
              have U8 := (U7.kp k8).alloc (.cells #[.int .i64 1, .int .i64 P] 27)
              have V8 : Hold _ _ _ _ _ _ := Hold.new h8 (.int .i64 1) (.int .i64 P) 27
              clear h8 k8 R7 U7
              go_wp2_with fail
              refine (say_x R8.st (show St.say ⟨[P], 0, true, 3, (due N 3 dr)⟩ N 3 dr = ((0, 0, false), ⟨[P], 0, true, 3, (due N 3 dr)⟩) from rfl)).mono ?_
              rintro e w9 ⟨rfl, h9, k9⟩
              have R9 := (R8.same h9 k9).alloc (.cells #[.int .i64 0, .int .i64 0] 27)
              have U9 := (U8.kp k9).alloc (.cells #[.int .i64 0, .int .i64 0] 27)
              have V9 := (V8.kp k9).alloc (.cells #[.int .i64 0, .int .i64 0] 27)
              have a0 := (U8.kp k9).c0
              have a1 := (U8.kp k9).c1
              have a2 := (V8.kp k9).c0
              have a3 := (V8.kp k9).c1
              clear h9 k9 R8 U8 V8
              have b0 := U9.c0
              have b1 := U9.c1
              have b2 := V9.c0
              have b3 := V9.c1
              go_wp2_with fail
              refine (said_c _ _ _ _ R9.st).mono ?_
              rintro e w' ⟨rfl, rfl⟩
              clear a0 a1 a2 a3 b0 b1 b2 b3
              go_wp2_with fail
              refine (ack_x R9.st (show St.ack ⟨[P], 0, true, 3, (due N 3 dr)⟩ 2 = (3, ⟨[P], 0, true, 3, (due N 3 dr)⟩) from rfl)).mono ?_
              rintro e w10 ⟨rfl, h10, k10⟩
              have R10 := R9.same h10 k10
              clear h10 k10 R9 U9 V9
              go_wp2_with fail
              refine (closed_x R10.st (b := false) (by simp)).mono ?_
              rintro e w11 ⟨rfl, k11⟩
              have R11 := R10.kp0 k11
              clear k11 R10
              go_wp2_with fail
              refine (ack_x R11.st (show St.ack ⟨[P], 0, true, 3, (due N 3 dr)⟩ 1 = (0, ⟨[P], 1, false, 3, (due N 3 dr)⟩) from rfl)).mono ?_
              rintro e w12 ⟨rfl, h12, k12⟩
              have R12 := R11.same h12 k12
              clear h12 k12 R11
              go_wp2_with fail
              refine (ack_x R12.st (show St.ack ⟨[P], 1, false, 3, (due N 3 dr)⟩ 1 = (3, ⟨[P], 1, false, 3, (due N 3 dr)⟩) from rfl)).mono ?_
              rintro e w13 ⟨rfl, h13, k13⟩
              have R13 := R12.same h13 k13
              clear h13 k13 R12
              go_wp2_with fail
              refine (acked_c _ _ _ _ R13.st).mono ?_
              rintro e w' ⟨rfl, rfl⟩
              go_wp2_with fail
              refine (pending_c _ _ _ _ R13.st).mono ?_
              rintro e w14 ⟨rfl, n14, rfl⟩
              have R14 := R13.drewN n14
              clear R13
              go_wp2
              go_roundw
              case rel => exact ⟨1, q, 3, _, by decide, rfl, R14⟩
              case measure => simp [intOf]
            · go_wp2_with fail
              refine (front_x R.st (show St.front ⟨[P], 1, false, D, U⟩ = (0, 0, false) from rfl)).mono ?_
              rintro e w6 ⟨rfl, k6⟩
              have R6 := (R.kp0 k6).alloc (.cells #[.int .i64 0, .int .i64 0] 27)
              clear k6 R
              go_wp2_with fail
              refine (say_x R6.st (show St.say ⟨[P], 1, false, D, U⟩ N 3 dr = ((0, 0, false), ⟨[P], 1, false, D, U⟩) from rfl)).mono ?_
              rintro e w7 ⟨rfl, h7, k7⟩
              have R7 := (R6.same h7 k7).alloc (.cells #[.int .i64 0, .int .i64 0] 27)
              clear h7 k7 R6
              go_wp2_with fail
              refine (again_x R7.st (show St.again ⟨[P], 1, false, D, U⟩ (N + 1000) 9 dr = ((0, 0, false), ⟨[P], 1, false, D, U⟩) from rfl)).mono ?_
              rintro e w8 ⟨rfl, h8, k8⟩
              have R8 := (R7.same h8 k8).alloc (.cells #[.int .i64 0, .int .i64 0] 27)
              clear h8 k8 R7
              go_wp2_with fail
              refine (closed_x R8.st (b := true) (by show (ov P && _) = true; rw [hov]; rfl)).mono ?_
              rintro e w9 ⟨rfl, k9⟩
              have R9 := R8.kp0 k9
              clear k9 R8
              go_wp2_with fail
              refine (said_c _ _ _ _ R9.st).mono ?_
              rintro e w' ⟨rfl, rfl⟩
              go_wp2_with fail
              refine (wakes11_c _).mono ?_
              rintro e w10 ⟨rfl, k10⟩
              go_wp2
              go_ret
              exact ⟨rfl, R9.k.then0 k10⟩
theorem whole_w (v1 v2 dr : Int) (sh : Bool) (w : World) (_ : (Lit.int .i64 v1).wf = true) (_ : (Lit.int .i64 v2).wf = true) (_ : (Lit.int .i64 dr).wf = true) :
    Calls Try.prog 4 #[.int .i64 v1, .int .i64 v2, .int .i64 dr, .bool sh] w fun e w' => e = .returned (.bool true) ∧ Below w.heap.size w w' :=
  (whole_c v1 v2 dr sh w).mono fun _ _ h => ⟨h.1, h.2.below0⟩
end Go.Proofs.Ytccamciijpmkjaa
