/- The walk of StreamOrder. -/
import Derived.Test.YtccamciijpmkjaaSo
import Derived.Test.YtccamciijpmkjaaOwn
set_option linter.unusedVariables false
set_option linter.unusedSimpArgs false
namespace Go.Proofs.Ytccamciijpmkjaa
open Go.RowKit

theorem StAt.le {w : World} {g : Nat} {q : Option Nat} {s : St} (h : StAt w g q s) : s.acked ≤ s.l.length ∧ s.l.length ≤ 100 := by
  obtain ⟨_, _, _, _, a, b⟩ := h
  exact ⟨a, b⟩

theorem say_cases (s : St) (now first draw : Int) : (∃ y d, s.said = false ∧ s.acked ≠ s.l.length ∧ s.say now first draw = (((s.acked : Int) + 1, y, true), { s with said := true, delay := first, due := d })) ∨ s.say now first draw = ((0, 0, false), s) := by
  unfold St.say
  by_cases hf : s.acked = s.l.length
  · exact .inr (by have : s.front.2.2 = false := (by unfold St.front; rw [if_pos hf]); simp [this])
  · have e : s.front = ((s.acked : Int) + 1, s.l.getD s.acked 0, true) := by unfold St.front; rw [if_neg hf]
    by_cases hs : s.said = true
    · exact .inr (by simp [e, hs])
    · exact .inl ⟨s.l.getD s.acked 0, _, by simpa using hs, hf, by rw [e]; simp [hs]; rfl⟩
theorem again_cases (s : St) (now most draw : Int) : (∃ y d u, s.said = true ∧ s.again now most draw = (((s.acked : Int) + 1, y, true), { s with delay := d, due := u })) ∨ s.again now most draw = ((0, 0, false), s) := by
  unfold St.again
  by_cases hf : s.acked = s.l.length
  · exact .inr (by have : s.front.2.2 = false := (by unfold St.front; rw [if_pos hf]); simp [this])
  · have e : s.front = ((s.acked : Int) + 1, s.l.getD s.acked 0, true) := by unfold St.front; rw [if_neg hf]
    by_cases hs : s.said = true
    · by_cases hd : now < s.due
      · exact .inr (by simp [e, hs, hd])
      · exact .inl ⟨s.l.getD s.acked 0, _, _, hs, by rw [e]; simp [hs, hd]; exact ⟨rfl, rfl⟩⟩
    · exact .inr (by simp [e, hs])
theorem ack_cases (s : St) (n : Int) (hl : s.acked ≤ s.l.length) : (s.said = true ∧ n = (s.acked : Int) + 1 ∧ s.acked + 1 ≤ s.l.length ∧ s.ack n = (0, { s with acked := s.acked + 1, said := false })) ∨ s.ack n = (3, s) := by
  unfold St.ack
  by_cases hf : s.acked = s.l.length
  · exact .inr (by have : s.front.2.2 = false := (by unfold St.front; rw [if_pos hf]); simp [this])
  · have e : s.front = ((s.acked : Int) + 1, s.l.getD s.acked 0, true) := by unfold St.front; rw [if_neg hf]
    by_cases hs : s.said = true
    · by_cases hd : (s.acked : Int) + 1 = n
      · exact .inl ⟨hs, hd.symm, by omega, by simp [e, hs, hd]⟩
      · exact .inr (by simp [e, hs, hd])
    · exact .inr (by simp [e, hs])
/-- A log that may be. -/
def Okk (s : St) : Prop := s.l = [] ∨ s.l = [2] ∨ (ov s.state = true ∧ s.l.length ≤ 2)
theorem Okk.len {s : St} (h : Okk s) : s.l.length ≤ 2 := by
  rcases h with h | h | h
  · rw [h]; decide
  · rw [h]; decide
  · exact h.2
theorem add_cases (s : St) (x : Int) (h : Okk s) : (s.state < 3 ∧ Okk { s with l := s.l ++ [x] } ∧ s.add x = (((s.l.length : Int) + 1, x, 0), { s with l := s.l ++ [x] })) ∨ s.add x = ((0, 0, 8), s) := by
  unfold St.add
  by_cases hm : my s.state x = true
  · refine .inl ?_
    have hst : ∀ k : St, k.l = s.l ++ [x] → k.state = x := by intro k hk; unfold St.state; rw [hk]; simp
    rcases h with h | h | h
    · have e : s.state = 1 := by unfold St.state; rw [h]; rfl
      rw [e] at hm
      refine ⟨by omega, ?_, by rw [e, if_pos hm]⟩
      simp [my] at hm
      rcases hm with rfl | hm
      · exact .inr (.inl (by simp [h]))
      · exact .inr (.inr ⟨by rw [hst _ rfl]; exact hm, by simp [h]⟩)
    · have e : s.state = 2 := by unfold St.state; rw [h]; rfl
      rw [e] at hm
      refine ⟨by omega, ?_, by rw [e, if_pos hm]⟩
      simp [my] at hm
      exact .inr (.inr ⟨by rw [hst _ rfl]; exact hm.1, by simp [h]⟩)
    · have h1 := h.1
      have : my s.state x = false := by
        unfold ov at h1
        unfold my
        simp at h1
        rw [if_neg (by omega), if_neg (by omega)]
      rw [this] at hm; cases hm
  · exact .inr (by rw [if_neg hm])

/-- The updates told: a list of their length. -/
theorem updates_l (g : Nat) (q : Option Nat) (s : St) (w : World) (h : StAt w g q s) :
    Calls Try.prog 25 #[.pointer (some ⟨g, 0, none⟩)] w fun e w' => ∃ A cap, e = .returned (.slice A s.l.length cap) ∧ Kp0 w w' := by
  refine (updates_c g q s w h).mono ?_
  rintro e w' ⟨v, rfl, o, k, _⟩
  rcases own_shape o with ⟨rfl, h0, _⟩ | ⟨r, cap, rfl, _⟩
  · exact ⟨none, 0, by rw [h0], k⟩
  · exact ⟨_, cap, rfl, k⟩

theorem updates_v (g : Nat) (q : Option Nat) (s : St) (w : World) (h : StAt w g q s) {n : Nat} (hn : s.l.length = n) :
    Calls Try.prog 25 #[.pointer (some ⟨g, 0, none⟩)] w fun e w' => ∃ A cap, e = .returned (.slice A n cap) ∧ Kp0 w w' := by
  subst hn; exact updates_l g q s w h
theorem acked_v (g : Nat) (q : Option Nat) (s : St) (w : World) (h : StAt w g q s) {A : Int} (hA : (s.acked : Int) = A) :
    Calls Try.prog 23 #[.pointer (some ⟨g, 0, none⟩)] w fun e w' => e = .returned (.int .i64 A) ∧ w = w' := by
  subst hA; exact acked_c g q s w h
theorem pending_v (g : Nat) (q : Option Nat) (s : St) (w : World) (h : StAt w g q s) {A : Int} (hA : (s.l.length : Int) - s.acked = A) :
    Calls Try.prog 24 #[.pointer (some ⟨g, 0, none⟩)] w fun e w' => e = .returned (.int .i64 A) ∧ ∃ n, w' = w.drewN n := by
  subst hA; exact pending_c g q s w h

structure OrRel (w : World) (g len : Nat) (l a n i : Value) (wr : World) (I : Nat) (q : Option Nat) (s : St) (N L : Int) : Prop where
  hI : I ≤ len
  h30 : I ≤ 30
  ei : i = .int .i64 I
  el : l = .int .i64 L
  ea : a = .int .i64 s.acked
  en : n = .int .i64 N
  n0 : 0 ≤ N
  n1 : N ≤ 4 * I
  said : (s.said = true ∧ L = (s.acked : Int) + 1) ∨ (s.said = false ∧ L = s.acked)
  st : StAt wr g q s
  ok : Okk s
  hi : Hi w.heap.size g q
  k : Kp0 w wr

set_option maxRecDepth 100000 in
set_option maxHeartbeats 8000000 in
theorem order_c (a : Option Addr) (len cap : Nat) (V : Nat → Nat → Int) (w : World) (hs : Sl w a len cap 4 (fun i j => .int .i64 (V i j))) :
    Calls Try.prog 5 #[.slice a len cap] w fun e' w' => e' = .returned (.bool true) ∧ Kp0 w w' := by
  obtain ⟨hl, hc, hz⟩ := hs
  go_enter Try.func5, Try.ntmps5
  go_wp2_with fail
  refine (new_c _).mono ?_
  rintro e' w1 ⟨g, rfl, hg, h1, k1⟩
  have hR : OrRel w g len (.int .i64 0) (.int .i64 0) (.int .i64 0) (.int .i64 0) w1 0 none ⟨[], 0, false, 0, 0⟩ 0 0 := ⟨Nat.zero_le _, by omega, rfl, rfl, rfl, rfl, by omega, by omega, .inr ⟨rfl, rfl⟩, h1, .inl rfl, Hi.of hg (.inl rfl), k1⟩
  clear h1 k1
  go_wp2_with fail
  go_loopw [4, 5, 6, 7] (fun l a n i wr => ∃ I q s N L, OrRel w g len l a n i wr I q s N L) (fun _ _ _ i _ => len - (intOf i).toNat)
  case atStart => exact ⟨_, _, _, _, _, hR⟩
  case round =>
    clear hR
    obtain ⟨I, q, s, N, L, hI, h30, rfl, rfl, rfl, rfl, n0, n1, hsd, hr, hok, hhi, K⟩ := hrel
    by_cases hlt : I < len
    · by_cases h24 : I < 30
      · have hz' := hz.resolve_left (by omega)
        obtain ⟨b, off, rfl, hcell⟩ := hz'
        clear hz
        have hb : b < w.heap.size := World.block_lt_of_cell? w ⟨b, _, none⟩ (hcell I hlt 0 (by omega))
        have cc : ∀ j, j < 4 → wr.cell? ⟨b, off + (I * 4 + j), none⟩ = some (.int .i64 (V I j)) := fun j hj => (K.below0.cell (p := ⟨b, _, none⟩) hb).trans (hcell I hlt j hj)
        have c0 : wr.cell? ⟨b, off + I * 4, none⟩ = some (.int .i64 (V I 0)) := cc 0 (by omega)
        have c1 : wr.cell? ⟨b, off + I * 4 + 1, none⟩ = some (.int .i64 (V I 1)) := cc 1 (by omega)
        have c2 : wr.cell? ⟨b, off + I * 4 + 2, none⟩ = some (.int .i64 (V I 2)) := cc 2 (by omega)
        have c3 : wr.cell? ⟨b, off + I * 4 + 3, none⟩ = some (.int .i64 (V I 3)) := cc 3 (by omega)
        clear cc hcell
        go_wp2_with fail
        have hA := Blk.new wr #[.int .i64 (V I 0), .int .i64 (V I 1), .int .i64 (V I 2), .int .i64 (V I 3)] 41
        have hr' : StAt (wr.alloc (.cells #[.int .i64 (V I 0), .int .i64 (V I 1), .int .i64 (V I 2), .int .i64 (V I 3)] 41)) g q s := hr.alloc _
        have K' := K.alloc (.cells #[.int .i64 (V I 0), .int .i64 (V I 1), .int .i64 (V I 2), .int .i64 (V I 3)] 41)
        have na : ¬ Ft g q wr.heap.size := fun x => by have := hr.lt _ x; omega
        have hle := hr.le
        clear hr K c0 c1 c2 c3
        generalize wr.heap.size = ga at *
        generalize wr.alloc (.cells #[.int .i64 (V I 0), .int .i64 (V I 1), .int .i64 (V I 2), .int .i64 (V I 3)] 41) = wa at *
        refine (within_x _ _ (by omega) (by omega) _).mono ?_
        rintro e' w' ⟨D, hD0, hD1, rfl, rfl⟩
        have d0 := Blk.cell hA 0
        have d1 := Blk.cell hA 1
        have d3 := Blk.cell hA 3
        simp at d0 d1 d3
        go_wp2_with fail
        refine (within_x _ _ (by omega) (by omega) _).mono ?_
        rintro e' w' ⟨X, hX0, hX1, rfl, rfl⟩
        have hX : X = 0 ∨ X = 1 ∨ X = 2 ∨ X = 3 ∨ X = 4 ∨ X = 5 := by omega
        clear hX0 hX1
        rcases hX with rfl | rfl | rfl | rfl | rfl | rfl
        · have triv := trivial
          by_cases hge : 3 ≤ s.state
          · go_wp2_with fail
            refine (state_c g q s _ hr').mono ?_
            rintro e' w4 ⟨rfl, n4, rfl⟩
            go_wp2_with fail
            refine (within_x _ _ (by omega) (by omega) _).mono ?_
            rintro e' w' ⟨Z, hZ0, hZ1, rfl, rfl⟩
            rcases add_cases s (1 + Z) hok with ⟨hx, _⟩ | hx
            · omega
            · go_wp2_with fail
              refine (add_x (hr'.drewN n4) (by have := hok.len; omega) hx).mono ?_
              rintro e' w5 ⟨q5, rfl, h5, k5, b5⟩
              have K5 := (K'.drewN n4).step k5 hhi
              have hi5 := hhi.add K'.size b5
              clear k5 hr' K' hA d0 d1 d3
              have hok9 : Okk s := hok
              have hhi9 : Hi w.heap.size g q5 := hi5
              have hlen9 := hok9.len
              have hle9 := h5.le
              obtain ⟨A9, hA9⟩ : ∃ A9 : Int, ((s : St).acked : Int) = A9 := ⟨_, rfl⟩
              obtain ⟨n9, hn9⟩ : ∃ n9 : Nat, (s : St).l.length = n9 := ⟨_, rfl⟩
              obtain ⟨P9, hP9⟩ : ∃ P9 : Int, ((s : St).l.length : Int) - ((s : St).acked : Int) = P9 := ⟨_, rfl⟩
              have x0 : (A9 != (s.acked : Int)) = false := by rw [bne_eq_false_iff_eq]; (try simp at hA9); omega
              have x1 : ((n9 : Int) != (s.acked : Int) + P9) = false := by rw [bne_eq_false_iff_eq]; (try simp at hA9); (try simp at hn9); (try simp at hP9); omega
              have x2 : n9 ≤ 2 := by omega
              have x3 : 0 ≤ P9 ∧ P9 ≤ 100 := by omega
              have X := (trivial : True)
              go_wp2_with fail
              refine (acked_v g q5 _ _ (h5.alloc _) hA9).mono ?_
              rintro e' w' ⟨rfl, rfl⟩
              go_wp2_with fail
              refine (updates_v g q5 _ _ (h5.alloc _) hn9).mono ?_
              rintro e' w10 ⟨A10, cap10, rfl, k10⟩
              have hS10 := StAt.kp0 (h5.alloc _) k10
              have K10 := Kp.then0 (K5.alloc _) k10
              clear k10 h5 K5
              go_wp2_with fail
              refine (pending_v g q5 _ _ hS10 hP9).mono ?_
              rintro e' w11 ⟨rfl, n11, rfl⟩
              go_wp2_with fail
              refine (updates_v g q5 _ _ (hS10.drewN n11) hn9).mono ?_
              rintro e' w12 ⟨A12, cap12, rfl, k12⟩
              have hS12 := (hS10.drewN n11).kp0 k12
              have K12 := (K10.drewN n11).then0 k12
              clear k12 hS10 K10
              go_wp2
              go_roundw
              case rel => exact ⟨I + 1, q5, s, _, _, by omega, by omega, by go_num, by go_num, by go_num, by go_num, by omega, by omega, hsd, hS12, hok9, hhi9, K12⟩
              case measure => simp [intOf]; omega
          · go_wp2_with fail
            refine (state_c g q s _ hr').mono ?_
            rintro e' w4 ⟨rfl, n4, rfl⟩
            go_wp2_with fail
            refine (within_x _ _ (by omega) (by omega) _).mono ?_
            rintro e' w' ⟨Z, hZ0, hZ1, rfl, rfl⟩
            rcases add_cases s (1 + Z) hok with ⟨_, hokn, hx⟩ | hx
            · go_wp2_with fail
              refine (add_x (hr'.drewN n4) (by have := hok.len; omega) hx).mono ?_
              rintro e' w5 ⟨q5, rfl, h5, k5, b5⟩
              have K5 := (K'.drewN n4).step k5 hhi
              have hi5 := hhi.add K'.size b5
              clear k5 hr' K' hA d0 d1 d3
              have hok9 : Okk { s with l := s.l ++ [1 + Z] } := hokn
              have hhi9 : Hi w.heap.size g q5 := hi5
              have hlen9 := hok9.len
              have hle9 := h5.le
              obtain ⟨A9, hA9⟩ : ∃ A9 : Int, (({ s with l := s.l ++ [1 + Z] } : St).acked : Int) = A9 := ⟨_, rfl⟩
              obtain ⟨n9, hn9⟩ : ∃ n9 : Nat, ({ s with l := s.l ++ [1 + Z] } : St).l.length = n9 := ⟨_, rfl⟩
              obtain ⟨P9, hP9⟩ : ∃ P9 : Int, (({ s with l := s.l ++ [1 + Z] } : St).l.length : Int) - (({ s with l := s.l ++ [1 + Z] } : St).acked : Int) = P9 := ⟨_, rfl⟩
              have x0 : (A9 != (s.acked : Int)) = false := by rw [bne_eq_false_iff_eq]; (try simp at hA9); omega
              have x1 : ((n9 : Int) != (s.acked : Int) + P9) = false := by rw [bne_eq_false_iff_eq]; (try simp at hA9); (try simp at hn9); (try simp at hP9); omega
              have x2 : n9 ≤ 2 := by omega
              have x3 : 0 ≤ P9 ∧ P9 ≤ 100 := by omega
              have X := (trivial : True)
              go_wp2_with fail
              refine (acked_v g q5 _ _ (h5.alloc _) hA9).mono ?_
              rintro e' w' ⟨rfl, rfl⟩
              go_wp2_with fail
              refine (updates_v g q5 _ _ (h5.alloc _) hn9).mono ?_
              rintro e' w10 ⟨A10, cap10, rfl, k10⟩
              have hS10 := StAt.kp0 (h5.alloc _) k10
              have K10 := Kp.then0 (K5.alloc _) k10
              clear k10 h5 K5
              go_wp2_with fail
              refine (pending_v g q5 _ _ hS10 hP9).mono ?_
              rintro e' w11 ⟨rfl, n11, rfl⟩
              go_wp2_with fail
              refine (updates_v g q5 _ _ (hS10.drewN n11) hn9).mono ?_
              rintro e' w12 ⟨A12, cap12, rfl, k12⟩
              have hS12 := (hS10.drewN n11).kp0 k12
              have K12 := (K10.drewN n11).then0 k12
              clear k12 hS10 K10
              go_wp2
              go_roundw
              case rel => exact ⟨I + 1, q5, { s with l := s.l ++ [1 + Z] }, _, _, by omega, by omega, by go_num, by go_num, by go_num, by go_num, by omega, by omega, hsd, hS12, hok9, hhi9, K12⟩
              case measure => simp [intOf]; omega
            · go_wp2_with fail
              refine (add_x (hr'.drewN n4) (by have := hok.len; omega) hx).mono ?_
              rintro e' w5 ⟨q5, rfl, h5, k5, b5⟩
              have K5 := (K'.drewN n4).step k5 hhi
              have hi5 := hhi.add K'.size b5
              clear k5 hr' K' hA d0 d1 d3
              have hok9 : Okk s := hok
              have hhi9 : Hi w.heap.size g q5 := hi5
              have hlen9 := hok9.len
              have hle9 := h5.le
              obtain ⟨A9, hA9⟩ : ∃ A9 : Int, ((s : St).acked : Int) = A9 := ⟨_, rfl⟩
              obtain ⟨n9, hn9⟩ : ∃ n9 : Nat, (s : St).l.length = n9 := ⟨_, rfl⟩
              obtain ⟨P9, hP9⟩ : ∃ P9 : Int, ((s : St).l.length : Int) - ((s : St).acked : Int) = P9 := ⟨_, rfl⟩
              have x0 : (A9 != (s.acked : Int)) = false := by rw [bne_eq_false_iff_eq]; (try simp at hA9); omega
              have x1 : ((n9 : Int) != (s.acked : Int) + P9) = false := by rw [bne_eq_false_iff_eq]; (try simp at hA9); (try simp at hn9); (try simp at hP9); omega
              have x2 : n9 ≤ 2 := by omega
              have x3 : 0 ≤ P9 ∧ P9 ≤ 100 := by omega
              have X := (trivial : True)
              go_wp2_with fail
              refine (acked_v g q5 _ _ (h5.alloc _) hA9).mono ?_
              rintro e' w' ⟨rfl, rfl⟩
              go_wp2_with fail
              refine (updates_v g q5 _ _ (h5.alloc _) hn9).mono ?_
              rintro e' w10 ⟨A10, cap10, rfl, k10⟩
              have hS10 := StAt.kp0 (h5.alloc _) k10
              have K10 := Kp.then0 (K5.alloc _) k10
              clear k10 h5 K5
              go_wp2_with fail
              refine (pending_v g q5 _ _ hS10 hP9).mono ?_
              rintro e' w11 ⟨rfl, n11, rfl⟩
              go_wp2_with fail
              refine (updates_v g q5 _ _ (hS10.drewN n11) hn9).mono ?_
              rintro e' w12 ⟨A12, cap12, rfl, k12⟩
              have hS12 := (hS10.drewN n11).kp0 k12
              have K12 := (K10.drewN n11).then0 k12
              clear k12 hS10 K10
              go_wp2
              go_roundw
              case rel => exact ⟨I + 1, q5, s, _, _, by omega, by omega, by go_num, by go_num, by go_num, by go_num, by omega, by omega, hsd, hS12, hok9, hhi9, K12⟩
              case measure => simp [intOf]; omega
        · have triv := trivial
          by_cases hge : 3 ≤ s.state
          · go_wp2_with fail
            refine (state_c g q s _ hr').mono ?_
            rintro e' w4 ⟨rfl, n4, rfl⟩
            go_wp2_with fail
            refine (within_x _ _ (by omega) (by omega) _).mono ?_
            rintro e' w' ⟨Z, hZ0, hZ1, rfl, rfl⟩
            rcases add_cases s (1 + Z) hok with ⟨hx, _⟩ | hx
            · omega
            · go_wp2_with fail
              refine (add_x (hr'.drewN n4) (by have := hok.len; omega) hx).mono ?_
              rintro e' w5 ⟨q5, rfl, h5, k5, b5⟩
              have K5 := (K'.drewN n4).step k5 hhi
              have hi5 := hhi.add K'.size b5
              clear k5 hr' K' hA d0 d1 d3
              have hok9 : Okk s := hok
              have hhi9 : Hi w.heap.size g q5 := hi5
              have hlen9 := hok9.len
              have hle9 := h5.le
              obtain ⟨A9, hA9⟩ : ∃ A9 : Int, ((s : St).acked : Int) = A9 := ⟨_, rfl⟩
              obtain ⟨n9, hn9⟩ : ∃ n9 : Nat, (s : St).l.length = n9 := ⟨_, rfl⟩
              obtain ⟨P9, hP9⟩ : ∃ P9 : Int, ((s : St).l.length : Int) - ((s : St).acked : Int) = P9 := ⟨_, rfl⟩
              have x0 : (A9 != (s.acked : Int)) = false := by rw [bne_eq_false_iff_eq]; (try simp at hA9); omega
              have x1 : ((n9 : Int) != (s.acked : Int) + P9) = false := by rw [bne_eq_false_iff_eq]; (try simp at hA9); (try simp at hn9); (try simp at hP9); omega
              have x2 : n9 ≤ 2 := by omega
              have x3 : 0 ≤ P9 ∧ P9 ≤ 100 := by omega
              have X := (trivial : True)
              go_wp2_with fail
              refine (acked_v g q5 _ _ (h5.alloc _) hA9).mono ?_
              rintro e' w' ⟨rfl, rfl⟩
              go_wp2_with fail
              refine (updates_v g q5 _ _ (h5.alloc _) hn9).mono ?_
              rintro e' w10 ⟨A10, cap10, rfl, k10⟩
              have hS10 := StAt.kp0 (h5.alloc _) k10
              have K10 := Kp.then0 (K5.alloc _) k10
              clear k10 h5 K5
              go_wp2_with fail
              refine (pending_v g q5 _ _ hS10 hP9).mono ?_
              rintro e' w11 ⟨rfl, n11, rfl⟩
              go_wp2_with fail
              refine (updates_v g q5 _ _ (hS10.drewN n11) hn9).mono ?_
              rintro e' w12 ⟨A12, cap12, rfl, k12⟩
              have hS12 := (hS10.drewN n11).kp0 k12
              have K12 := (K10.drewN n11).then0 k12
              clear k12 hS10 K10
              go_wp2
              go_roundw
              case rel => exact ⟨I + 1, q5, s, _, _, by omega, by omega, by go_num, by go_num, by go_num, by go_num, by omega, by omega, hsd, hS12, hok9, hhi9, K12⟩
              case measure => simp [intOf]; omega
          · go_wp2_with fail
            refine (state_c g q s _ hr').mono ?_
            rintro e' w4 ⟨rfl, n4, rfl⟩
            go_wp2_with fail
            refine (within_x _ _ (by omega) (by omega) _).mono ?_
            rintro e' w' ⟨Z, hZ0, hZ1, rfl, rfl⟩
            rcases add_cases s (1 + Z) hok with ⟨_, hokn, hx⟩ | hx
            · go_wp2_with fail
              refine (add_x (hr'.drewN n4) (by have := hok.len; omega) hx).mono ?_
              rintro e' w5 ⟨q5, rfl, h5, k5, b5⟩
              have K5 := (K'.drewN n4).step k5 hhi
              have hi5 := hhi.add K'.size b5
              clear k5 hr' K' hA d0 d1 d3
              have hok9 : Okk { s with l := s.l ++ [1 + Z] } := hokn
              have hhi9 : Hi w.heap.size g q5 := hi5
              have hlen9 := hok9.len
              have hle9 := h5.le
              obtain ⟨A9, hA9⟩ : ∃ A9 : Int, (({ s with l := s.l ++ [1 + Z] } : St).acked : Int) = A9 := ⟨_, rfl⟩
              obtain ⟨n9, hn9⟩ : ∃ n9 : Nat, ({ s with l := s.l ++ [1 + Z] } : St).l.length = n9 := ⟨_, rfl⟩
              obtain ⟨P9, hP9⟩ : ∃ P9 : Int, (({ s with l := s.l ++ [1 + Z] } : St).l.length : Int) - (({ s with l := s.l ++ [1 + Z] } : St).acked : Int) = P9 := ⟨_, rfl⟩
              have x0 : (A9 != (s.acked : Int)) = false := by rw [bne_eq_false_iff_eq]; (try simp at hA9); omega
              have x1 : ((n9 : Int) != (s.acked : Int) + P9) = false := by rw [bne_eq_false_iff_eq]; (try simp at hA9); (try simp at hn9); (try simp at hP9); omega
              have x2 : n9 ≤ 2 := by omega
              have x3 : 0 ≤ P9 ∧ P9 ≤ 100 := by omega
              have X := (trivial : True)
              go_wp2_with fail
              refine (acked_v g q5 _ _ (h5.alloc _) hA9).mono ?_
              rintro e' w' ⟨rfl, rfl⟩
              go_wp2_with fail
              refine (updates_v g q5 _ _ (h5.alloc _) hn9).mono ?_
              rintro e' w10 ⟨A10, cap10, rfl, k10⟩
              have hS10 := StAt.kp0 (h5.alloc _) k10
              have K10 := Kp.then0 (K5.alloc _) k10
              clear k10 h5 K5
              go_wp2_with fail
              refine (pending_v g q5 _ _ hS10 hP9).mono ?_
              rintro e' w11 ⟨rfl, n11, rfl⟩
              go_wp2_with fail
              refine (updates_v g q5 _ _ (hS10.drewN n11) hn9).mono ?_
              rintro e' w12 ⟨A12, cap12, rfl, k12⟩
              have hS12 := (hS10.drewN n11).kp0 k12
              have K12 := (K10.drewN n11).then0 k12
              clear k12 hS10 K10
              go_wp2
              go_roundw
              case rel => exact ⟨I + 1, q5, { s with l := s.l ++ [1 + Z] }, _, _, by omega, by omega, by go_num, by go_num, by go_num, by go_num, by omega, by omega, hsd, hS12, hok9, hhi9, K12⟩
              case measure => simp [intOf]; omega
            · go_wp2_with fail
              refine (add_x (hr'.drewN n4) (by have := hok.len; omega) hx).mono ?_
              rintro e' w5 ⟨q5, rfl, h5, k5, b5⟩
              have K5 := (K'.drewN n4).step k5 hhi
              have hi5 := hhi.add K'.size b5
              clear k5 hr' K' hA d0 d1 d3
              have hok9 : Okk s := hok
              have hhi9 : Hi w.heap.size g q5 := hi5
              have hlen9 := hok9.len
              have hle9 := h5.le
              obtain ⟨A9, hA9⟩ : ∃ A9 : Int, ((s : St).acked : Int) = A9 := ⟨_, rfl⟩
              obtain ⟨n9, hn9⟩ : ∃ n9 : Nat, (s : St).l.length = n9 := ⟨_, rfl⟩
              obtain ⟨P9, hP9⟩ : ∃ P9 : Int, ((s : St).l.length : Int) - ((s : St).acked : Int) = P9 := ⟨_, rfl⟩
              have x0 : (A9 != (s.acked : Int)) = false := by rw [bne_eq_false_iff_eq]; (try simp at hA9); omega
              have x1 : ((n9 : Int) != (s.acked : Int) + P9) = false := by rw [bne_eq_false_iff_eq]; (try simp at hA9); (try simp at hn9); (try simp at hP9); omega
              have x2 : n9 ≤ 2 := by omega
              have x3 : 0 ≤ P9 ∧ P9 ≤ 100 := by omega
              have X := (trivial : True)
              go_wp2_with fail
              refine (acked_v g q5 _ _ (h5.alloc _) hA9).mono ?_
              rintro e' w' ⟨rfl, rfl⟩
              go_wp2_with fail
              refine (updates_v g q5 _ _ (h5.alloc _) hn9).mono ?_
              rintro e' w10 ⟨A10, cap10, rfl, k10⟩
              have hS10 := StAt.kp0 (h5.alloc _) k10
              have K10 := Kp.then0 (K5.alloc _) k10
              clear k10 h5 K5
              go_wp2_with fail
              refine (pending_v g q5 _ _ hS10 hP9).mono ?_
              rintro e' w11 ⟨rfl, n11, rfl⟩
              go_wp2_with fail
              refine (updates_v g q5 _ _ (hS10.drewN n11) hn9).mono ?_
              rintro e' w12 ⟨A12, cap12, rfl, k12⟩
              have hS12 := (hS10.drewN n11).kp0 k12
              have K12 := (K10.drewN n11).then0 k12
              clear k12 hS10 K10
              go_wp2
              go_roundw
              case rel => exact ⟨I + 1, q5, s, _, _, by omega, by omega, by go_num, by go_num, by go_num, by go_num, by omega, by omega, hsd, hS12, hok9, hhi9, K12⟩
              case measure => simp [intOf]; omega
        · have triv := trivial
          rcases say_cases s (N + D) 2 (V I 3) with ⟨y, dd, hsf, hne, hx⟩ | hx
          · have hL : L = s.acked := by
              rcases hsd with ⟨h, _⟩ | ⟨_, h⟩
              · rw [hsf] at h; cases h
              · exact h
            go_wp2_with fail
            refine (say_x hr' hx).mono ?_
            rintro e' w5 ⟨rfl, h5, k5⟩
            have K5 := K'.step k5 hhi
            clear k5 hr' K' hA d0 d1 d3
            have hok9 : Okk { s with said := true, delay := 2, due := dd } := hok
            have hhi9 : Hi w.heap.size g q := hhi
            have hlen9 := hok9.len
            have hle9 := h5.le
            obtain ⟨A9, hA9⟩ : ∃ A9 : Int, (({ s with said := true, delay := 2, due := dd } : St).acked : Int) = A9 := ⟨_, rfl⟩
            obtain ⟨n9, hn9⟩ : ∃ n9 : Nat, ({ s with said := true, delay := 2, due := dd } : St).l.length = n9 := ⟨_, rfl⟩
            obtain ⟨P9, hP9⟩ : ∃ P9 : Int, (({ s with said := true, delay := 2, due := dd } : St).l.length : Int) - (({ s with said := true, delay := 2, due := dd } : St).acked : Int) = P9 := ⟨_, rfl⟩
            have x0 : (A9 != (s.acked : Int)) = false := by rw [bne_eq_false_iff_eq]; (try simp at hA9); omega
            have x1 : ((n9 : Int) != (s.acked : Int) + P9) = false := by rw [bne_eq_false_iff_eq]; (try simp at hA9); (try simp at hn9); (try simp at hP9); omega
            have x2 : n9 ≤ 2 := by omega
            have x3 : 0 ≤ P9 ∧ P9 ≤ 100 := by omega
            have X := (trivial : True)
            go_wp2_with fail
            refine (acked_v g q _ _ (h5.alloc _) hA9).mono ?_
            rintro e' w' ⟨rfl, rfl⟩
            go_wp2_with fail
            refine (updates_v g q _ _ (h5.alloc _) hn9).mono ?_
            rintro e' w10 ⟨A10, cap10, rfl, k10⟩
            have hS10 := StAt.kp0 (h5.alloc _) k10
            have K10 := Kp.then0 (K5.alloc _) k10
            clear k10 h5 K5
            go_wp2_with fail
            refine (pending_v g q _ _ hS10 hP9).mono ?_
            rintro e' w11 ⟨rfl, n11, rfl⟩
            go_wp2_with fail
            refine (updates_v g q _ _ (hS10.drewN n11) hn9).mono ?_
            rintro e' w12 ⟨A12, cap12, rfl, k12⟩
            have hS12 := (hS10.drewN n11).kp0 k12
            have K12 := (K10.drewN n11).then0 k12
            clear k12 hS10 K10
            go_wp2
            go_roundw
            case rel => exact ⟨I + 1, q, { s with said := true, delay := 2, due := dd }, _, _, by omega, by omega, by go_num, by go_num, by go_num, by go_num, by omega, by omega, .inl ⟨rfl, rfl⟩, hS12, hok9, hhi9, K12⟩
            case measure => simp [intOf]; omega
          · go_wp2_with fail
            refine (say_x hr' hx).mono ?_
            rintro e' w5 ⟨rfl, h5, k5⟩
            have K5 := K'.step k5 hhi
            clear k5 hr' K' hA d0 d1 d3
            have hok9 : Okk s := hok
            have hhi9 : Hi w.heap.size g q := hhi
            have hlen9 := hok9.len
            have hle9 := h5.le
            obtain ⟨A9, hA9⟩ : ∃ A9 : Int, ((s : St).acked : Int) = A9 := ⟨_, rfl⟩
            obtain ⟨n9, hn9⟩ : ∃ n9 : Nat, (s : St).l.length = n9 := ⟨_, rfl⟩
            obtain ⟨P9, hP9⟩ : ∃ P9 : Int, ((s : St).l.length : Int) - ((s : St).acked : Int) = P9 := ⟨_, rfl⟩
            have x0 : (A9 != (s.acked : Int)) = false := by rw [bne_eq_false_iff_eq]; (try simp at hA9); omega
            have x1 : ((n9 : Int) != (s.acked : Int) + P9) = false := by rw [bne_eq_false_iff_eq]; (try simp at hA9); (try simp at hn9); (try simp at hP9); omega
            have x2 : n9 ≤ 2 := by omega
            have x3 : 0 ≤ P9 ∧ P9 ≤ 100 := by omega
            have X := (trivial : True)
            go_wp2_with fail
            refine (acked_v g q _ _ (h5.alloc _) hA9).mono ?_
            rintro e' w' ⟨rfl, rfl⟩
            go_wp2_with fail
            refine (updates_v g q _ _ (h5.alloc _) hn9).mono ?_
            rintro e' w10 ⟨A10, cap10, rfl, k10⟩
            have hS10 := StAt.kp0 (h5.alloc _) k10
            have K10 := Kp.then0 (K5.alloc _) k10
            clear k10 h5 K5
            go_wp2_with fail
            refine (pending_v g q _ _ hS10 hP9).mono ?_
            rintro e' w11 ⟨rfl, n11, rfl⟩
            go_wp2_with fail
            refine (updates_v g q _ _ (hS10.drewN n11) hn9).mono ?_
            rintro e' w12 ⟨A12, cap12, rfl, k12⟩
            have hS12 := (hS10.drewN n11).kp0 k12
            have K12 := (K10.drewN n11).then0 k12
            clear k12 hS10 K10
            go_wp2
            go_roundw
            case rel => exact ⟨I + 1, q, s, _, _, by omega, by omega, by go_num, by go_num, by go_num, by go_num, by omega, by omega, hsd, hS12, hok9, hhi9, K12⟩
            case measure => simp [intOf]; omega
        · have triv := trivial
          rcases say_cases s (N + D) 2 (V I 3) with ⟨y, dd, hsf, hne, hx⟩ | hx
          · have hL : L = s.acked := by
              rcases hsd with ⟨h, _⟩ | ⟨_, h⟩
              · rw [hsf] at h; cases h
              · exact h
            go_wp2_with fail
            refine (say_x hr' hx).mono ?_
            rintro e' w5 ⟨rfl, h5, k5⟩
            have K5 := K'.step k5 hhi
            clear k5 hr' K' hA d0 d1 d3
            have hok9 : Okk { s with said := true, delay := 2, due := dd } := hok
            have hhi9 : Hi w.heap.size g q := hhi
            have hlen9 := hok9.len
            have hle9 := h5.le
            obtain ⟨A9, hA9⟩ : ∃ A9 : Int, (({ s with said := true, delay := 2, due := dd } : St).acked : Int) = A9 := ⟨_, rfl⟩
            obtain ⟨n9, hn9⟩ : ∃ n9 : Nat, ({ s with said := true, delay := 2, due := dd } : St).l.length = n9 := ⟨_, rfl⟩
            obtain ⟨P9, hP9⟩ : ∃ P9 : Int, (({ s with said := true, delay := 2, due := dd } : St).l.length : Int) - (({ s with said := true, delay := 2, due := dd } : St).acked : Int) = P9 := ⟨_, rfl⟩
            have x0 : (A9 != (s.acked : Int)) = false := by rw [bne_eq_false_iff_eq]; (try simp at hA9); omega
            have x1 : ((n9 : Int) != (s.acked : Int) + P9) = false := by rw [bne_eq_false_iff_eq]; (try simp at hA9); (try simp at hn9); (try simp at hP9); omega
            have x2 : n9 ≤ 2 := by omega
            have x3 : 0 ≤ P9 ∧ P9 ≤ 100 := by omega
            have X := (trivial : True)
            go_wp2_with fail
            refine (acked_v g q _ _ (h5.alloc _) hA9).mono ?_
            rintro e' w' ⟨rfl, rfl⟩
            go_wp2_with fail
            refine (updates_v g q _ _ (h5.alloc _) hn9).mono ?_
            rintro e' w10 ⟨A10, cap10, rfl, k10⟩
            have hS10 := StAt.kp0 (h5.alloc _) k10
            have K10 := Kp.then0 (K5.alloc _) k10
            clear k10 h5 K5
            go_wp2_with fail
            refine (pending_v g q _ _ hS10 hP9).mono ?_
            rintro e' w11 ⟨rfl, n11, rfl⟩
            go_wp2_with fail
            refine (updates_v g q _ _ (hS10.drewN n11) hn9).mono ?_
            rintro e' w12 ⟨A12, cap12, rfl, k12⟩
            have hS12 := (hS10.drewN n11).kp0 k12
            have K12 := (K10.drewN n11).then0 k12
            clear k12 hS10 K10
            go_wp2
            go_roundw
            case rel => exact ⟨I + 1, q, { s with said := true, delay := 2, due := dd }, _, _, by omega, by omega, by go_num, by go_num, by go_num, by go_num, by omega, by omega, .inl ⟨rfl, rfl⟩, hS12, hok9, hhi9, K12⟩
            case measure => simp [intOf]; omega
          · go_wp2_with fail
            refine (say_x hr' hx).mono ?_
            rintro e' w5 ⟨rfl, h5, k5⟩
            have K5 := K'.step k5 hhi
            clear k5 hr' K' hA d0 d1 d3
            have hok9 : Okk s := hok
            have hhi9 : Hi w.heap.size g q := hhi
            have hlen9 := hok9.len
            have hle9 := h5.le
            obtain ⟨A9, hA9⟩ : ∃ A9 : Int, ((s : St).acked : Int) = A9 := ⟨_, rfl⟩
            obtain ⟨n9, hn9⟩ : ∃ n9 : Nat, (s : St).l.length = n9 := ⟨_, rfl⟩
            obtain ⟨P9, hP9⟩ : ∃ P9 : Int, ((s : St).l.length : Int) - ((s : St).acked : Int) = P9 := ⟨_, rfl⟩
            have x0 : (A9 != (s.acked : Int)) = false := by rw [bne_eq_false_iff_eq]; (try simp at hA9); omega
            have x1 : ((n9 : Int) != (s.acked : Int) + P9) = false := by rw [bne_eq_false_iff_eq]; (try simp at hA9); (try simp at hn9); (try simp at hP9); omega
            have x2 : n9 ≤ 2 := by omega
            have x3 : 0 ≤ P9 ∧ P9 ≤ 100 := by omega
            have X := (trivial : True)
            go_wp2_with fail
            refine (acked_v g q _ _ (h5.alloc _) hA9).mono ?_
            rintro e' w' ⟨rfl, rfl⟩
            go_wp2_with fail
            refine (updates_v g q _ _ (h5.alloc _) hn9).mono ?_
            rintro e' w10 ⟨A10, cap10, rfl, k10⟩
            have hS10 := StAt.kp0 (h5.alloc _) k10
            have K10 := Kp.then0 (K5.alloc _) k10
            clear k10 h5 K5
            go_wp2_with fail
            refine (pending_v g q _ _ hS10 hP9).mono ?_
            rintro e' w11 ⟨rfl, n11, rfl⟩
            go_wp2_with fail
            refine (updates_v g q _ _ (hS10.drewN n11) hn9).mono ?_
            rintro e' w12 ⟨A12, cap12, rfl, k12⟩
            have hS12 := (hS10.drewN n11).kp0 k12
            have K12 := (K10.drewN n11).then0 k12
            clear k12 hS10 K10
            go_wp2
            go_roundw
            case rel => exact ⟨I + 1, q, s, _, _, by omega, by omega, by go_num, by go_num, by go_num, by go_num, by omega, by omega, hsd, hS12, hok9, hhi9, K12⟩
            case measure => simp [intOf]; omega
        · have triv := trivial
          rcases again_cases s (N + D) 9 (V I 3) with ⟨y, dd, uu, hsf, hx⟩ | hx
          · have hL : L = (s.acked : Int) + 1 := by
              rcases hsd with ⟨_, h⟩ | ⟨h, _⟩
              · exact h
              · rw [hsf] at h; cases h
            go_wp2_with fail
            refine (again_x hr' hx).mono ?_
            rintro e' w5 ⟨rfl, h5, k5⟩
            have K5 := K'.step k5 hhi
            clear k5 hr' K' hA d0 d1 d3
            have hok9 : Okk { s with delay := dd, due := uu } := hok
            have hhi9 : Hi w.heap.size g q := hhi
            have hlen9 := hok9.len
            have hle9 := h5.le
            obtain ⟨A9, hA9⟩ : ∃ A9 : Int, (({ s with delay := dd, due := uu } : St).acked : Int) = A9 := ⟨_, rfl⟩
            obtain ⟨n9, hn9⟩ : ∃ n9 : Nat, ({ s with delay := dd, due := uu } : St).l.length = n9 := ⟨_, rfl⟩
            obtain ⟨P9, hP9⟩ : ∃ P9 : Int, (({ s with delay := dd, due := uu } : St).l.length : Int) - (({ s with delay := dd, due := uu } : St).acked : Int) = P9 := ⟨_, rfl⟩
            have x0 : (A9 != (s.acked : Int)) = false := by rw [bne_eq_false_iff_eq]; (try simp at hA9); omega
            have x1 : ((n9 : Int) != (s.acked : Int) + P9) = false := by rw [bne_eq_false_iff_eq]; (try simp at hA9); (try simp at hn9); (try simp at hP9); omega
            have x2 : n9 ≤ 2 := by omega
            have x3 : 0 ≤ P9 ∧ P9 ≤ 100 := by omega
            have X := (trivial : True)
            go_wp2_with fail
            refine (acked_v g q _ _ (h5.alloc _) hA9).mono ?_
            rintro e' w' ⟨rfl, rfl⟩
            go_wp2_with fail
            refine (updates_v g q _ _ (h5.alloc _) hn9).mono ?_
            rintro e' w10 ⟨A10, cap10, rfl, k10⟩
            have hS10 := StAt.kp0 (h5.alloc _) k10
            have K10 := Kp.then0 (K5.alloc _) k10
            clear k10 h5 K5
            go_wp2_with fail
            refine (pending_v g q _ _ hS10 hP9).mono ?_
            rintro e' w11 ⟨rfl, n11, rfl⟩
            go_wp2_with fail
            refine (updates_v g q _ _ (hS10.drewN n11) hn9).mono ?_
            rintro e' w12 ⟨A12, cap12, rfl, k12⟩
            have hS12 := (hS10.drewN n11).kp0 k12
            have K12 := (K10.drewN n11).then0 k12
            clear k12 hS10 K10
            go_wp2
            go_roundw
            case rel => exact ⟨I + 1, q, { s with delay := dd, due := uu }, _, _, by omega, by omega, by go_num, by go_num, by go_num, by go_num, by omega, by omega, hsd, hS12, hok9, hhi9, K12⟩
            case measure => simp [intOf]; omega
          · go_wp2_with fail
            refine (again_x hr' hx).mono ?_
            rintro e' w5 ⟨rfl, h5, k5⟩
            have K5 := K'.step k5 hhi
            clear k5 hr' K' hA d0 d1 d3
            have hok9 : Okk s := hok
            have hhi9 : Hi w.heap.size g q := hhi
            have hlen9 := hok9.len
            have hle9 := h5.le
            obtain ⟨A9, hA9⟩ : ∃ A9 : Int, ((s : St).acked : Int) = A9 := ⟨_, rfl⟩
            obtain ⟨n9, hn9⟩ : ∃ n9 : Nat, (s : St).l.length = n9 := ⟨_, rfl⟩
            obtain ⟨P9, hP9⟩ : ∃ P9 : Int, ((s : St).l.length : Int) - ((s : St).acked : Int) = P9 := ⟨_, rfl⟩
            have x0 : (A9 != (s.acked : Int)) = false := by rw [bne_eq_false_iff_eq]; (try simp at hA9); omega
            have x1 : ((n9 : Int) != (s.acked : Int) + P9) = false := by rw [bne_eq_false_iff_eq]; (try simp at hA9); (try simp at hn9); (try simp at hP9); omega
            have x2 : n9 ≤ 2 := by omega
            have x3 : 0 ≤ P9 ∧ P9 ≤ 100 := by omega
            have X := (trivial : True)
            go_wp2_with fail
            refine (acked_v g q _ _ (h5.alloc _) hA9).mono ?_
            rintro e' w' ⟨rfl, rfl⟩
            go_wp2_with fail
            refine (updates_v g q _ _ (h5.alloc _) hn9).mono ?_
            rintro e' w10 ⟨A10, cap10, rfl, k10⟩
            have hS10 := StAt.kp0 (h5.alloc _) k10
            have K10 := Kp.then0 (K5.alloc _) k10
            clear k10 h5 K5
            go_wp2_with fail
            refine (pending_v g q _ _ hS10 hP9).mono ?_
            rintro e' w11 ⟨rfl, n11, rfl⟩
            go_wp2_with fail
            refine (updates_v g q _ _ (hS10.drewN n11) hn9).mono ?_
            rintro e' w12 ⟨A12, cap12, rfl, k12⟩
            have hS12 := (hS10.drewN n11).kp0 k12
            have K12 := (K10.drewN n11).then0 k12
            clear k12 hS10 K10
            go_wp2
            go_roundw
            case rel => exact ⟨I + 1, q, s, _, _, by omega, by omega, by go_num, by go_num, by go_num, by go_num, by omega, by omega, hsd, hS12, hok9, hhi9, K12⟩
            case measure => simp [intOf]; omega
        · have triv := trivial
          go_wp2_with fail
          refine (within_x _ _ (by omega) (by omega) _).mono ?_
          rintro e' w' ⟨Z, hZ0, hZ1, rfl, rfl⟩
          go_wp2_with fail
          rcases ack_cases s Z hle.1 with ⟨hsf, hZ, hlt9, hx⟩ | hx
          · have hL : L = (s.acked : Int) + 1 := by
              rcases hsd with ⟨_, h⟩ | ⟨h, _⟩
              · exact h
              · rw [hsf] at h; cases h
            refine (ack_x hr' hx).mono ?_
            rintro e' w5 ⟨rfl, h5, k5⟩
            have K5 := K'.step k5 hhi
            clear k5 hr' K' hA d0 d1 d3
            have hok9 : Okk { s with acked := s.acked + 1, said := false } := hok
            have hhi9 : Hi w.heap.size g q := hhi
            have hlen9 := hok9.len
            have hle9 := h5.le
            obtain ⟨A9, hA9⟩ : ∃ A9 : Int, (({ s with acked := s.acked + 1, said := false } : St).acked : Int) = A9 := ⟨_, rfl⟩
            obtain ⟨n9, hn9⟩ : ∃ n9 : Nat, ({ s with acked := s.acked + 1, said := false } : St).l.length = n9 := ⟨_, rfl⟩
            obtain ⟨P9, hP9⟩ : ∃ P9 : Int, (({ s with acked := s.acked + 1, said := false } : St).l.length : Int) - (({ s with acked := s.acked + 1, said := false } : St).acked : Int) = P9 := ⟨_, rfl⟩
            have x0 : (A9 != Z) = false := by rw [bne_eq_false_iff_eq]; (try simp at hA9); omega
            have x1 : ((n9 : Int) != Z + P9) = false := by rw [bne_eq_false_iff_eq]; (try simp at hA9); (try simp at hn9); (try simp at hP9); omega
            have x2 : n9 ≤ 2 := by omega
            have x3 : 0 ≤ P9 ∧ P9 ≤ 100 := by omega
            have X := (trivial : True)
            go_wp2_with fail
            refine (acked_v g q _ _ h5 hA9).mono ?_
            rintro e' w' ⟨rfl, rfl⟩
            go_wp2_with fail
            refine (updates_v g q _ _ h5 hn9).mono ?_
            rintro e' w10 ⟨A10, cap10, rfl, k10⟩
            have hS10 := StAt.kp0 h5 k10
            have K10 := Kp.then0 K5 k10
            clear k10 h5 K5
            go_wp2_with fail
            refine (pending_v g q _ _ hS10 hP9).mono ?_
            rintro e' w11 ⟨rfl, n11, rfl⟩
            go_wp2_with fail
            refine (updates_v g q _ _ (hS10.drewN n11) hn9).mono ?_
            rintro e' w12 ⟨A12, cap12, rfl, k12⟩
            have hS12 := (hS10.drewN n11).kp0 k12
            have K12 := (K10.drewN n11).then0 k12
            clear k12 hS10 K10
            go_wp2
            go_roundw
            case rel => exact ⟨I + 1, q, { s with acked := s.acked + 1, said := false }, _, _, by omega, by omega, by go_num, by go_num, by go_num, by go_num, by omega, by omega, .inr ⟨rfl, by first | omega | (simp; done) | (simp; omega)⟩, hS12, hok9, hhi9, K12⟩
            case measure => simp [intOf]; omega
          · refine (ack_x hr' hx).mono ?_
            rintro e' w5 ⟨rfl, h5, k5⟩
            have K5 := K'.step k5 hhi
            clear k5 hr' K' hA d0 d1 d3
            have hok9 : Okk s := hok
            have hhi9 : Hi w.heap.size g q := hhi
            have hlen9 := hok9.len
            have hle9 := h5.le
            obtain ⟨A9, hA9⟩ : ∃ A9 : Int, ((s : St).acked : Int) = A9 := ⟨_, rfl⟩
            obtain ⟨n9, hn9⟩ : ∃ n9 : Nat, (s : St).l.length = n9 := ⟨_, rfl⟩
            obtain ⟨P9, hP9⟩ : ∃ P9 : Int, ((s : St).l.length : Int) - ((s : St).acked : Int) = P9 := ⟨_, rfl⟩
            have x0 : (A9 != (s.acked : Int)) = false := by rw [bne_eq_false_iff_eq]; (try simp at hA9); omega
            have x1 : ((n9 : Int) != (s.acked : Int) + P9) = false := by rw [bne_eq_false_iff_eq]; (try simp at hA9); (try simp at hn9); (try simp at hP9); omega
            have x2 : n9 ≤ 2 := by omega
            have x3 : 0 ≤ P9 ∧ P9 ≤ 100 := by omega
            have X := (trivial : True)
            go_wp2_with fail
            refine (acked_v g q _ _ h5 hA9).mono ?_
            rintro e' w' ⟨rfl, rfl⟩
            go_wp2_with fail
            refine (updates_v g q _ _ h5 hn9).mono ?_
            rintro e' w10 ⟨A10, cap10, rfl, k10⟩
            have hS10 := StAt.kp0 h5 k10
            have K10 := Kp.then0 K5 k10
            clear k10 h5 K5
            go_wp2_with fail
            refine (pending_v g q _ _ hS10 hP9).mono ?_
            rintro e' w11 ⟨rfl, n11, rfl⟩
            go_wp2_with fail
            refine (updates_v g q _ _ (hS10.drewN n11) hn9).mono ?_
            rintro e' w12 ⟨A12, cap12, rfl, k12⟩
            have hS12 := (hS10.drewN n11).kp0 k12
            have K12 := (K10.drewN n11).then0 k12
            clear k12 hS10 K10
            go_wp2
            go_roundw
            case rel => exact ⟨I + 1, q, s, _, _, by omega, by omega, by go_num, by go_num, by go_num, by go_num, by omega, by omega, hsd, hS12, hok9, hhi9, K12⟩
            case measure => simp [intOf]; omega
      · have h24' : (30 : Int) ≤ I := by omega
        go_wp2_with fail
        refine (wakes11_c _).mono ?_
        rintro e' w9 ⟨rfl, k9⟩
        go_wp2
        go_ret
        exact ⟨rfl, K.then0 k9⟩
    · obtain rfl : I = len := by omega
      go_wp2_with fail
      refine (wakes11_c _).mono ?_
      rintro e' w9 ⟨rfl, k9⟩
      go_wp2
      go_ret
      exact ⟨rfl, K.then0 k9⟩

theorem streamOrder_w (a : Option Addr) (len cap : Nat) (V : Nat → Nat → Int) (w : World) (hs : Sl w a len cap 4 (fun i j => .int .i64 (V i j))) (_ : ∀ i, i < len → ∀ j, j < 4 → (Lit.int .i64 (V i j)).wf = true) :
    Calls Try.prog 5 #[.slice a len cap] w fun e' w' => e' = .returned (.bool true) ∧ Below w.heap.size w w' :=
  (order_c a len cap V w hs).mono fun _ _ h => ⟨h.1, h.2.below0⟩
end Go.Proofs.Ytccamciijpmkjaa
