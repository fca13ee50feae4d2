/- The walk of StreamPlays. -/
import Derived.Test.YtccamciijpmkjaaRt
import Derived.Test.YtccamciijpmkjaaOwn
set_option linter.unusedVariables false
set_option linter.unusedSimpArgs false
namespace Go.Proofs.Ytccamciijpmkjaa
open Go.RowKit

theorem StAt.le {w : World} {g : Nat} {q : Option Nat} {s : St} (h : StAt w g q s) : s.acked ≤ s.l.length ∧ s.l.length ≤ 100 := by
  obtain ⟨_, _, _, _, a, b⟩ := h
  exact ⟨a, b⟩

theorem say_cases (s : St) (now first draw : Int) : (∃ y d, s.said = false ∧ s.acked ≠ s.l.length ∧ s.say now first draw = (((s.acked : Int) + 1, y, true), { s with said := true, delay := first, due := d })) ∨ s.say now first draw = ((0, 0, false), s) := by
  unfold St.say
  by_cases hf : s.acked = s.l.length
  · exact .inr (by have : s.front.2.2 = false := (by unfold St.front; rw [if_pos hf]); simp [this])
  · have e : s.front = ((s.acked : Int) + 1, s.l.getD s.acked 0, true) := by unfold St.front; rw [if_neg hf]
    by_cases hs : s.said = true
    · exact .inr (by simp [e, hs])
    · exact .inl ⟨s.l.getD s.acked 0, _, by simpa using hs, hf, by rw [e]; simp [hs]; rfl⟩
theorem again_cases (s : St) (now most draw : Int) : (∃ y d u, s.said = true ∧ s.again now most draw = (((s.acked : Int) + 1, y, true), { s with delay := d, due := u })) ∨ s.again now most draw = ((0, 0, false), s) := by
  unfold St.again
  by_cases hf : s.acked = s.l.length
  · exact .inr (by have : s.front.2.2 = false := (by unfold St.front; rw [if_pos hf]); simp [this])
  · have e : s.front = ((s.acked : Int) + 1, s.l.getD s.acked 0, true) := by unfold St.front; rw [if_neg hf]
    by_cases hs : s.said = true
    · by_cases hd : now < s.due
      · exact .inr (by simp [e, hs, hd])
      · exact .inl ⟨s.l.getD s.acked 0, _, _, hs, by rw [e]; simp [hs, hd]; exact ⟨rfl, rfl⟩⟩
    · exact .inr (by simp [e, hs])
theorem ack_cases (s : St) (n : Int) (hl : s.acked ≤ s.l.length) : (s.said = true ∧ n = (s.acked : Int) + 1 ∧ s.acked + 1 ≤ s.l.length ∧ s.ack n = (0, { s with acked := s.acked + 1, said := false })) ∨ s.ack n = (3, s) := by
  unfold St.ack
  by_cases hf : s.acked = s.l.length
  · exact .inr (by have : s.front.2.2 = false := (by unfold St.front; rw [if_pos hf]); simp [this])
  · have e : s.front = ((s.acked : Int) + 1, s.l.getD s.acked 0, true) := by unfold St.front; rw [if_neg hf]
    by_cases hs : s.said = true
    · by_cases hd : (s.acked : Int) + 1 = n
      · exact .inl ⟨hs, hd.symm, by omega, by simp [e, hs, hd]⟩
      · exact .inr (by simp [e, hs, hd])
    · exact .inr (by simp [e, hs])
/-- A log that may be. -/
def Okk (s : St) : Prop := s.l = [] ∨ s.l = [2] ∨ (ov s.state = true ∧ s.l.length ≤ 2)
theorem Okk.len {s : St} (h : Okk s) : s.l.length ≤ 2 := by
  rcases h with h | h | h
  · rw [h]; decide
  · rw [h]; decide
  · exact h.2
theorem add_cases (s : St) (x : Int) (h : Okk s) : (s.state < 3 ∧ Okk { s with l := s.l ++ [x] } ∧ s.add x = (((s.l.length : Int) + 1, x, 0), { s with l := s.l ++ [x] })) ∨ s.add x = ((0, 0, 8), s) := by
  unfold St.add
  by_cases hm : my s.state x = true
  · refine .inl ?_
    have hst : ∀ k : St, k.l = s.l ++ [x] → k.state = x := by intro k hk; unfold St.state; rw [hk]; simp
    rcases h with h | h | h
    · have e : s.state = 1 := by unfold St.state; rw [h]; rfl
      rw [e] at hm
      refine ⟨by omega, ?_, by rw [e, if_pos hm]⟩
      simp [my] at hm
      rcases hm with rfl | hm
      · exact .inr (.inl (by simp [h]))
      · exact .inr (.inr ⟨by rw [hst _ rfl]; exact hm, by simp [h]⟩)
    · have e : s.state = 2 := by unfold St.state; rw [h]; rfl
      rw [e] at hm
      refine ⟨by omega, ?_, by rw [e, if_pos hm]⟩
      simp [my] at hm
      exact .inr (.inr ⟨by rw [hst _ rfl]; exact hm.1, by simp [h]⟩)
    · have h1 := h.1
      have : my s.state x = false := by
        unfold ov at h1
        unfold my
        simp at h1
        rw [if_neg (by omega), if_neg (by omega)]
      rw [this] at hm; cases hm
  · exact .inr (by rw [if_neg hm])



def Sd (s : St) : Prop := s.said = true → s.acked < s.l.length

theorem add_keeps (s : St) (x a b c : Int) (s' : St) (ho : Okk s) (hs : Sd s) (h : s.add x = ((a, b, c), s')) : Okk s' ∧ Sd s' ∧ (c = 0 ∨ c = 8) := by
  rcases add_cases s x ho with ⟨_, h1, h2⟩ | h2
  · rw [h2] at h
    obtain ⟨hh, rfl⟩ := Prod.mk.inj h
    simp only [Prod.mk.injEq] at hh
    exact ⟨h1, fun e => by have := hs e; show s.acked < (s.l ++ [x]).length; simp; omega, .inl hh.2.2.symm⟩
  · rw [h2] at h
    obtain ⟨hh, rfl⟩ := Prod.mk.inj h
    simp only [Prod.mk.injEq] at hh
    exact ⟨ho, hs, .inr hh.2.2.symm⟩
theorem say_keeps (s : St) (n f d a b : Int) (c : Bool) (s' : St) (ho : Okk s) (hs : Sd s) (hl : s.acked ≤ s.l.length) (h : s.say n f d = ((a, b, c), s')) : Okk s' ∧ Sd s' := by
  rcases say_cases s n f d with ⟨y, dd, h0, h1, h2⟩ | h2
  · rw [h2] at h
    obtain ⟨_, rfl⟩ := Prod.mk.inj h
    exact ⟨ho, fun _ => by show s.acked < s.l.length; omega⟩
  · rw [h2] at h
    obtain ⟨_, rfl⟩ := Prod.mk.inj h
    exact ⟨ho, hs⟩
theorem again_keeps (s : St) (n f d a b : Int) (c : Bool) (s' : St) (ho : Okk s) (hs : Sd s) (h : s.again n f d = ((a, b, c), s')) : Okk s' ∧ Sd s' := by
  rcases again_cases s n f d with ⟨y, dd, uu, h0, h2⟩ | h2
  · rw [h2] at h
    obtain ⟨_, rfl⟩ := Prod.mk.inj h
    exact ⟨ho, fun e => hs e⟩
  · rw [h2] at h
    obtain ⟨_, rfl⟩ := Prod.mk.inj h
    exact ⟨ho, hs⟩
theorem ack_keeps (s : St) (n a : Int) (s' : St) (ho : Okk s) (hs : Sd s) (hl : s.acked ≤ s.l.length) (h : s.ack n = (a, s')) : Okk s' ∧ Sd s' ∧ (a = 0 ∨ a = 3) := by
  rcases ack_cases s n hl with ⟨h0, _, h1, h2⟩ | h2
  · rw [h2] at h
    obtain ⟨e, rfl⟩ := Prod.mk.inj h
    exact ⟨ho, fun e => by simp at e, .inl e.symm⟩
  · rw [h2] at h
    obtain ⟨e, rfl⟩ := Prod.mk.inj h
    exact ⟨ho, hs, .inr e.symm⟩

theorem radd_x {g : Nat} {q : Option Nat} {s s' : St} {x a b c : Int} {w : World} (h : RtAt w g q s) (hn : s.l.length < 100) (hr : s.add x = ((a, b, c), s')) :
    Calls Try.prog 27 #[.pointer (some ⟨g, 0, none⟩), .int .i64 x] w fun e w' => ∃ q', e = .returned (.tuple #[.agg #[.int .i64 a, .int .i64 b], .bool (c == 0)]) ∧ RtAt w' g q' s' ∧ Kp (Ft g q) w w' ∧ (q' = q ∨ ∃ b, q' = some b ∧ w.heap.size ≤ b) := by
  have := radd_c g q s x w h hn; rw [hr] at this; exact this
theorem rsay_x {g : Nat} {q : Option Nat} {s s' : St} {now first draw a b : Int} {c : Bool} {w : World} (h : RtAt w g q s) (hr : s.say now first draw = ((a, b, c), s')) :
    Calls Try.prog 28 #[.pointer (some ⟨g, 0, none⟩), .int .i64 now, .int .i64 first, .int .i64 draw] w fun e w' => e = .returned (.tuple #[.agg #[.int .i64 a, .int .i64 b], .bool c]) ∧ RtAt w' g q s' ∧ Kp (Ft g q) w w' := by
  have := rsay_c g q s now first draw w h; rw [hr] at this; exact this
theorem ragain_x {g : Nat} {q : Option Nat} {s s' : St} {now first draw a b : Int} {c : Bool} {w : World} (h : RtAt w g q s) (hr : s.again now first draw = ((a, b, c), s')) :
    Calls Try.prog 29 #[.pointer (some ⟨g, 0, none⟩), .int .i64 now, .int .i64 first, .int .i64 draw] w fun e w' => e = .returned (.tuple #[.agg #[.int .i64 a, .int .i64 b], .bool c]) ∧ RtAt w' g q s' ∧ Kp (Ft g q) w w' := by
  have := ragain_c g q s now first draw w h; rw [hr] at this; exact this
theorem rack_x {g : Nat} {q : Option Nat} {s s' : St} {n a : Int} {w : World} (h : RtAt w g q s) (hr : s.ack n = (a, s')) :
    Calls Try.prog 30 #[.pointer (some ⟨g, 0, none⟩), .int .i64 n] w fun e w' => e = .returned (.bool (a == 0)) ∧ RtAt w' g q s' ∧ Kp (Ft g q) w w' := by
  have := rack_c g q s n w h; rw [hr] at this; exact this

/-- A stream and the reference's one, side by side. -/
structure Bo (w wr : World) (g h : Nat) (q p : Option Nat) (s t : St) : Prop where
  st : StAt wr g q s
  rt : RtAt wr h p t
  ap : ∀ x, Ft g q x → ¬ Ft h p x
  hi : Hi w.heap.size g q
  hj : Hi w.heap.size h p
  k : Kp0 w wr
theorem Bo.kp0 {w wr w1 : World} {g h : Nat} {q p : Option Nat} {s t : St} (B : Bo w wr g h q p s t) (kk : Kp0 wr w1) : Bo w w1 g h q p s t :=
  ⟨B.st.kp0 kk, B.rt.kp0 kk, B.ap, B.hi, B.hj, B.k.then0 kk⟩
theorem Bo.alloc {w wr : World} {g h : Nat} {q p : Option Nat} {s t : St} (B : Bo w wr g h q p s t) (o : Obj) : Bo w (wr.alloc o) g h q p s t := B.kp0 ((Kp.refl _ _).alloc _)
theorem Bo.drewN {w wr : World} {g h : Nat} {q p : Option Nat} {s t : St} (B : Bo w wr g h q p s t) (n : Nat) : Bo w (wr.drewN n) g h q p s t := B.kp0 ((Kp.refl _ _).drewN _)
theorem Bo.left {w wr w1 : World} {g h : Nat} {q q' p : Option Nat} {s s' t : St} (B : Bo w wr g h q p s t) (h1 : StAt w1 g q' s') (k : Kp (Ft g q) wr w1) (b : q' = q ∨ ∃ b, q' = some b ∧ wr.heap.size ≤ b) : Bo w w1 g h q' p s' t := by
  refine ⟨h1, B.rt.kp k (fun i hi hj => B.ap i hj hi), ?_, B.hi.add B.k.size b, B.hj, B.k.step k B.hi⟩
  intro x hx hy
  have := B.rt.lt x hy
  rcases hx with hx | hx
  · exact B.ap x (.inl hx) hy
  · rcases b with rfl | ⟨c, rfl, hc⟩
    · exact B.ap x (.inr hx) hy
    · injection hx with hx; omega
theorem Bo.right {w wr w1 : World} {g h : Nat} {q p p' : Option Nat} {s t t' : St} (B : Bo w wr g h q p s t) (h1 : RtAt w1 h p' t') (k : Kp (Ft h p) wr w1) (b : p' = p ∨ ∃ b, p' = some b ∧ wr.heap.size ≤ b) : Bo w w1 g h q p' s t' := by
  refine ⟨B.st.kp k (fun i hi hj => B.ap i hi hj), h1, ?_, B.hi, B.hj.add B.k.size b, B.k.step k B.hj⟩
  intro x hx hy
  have := B.st.lt x hx
  rcases hy with hy | hy
  · exact B.ap x hx (.inl hy)
  · rcases b with rfl | ⟨c, rfl, hc⟩
    · exact B.ap x hx (.inr hy)
    · injection hy with hy; omega

structure PlRel (w : World) (g h len : Nat) (n i : Value) (wr : World) (I : Nat) (N : Int) (q p : Option Nat) (s : St) : Prop where
  hI : I ≤ len
  h30 : I ≤ 30
  ei : i = .int .i64 I
  en : n = .int .i64 N
  n0 : 0 ≤ N
  n1 : N ≤ 4 * I
  B : Bo w wr g h q p s s
  ok : Okk s
  sd : Sd s

set_option maxRecDepth 100000 in
set_option maxHeartbeats 16000000 in
theorem plays_c (a : Option Addr) (len cap : Nat) (V : Nat → Nat → Int) (v1 v2 : Int) (w : World) (hs : Sl w a len cap 4 (fun i j => .int .i64 (V i j))) :
    Calls Try.prog 7 #[.slice a len cap, .int .i64 v1, .int .i64 v2] w fun e' w' => e' = .returned (.bool true) ∧ Kp0 w w' := by
  obtain ⟨hl, hc, hz⟩ := hs
  go_enter Try.func7, Try.ntmps7
  go_wp2_with fail
  refine (new_c _).mono ?_
  rintro e' w1 ⟨g, rfl, hg, h1, k1⟩
  have hB : Bo w (w1.alloc (.cells #[.slice none 0 0, .int .i64 0, .bool false, .int .i64 0, .int .i64 0] 48)) g w1.heap.size none none ⟨[], 0, false, 0, 0⟩ ⟨[], 0, false, 0, 0⟩ := by
    refine ⟨h1.alloc _, ⟨_, Blk.new _ _ _, World.ownsRow_nil _ _ _ _, rfl, Nat.le_refl _, by simp⟩, ?_, Hi.of hg (.inl rfl), Hi.of k1.size (.inl rfl), k1.alloc _⟩
    intro x hx hy
    have := h1.lt x hx
    rcases hy with hy | hy
    · omega
    · cases hy
  clear h1 hg
  go_wp2_with fail
  refine (within_x _ _ (by omega) (by omega) _).mono ?_
  rintro e' w' ⟨F0, hF0, hF1, rfl, rfl⟩
  go_wp2_with fail
  refine (within_x _ _ (by omega) (by omega) _).mono ?_
  rintro e' w' ⟨M0, hM0, hM1, rfl, rfl⟩
  obtain ⟨F, hF⟩ : ∃ F : Int, 1 + F0 = F := ⟨_, rfl⟩
  obtain ⟨M, hM⟩ : ∃ M : Int, 1 + M0 = M := ⟨_, rfl⟩
  generalize w1.heap.size = h at *
  have hR : PlRel w g h len (.int .i64 0) (.int .i64 0) _ 0 0 none none ⟨[], 0, false, 0, 0⟩ := ⟨Nat.zero_le _, by omega, rfl, rfl, by omega, by omega, hB, .inl rfl, fun e => by cases e⟩
  clear hB
  go_wp2_with fail
  go_loopw [9, 10] (fun n i wr => ∃ I N q p s, PlRel w g h len n i wr I N q p s) (fun _ i _ => len - (intOf i).toNat)
  case atStart => exact ⟨_, _, _, _, _, hR⟩
  case round =>
    clear hR k1
    obtain ⟨I, N, q, p, s, hI, h30, rfl, rfl, n0, n1, B, hok, hsd⟩ := hrel
    by_cases hlt : I < len
    · by_cases h24 : I < 30
      · have hz' := hz.resolve_left (by omega)
        obtain ⟨b, off, rfl, hcell⟩ := hz'
        clear hz
        have hb : b < w.heap.size := World.block_lt_of_cell? w ⟨b, _, none⟩ (hcell I hlt 0 (by omega))
        have cc : ∀ j, j < 4 → wr.cell? ⟨b, off + (I * 4 + j), none⟩ = some (.int .i64 (V I j)) := fun j hj => (B.k.below0.cell (p := ⟨b, _, none⟩) hb).trans (hcell I hlt j hj)
        have c0 : wr.cell? ⟨b, off + I * 4, none⟩ = some (.int .i64 (V I 0)) := cc 0 (by omega)
        have c1 : wr.cell? ⟨b, off + I * 4 + 1, none⟩ = some (.int .i64 (V I 1)) := cc 1 (by omega)
        have c2 : wr.cell? ⟨b, off + I * 4 + 2, none⟩ = some (.int .i64 (V I 2)) := cc 2 (by omega)
        have c3 : wr.cell? ⟨b, off + I * 4 + 3, none⟩ = some (.int .i64 (V I 3)) := cc 3 (by omega)
        clear cc hcell
        go_wp2_with fail
        have hA := Blk.new wr #[.int .i64 (V I 0), .int .i64 (V I 1), .int .i64 (V I 2), .int .i64 (V I 3)] 41
        have B' := B.alloc (.cells #[.int .i64 (V I 0), .int .i64 (V I 1), .int .i64 (V I 2), .int .i64 (V I 3)] 41)
        clear c0 c1 c2 c3 B
        generalize wr.heap.size = ga at *
        generalize wr.alloc (.cells #[.int .i64 (V I 0), .int .i64 (V I 1), .int .i64 (V I 2), .int .i64 (V I 3)] 41) = wa at *
        refine (within_x _ _ (by omega) (by omega) _).mono ?_
        rintro e' w' ⟨D, hD0, hD1, rfl, rfl⟩
        have d0 := Blk.cell hA 0
        have d1 := Blk.cell hA 1
        have d3 := Blk.cell hA 3
        simp at d0 d1 d3
        have hle := B'.st.le
        go_wp2_with fail
        refine (within_x _ _ (by omega) (by omega) _).mono ?_
        rintro e' w' ⟨X, hX0, hX1, rfl, rfl⟩
        have hX : X = 0 ∨ X = 1 ∨ X = 2 ∨ X = 3 ∨ X = 4 ∨ X = 5 ∨ X = 6 ∨ X = 7 := by omega
        clear hX0 hX1
        rcases hX with rfl | rfl | rfl | rfl | rfl | rfl | rfl | rfl
        · as_aux_lemma =>
            go_wp2_with fail
            refine (within_x _ _ (by omega) (by omega) _).mono ?_
            rintro e' w' ⟨Z, hZ0, hZ1, rfl, rfl⟩
            by_cases ht : (V I 1).tmod 11 = 10
            · have htb : ((V I 1).tmod 11 == 10) = true := by simpa using ht
              obtain ⟨⟨a, b, c⟩, s', hx⟩ : ∃ r s', s.add (V I 1) = (r, s') := ⟨_, _, rfl⟩
              obtain ⟨ok', sd', hc8⟩ := add_keeps s _ a b c s' hok hsd hx
              have hl9 : s.l.length < 100 := by have := hok.len; omega
              go_wp2_with fail
              refine (add_x B'.st hl9 hx).mono ?_
              rintro e' w5 ⟨q5, rfl, h5, k5, b5⟩
              have B5 := B'.left h5 k5 b5
              clear h5 k5 b5 B'
              have hu := (Blk.new w5 #[.int .i64 a, .int .i64 b] 27)
              have nu : ¬ Ft h p w5.heap.size := fun x => by have := B5.rt.lt _ x; omega
              have Bu := B5.alloc (.cells #[.int .i64 a, .int .i64 b] 27)
              clear B5
              go_wp2_with fail
              refine (radd_x Bu.rt hl9 hx).mono ?_
              rintro e' w6 ⟨p6, rfl, h6, k6, b6⟩
              have B6 := (Bu.right h6 k6 b6).alloc (.cells #[.int .i64 a, .int .i64 b] 27)
              have hu6 := hu.kp k6 nu
              have u0 := (hu6.kp0 ((Kp.refl _ _).alloc (.cells #[.int .i64 a, .int .i64 b] 27))).cell 0
              have u1 := (hu6.kp0 ((Kp.refl _ _).alloc (.cells #[.int .i64 a, .int .i64 b] 27))).cell 1
              simp at u0 u1
              clear h6 k6 b6 Bu hu hu6 hx
              rcases hc8 with rfl | rfl
              · go_wp2_with fail
                refine (same11_c g h _ _ s' _ (B6).st (B6).rt sd').mono ?_
                rintro e' w9 ⟨rfl, k9⟩
                have B9 := (B6).kp0 k9
                go_wp2
                go_roundw
                case rel => exact ⟨I + 1, _, _, _, s', by omega, by omega, by go_num, by go_num, by omega, by omega, B9, ok', sd'⟩
                case measure => simp [intOf]; omega
              · go_wp2_with fail
                refine (same11_c g h _ _ s' _ (B6).st (B6).rt sd').mono ?_
                rintro e' w9 ⟨rfl, k9⟩
                have B9 := (B6).kp0 k9
                go_wp2
                go_roundw
                case rel => exact ⟨I + 1, _, _, _, s', by omega, by omega, by go_num, by go_num, by omega, by omega, B9, ok', sd'⟩
                case measure => simp [intOf]; omega
            · have htb : ((V I 1).tmod 11 == 10) = false := by simpa using ht
              obtain ⟨⟨a, b, c⟩, s', hx⟩ : ∃ r s', s.add Z = (r, s') := ⟨_, _, rfl⟩
              obtain ⟨ok', sd', hc8⟩ := add_keeps s _ a b c s' hok hsd hx
              have hl9 : s.l.length < 100 := by have := hok.len; omega
              go_wp2_with fail
              refine (add_x B'.st hl9 hx).mono ?_
              rintro e' w5 ⟨q5, rfl, h5, k5, b5⟩
              have B5 := B'.left h5 k5 b5
              clear h5 k5 b5 B'
              have hu := (Blk.new w5 #[.int .i64 a, .int .i64 b] 27)
              have nu : ¬ Ft h p w5.heap.size := fun x => by have := B5.rt.lt _ x; omega
              have Bu := B5.alloc (.cells #[.int .i64 a, .int .i64 b] 27)
              clear B5
              go_wp2_with fail
              refine (radd_x Bu.rt hl9 hx).mono ?_
              rintro e' w6 ⟨p6, rfl, h6, k6, b6⟩
              have B6 := (Bu.right h6 k6 b6).alloc (.cells #[.int .i64 a, .int .i64 b] 27)
              have hu6 := hu.kp k6 nu
              have u0 := (hu6.kp0 ((Kp.refl _ _).alloc (.cells #[.int .i64 a, .int .i64 b] 27))).cell 0
              have u1 := (hu6.kp0 ((Kp.refl _ _).alloc (.cells #[.int .i64 a, .int .i64 b] 27))).cell 1
              simp at u0 u1
              clear h6 k6 b6 Bu hu hu6 hx
              rcases hc8 with rfl | rfl
              · go_wp2_with fail
                refine (same11_c g h _ _ s' _ (B6).st (B6).rt sd').mono ?_
                rintro e' w9 ⟨rfl, k9⟩
                have B9 := (B6).kp0 k9
                go_wp2
                go_roundw
                case rel => exact ⟨I + 1, _, _, _, s', by omega, by omega, by go_num, by go_num, by omega, by omega, B9, ok', sd'⟩
                case measure => simp [intOf]; omega
              · go_wp2_with fail
                refine (same11_c g h _ _ s' _ (B6).st (B6).rt sd').mono ?_
                rintro e' w9 ⟨rfl, k9⟩
                have B9 := (B6).kp0 k9
                go_wp2
                go_roundw
                case rel => exact ⟨I + 1, _, _, _, s', by omega, by omega, by go_num, by go_num, by omega, by omega, B9, ok', sd'⟩
                case measure => simp [intOf]; omega
        · as_aux_lemma =>
            go_wp2_with fail
            refine (within_x _ _ (by omega) (by omega) _).mono ?_
            rintro e' w' ⟨Z, hZ0, hZ1, rfl, rfl⟩
            by_cases ht : (V I 1).tmod 11 = 10
            · have htb : ((V I 1).tmod 11 == 10) = true := by simpa using ht
              obtain ⟨⟨a, b, c⟩, s', hx⟩ : ∃ r s', s.add (V I 1) = (r, s') := ⟨_, _, rfl⟩
              obtain ⟨ok', sd', hc8⟩ := add_keeps s _ a b c s' hok hsd hx
              have hl9 : s.l.length < 100 := by have := hok.len; omega
              go_wp2_with fail
              refine (add_x B'.st hl9 hx).mono ?_
              rintro e' w5 ⟨q5, rfl, h5, k5, b5⟩
              have B5 := B'.left h5 k5 b5
              clear h5 k5 b5 B'
              have hu := (Blk.new w5 #[.int .i64 a, .int .i64 b] 27)
              have nu : ¬ Ft h p w5.heap.size := fun x => by have := B5.rt.lt _ x; omega
              have Bu := B5.alloc (.cells #[.int .i64 a, .int .i64 b] 27)
              clear B5
              go_wp2_with fail
              refine (radd_x Bu.rt hl9 hx).mono ?_
              rintro e' w6 ⟨p6, rfl, h6, k6, b6⟩
              have B6 := (Bu.right h6 k6 b6).alloc (.cells #[.int .i64 a, .int .i64 b] 27)
              have hu6 := hu.kp k6 nu
              have u0 := (hu6.kp0 ((Kp.refl _ _).alloc (.cells #[.int .i64 a, .int .i64 b] 27))).cell 0
              have u1 := (hu6.kp0 ((Kp.refl _ _).alloc (.cells #[.int .i64 a, .int .i64 b] 27))).cell 1
              simp at u0 u1
              clear h6 k6 b6 Bu hu hu6 hx
              rcases hc8 with rfl | rfl
              · go_wp2_with fail
                refine (same11_c g h _ _ s' _ (B6).st (B6).rt sd').mono ?_
                rintro e' w9 ⟨rfl, k9⟩
                have B9 := (B6).kp0 k9
                go_wp2
                go_roundw
                case rel => exact ⟨I + 1, _, _, _, s', by omega, by omega, by go_num, by go_num, by omega, by omega, B9, ok', sd'⟩
                case measure => simp [intOf]; omega
              · go_wp2_with fail
                refine (same11_c g h _ _ s' _ (B6).st (B6).rt sd').mono ?_
                rintro e' w9 ⟨rfl, k9⟩
                have B9 := (B6).kp0 k9
                go_wp2
                go_roundw
                case rel => exact ⟨I + 1, _, _, _, s', by omega, by omega, by go_num, by go_num, by omega, by omega, B9, ok', sd'⟩
                case measure => simp [intOf]; omega
            · have htb : ((V I 1).tmod 11 == 10) = false := by simpa using ht
              obtain ⟨⟨a, b, c⟩, s', hx⟩ : ∃ r s', s.add Z = (r, s') := ⟨_, _, rfl⟩
              obtain ⟨ok', sd', hc8⟩ := add_keeps s _ a b c s' hok hsd hx
              have hl9 : s.l.length < 100 := by have := hok.len; omega
              go_wp2_with fail
              refine (add_x B'.st hl9 hx).mono ?_
              rintro e' w5 ⟨q5, rfl, h5, k5, b5⟩
              have B5 := B'.left h5 k5 b5
              clear h5 k5 b5 B'
              have hu := (Blk.new w5 #[.int .i64 a, .int .i64 b] 27)
              have nu : ¬ Ft h p w5.heap.size := fun x => by have := B5.rt.lt _ x; omega
              have Bu := B5.alloc (.cells #[.int .i64 a, .int .i64 b] 27)
              clear B5
              go_wp2_with fail
              refine (radd_x Bu.rt hl9 hx).mono ?_
              rintro e' w6 ⟨p6, rfl, h6, k6, b6⟩
              have B6 := (Bu.right h6 k6 b6).alloc (.cells #[.int .i64 a, .int .i64 b] 27)
              have hu6 := hu.kp k6 nu
              have u0 := (hu6.kp0 ((Kp.refl _ _).alloc (.cells #[.int .i64 a, .int .i64 b] 27))).cell 0
              have u1 := (hu6.kp0 ((Kp.refl _ _).alloc (.cells #[.int .i64 a, .int .i64 b] 27))).cell 1
              simp at u0 u1
              clear h6 k6 b6 Bu hu hu6 hx
              rcases hc8 with rfl | rfl
              · go_wp2_with fail
                refine (same11_c g h _ _ s' _ (B6).st (B6).rt sd').mono ?_
                rintro e' w9 ⟨rfl, k9⟩
                have B9 := (B6).kp0 k9
                go_wp2
                go_roundw
                case rel => exact ⟨I + 1, _, _, _, s', by omega, by omega, by go_num, by go_num, by omega, by omega, B9, ok', sd'⟩
                case measure => simp [intOf]; omega
              · go_wp2_with fail
                refine (same11_c g h _ _ s' _ (B6).st (B6).rt sd').mono ?_
                rintro e' w9 ⟨rfl, k9⟩
                have B9 := (B6).kp0 k9
                go_wp2
                go_roundw
                case rel => exact ⟨I + 1, _, _, _, s', by omega, by omega, by go_num, by go_num, by omega, by omega, B9, ok', sd'⟩
                case measure => simp [intOf]; omega
        · as_aux_lemma =>
            obtain ⟨⟨a, b, c⟩, s', hx⟩ : ∃ r s', s.say (N + D) F (V I 3) = (r, s') := ⟨_, _, rfl⟩
            obtain ⟨ok', sd'⟩ := say_keeps s _ _ _ a b c s' hok hsd hle.1 hx
            go_wp2_with fail
            refine (say_x B'.st hx).mono ?_
            rintro e' w5 ⟨rfl, h5, k5⟩
            have B5 := B'.left h5 k5 (.inl rfl)
            clear h5 k5 B'
            have hu := (Blk.new w5 #[.int .i64 a, .int .i64 b] 27)
            have nu : ¬ Ft h p w5.heap.size := fun x => by have := B5.rt.lt _ x; omega
            have Bu := B5.alloc (.cells #[.int .i64 a, .int .i64 b] 27)
            clear B5
            go_wp2_with fail
            refine (rsay_x Bu.rt hx).mono ?_
            rintro e' w6 ⟨rfl, h6, k6⟩
            have B6 := (Bu.right h6 k6 (.inl rfl)).alloc (.cells #[.int .i64 a, .int .i64 b] 27)
            have hu6 := hu.kp k6 nu
            have u0 := (hu6.kp0 ((Kp.refl _ _).alloc (.cells #[.int .i64 a, .int .i64 b] 27))).cell 0
            have u1 := (hu6.kp0 ((Kp.refl _ _).alloc (.cells #[.int .i64 a, .int .i64 b] 27))).cell 1
            simp at u0 u1
            clear h6 k6 Bu hu hu6
            clear hx
            go_wp2_with fail
            refine (same11_c g h _ _ s' _ (B6).st (B6).rt sd').mono ?_
            rintro e' w9 ⟨rfl, k9⟩
            have B9 := (B6).kp0 k9
            go_wp2
            go_roundw
            case rel => exact ⟨I + 1, _, _, _, s', by omega, by omega, by go_num, by go_num, by omega, by omega, B9, ok', sd'⟩
            case measure => simp [intOf]; omega
        · as_aux_lemma =>
            obtain ⟨⟨a, b, c⟩, s', hx⟩ : ∃ r s', s.say (N + D) F (V I 3) = (r, s') := ⟨_, _, rfl⟩
            obtain ⟨ok', sd'⟩ := say_keeps s _ _ _ a b c s' hok hsd hle.1 hx
            go_wp2_with fail
            refine (say_x B'.st hx).mono ?_
            rintro e' w5 ⟨rfl, h5, k5⟩
            have B5 := B'.left h5 k5 (.inl rfl)
            clear h5 k5 B'
            have hu := (Blk.new w5 #[.int .i64 a, .int .i64 b] 27)
            have nu : ¬ Ft h p w5.heap.size := fun x => by have := B5.rt.lt _ x; omega
            have Bu := B5.alloc (.cells #[.int .i64 a, .int .i64 b] 27)
            clear B5
            go_wp2_with fail
            refine (rsay_x Bu.rt hx).mono ?_
            rintro e' w6 ⟨rfl, h6, k6⟩
            have B6 := (Bu.right h6 k6 (.inl rfl)).alloc (.cells #[.int .i64 a, .int .i64 b] 27)
            have hu6 := hu.kp k6 nu
            have u0 := (hu6.kp0 ((Kp.refl _ _).alloc (.cells #[.int .i64 a, .int .i64 b] 27))).cell 0
            have u1 := (hu6.kp0 ((Kp.refl _ _).alloc (.cells #[.int .i64 a, .int .i64 b] 27))).cell 1
            simp at u0 u1
            clear h6 k6 Bu hu hu6
            clear hx
            go_wp2_with fail
            refine (same11_c g h _ _ s' _ (B6).st (B6).rt sd').mono ?_
            rintro e' w9 ⟨rfl, k9⟩
            have B9 := (B6).kp0 k9
            go_wp2
            go_roundw
            case rel => exact ⟨I + 1, _, _, _, s', by omega, by omega, by go_num, by go_num, by omega, by omega, B9, ok', sd'⟩
            case measure => simp [intOf]; omega
        · as_aux_lemma =>
            obtain ⟨⟨a, b, c⟩, s', hx⟩ : ∃ r s', s.again (N + D) M (V I 3) = (r, s') := ⟨_, _, rfl⟩
            obtain ⟨ok', sd'⟩ := again_keeps s _ _ _ a b c s' hok hsd hx
            go_wp2_with fail
            refine (again_x B'.st hx).mono ?_
            rintro e' w5 ⟨rfl, h5, k5⟩
            have B5 := B'.left h5 k5 (.inl rfl)
            clear h5 k5 B'
            have hu := (Blk.new w5 #[.int .i64 a, .int .i64 b] 27)
            have nu : ¬ Ft h p w5.heap.size := fun x => by have := B5.rt.lt _ x; omega
            have Bu := B5.alloc (.cells #[.int .i64 a, .int .i64 b] 27)
            clear B5
            go_wp2_with fail
            refine (ragain_x Bu.rt hx).mono ?_
            rintro e' w6 ⟨rfl, h6, k6⟩
            have B6 := (Bu.right h6 k6 (.inl rfl)).alloc (.cells #[.int .i64 a, .int .i64 b] 27)
            have hu6 := hu.kp k6 nu
            have u0 := (hu6.kp0 ((Kp.refl _ _).alloc (.cells #[.int .i64 a, .int .i64 b] 27))).cell 0
            have u1 := (hu6.kp0 ((Kp.refl _ _).alloc (.cells #[.int .i64 a, .int .i64 b] 27))).cell 1
            simp at u0 u1
            clear h6 k6 Bu hu hu6
            clear hx
            go_wp2_with fail
            refine (same11_c g h _ _ s' _ (B6).st (B6).rt sd').mono ?_
            rintro e' w9 ⟨rfl, k9⟩
            have B9 := (B6).kp0 k9
            go_wp2
            go_roundw
            case rel => exact ⟨I + 1, _, _, _, s', by omega, by omega, by go_num, by go_num, by omega, by omega, B9, ok', sd'⟩
            case measure => simp [intOf]; omega
        · as_aux_lemma =>
            obtain ⟨⟨a, b, c⟩, s', hx⟩ : ∃ r s', s.again (N + D) M (V I 3) = (r, s') := ⟨_, _, rfl⟩
            obtain ⟨ok', sd'⟩ := again_keeps s _ _ _ a b c s' hok hsd hx
            go_wp2_with fail
            refine (again_x B'.st hx).mono ?_
            rintro e' w5 ⟨rfl, h5, k5⟩
            have B5 := B'.left h5 k5 (.inl rfl)
            clear h5 k5 B'
            have hu := (Blk.new w5 #[.int .i64 a, .int .i64 b] 27)
            have nu : ¬ Ft h p w5.heap.size := fun x => by have := B5.rt.lt _ x; omega
            have Bu := B5.alloc (.cells #[.int .i64 a, .int .i64 b] 27)
            clear B5
            go_wp2_with fail
            refine (ragain_x Bu.rt hx).mono ?_
            rintro e' w6 ⟨rfl, h6, k6⟩
            have B6 := (Bu.right h6 k6 (.inl rfl)).alloc (.cells #[.int .i64 a, .int .i64 b] 27)
            have hu6 := hu.kp k6 nu
            have u0 := (hu6.kp0 ((Kp.refl _ _).alloc (.cells #[.int .i64 a, .int .i64 b] 27))).cell 0
            have u1 := (hu6.kp0 ((Kp.refl _ _).alloc (.cells #[.int .i64 a, .int .i64 b] 27))).cell 1
            simp at u0 u1
            clear h6 k6 Bu hu hu6
            clear hx
            go_wp2_with fail
            refine (same11_c g h _ _ s' _ (B6).st (B6).rt sd').mono ?_
            rintro e' w9 ⟨rfl, k9⟩
            have B9 := (B6).kp0 k9
            go_wp2
            go_roundw
            case rel => exact ⟨I + 1, _, _, _, s', by omega, by omega, by go_num, by go_num, by omega, by omega, B9, ok', sd'⟩
            case measure => simp [intOf]; omega
        · as_aux_lemma =>
            go_wp2_with fail
            refine (within_x _ _ (by omega) (by omega) _).mono ?_
            rintro e' w' ⟨Z, hZ0, hZ1, rfl, rfl⟩
            obtain ⟨a, s', hx⟩ : ∃ r s', s.ack Z = (r, s') := ⟨_, _, rfl⟩
            obtain ⟨ok', sd', hc8⟩ := ack_keeps s _ a s' hok hsd hle.1 hx
            go_wp2_with fail
            refine (ack_x B'.st hx).mono ?_
            rintro e' w5 ⟨rfl, h5, k5⟩
            have B5 := B'.left h5 k5 (.inl rfl)
            clear h5 k5 B'
            go_wp2_with fail
            refine (rack_x B5.rt hx).mono ?_
            rintro e' w6 ⟨rfl, h6, k6⟩
            have B6 := B5.right h6 k6 (.inl rfl)
            clear h6 k6 B5 hx
            rcases hc8 with rfl | rfl
            · go_wp2_with fail
              refine (same11_c g h _ _ s' _ (B6).st (B6).rt sd').mono ?_
              rintro e' w9 ⟨rfl, k9⟩
              have B9 := (B6).kp0 k9
              go_wp2
              go_roundw
              case rel => exact ⟨I + 1, _, _, _, s', by omega, by omega, by go_num, by go_num, by omega, by omega, B9, ok', sd'⟩
              case measure => simp [intOf]; omega
            · go_wp2_with fail
              refine (same11_c g h _ _ s' _ (B6).st (B6).rt sd').mono ?_
              rintro e' w9 ⟨rfl, k9⟩
              have B9 := (B6).kp0 k9
              go_wp2
              go_roundw
              case rel => exact ⟨I + 1, _, _, _, s', by omega, by omega, by go_num, by go_num, by omega, by omega, B9, ok', sd'⟩
              case measure => simp [intOf]; omega
        · as_aux_lemma =>
            go_wp2_with fail
            refine (sclone_c g q s _ B'.st).mono ?_
            rintro e' w5 ⟨c, r, rfl, hc5, c5, k5, b5⟩
            have hi5 : Hi wa.heap.size c r := Hi.of hc5 b5
            have hl9 : s.l.length < 100 := by have := hok.len; omega
            clear b5 hc5
            go_wp2_with fail
            refine (add_c c r s 6 _ c5 hl9).mono ?_
            rintro e' w6 ⟨r6, rfl, c6, k6, b6⟩
            have K6 : Kp0 wa w6 := k5.step k6 hi5
            have hi6 := hi5.add k5.size b6
            clear k6 b6 c5 hi5 k5
            go_wp2_with fail
            refine (say_c c r6 _ (N + D) F (V I 3) _ c6).mono ?_
            rintro e' w7 ⟨rfl, c7, k7⟩
            have K7 : Kp0 wa w7 := K6.step k7 hi6
            clear k7 c6 K6
            go_wp2_with fail
            refine (ack_c c r6 _ 1 _ c7).mono ?_
            rintro e' w8 ⟨rfl, c8, k8⟩
            have K8 : Kp0 wa w8 := K7.step k8 hi6
            have B6 := B'.kp0 K8
            clear k8 c7 c8 K7 K8 B' hi6
            go_wp2_with fail
            refine (same11_c g h _ _ s _ (B6).st (B6).rt hsd).mono ?_
            rintro e' w9 ⟨rfl, k9⟩
            have B9 := (B6).kp0 k9
            go_wp2
            go_roundw
            case rel => exact ⟨I + 1, _, _, _, s, by omega, by omega, by go_num, by go_num, by omega, by omega, B9, hok, hsd⟩
            case measure => simp [intOf]; omega
      · have h24' : (30 : Int) ≤ I := by omega
        go_wp2_with fail
        refine (wakes11_c _).mono ?_
        rintro e' w9 ⟨rfl, k9⟩
        go_wp2
        go_ret
        exact ⟨rfl, B.k.then0 k9⟩
    · obtain rfl : I = len := by omega
      go_wp2_with fail
      refine (wakes11_c _).mono ?_
      rintro e' w9 ⟨rfl, k9⟩
      go_wp2
      go_ret
      exact ⟨rfl, B.k.then0 k9⟩

theorem streamPlays_w (a : Option Addr) (len cap : Nat) (V : Nat → Nat → Int) (v1 v2 : Int) (w : World) (hs : Sl w a len cap 4 (fun i j => .int .i64 (V i j))) (_ : ∀ i, i < len → ∀ j, j < 4 → (Lit.int .i64 (V i j)).wf = true) (_ : (Lit.int .i64 v1).wf = true) (_ : (Lit.int .i64 v2).wf = true) :
    Calls Try.prog 7 #[.slice a len cap, .int .i64 v1, .int .i64 v2] w fun e' w' => e' = .returned (.bool true) ∧ Below w.heap.size w w' :=
  (plays_c a len cap V v1 v2 w hs).mono fun _ _ h => ⟨h.1, h.2.below0⟩
end Go.Proofs.Ytccamciijpmkjaa
