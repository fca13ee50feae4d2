/- Contracts of the reference's stream. -/
import Derived.Test.YtccamciijpmkjaaSo
set_option linter.unusedVariables false
set_option linter.unusedSimpArgs false
namespace Go.Proofs.Ytccamciijpmkjaa
open Go.RowKit

def RtAt (w : World) (g : Nat) (q : Option Nat) (s : St) : Prop :=
  ∃ v, Blk w g #[v, .int .i64 s.acked, .bool s.said, .int .i64 s.delay, .int .i64 s.due] 48 ∧ w.ownsRow 0 27 2 v s.l.length (rowsFrom 0 s.l) ∧ v.ownBlock = q ∧ s.acked ≤ s.l.length ∧ s.l.length ≤ 100


theorem RtAt.kp {S : Nat → Prop} {w w' : World} {g : Nat} {q : Option Nat} {s : St} (h : RtAt w g q s) (k : Kp S w w') (hn : ∀ i, Ft g q i → ¬ S i) : RtAt w' g q s := by
  obtain ⟨v, h1, h2, rfl, h4⟩ := h
  exact ⟨v, h1.kp k (hn g (.inl rfl)), own_kp h2 k (fun i hi => hn i (.inr hi)), rfl, h4⟩
theorem RtAt.kp0 {w w' : World} {g : Nat} {q : Option Nat} {s : St} (h : RtAt w g q s) (k : Kp0 w w') : RtAt w' g q s := h.kp k (fun _ _ x => x)
theorem RtAt.lt {w : World} {g : Nat} {q : Option Nat} {s : St} (h : RtAt w g q s) : ∀ i, Ft g q i → i < w.heap.size := by
  obtain ⟨v, h1, h2, rfl, _⟩ := h
  intro i hi
  rcases hi with rfl | hi
  · exact h1.lt
  · exact (h2.lt i hi).2


theorem rstate_c (g : Nat) (q : Option Nat) (s : St) (w : World) (h : RtAt w g q s) :
    Calls Try.prog 53 #[.pointer (some ⟨g, 0, none⟩)] w fun e w' => e = .returned (.int .i64 s.state) ∧ ∃ n, w' = w.drewN n := by
  obtain ⟨v, h1, h2, _, h4, h5⟩ := h
  have c0 := Blk.cell h1 0
  simp at c0
  rcases own_shape h2 with ⟨rfl, hn, _⟩ | ⟨r, cap, rfl, hc1, hc2, _, hcell⟩
  · have e : s.state = 1 := by
      have : s.l = [] := List.length_eq_zero_iff.1 hn
      unfold St.state; rw [this]; rfl
    rw [e]
    clear hn h2 h1 e
    go_enter Try.func53, Try.ntmps53
    go_wp2
    go_ret
    exact ⟨rfl, 0, rfl⟩
  · by_cases hz : s.l.length = 0
    · have e : s.state = 1 := by
        have : s.l = [] := List.length_eq_zero_iff.1 hz
        unfold St.state; rw [this]; rfl
      rw [e]
      have hz' : ((s.l.length : Int) == 0) = true := by rw [hz]; rfl
      clear hz h2 h1 e hcell
      go_enter Try.func53, Try.ntmps53
      go_wp2
      go_ret
      exact ⟨rfl, 0, rfl⟩
    · have hz' : ((s.l.length : Int) == 0) = false := by simp; intro e; rw [e] at hz; exact hz rfl
      have hc := hcell ((s.l.length - 1) * 2 + 1) (by omega)
      rw [(rowsFrom_num s.l 0 (s.l.length - 1) (by omega)).2] at hc
      have e : s.state = s.l.getD (s.l.length - 1) 0 := by
        unfold St.state
        rw [List.getLastD_eq_getLast?, List.getLast?_eq_getElem?]
        simp [List.getD, List.getElem?_eq_getElem (show s.l.length - 1 < s.l.length by omega)]
      rw [e]
      have hp : 1 ≤ s.l.length := by omega
      clear hz h2 h1 e hcell
      go_enter Try.func53, Try.ntmps53
      go_wp2_with fail
      go_quiet (fail)
      go_wp2
      go_ret
      exact ⟨rfl, _, rfl⟩


theorem rfront_c (g : Nat) (q : Option Nat) (s : St) (w : World) (h : RtAt w g q s) :
    Calls Try.prog 54 #[.pointer (some ⟨g, 0, none⟩)] w fun e w' => e = .returned (.tuple #[.agg #[.int .i64 s.front.1, .int .i64 s.front.2.1], .bool s.front.2.2]) ∧ Kp0 w w' := by
  have h0 := h
  obtain ⟨v, h1, h2, _, h4, h5⟩ := h
  have hb : g < w.heap.size := h1.lt
  have c0 := Blk.cell h1 0
  have c1 := Blk.cell h1 1
  simp at c0 c1
  by_cases hp : s.acked = s.l.length
  · have e : s.front = (0, 0, false) := by unfold St.front; rw [if_pos hp]
    have hz : (s.l.length : Int) ≤ s.acked := by omega
    rw [e]
    rcases own_shape h2 with ⟨rfl, hn, _⟩ | ⟨r, cap, rfl, hc1, hc2, hr, _⟩
    all_goals
      clear e hp
      go_enter Try.func54, Try.ntmps54
      go_wp2_with fail
      go_quiet (fail)
      go_wp2
      exact bodyPost_ret (v := .tuple #[.agg #[.int .i64 0, .int .i64 0], .bool false]) (by simp [results, Try.results54, go_sem]) rfl ⟨rfl, (by repeat (first | exact Kp.refl _ _ | apply Kp.drewN | apply Kp.drew | apply Kp.alloc | (refine Kp.setCell ?_ (fun hx => absurd hx (by simp)) _)))⟩
  · have e : s.front = ((s.acked : Int) + 1, s.l.getD s.acked 0, true) := by unfold St.front; rw [if_neg hp]
    have hz : ¬ (s.l.length : Int) ≤ s.acked := by omega
    rw [e]
    rcases own_shape h2 with ⟨rfl, hn, _⟩ | ⟨r, cap, rfl, hc1, hc2, hr, hcell⟩
    · omega
    · have hca := hcell (s.acked * 2) (by omega)
      have hcb := hcell (s.acked * 2 + 1) (by omega)
      rw [(rowsFrom_num s.l 0 s.acked (by omega)).1] at hca
      rw [(rowsFrom_num s.l 0 s.acked (by omega)).2] at hcb
      rw [Nat.zero_add] at hca
      have hlt : s.acked < s.l.length := by omega
      clear e hp hcell h2 h1
      go_enter Try.func54, Try.ntmps54
      go_wp2_with fail
      go_quiet (fail)
      go_wp2_with fail
      go_region
      go_wp2
      exact bodyPost_ret (v := .tuple #[.agg #[.int .i64 ((s.acked : Int) + 1), .int .i64 (s.l.getD s.acked 0)], .bool true]) (by simp [results, Try.results54, go_sem, List.getD, List.getElem?_eq_getElem hlt]) rfl ⟨rfl, (by repeat (first | exact Kp.refl _ _ | apply Kp.drewN | apply Kp.drew | apply Kp.alloc | (refine Kp.setCell ?_ (fun hx => absurd hx (by simp)) _)))⟩


theorem RtAt.set1 {w : World} {g : Nat} {q : Option Nat} {s : St} (h : RtAt w g q s) (n : Nat) (hn : n ≤ s.l.length) : RtAt (w.setCell ⟨g, 1, none⟩ (.int .i64 n)) g q { s with acked := n } := by
  obtain ⟨v, h1, h2, h3, h4, h5⟩ := h
  exact ⟨v, h1.set 1 _, own_kp h2 ((Kp.self g w).put 1 _) (own_ne h1 h2 (by decide)), h3, hn, h5⟩
theorem RtAt.set2 {w : World} {g : Nat} {q : Option Nat} {s : St} (h : RtAt w g q s) (b : Bool) : RtAt (w.setCell ⟨g, 2, none⟩ (.bool b)) g q { s with said := b } := by
  obtain ⟨v, h1, h2, h3, h4, h5⟩ := h
  exact ⟨v, h1.set 2 _, own_kp h2 ((Kp.self g w).put 2 _) (own_ne h1 h2 (by decide)), h3, h4, h5⟩
theorem RtAt.set3 {w : World} {g : Nat} {q : Option Nat} {s : St} (h : RtAt w g q s) (n : Int) : RtAt (w.setCell ⟨g, 3, none⟩ (.int .i64 n)) g q { s with delay := n } := by
  obtain ⟨v, h1, h2, h3, h4, h5⟩ := h
  exact ⟨v, h1.set 3 _, own_kp h2 ((Kp.self g w).put 3 _) (own_ne h1 h2 (by decide)), h3, h4, h5⟩
theorem RtAt.set4 {w : World} {g : Nat} {q : Option Nat} {s : St} (h : RtAt w g q s) (n : Int) : RtAt (w.setCell ⟨g, 4, none⟩ (.int .i64 n)) g q { s with due := n } := by
  obtain ⟨v, h1, h2, h3, h4, h5⟩ := h
  exact ⟨v, h1.set 4 _, own_kp h2 ((Kp.self g w).put 4 _) (own_ne h1 h2 (by decide)), h3, h4, h5⟩
theorem RtAt.other {w : World} {g : Nat} {q : Option Nat} {s : St} (h : RtAt w g q s) {p : Addr} (hp : ∀ i, Ft g q i → i ≠ p.block) (u : Value) : RtAt (w.setCell p u) g q s :=
  h.kp (S := (· = p.block)) ((Kp.self p.block w).setCell (fun _ => rfl) u) hp
theorem RtAt.alloc {w : World} {g : Nat} {q : Option Nat} {s : St} (h : RtAt w g q s) (o : Obj) : RtAt (w.alloc o) g q s := h.kp0 ((Kp.refl _ _).alloc _)
theorem RtAt.drewN {w : World} {g : Nat} {q : Option Nat} {s : St} (h : RtAt w g q s) (n : Nat) : RtAt (w.drewN n) g q s := h.kp0 ((Kp.refl _ _).drewN _)


set_option maxHeartbeats 2000000 in
theorem rsay_c (g : Nat) (q : Option Nat) (s : St) (now first draw : Int) (w : World) (h : RtAt w g q s) :
    Calls Try.prog 28 #[.pointer (some ⟨g, 0, none⟩), .int .i64 now, .int .i64 first, .int .i64 draw] w fun e w' => e = .returned (.tuple #[.agg #[.int .i64 (s.say now first draw).1.1, .int .i64 (s.say now first draw).1.2.1], .bool (s.say now first draw).1.2.2]) ∧ RtAt w' g q (s.say now first draw).2 ∧ Kp (Ft g q) w w' := by
  have hg : g < w.heap.size := h.lt g (.inl rfl)
  have hlt := h.lt
  have ha := h.kp0 ((Kp.refl _ _).alloc (.cells #[.int .i64 0, .int .i64 0] 27))
  have hp : ∀ i, Ft g q i → i ≠ w.heap.size := fun i hi => Nat.ne_of_lt (hlt i hi)
  have hx : w.heap.size < w.heap.size → Ft g q w.heap.size := fun x => absurd x (Nat.lt_irrefl _)
  have hy : g < w.heap.size → Ft g q g := fun _ => .inl rfl
  by_cases hf : s.front.2.2 = true
  · by_cases hs : s.said = true
    · have e : s.say now first draw = ((0, 0, false), s) := by unfold St.say; rw [if_pos hf, if_pos hs]
      rw [e]
      clear e
      go_enter Try.func28, Try.ntmps28
      go_wp2_with fail
      refine (rfront_c g q s _ ha).mono ?_
      rintro e w1 ⟨rfl, k1⟩
      have h1 := ha.kp0 k1
      have b1 := (Blk.new w #[.int .i64 0, .int .i64 0] 27).kp0 k1
      have K1 := ((Kp.refl (Ft g q) w).alloc (.cells #[.int .i64 0, .int .i64 0] 27)).then0 k1
      have n0 : w.heap.size < w1.heap.size := b1.lt
      obtain ⟨v, hb, hrest⟩ := id h1
      have c1 := Blk.cell hb 1
      have c2 := Blk.cell hb 2
      have c3 := Blk.cell hb 3
      have c4 := Blk.cell hb 4
      have f1 := Blk.free hb 1
      have f2 := Blk.free hb 2
      have f3 := Blk.free hb 3
      have f4 := Blk.free hb 4
      simp at c1 c2 c3 c4
      rw [hs] at c2
      have d0 := Blk.cell b1 0
      have d1 := Blk.cell b1 1
      have e0 := Blk.free b1 0
      have e1 := Blk.free b1 1
      simp at d0 d1
      have hg1 := hb.lt
      clear k1 hrest
      go_wp2
      exact bodyPost_ret (v := .tuple #[.agg #[.int .i64 0, .int .i64 0], .bool false]) (by simp [results, Try.results28, go_sem, d0, d1, n0]) rfl ⟨rfl, ((h1.other hp _).other hp _).alloc _, ((K1.setCell hx _).setCell hx _).alloc _⟩
    · have hs' : s.said = false := by simpa using hs
      have e : s.say now first draw = (s.front, { s with said := true, delay := first, due := _root_.Go.Proofs.Ytccamciijpmkjaa.due now first draw }) := by unfold St.say; rw [if_pos hf, if_neg hs]
      rw [e]
      clear e hs
      go_enter Try.func28, Try.ntmps28
      go_wp2_with fail
      refine (rfront_c g q s _ ha).mono ?_
      rintro e w1 ⟨rfl, k1⟩
      have h1 := ha.kp0 k1
      have b1 := (Blk.new w #[.int .i64 0, .int .i64 0] 27).kp0 k1
      have K1 := ((Kp.refl (Ft g q) w).alloc (.cells #[.int .i64 0, .int .i64 0] 27)).then0 k1
      have n0 : w.heap.size < w1.heap.size := b1.lt
      obtain ⟨v, hb, hrest⟩ := id h1
      have c1 := Blk.cell hb 1
      have c2 := Blk.cell hb 2
      have c3 := Blk.cell hb 3
      have c4 := Blk.cell hb 4
      have f1 := Blk.free hb 1
      have f2 := Blk.free hb 2
      have f3 := Blk.free hb 3
      have f4 := Blk.free hb 4
      simp at c1 c2 c3 c4
      rw [hs'] at c2
      have d0 := Blk.cell b1 0
      have d1 := Blk.cell b1 1
      have e0 := Blk.free b1 0
      have e1 := Blk.free b1 1
      simp at d0 d1
      have hg1 := hb.lt
      clear k1 hrest
      go_wp2_with fail
      refine (rdue_c _ _ _ _).mono ?_
      rintro e w2 ⟨rfl, rfl⟩
      go_wp2
      exact bodyPost_ret (v := .tuple #[.agg #[.int .i64 s.front.1, .int .i64 s.front.2.1], .bool true]) (by simp [results, Try.results28, go_sem, d0, d1, n0]) rfl ⟨by rw [hf], (((((h1.set2 true).set3 first).set4 _).other hp _).other hp _).alloc _, (((((K1.setCell hy _).setCell hy _).setCell hy _).setCell hx _).setCell hx _).alloc _⟩
  · have hf' : s.front.2.2 = false := by simpa using hf
    have e : s.say now first draw = ((0, 0, false), s) := by unfold St.say; rw [if_neg hf]
    rw [e]
    clear e hf
    go_enter Try.func28, Try.ntmps28
    go_wp2_with fail
    refine (rfront_c g q s _ ha).mono ?_
    rintro e w1 ⟨rfl, k1⟩
    have h1 := ha.kp0 k1
    have b1 := (Blk.new w #[.int .i64 0, .int .i64 0] 27).kp0 k1
    have K1 := ((Kp.refl (Ft g q) w).alloc (.cells #[.int .i64 0, .int .i64 0] 27)).then0 k1
    have n0 : w.heap.size < w1.heap.size := b1.lt
    obtain ⟨v, hb, hrest⟩ := id h1
    have c1 := Blk.cell hb 1
    have c2 := Blk.cell hb 2
    have c3 := Blk.cell hb 3
    have c4 := Blk.cell hb 4
    have f1 := Blk.free hb 1
    have f2 := Blk.free hb 2
    have f3 := Blk.free hb 3
    have f4 := Blk.free hb 4
    simp at c1 c2 c3 c4
    have d0 := Blk.cell b1 0
    have d1 := Blk.cell b1 1
    have e0 := Blk.free b1 0
    have e1 := Blk.free b1 1
    simp at d0 d1
    have hg1 := hb.lt
    clear k1 hrest
    go_wp2
    exact bodyPost_ret (v := .tuple #[.agg #[.int .i64 0, .int .i64 0], .bool false]) (by simp [results, Try.results28, go_sem, d0, d1, n0]) rfl ⟨rfl, ((h1.other hp _).other hp _).alloc _, ((K1.setCell hx _).setCell hx _).alloc _⟩


set_option maxHeartbeats 2000000 in
theorem ragain_c (g : Nat) (q : Option Nat) (s : St) (now most draw : Int) (w : World) (h : RtAt w g q s) :
    Calls Try.prog 29 #[.pointer (some ⟨g, 0, none⟩), .int .i64 now, .int .i64 most, .int .i64 draw] w fun e w' => e = .returned (.tuple #[.agg #[.int .i64 (s.again now most draw).1.1, .int .i64 (s.again now most draw).1.2.1], .bool (s.again now most draw).1.2.2]) ∧ RtAt w' g q (s.again now most draw).2 ∧ Kp (Ft g q) w w' := by
  have hg : g < w.heap.size := h.lt g (.inl rfl)
  have hlt := h.lt
  have ha := h.kp0 ((Kp.refl _ _).alloc (.cells #[.int .i64 0, .int .i64 0] 27))
  have hp : ∀ i, Ft g q i → i ≠ w.heap.size := fun i hi => Nat.ne_of_lt (hlt i hi)
  have hx : w.heap.size < w.heap.size → Ft g q w.heap.size := fun x => absurd x (Nat.lt_irrefl _)
  have hy : g < w.heap.size → Ft g q g := fun _ => .inl rfl
  by_cases hf : s.front.2.2 = true
  · by_cases hs : s.said = true
    · by_cases hd : now < s.due
      · have e : s.again now most draw = ((0, 0, false), s) := by unfold St.again; rw [if_pos hf, if_pos hs, if_pos hd]
        rw [e]
        clear e
        go_enter Try.func29, Try.ntmps29
        go_wp2_with fail
        refine (rfront_c g q s _ ha).mono ?_
        rintro e w1 ⟨rfl, k1⟩
        have h1 := ha.kp0 k1
        have b1 := (Blk.new w #[.int .i64 0, .int .i64 0] 27).kp0 k1
        have K1 := ((Kp.refl (Ft g q) w).alloc (.cells #[.int .i64 0, .int .i64 0] 27)).then0 k1
        have n0 : w.heap.size < w1.heap.size := b1.lt
        obtain ⟨v, hb, hrest⟩ := id h1
        have c1 := Blk.cell hb 1
        have c2 := Blk.cell hb 2
        have c3 := Blk.cell hb 3
        have c4 := Blk.cell hb 4
        have f1 := Blk.free hb 1
        have f2 := Blk.free hb 2
        have f3 := Blk.free hb 3
        have f4 := Blk.free hb 4
        simp at c1 c2 c3 c4
        rw [hs] at c2
        have d0 := Blk.cell b1 0
        have d1 := Blk.cell b1 1
        have e0 := Blk.free b1 0
        have e1 := Blk.free b1 1
        simp at d0 d1
        have hg1 := hb.lt
        clear k1 hrest
        go_wp2
        exact bodyPost_ret (v := .tuple #[.agg #[.int .i64 0, .int .i64 0], .bool false]) (by simp [results, Try.results29, go_sem, d0, d1, n0]) rfl ⟨rfl, ((h1.other hp _).other hp _).alloc _, ((K1.setCell hx _).setCell hx _).alloc _⟩
      · have hd' : s.due ≤ now := by omega
        have e : s.again now most draw = (s.front, { s with delay := _root_.Go.Proofs.Ytccamciijpmkjaa.next s.delay most, due := _root_.Go.Proofs.Ytccamciijpmkjaa.due now (_root_.Go.Proofs.Ytccamciijpmkjaa.next s.delay most) draw }) := by unfold St.again; rw [if_pos hf, if_pos hs, if_neg hd]
        rw [e]
        clear e hd
        go_enter Try.func29, Try.ntmps29
        go_wp2_with fail
        refine (rfront_c g q s _ ha).mono ?_
        rintro e w1 ⟨rfl, k1⟩
        have h1 := ha.kp0 k1
        have b1 := (Blk.new w #[.int .i64 0, .int .i64 0] 27).kp0 k1
        have K1 := ((Kp.refl (Ft g q) w).alloc (.cells #[.int .i64 0, .int .i64 0] 27)).then0 k1
        have n0 : w.heap.size < w1.heap.size := b1.lt
        obtain ⟨v, hb, hrest⟩ := id h1
        have c1 := Blk.cell hb 1
        have c2 := Blk.cell hb 2
        have c3 := Blk.cell hb 3
        have c4 := Blk.cell hb 4
        have f1 := Blk.free hb 1
        have f2 := Blk.free hb 2
        have f3 := Blk.free hb 3
        have f4 := Blk.free hb 4
        simp at c1 c2 c3 c4
        rw [hs] at c2
        have d0 := Blk.cell b1 0
        have d1 := Blk.cell b1 1
        have e0 := Blk.free b1 0
        have e1 := Blk.free b1 1
        simp at d0 d1
        have hg1 := hb.lt
        clear k1 hrest
        go_wp2_with fail
        refine (rnext_c _ _ _).mono ?_
        rintro e w2 ⟨rfl, rfl⟩
        go_wp2_with fail
        refine (rdue_c _ _ _ _).mono ?_
        rintro e w2 ⟨rfl, rfl⟩
        go_wp2
        exact bodyPost_ret (v := .tuple #[.agg #[.int .i64 s.front.1, .int .i64 s.front.2.1], .bool true]) (by simp [results, Try.results29, go_sem, d0, d1, n0]) rfl ⟨by rw [hf], ((((h1.set3 _).set4 _).other hp _).other hp _).alloc _, ((((K1.setCell hy _).setCell hy _).setCell hx _).setCell hx _).alloc _⟩
    · have hs' : s.said = false := by simpa using hs
      have e : s.again now most draw = ((0, 0, false), s) := by unfold St.again; rw [if_pos hf, if_neg hs]
      rw [e]
      clear e hs
      go_enter Try.func29, Try.ntmps29
      go_wp2_with fail
      refine (rfront_c g q s _ ha).mono ?_
      rintro e w1 ⟨rfl, k1⟩
      have h1 := ha.kp0 k1
      have b1 := (Blk.new w #[.int .i64 0, .int .i64 0] 27).kp0 k1
      have K1 := ((Kp.refl (Ft g q) w).alloc (.cells #[.int .i64 0, .int .i64 0] 27)).then0 k1
      have n0 : w.heap.size < w1.heap.size := b1.lt
      obtain ⟨v, hb, hrest⟩ := id h1
      have c1 := Blk.cell hb 1
      have c2 := Blk.cell hb 2
      have c3 := Blk.cell hb 3
      have c4 := Blk.cell hb 4
      have f1 := Blk.free hb 1
      have f2 := Blk.free hb 2
      have f3 := Blk.free hb 3
      have f4 := Blk.free hb 4
      simp at c1 c2 c3 c4
      rw [hs'] at c2
      have d0 := Blk.cell b1 0
      have d1 := Blk.cell b1 1
      have e0 := Blk.free b1 0
      have e1 := Blk.free b1 1
      simp at d0 d1
      have hg1 := hb.lt
      clear k1 hrest
      go_wp2
      exact bodyPost_ret (v := .tuple #[.agg #[.int .i64 0, .int .i64 0], .bool false]) (by simp [results, Try.results29, go_sem, d0, d1, n0]) rfl ⟨rfl, ((h1.other hp _).other hp _).alloc _, ((K1.setCell hx _).setCell hx _).alloc _⟩
  · have hf' : s.front.2.2 = false := by simpa using hf
    have e : s.again now most draw = ((0, 0, false), s) := by unfold St.again; rw [if_neg hf]
    rw [e]
    clear e hf
    go_enter Try.func29, Try.ntmps29
    go_wp2_with fail
    refine (rfront_c g q s _ ha).mono ?_
    rintro e w1 ⟨rfl, k1⟩
    have h1 := ha.kp0 k1
    have b1 := (Blk.new w #[.int .i64 0, .int .i64 0] 27).kp0 k1
    have K1 := ((Kp.refl (Ft g q) w).alloc (.cells #[.int .i64 0, .int .i64 0] 27)).then0 k1
    have n0 : w.heap.size < w1.heap.size := b1.lt
    obtain ⟨v, hb, hrest⟩ := id h1
    have c1 := Blk.cell hb 1
    have c2 := Blk.cell hb 2
    have c3 := Blk.cell hb 3
    have c4 := Blk.cell hb 4
    have f1 := Blk.free hb 1
    have f2 := Blk.free hb 2
    have f3 := Blk.free hb 3
    have f4 := Blk.free hb 4
    simp at c1 c2 c3 c4
    have d0 := Blk.cell b1 0
    have d1 := Blk.cell b1 1
    have e0 := Blk.free b1 0
    have e1 := Blk.free b1 1
    simp at d0 d1
    have hg1 := hb.lt
    clear k1 hrest
    go_wp2
    exact bodyPost_ret (v := .tuple #[.agg #[.int .i64 0, .int .i64 0], .bool false]) (by simp [results, Try.results29, go_sem, d0, d1, n0]) rfl ⟨rfl, ((h1.other hp _).other hp _).alloc _, ((K1.setCell hx _).setCell hx _).alloc _⟩

set_option maxHeartbeats 2000000 in

theorem rack_c (g : Nat) (q : Option Nat) (s : St) (n : Int) (w : World) (h : RtAt w g q s) :
    Calls Try.prog 30 #[.pointer (some ⟨g, 0, none⟩), .int .i64 n] w fun e w' => e = .returned (.bool ((s.ack n).1 == 0)) ∧ RtAt w' g q (s.ack n).2 ∧ Kp (Ft g q) w w' := by
  have hy : g < w.heap.size → Ft g q g := fun _ => .inl rfl
  have hle : s.acked ≤ s.l.length ∧ s.l.length ≤ 100 := let ⟨_, _, _, _, b, c⟩ := h; ⟨b, c⟩
  by_cases hf : s.front.2.2 = true
  · by_cases hs : s.said = true
    · by_cases hd : (s.front.1 == n) = true
      · have e : s.ack n = (0, { s with acked := s.acked + 1, said := false }) := by unfold St.ack; rw [if_pos hf, if_pos hs, if_pos hd]
        rw [e]
        have hn : (s.front.1 != n) = false := by simpa using hd
        have hfl := (front_lt hf hle.1).1
        clear e hd
        go_enter Try.func30, Try.ntmps30
        go_wp2_with fail
        refine (rfront_c g q s _ h).mono ?_
        rintro e w1 ⟨rfl, k1⟩
        have h1 := h.kp0 k1
        have K1 := (Kp.refl (Ft g q) w).then0 k1
        obtain ⟨v, hb, hrest⟩ := id h1
        have c1 := Blk.cell hb 1
        have c2 := Blk.cell hb 2
        have f1 := Blk.free hb 1
        have f2 := Blk.free hb 2
        simp at c1 c2
        rw [hs] at c2
        have hg1 := hb.lt
        clear k1 hrest
        go_wp2
        go_ret
        exact ⟨rfl, ((h1.set1 (s.acked + 1) hfl).set2 false).alloc _, ((K1.setCell hy _).setCell hy _).alloc _⟩
      · have e : s.ack n = (3, s) := by unfold St.ack; rw [if_pos hf, if_pos hs, if_neg hd]
        rw [e]
        have hn : (s.front.1 != n) = true := by simpa using hd
        clear e hd
        go_enter Try.func30, Try.ntmps30
        go_wp2_with fail
        refine (rfront_c g q s _ h).mono ?_
        rintro e w1 ⟨rfl, k1⟩
        have h1 := h.kp0 k1
        have K1 := (Kp.refl (Ft g q) w).then0 k1
        obtain ⟨v, hb, hrest⟩ := id h1
        have c1 := Blk.cell hb 1
        have c2 := Blk.cell hb 2
        have f1 := Blk.free hb 1
        have f2 := Blk.free hb 2
        simp at c1 c2
        rw [hs] at c2
        have hg1 := hb.lt
        clear k1 hrest
        go_wp2
        go_ret
        exact ⟨rfl, h1.alloc _, K1.alloc _⟩
    · have hs' : s.said = false := by simpa using hs
      have e : s.ack n = (3, s) := by unfold St.ack; rw [if_pos hf, if_neg hs]
      rw [e]
      clear e hs
      go_enter Try.func30, Try.ntmps30
      go_wp2_with fail
      refine (rfront_c g q s _ h).mono ?_
      rintro e w1 ⟨rfl, k1⟩
      have h1 := h.kp0 k1
      have K1 := (Kp.refl (Ft g q) w).then0 k1
      obtain ⟨v, hb, hrest⟩ := id h1
      have c1 := Blk.cell hb 1
      have c2 := Blk.cell hb 2
      have f1 := Blk.free hb 1
      have f2 := Blk.free hb 2
      simp at c1 c2
      rw [hs'] at c2
      have hg1 := hb.lt
      clear k1 hrest
      go_wp2
      go_ret
      exact ⟨rfl, h1.alloc _, K1.alloc _⟩
  · have hf' : s.front.2.2 = false := by simpa using hf
    have e : s.ack n = (3, s) := by unfold St.ack; rw [if_neg hf]
    rw [e]
    clear e hf
    go_enter Try.func30, Try.ntmps30
    go_wp2_with fail
    refine (rfront_c g q s _ h).mono ?_
    rintro e w1 ⟨rfl, k1⟩
    have h1 := h.kp0 k1
    have K1 := (Kp.refl (Ft g q) w).then0 k1
    obtain ⟨v, hb, hrest⟩ := id h1
    have c1 := Blk.cell hb 1
    have c2 := Blk.cell hb 2
    have f1 := Blk.free hb 1
    have f2 := Blk.free hb 2
    simp at c1 c2

    have hg1 := hb.lt
    clear k1 hrest
    go_wp2
    go_ret
    exact ⟨rfl, h1.alloc _, K1.alloc _⟩


theorem radd_end {g : Nat} {q : Option Nat} {s : St} {x : Int} {w W w1 : World} {v : Value} {n1 r1 cap1 : Nat} {xs : List Value} (hb : g < w.heap.size)
    (h1 : Blk w1 g #[v, .int .i64 s.acked, .bool s.said, .int .i64 s.delay, .int .i64 s.due] 48) (hq : v.ownBlock = q) (hql : ∀ i, v.ownBlock = some i → i < w.heap.size)
    (o1 : w1.ownsRow 0 27 2 (.slice (some ⟨r1, 0, none⟩) n1 cap1) n1 xs) (hW : Kp0 w W) (hWs : w.heap.size < W.heap.size) (k1 : Kp (fun i => v.ownBlock = some i) W w1)
    (b1 : (Value.slice (some ⟨r1, 0, none⟩) n1 cap1).ownBlock = v.ownBlock ∨ (Value.slice (some ⟨r1, 0, none⟩) n1 cap1).ownBlock = some W.heap.size)
    (hn1 : n1 = s.l.length + 1) (hxs : xs = rowsFrom 0 (s.l ++ [x])) (hle : s.acked ≤ s.l.length) (hlt : s.l.length < 100) (u0 u1 : Value) :
    ∃ q', RtAt (((w1.setCell ⟨g, 0, none⟩ (.slice (some ⟨r1, 0, none⟩) n1 cap1)).setCell ⟨w.heap.size, 0, none⟩ u0).setCell ⟨w.heap.size, 1, none⟩ u1) g q' { s with l := s.l ++ [x] } ∧
      Kp (Ft g q) w (((w1.setCell ⟨g, 0, none⟩ (.slice (some ⟨r1, 0, none⟩) n1 cap1)).setCell ⟨w.heap.size, 0, none⟩ u0).setCell ⟨w.heap.size, 1, none⟩ u1) ∧ (q' = q ∨ ∃ b, q' = some b ∧ w.heap.size ≤ b) := by
  have hne : r1 ≠ g := fun e => own_ne h1 o1 (by decide) r1 rfl e
  have hnR : r1 ≠ w.heap.size := by
    intro e
    rcases b1 with b1 | b1
    · have := hql r1 (by rw [← b1]; rfl)
      omega
    · simp [Value.ownBlock] at b1
      omega
  have hgR : g ≠ w.heap.size := by omega
  have K := (((Kp.refl (fun i => i = g ∨ i = w.heap.size) w1).setCell (p := ⟨g, 0, none⟩) (fun _ => .inl rfl) (.slice (some ⟨r1, 0, none⟩) n1 cap1)).setCell (p := ⟨w.heap.size, 0, none⟩) (fun _ => .inr rfl) u0).setCell (p := ⟨w.heap.size, 1, none⟩) (fun _ => .inr rfl) u1
  have hB := ((h1.set 0 (.slice (some ⟨r1, 0, none⟩) n1 cap1)).set_other (p := ⟨w.heap.size, 0, none⟩) hgR u0).set_other (p := ⟨w.heap.size, 1, none⟩) hgR u1
  refine ⟨some r1, ⟨.slice (some ⟨r1, 0, none⟩) n1 cap1, by simpa using hB, ?_, rfl, ?_, ?_⟩, ?_, ?_⟩
  · have := own_kp o1 K (by intro i hi; simp [Value.ownBlock] at hi; subst hi; simp [hne, hnR])
    rw [← hxs, List.length_append, List.length_singleton, ← hn1]
    exact this
  · simp; omega
  · simp; omega
  · refine ((hW.mono (S' := Ft g q) (fun _ _ x => x.elim)).trans k1 (fun i _ h => .inr (hq ▸ h))).trans K ?_
    · rintro i hi (rfl | rfl)
      · exact .inl rfl
      · omega
  · rcases b1 with b1 | b1
    · exact .inl (by rw [← hq, ← b1]; rfl)
    · exact .inr ⟨r1, rfl, by simp [Value.ownBlock] at b1; omega⟩

theorem radd_c (g : Nat) (q : Option Nat) (s : St) (x : Int) (w : World) (h : RtAt w g q s) (hn : s.l.length < 100) :
    Calls Try.prog 27 #[.pointer (some ⟨g, 0, none⟩), .int .i64 x] w fun e w' => ∃ q', e = .returned (.tuple #[.agg #[.int .i64 (s.add x).1.1, .int .i64 (s.add x).1.2.1], .bool ((s.add x).1.2.2 == 0)]) ∧ RtAt w' g q' (s.add x).2 ∧ Kp (Ft g q) w w' ∧ (q' = q ∨ ∃ b, q' = some b ∧ w.heap.size ≤ b) := by
  have h0 := h
  obtain ⟨v, h1, h2, hq, h4, h5⟩ := h
  have hb : g < w.heap.size := h1.lt
  have hb1 : g < w.heap.size + 1 := by omega
  have hb2 : g < w.heap.size + 1 + 1 := by omega
  have c0 := Blk.cell h1 0
  have f0 := Blk.free h1 0
  simp at c0
  by_cases hp : my s.state x = true
  · have e : s.add x = (((s.l.length : Int) + 1, x, 0), { s with l := s.l ++ [x] }) := by unfold St.add; rw [if_pos hp]
    rw [e]
    clear e
    rcases own_shape h2 with ⟨rfl, hn0, _⟩ | ⟨r, cap, rfl, hc1, hc2, hr, _⟩
    · go_enter Try.func27, Try.ntmps27
      go_wp2_with fail
      refine (rstate_c g q s _ (h0.kp0 ((Kp.refl _ _).alloc _))).mono ?_
      rintro e w3 ⟨rfl, n3, rfl⟩
      go_wp2_with fail
      refine (rmay_c _ _ _).mono ?_
      rintro e w3 ⟨rfl, rfl⟩
      rw [hp]
      go_wp2_with fail
      go_region_law (refine step_app rfl (.tmp 25) (.tmp 27) 42 27 (.agg #[.int .i64 0, .int .i64 0]) 2 16 rfl rfl rfl rfl (by decide) (.slice none 0 0) s.l.length (rowsFrom 0 s.l) [.int .i64 1, .int .i64 x] (by simp [Act.eval, Act.put]) (w.heap.size + 1 + 1) (by simp [Act.eval, Act.put]) rfl (by simp [Value.oneCell']) (blk_new _ _ (by simp)) (own_kp (S := fun _ => False) h2 (by repeat (first | exact Kp.refl _ _ | apply Kp.drewN | apply Kp.drew | apply Kp.alloc | (refine Kp.setCell ?_ (fun hx => absurd hx (by simp)) _))) (fun _ _ hx => hx)) (by omega) (by omega) ?_; intro v1 w1 o1 k1 b1; obtain ⟨r1, cap1, rfl⟩ := own_some o1 (by omega); have B1 := (Blk.kp0 (w := w) h1 (by repeat (first | exact Kp.refl _ _ | apply Kp.drewN | apply Kp.drew | apply Kp.alloc | (refine Kp.setCell ?_ (fun hx => absurd hx (by simp)) _)))).kp k1 (by simp [Value.ownBlock]); have d0 := B1.cell 0; have e0 := B1.free 0; simp at d0; have U1 := kp_blk (g := w.heap.size + 1) (cs := #[.int .i64 1, .int .i64 x]) (T := 27) k1 (by repeat (first | (refine blk_new _ _ ?_; (simp; done)) | apply Blk.drew | apply Blk.drewN | apply Blk.alloc)) (by simp [Value.ownBlock]); have u0 := U1.cell 0; have u1 := U1.cell 1; simp at u0 u1; have R1 := kp_blk (g := w.heap.size) (cs := #[.int .i64 0, .int .i64 0]) (T := 27) k1 (by repeat (first | (refine blk_new _ _ ?_; (simp; done)) | apply Blk.drew | apply Blk.drewN | apply Blk.alloc)) (by simp [Value.ownBlock]); have z0 := R1.cell 0; have z1 := R1.cell 1; have y0 := R1.free 0; have y1 := R1.free 1; simp at z0 z1)
      go_wp2
      all_goals
        simp only [hn0, Nat.zero_add] at o1 b1
        obtain ⟨q', t1, t2, t3⟩ := radd_end (x := x) hb B1 hq (by simp [Value.ownBlock]) o1 (by repeat (first | exact Kp.refl _ _ | apply Kp.drewN | apply Kp.drew | apply Kp.alloc | (refine Kp.setCell ?_ (fun hx => absurd hx (by simp)) _))) (by simp; omega) k1 b1 (by omega) (by rw [rowsFrom_snoc]; simp [hn0]) h4 hn (.int .i64 1) (.int .i64 x)
        exact bodyPost_ret (v := .tuple #[.agg #[.int .i64 1, .int .i64 x], .bool true]) (by simp [results, Try.results27, go_sem, z0, z1]) rfl ⟨q', by simp [hn0], t1, t2, t3⟩
    · have hrg : r ≠ g := fun e => own_ne h1 h2 (by decide) r rfl e
      go_enter Try.func27, Try.ntmps27
      go_wp2_with fail
      refine (rstate_c g q s _ (h0.kp0 ((Kp.refl _ _).alloc _))).mono ?_
      rintro e w3 ⟨rfl, n3, rfl⟩
      go_wp2_with fail
      refine (rmay_c _ _ _).mono ?_
      rintro e w3 ⟨rfl, rfl⟩
      rw [hp]
      go_wp2_with fail
      go_region_law (refine step_app rfl (.tmp 25) (.tmp 27) 42 27 (.agg #[.int .i64 0, .int .i64 0]) 2 16 rfl rfl rfl rfl (by decide) (.slice (some ⟨r, 0, none⟩) s.l.length cap) s.l.length (rowsFrom 0 s.l) [.int .i64 ((s.l.length : Int) + 1), .int .i64 x] (by simp [Act.eval, Act.put]) (w.heap.size + 1 + 1) (by simp [Act.eval, Act.put]) rfl (by simp [Value.oneCell']) (blk_new _ _ (by simp)) (own_kp (S := fun _ => False) h2 (by repeat (first | exact Kp.refl _ _ | apply Kp.drewN | apply Kp.drew | apply Kp.alloc | (refine Kp.setCell ?_ (fun hx => absurd hx (by simp)) _))) (fun _ _ hx => hx)) (by omega) (by omega) ?_; intro v1 w1 o1 k1 b1; obtain ⟨r1, cap1, rfl⟩ := own_some o1 (by omega); have B1 := (Blk.kp0 (w := w) h1 (by repeat (first | exact Kp.refl _ _ | apply Kp.drewN | apply Kp.drew | apply Kp.alloc | (refine Kp.setCell ?_ (fun hx => absurd hx (by simp)) _)))).kp k1 (by simpa [Value.ownBlock] using hrg); have d0 := B1.cell 0; have e0 := B1.free 0; simp at d0; have U1 := kp_blk (g := w.heap.size + 1) (cs := #[.int .i64 ((s.l.length : Int) + 1), .int .i64 x]) (T := 27) k1 (by repeat (first | (refine blk_new _ _ ?_; (simp; done)) | apply Blk.drew | apply Blk.drewN | apply Blk.alloc)) (by simp [Value.ownBlock]; omega); have u0 := U1.cell 0; have u1 := U1.cell 1; simp at u0 u1; have R1 := kp_blk (g := w.heap.size) (cs := #[.int .i64 0, .int .i64 0]) (T := 27) k1 (by repeat (first | (refine blk_new _ _ ?_; (simp; done)) | apply Blk.drew | apply Blk.drewN | apply Blk.alloc)) (by simp [Value.ownBlock]; omega); have z0 := R1.cell 0; have z1 := R1.cell 1; have y0 := R1.free 0; have y1 := R1.free 1; simp at z0 z1)
      go_wp2
      all_goals
        obtain ⟨q', t1, t2, t3⟩ := radd_end (x := x) hb B1 hq (by simp [Value.ownBlock]; omega) o1 (by repeat (first | exact Kp.refl _ _ | apply Kp.drewN | apply Kp.drew | apply Kp.alloc | (refine Kp.setCell ?_ (fun hx => absurd hx (by simp)) _))) (by simp; omega) k1 b1 (by omega) (by rw [rowsFrom_snoc]; simp) h4 hn (.int .i64 ((s.l.length : Int) + 1)) (.int .i64 x)
        exact bodyPost_ret (v := .tuple #[.agg #[.int .i64 ((s.l.length : Int) + 1), .int .i64 x], .bool true]) (by simp [results, Try.results27, go_sem, z0, z1]) rfl ⟨q', rfl, t1, t2, t3⟩
  · have e : s.add x = ((0, 0, 8), s) := by unfold St.add; rw [if_neg hp]
    rw [e]
    clear e
    have hp' : my s.state x = false := by simpa using hp
    clear hp
    go_enter Try.func27, Try.ntmps27
    go_wp2_with fail
    refine (rstate_c g q s _ (h0.kp0 ((Kp.refl _ _).alloc _))).mono ?_
    rintro e w3 ⟨rfl, n3, rfl⟩
    go_wp2_with fail
    refine (rmay_c _ _ _).mono ?_
    rintro e w3 ⟨rfl, rfl⟩
    rw [hp']
    go_wp2
    exact bodyPost_ret (v := .tuple #[.agg #[.int .i64 0, .int .i64 0], .bool false]) (by simp [results, Try.results27, go_sem]) rfl ⟨q, rfl, h0.kp0 (by repeat (first | exact Kp.refl _ _ | apply Kp.drewN | apply Kp.drew | apply Kp.alloc | (refine Kp.setCell ?_ (fun hx => absurd hx (by simp)) _))), (by repeat (first | exact Kp.refl _ _ | apply Kp.drewN | apply Kp.drew | apply Kp.alloc | (refine Kp.setCell ?_ (fun hx => absurd hx (by simp)) _))), .inl rfl⟩

end Go.Proofs.Ytccamciijpmkjaa

