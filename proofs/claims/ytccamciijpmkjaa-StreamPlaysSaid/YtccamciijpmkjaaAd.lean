/- 'Add' of a stream, its updates told, its clone. -/
import Derived.Test.YtccamciijpmkjaaSt
import Derived.Deep.AppendLies
set_option linter.unusedVariables false
set_option linter.unusedSimpArgs false
namespace Go.Proofs.Ytccamciijpmkjaa
open Go.RowKit

/-- append onto a row of one's own, as one step of a region. -/
theorem step_app {P : Program} {ops : Array Oper} {o : Oper} {a : Act} {Q : Exit → Act → World → Prop} {K : Act → World → Prop} {W : World} {E : Prop}
    (hg : o.guard = none) (s x : Operand) (t e : TypeId) (z : Value) (size bytes : Nat)
    (ho : o.op = .call { callee := .builtin .append, args := #[s, x], argTypes := #[t, t] })
    (ht : P.underlying t = some (.slice e)) (hinfo : (P.info? e).map (fun i => (i.zero, i.size, i.bytes)) = some (some z, size, bytes)) (hz : z.cells.size = size) (hs0 : 0 < size)
    (v : Value) (n : Nat) (xs ys : List Value) (hs : a.eval s = v) (b : Nat) (hx : a.eval x = .slice (some ⟨b, 0, none⟩) 1 1) (hys : ys.length = size) (h1 : ∀ u ∈ ys, u.oneCell' = true)
    (hb : W.heap[b]? = some (.cells ys.toArray e (0, 0)))
    (HO : W.ownsRow 0 e size v n xs) (hn : n + 1 ≤ 1000000) (hl : (n + 1) * bytes ≤ 140737488355328)
    (h : ∀ v1 w1, w1.ownsRow 0 e size v1 (n + 1) (xs ++ ys) → Kp (fun i => v.ownBlock = some i) W w1 → (v1.ownBlock = v.ownBlock ∨ v1.ownBlock = some W.heap.size) → K (a.put o.dst v1) w1) :
    if Region.wanted o (yielded ops a.tmps) = true then Oper.wp P o a W K Q else E := by
  have hw : Region.wanted o (yielded ops a.tmps) = true := by simp [Region.wanted, hg]
  obtain ⟨i0, hi, hzz⟩ := Option.map_eq_some_iff.1 hinfo
  simp only [Prod.mk.injEq] at hzz
  obtain ⟨hz0, hz1, hz2⟩ := hzz
  rw [if_pos hw]
  obtain ⟨v1, w1, hr, hown, hg, _, hat⟩ := run_append_own_at (P := P) W 0 t o.type e i0 z size bytes ht hi hz0 hz1 hz2 hz hs0 v n xs HO ⟨b, 0, none⟩ 1 1 ys (by rw [hys]; simp)
    (by simpa using World.news_of_block (cs := ys.toArray) (t := e) (fr := (0, 0)) hb) h1 (by simp only [maxLen]; omega) hl (by simp)
  unfold Oper.wp execOp
  simp only [ho, resolve, invoke, builtin, Sem.run_bind, Sem.run_pure, Result.andThen_ok, List.map_toArray, List.map_cons, List.map_nil, hs, hx, hr]
  exact h v1 w1 hown ((Kp.refl _ _).grown hg (fun k hk _ => hk)) hat

theorem blk_new {W : World} {n : Nat} (cs : Array Value) (T : TypeId) (hn : W.heap.size = n) : (W.alloc (.cells cs T)).heap[n]? = some (.cells cs T (0, 0)) := by
  subst hn; exact Blk.new _ _ _

theorem own_some {w : World} {b e size n : Nat} {v : Value} {xs : List Value} (h : w.ownsRow b e size v n xs) (hn : 0 < n) : ∃ g cap, v = .slice (some ⟨g, 0, none⟩) n cap := by
  rcases own_shape h with ⟨_, h0, _⟩ | ⟨g, cap, e, _⟩
  · omega
  · exact ⟨g, cap, e⟩

theorem kp_blk {S : Nat → Prop} {w w' : World} {g : Nat} {cs : Array Value} {T : TypeId} (k : Kp S w w') (h : Blk w g cs T) (hn : ¬ S g) : Blk w' g cs T := h.kp k hn

def St.add (s : St) (x : Int) : (Int × Int × Int) × St :=
  if my s.state x = true then (((s.l.length : Int) + 1, x, 0), { s with l := s.l ++ [x] }) else ((0, 0, 8), s)

theorem add_end {g : Nat} {q : Option Nat} {s : St} {x : Int} {w W w1 : World} {v : Value} {n1 r1 cap1 : Nat} {xs : List Value} (hb : g < w.heap.size)
    (h1 : Blk w1 g #[v, .int .i64 s.acked, .bool s.said, .int .i64 s.delay, .int .i64 s.due] 78) (hq : v.ownBlock = q) (hql : ∀ i, v.ownBlock = some i → i < w.heap.size)
    (o1 : w1.ownsRow 0 27 2 (.slice (some ⟨r1, 0, none⟩) n1 cap1) n1 xs) (hW : Kp0 w W) (hWs : w.heap.size < W.heap.size) (k1 : Kp (fun i => v.ownBlock = some i) W w1)
    (b1 : (Value.slice (some ⟨r1, 0, none⟩) n1 cap1).ownBlock = v.ownBlock ∨ (Value.slice (some ⟨r1, 0, none⟩) n1 cap1).ownBlock = some W.heap.size)
    (hn1 : n1 = s.l.length + 1) (hxs : xs = rowsFrom 0 (s.l ++ [x])) (hle : s.acked ≤ s.l.length) (hlt : s.l.length < 100) (u0 u1 : Value) :
    ∃ q', StAt (((w1.setCell ⟨g, 0, none⟩ (.slice (some ⟨r1, 0, none⟩) n1 cap1)).setCell ⟨w.heap.size, 0, none⟩ u0).setCell ⟨w.heap.size, 1, none⟩ u1) g q' { s with l := s.l ++ [x] } ∧
      Kp (Ft g q) w (((w1.setCell ⟨g, 0, none⟩ (.slice (some ⟨r1, 0, none⟩) n1 cap1)).setCell ⟨w.heap.size, 0, none⟩ u0).setCell ⟨w.heap.size, 1, none⟩ u1) ∧ (q' = q ∨ ∃ b, q' = some b ∧ w.heap.size ≤ b) := by
  have hne : r1 ≠ g := fun e => own_ne h1 o1 (by decide) r1 rfl e
  have hnR : r1 ≠ w.heap.size := by
    intro e
    rcases b1 with b1 | b1
    · have := hql r1 (by rw [← b1]; rfl)
      omega
    · simp [Value.ownBlock] at b1
      omega
  have hgR : g ≠ w.heap.size := by omega
  have K := (((Kp.refl (fun i => i = g ∨ i = w.heap.size) w1).setCell (p := ⟨g, 0, none⟩) (fun _ => .inl rfl) (.slice (some ⟨r1, 0, none⟩) n1 cap1)).setCell (p := ⟨w.heap.size, 0, none⟩) (fun _ => .inr rfl) u0).setCell (p := ⟨w.heap.size, 1, none⟩) (fun _ => .inr rfl) u1
  have hB := ((h1.set 0 (.slice (some ⟨r1, 0, none⟩) n1 cap1)).set_other (p := ⟨w.heap.size, 0, none⟩) hgR u0).set_other (p := ⟨w.heap.size, 1, none⟩) hgR u1
  refine ⟨some r1, ⟨.slice (some ⟨r1, 0, none⟩) n1 cap1, by simpa using hB, ?_, rfl, ?_, ?_⟩, ?_, ?_⟩
  · have := own_kp o1 K (by intro i hi; simp [Value.ownBlock] at hi; subst hi; simp [hne, hnR])
    rw [← hxs, List.length_append, List.length_singleton, ← hn1]
    exact this
  · simp; omega
  · simp; omega
  · refine ((hW.mono (S' := Ft g q) (fun _ _ x => x.elim)).trans k1 (fun i _ h => .inr (hq ▸ h))).trans K ?_
    · rintro i hi (rfl | rfl)
      · exact .inl rfl
      · omega
  · rcases b1 with b1 | b1
    · exact .inl (by rw [← hq, ← b1]; rfl)
    · exact .inr ⟨r1, rfl, by simp [Value.ownBlock] at b1; omega⟩

theorem add_c (g : Nat) (q : Option Nat) (s : St) (x : Int) (w : World) (h : StAt w g q s) (hn : s.l.length < 100) :
    Calls Try.prog 14 #[.pointer (some ⟨g, 0, none⟩), .int .i64 x] w fun e w' => ∃ q', e = .returned (.tuple #[.agg #[.int .i64 (s.add x).1.1, .int .i64 (s.add x).1.2.1], .int .i64 (s.add x).1.2.2]) ∧ StAt w' g q' (s.add x).2 ∧ Kp (Ft g q) w w' ∧ (q' = q ∨ ∃ b, q' = some b ∧ w.heap.size ≤ b) := by
  have h0 := h
  obtain ⟨v, h1, h2, hq, h4, h5⟩ := h
  have hb : g < w.heap.size := h1.lt
  have hb1 : g < w.heap.size + 1 := by omega
  have hb2 : g < w.heap.size + 1 + 1 := by omega
  have c0 := Blk.cell h1 0
  have f0 := Blk.free h1 0
  simp at c0
  by_cases hp : my s.state x = true
  · have e : s.add x = (((s.l.length : Int) + 1, x, 0), { s with l := s.l ++ [x] }) := by unfold St.add; rw [if_pos hp]
    rw [e]
    clear e
    rcases own_shape h2 with ⟨rfl, hn0, _⟩ | ⟨r, cap, rfl, hc1, hc2, hr, _⟩
    · go_enter Try.func14, Try.ntmps14
      go_wp2_with fail
      refine (state_c g q s _ (h0.kp0 ((Kp.refl _ _).alloc _))).mono ?_
      rintro e w3 ⟨rfl, n3, rfl⟩
      go_wp2_with fail
      refine (may_c _ _ _).mono ?_
      rintro e w3 ⟨rfl, rfl⟩
      rw [hp]
      go_wp2_with fail
      go_region_law (refine step_app rfl (.tmp 25) (.tmp 27) 42 27 (.agg #[.int .i64 0, .int .i64 0]) 2 16 rfl rfl rfl rfl (by decide) (.slice none 0 0) s.l.length (rowsFrom 0 s.l) [.int .i64 1, .int .i64 x] (by simp [Act.eval, Act.put]) (w.heap.size + 1 + 1) (by simp [Act.eval, Act.put]) rfl (by simp [Value.oneCell']) (blk_new _ _ (by simp)) (own_kp (S := fun _ => False) h2 (by repeat (first | exact Kp.refl _ _ | apply Kp.drewN | apply Kp.drew | apply Kp.alloc | (refine Kp.setCell ?_ (fun hx => absurd hx (by simp)) _))) (fun _ _ hx => hx)) (by omega) (by omega) ?_; intro v1 w1 o1 k1 b1; obtain ⟨r1, cap1, rfl⟩ := own_some o1 (by omega); have B1 := (Blk.kp0 (w := w) h1 (by repeat (first | exact Kp.refl _ _ | apply Kp.drewN | apply Kp.drew | apply Kp.alloc | (refine Kp.setCell ?_ (fun hx => absurd hx (by simp)) _)))).kp k1 (by simp [Value.ownBlock]); have d0 := B1.cell 0; have e0 := B1.free 0; simp at d0; have U1 := kp_blk (g := w.heap.size + 1) (cs := #[.int .i64 1, .int .i64 x]) (T := 27) k1 (by repeat (first | (refine blk_new _ _ ?_; (simp; done)) | apply Blk.drew | apply Blk.drewN | apply Blk.alloc)) (by simp [Value.ownBlock]); have u0 := U1.cell 0; have u1 := U1.cell 1; simp at u0 u1; have R1 := kp_blk (g := w.heap.size) (cs := #[.int .i64 0, .int .i64 0]) (T := 27) k1 (by repeat (first | (refine blk_new _ _ ?_; (simp; done)) | apply Blk.drew | apply Blk.drewN | apply Blk.alloc)) (by simp [Value.ownBlock]); have z0 := R1.cell 0; have z1 := R1.cell 1; have y0 := R1.free 0; have y1 := R1.free 1; simp at z0 z1)
      go_wp2
      all_goals
        simp only [hn0, Nat.zero_add] at o1 b1
        obtain ⟨q', t1, t2, t3⟩ := add_end (x := x) hb B1 hq (by simp [Value.ownBlock]) o1 (by repeat (first | exact Kp.refl _ _ | apply Kp.drewN | apply Kp.drew | apply Kp.alloc | (refine Kp.setCell ?_ (fun hx => absurd hx (by simp)) _))) (by simp; omega) k1 b1 (by omega) (by rw [rowsFrom_snoc]; simp [hn0]) h4 hn (.int .i64 1) (.int .i64 x)
        exact bodyPost_ret (v := .tuple #[.agg #[.int .i64 1, .int .i64 x], .int .i64 0]) (by simp [results, Try.results14, go_sem, z0, z1]) rfl ⟨q', by simp [hn0], t1, t2, t3⟩
    · have hrg : r ≠ g := fun e => own_ne h1 h2 (by decide) r rfl e
      go_enter Try.func14, Try.ntmps14
      go_wp2_with fail
      refine (state_c g q s _ (h0.kp0 ((Kp.refl _ _).alloc _))).mono ?_
      rintro e w3 ⟨rfl, n3, rfl⟩
      go_wp2_with fail
      refine (may_c _ _ _).mono ?_
      rintro e w3 ⟨rfl, rfl⟩
      rw [hp]
      go_wp2_with fail
      go_region_law (refine step_app rfl (.tmp 25) (.tmp 27) 42 27 (.agg #[.int .i64 0, .int .i64 0]) 2 16 rfl rfl rfl rfl (by decide) (.slice (some ⟨r, 0, none⟩) s.l.length cap) s.l.length (rowsFrom 0 s.l) [.int .i64 ((s.l.length : Int) + 1), .int .i64 x] (by simp [Act.eval, Act.put]) (w.heap.size + 1 + 1) (by simp [Act.eval, Act.put]) rfl (by simp [Value.oneCell']) (blk_new _ _ (by simp)) (own_kp (S := fun _ => False) h2 (by repeat (first | exact Kp.refl _ _ | apply Kp.drewN | apply Kp.drew | apply Kp.alloc | (refine Kp.setCell ?_ (fun hx => absurd hx (by simp)) _))) (fun _ _ hx => hx)) (by omega) (by omega) ?_; intro v1 w1 o1 k1 b1; obtain ⟨r1, cap1, rfl⟩ := own_some o1 (by omega); have B1 := (Blk.kp0 (w := w) h1 (by repeat (first | exact Kp.refl _ _ | apply Kp.drewN | apply Kp.drew | apply Kp.alloc | (refine Kp.setCell ?_ (fun hx => absurd hx (by simp)) _)))).kp k1 (by simpa [Value.ownBlock] using hrg); have d0 := B1.cell 0; have e0 := B1.free 0; simp at d0; have U1 := kp_blk (g := w.heap.size + 1) (cs := #[.int .i64 ((s.l.length : Int) + 1), .int .i64 x]) (T := 27) k1 (by repeat (first | (refine blk_new _ _ ?_; (simp; done)) | apply Blk.drew | apply Blk.drewN | apply Blk.alloc)) (by simp [Value.ownBlock]; omega); have u0 := U1.cell 0; have u1 := U1.cell 1; simp at u0 u1; have R1 := kp_blk (g := w.heap.size) (cs := #[.int .i64 0, .int .i64 0]) (T := 27) k1 (by repeat (first | (refine blk_new _ _ ?_; (simp; done)) | apply Blk.drew | apply Blk.drewN | apply Blk.alloc)) (by simp [Value.ownBlock]; omega); have z0 := R1.cell 0; have z1 := R1.cell 1; have y0 := R1.free 0; have y1 := R1.free 1; simp at z0 z1)
      go_wp2
      all_goals
        obtain ⟨q', t1, t2, t3⟩ := add_end (x := x) hb B1 hq (by simp [Value.ownBlock]; omega) o1 (by repeat (first | exact Kp.refl _ _ | apply Kp.drewN | apply Kp.drew | apply Kp.alloc | (refine Kp.setCell ?_ (fun hx => absurd hx (by simp)) _))) (by simp; omega) k1 b1 (by omega) (by rw [rowsFrom_snoc]; simp) h4 hn (.int .i64 ((s.l.length : Int) + 1)) (.int .i64 x)
        exact bodyPost_ret (v := .tuple #[.agg #[.int .i64 ((s.l.length : Int) + 1), .int .i64 x], .int .i64 0]) (by simp [results, Try.results14, go_sem, z0, z1]) rfl ⟨q', rfl, t1, t2, t3⟩
  · have e : s.add x = ((0, 0, 8), s) := by unfold St.add; rw [if_neg hp]
    rw [e]
    clear e
    have hp' : my s.state x = false := by simpa using hp
    clear hp
    go_enter Try.func14, Try.ntmps14
    go_wp2_with fail
    refine (state_c g q s _ (h0.kp0 ((Kp.refl _ _).alloc _))).mono ?_
    rintro e w3 ⟨rfl, n3, rfl⟩
    go_wp2_with fail
    refine (may_c _ _ _).mono ?_
    rintro e w3 ⟨rfl, rfl⟩
    rw [hp']
    go_wp2
    exact bodyPost_ret (v := .tuple #[.agg #[.int .i64 0, .int .i64 0], .int .i64 8]) (by simp [results, Try.results14, go_sem]) rfl ⟨q, rfl, h0.kp0 (by repeat (first | exact Kp.refl _ _ | apply Kp.drewN | apply Kp.drew | apply Kp.alloc | (refine Kp.setCell ?_ (fun hx => absurd hx (by simp)) _))), (by repeat (first | exact Kp.refl _ _ | apply Kp.drewN | apply Kp.drew | apply Kp.alloc | (refine Kp.setCell ?_ (fun hx => absurd hx (by simp)) _))), .inl rfl⟩
end Go.Proofs.Ytccamciijpmkjaa
