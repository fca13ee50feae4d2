/- slices.Clone of updates, a stream's updates told, its clone. -/
import Derived.Test.YtccamciijpmkjaaAd
import Derived.Lib.SliceRun
set_option linter.unusedVariables false
set_option linter.unusedSimpArgs false
namespace Go.Proofs.Ytccamciijpmkjaa
open Go.RowKit

theorem rows_one (l : List Int) : ∀ k, ∀ u ∈ rowsFrom k l, u.oneCell' = true := by
  induction l with
  | nil => intro k u hu; cases hu
  | cons x l ih =>
    intro k u hu
    simp only [rowsFrom, List.mem_cons] at hu
    rcases hu with rfl | rfl | hu
    · rfl
    · rfl
    · exact ih _ u hu

theorem own_empty {w : World} {b e size : Nat} (h : w.heap[b]? = some (.cells #[] e (0, 0))) : w.ownsRow 0 e size (.slice (some ⟨b, 0, none⟩) 0 0) 0 [] :=
  ⟨by simp, .inr ⟨b, 0, #[], rfl, Nat.zero_le _, h, Nat.le_refl _, Nat.zero_le _, by simp, by simp⟩⟩

theorem clone_c (v : Value) (n : Nat) (xs : List Value) (w : World) (h : w.ownsRow 0 27 2 v n xs) (hn : n ≤ 1000000) (h1 : ∀ u ∈ xs, u.oneCell' = true) :
    Calls Try.prog 51 #[v] w fun e w' => ∃ v', e = .returned v' ∧ w'.ownsRow 0 27 2 v' n xs ∧ Kp0 w w' ∧ (v'.ownBlock = none ∨ ∃ b, v'.ownBlock = some b ∧ w.heap.size ≤ b) := by
  have hl := h.1
  have heq : ∀ (w : World) (a : Option Addr) (n c : Nat), (binOp .eql 42 (.slice a n c) (.slice none 0 0)).run Try.prog w = .ok (.bool a.isNone) w := fun w a n c => Lib.run_eql_slice_nil w 42 27 a n c 0 0 rfl
  rcases own_shape h with ⟨rfl, rfl, rfl⟩ | ⟨r, cap, rfl, hc1, hc2, hr, _⟩
  · go_enter Try.func51, Try.ntmps51
    go_wp2
    go_ret
    exact ⟨_, rfl, World.ownsRow_nil _ _ _ _, Kp.refl _ _, .inl rfl⟩
  · have hcells := h.cells (g := r) rfl
    go_enter Try.func51, Try.ntmps51
    go_wp2_with (first
      | (at_builtin; refine wpList_append_own_at _ rfl _ _ 42 rfl 0 27 _ (.agg #[.int .i64 0, .int .i64 0]) 2 16 rfl rfl rfl rfl rfl rfl (by decide) _ 0 [] rfl (own_empty (blk_new _ _ rfl)) ⟨r, 0, none⟩ n cap xs rfl hl ?_ h1 (by simp only [maxLen]; omega) (by omega) (by simp) ?_))
    · intro j u hu
      have hb : r < (w.alloc (Obj.cells #[] 27)).heap.size := by simp; omega
      exact (own_kp (S := fun _ => False) h (by repeat (first | exact Kp.refl _ _ | apply Kp.drewN | apply Kp.drew | apply Kp.alloc | (refine Kp.setCell ?_ (fun hx => absurd hx (by simp)) _))) (fun _ _ x => x)).cells (g := r) rfl j u hu
    · intro v' w' o1 hg hn0 hb1
      have k1 : Kp0 w w' := (Kp.refl (fun _ => False) w |>.alloc _).grown hg (by intro k hk hlt; simp [Value.ownBlock] at hk; omega)
      go_wp2
      go_ret
      refine ⟨v', rfl, o1, k1, .inr ?_⟩
      rcases hb1 with hb1 | hb1
      · exact ⟨_, hb1, Nat.le_refl _⟩
      · exact ⟨_, hb1, by omega⟩

theorem updates_c (g : Nat) (q : Option Nat) (s : St) (w : World) (h : StAt w g q s) :
    Calls Try.prog 25 #[.pointer (some ⟨g, 0, none⟩)] w fun e w' => ∃ v', e = .returned v' ∧ w'.ownsRow 0 27 2 v' s.l.length (rowsFrom 0 s.l) ∧ Kp0 w w' ∧ (v'.ownBlock = none ∨ ∃ b, v'.ownBlock = some b ∧ w.heap.size ≤ b) := by
  obtain ⟨v, h1, h2, _, h4, h5⟩ := h
  have c0 := Blk.cell h1 0
  simp at c0
  go_enter Try.func25, Try.ntmps25
  go_wp2_with fail
  refine (clone_c v _ _ _ h2 (by omega) (rows_one _ _)).mono ?_
  rintro e w1 ⟨v', rfl, o1, k1, b1⟩
  go_wp2
  go_ret
  exact ⟨v', rfl, o1, k1, b1⟩

theorem sclone_end {w w1 : World} {v v' : Value} {s : St} (o1 : w1.ownsRow 0 27 2 v' s.l.length (rowsFrom 0 s.l))
    (B1 : Blk w1 w.heap.size #[v, .int .i64 s.acked, .bool s.said, .int .i64 s.delay, .int .i64 s.due] 78) (KK : Kp0 w w1)
    (b1 : v'.ownBlock = none ∨ ∃ b, v'.ownBlock = some b ∧ w.heap.size + 1 ≤ b) (h4 : s.acked ≤ s.l.length) (h5 : s.l.length ≤ 100) :
    ∃ g' q', Ending.returned (.pointer (some ⟨w.heap.size, 0, none⟩)) = .returned (.pointer (some ⟨g', 0, none⟩)) ∧ w.heap.size ≤ g' ∧ StAt (w1.setCell ⟨w.heap.size, 0, none⟩ v') g' q' s ∧ Kp0 w (w1.setCell ⟨w.heap.size, 0, none⟩ v') ∧ (q' = none ∨ ∃ b, q' = some b ∧ w.heap.size ≤ b) := by
  refine ⟨w.heap.size, v'.ownBlock, rfl, Nat.le_refl _, ⟨v', by simpa using B1.set 0 v', own_kp o1 (Kp.put (Kp.self w.heap.size w1) 0 v') ?_, rfl, h4, h5⟩, KK.setCell (fun hx => absurd hx (by simp)) _, ?_⟩
  · intro i hi e
    subst e
    rcases b1 with b1 | ⟨b, b1, hb⟩
    · rw [b1] at hi; cases hi
    · rw [b1] at hi; cases hi; omega
  · rcases b1 with b1 | ⟨b, b1, hb⟩
    · exact .inl b1
    · exact .inr ⟨b, b1, by omega⟩

set_option maxHeartbeats 400000 in
theorem sclone_c (g : Nat) (q : Option Nat) (s : St) (w : World) (h : StAt w g q s) :
    Calls Try.prog 26 #[.pointer (some ⟨g, 0, none⟩)] w fun e w' => ∃ g' q', e = .returned (.pointer (some ⟨g', 0, none⟩)) ∧ w.heap.size ≤ g' ∧ StAt w' g' q' s ∧ Kp0 w w' ∧ (q' = none ∨ ∃ b, q' = some b ∧ w.heap.size ≤ b) := by
  obtain ⟨v, h1, h2, hq, h4, h5⟩ := h
  have hb : g < w.heap.size := h1.lt
  have c0 := Blk.cell h1 0
  have c1 := Blk.cell h1 1
  have c2 := Blk.cell h1 2
  have c3 := Blk.cell h1 3
  have c4 := Blk.cell h1 4
  simp at c0 c1 c2 c3 c4
  rcases own_shape h2 with ⟨rfl, hn, hm⟩ | ⟨r, cap, rfl, hc1, hc2, hr, _⟩
  · clear hn hm
    go_enter Try.func26, Try.ntmps26
    go_wp2_with fail
    refine (clone_c _ _ _ _ (h2.alloc _) (by omega) (rows_one _ _)).mono ?_
    rintro e w1 ⟨v', rfl, o1, k1, b1⟩
    have hv : v' = .slice none 0 0 ∨ ∃ r cap, v' = .slice (some ⟨r, 0, none⟩) s.l.length cap := by
      rcases own_shape o1 with ⟨h, _⟩ | ⟨r, cap, h, _⟩
      · exact .inl h
      · exact .inr ⟨r, cap, h⟩
    have B1 := kp_blk (g := w.heap.size) k1 (Blk.new _ _ _) (fun x => x)
    have d0 := B1.cell 0
    have e0 := B1.free 0
    simp at d0
    have KK : Kp0 w w1 := ((Kp.refl _ _).alloc _).then0 k1
    clear k1
    rcases hv with rfl | ⟨r1, cap1, rfl⟩
    · go_wp2
      go_ret
      exact sclone_end o1 B1 KK (b1.imp id (fun ⟨b, x, y⟩ => ⟨b, x, by simpa using y⟩)) h4 h5
    · go_wp2
      go_ret
      exact sclone_end o1 B1 KK (b1.imp id (fun ⟨b, x, y⟩ => ⟨b, x, by simpa using y⟩)) h4 h5
  · go_enter Try.func26, Try.ntmps26
    go_wp2_with fail
    refine (clone_c _ _ _ _ (h2.alloc _) (by omega) (rows_one _ _)).mono ?_
    rintro e w1 ⟨v', rfl, o1, k1, b1⟩
    have hv : v' = .slice none 0 0 ∨ ∃ r cap, v' = .slice (some ⟨r, 0, none⟩) s.l.length cap := by
      rcases own_shape o1 with ⟨h, _⟩ | ⟨r, cap, h, _⟩
      · exact .inl h
      · exact .inr ⟨r, cap, h⟩
    have B1 := kp_blk (g := w.heap.size) k1 (Blk.new _ _ _) (fun x => x)
    have d0 := B1.cell 0
    have e0 := B1.free 0
    simp at d0
    have KK : Kp0 w w1 := ((Kp.refl _ _).alloc _).then0 k1
    clear k1
    rcases hv with rfl | ⟨r1, cap1, rfl⟩
    · go_wp2
      go_ret
      exact sclone_end o1 B1 KK (b1.imp id (fun ⟨b, x, y⟩ => ⟨b, x, by simpa using y⟩)) h4 h5
    · go_wp2
      go_ret
      exact sclone_end o1 B1 KK (b1.imp id (fun ⟨b, x, y⟩ => ⟨b, x, by simpa using y⟩)) h4 h5
end Go.Proofs.Ytccamciijpmkjaa
