/- Package crew: Add, Drop, Late. -/
import Derived.Test.YtnlkkcpcjeeplaaCw
set_option linter.unusedVariables false
set_option linter.unusedSimpArgs false
namespace Go.Proofs.Ytnlkkcpcjeeplaa
open Go.RowKit Go.Lib Go.Sort

theorem fnd_there {l : List Nat} {R : Nat → Rn} {f e : ByteArray} : (fnd l R f e = none ∧ idx l (fun x => isRun f e (R x)) = -1) ∨ (∃ x, fnd l R f e = some x) ∧ 0 ≤ idx l (fun x => isRun f e (R x)) := by
  unfold fnd
  rcases idx_cases (fun x => isRun f e (R x)) l with ⟨h1, h2⟩ | ⟨i, x, h1, h2, h3, h4⟩
  · exact .inl ⟨h2, h1⟩
  · exact .inr ⟨⟨x, h4⟩, by omega⟩

set_option maxRecDepth 100000 in
theorem add_there_c (g : Nat) (O : Nat → Prop) (l : List Nat) (R : Nat → Rn) (x : Nat) (r : Rn) (w : World) (h : CrAt w g O l) (hr : RunsAt w l R) (hx : RunAt w x r) (hl : l.length ≤ 10000) (hf : (fnd l R r.f r.e).isSome = true) :
    Calls Try.prog 52 #[pt g, pt x] w fun e' w' => e' = .returned (.int .i64 4) ∧ Kp0 w w' := by
  have hw := who_d x r w hx
  have ha := fun W (k : Kp0 w W) => at74_c g O l R r.f r.e W (h.kp k (fun _ _ x => x)) (hr.kp k (fun _ _ x => x)) (by omega)
  rcases fnd_there (l := l) (R := R) (f := r.f) (e := r.e) with ⟨h1, h2⟩ | ⟨_, h2⟩
  · rw [h1] at hf; cases hf
  generalize idx l (fun x => isRun r.f r.e (R x)) = i at ha h2
  clear h hr hx hf
  go_enter Try.func52, Try.ntmps52
  go_wp2_with fail
  refine hw.mono ?_
  rintro e' w' ⟨rfl, q, rfl⟩
  go_wp2_with fail
  refine (ha _ ((Kp.refl _ _).drewN q)).mono ?_
  rintro e' w2 ⟨rfl, k2⟩
  go_wp2
  go_ret
  exact ⟨rfl, ((Kp.refl _ _).drewN q).then0 k2⟩

set_option maxRecDepth 100000 in
theorem add_new_c (g : Nat) (O : Nat → Prop) (l : List Nat) (R : Nat → Rn) (x : Nat) (r : Rn) (w : World) (h : CrAt w g O l) (hr : RunsAt w l R) (hx : RunAt w x r) (hl : l.length ≤ 10000) (hf : fnd l R r.f r.e = none) :
    Calls Try.prog 52 #[pt g, pt x] w fun e' w' => e' = .returned (.int .i64 0) ∧ ∃ O', CrAt w' g O' (l ++ [x]) ∧ Kp O w w' ∧ ∀ i, O' i → O i ∨ (w.heap.size ≤ i ∧ i < w'.heap.size) := by
  have hw := who_d x r w hx
  have ha := fun W (k : Kp0 w W) => at74_c g O l R r.f r.e W (h.kp k (fun _ _ x => x)) (hr.kp k (fun _ _ x => x)) (by omega)
  rcases fnd_there (l := l) (R := R) (f := r.f) (e := r.e) with ⟨_, h2⟩ | ⟨⟨y, h1⟩, _⟩
  rotate_left
  · rw [hf] at h1; cases h1
  rw [h2] at ha
  clear h2 hr hx hf
  have CR := fun W (k : Kp0 w W) => h.kp k (fun _ _ x => x)
  go_enter Try.func52, Try.ntmps52
  go_wp2_with fail
  refine hw.mono ?_
  rintro e' w' ⟨rfl, q, rfl⟩
  go_wp2_with fail
  refine (ha _ ((Kp.refl _ _).drewN q)).mono ?_
  rintro e' w2 ⟨rfl, k2⟩
  have K2 : Kp0 w w2 := ((Kp.refl _ w).drewN q).then0 k2
  obtain ⟨hg, v, hB, ho, hO⟩ := CR w2 K2
  have cB := hB.cell 0
  simp at cB
  clear CR ha hw
  have kA : Kp0 w2 (w2.alloc (.cells #[pt x] 47)) := (Kp.refl _ _).alloc _
  have o2 := own_kp ho kA (fun _ _ x => x)
  go_wp2_with (at_builtin; refine list_app rfl _ _ 78 47 (.pointer none) 1 8 rfl rfl rfl rfl (by decide) v l.length (l.map pt) rfl w2.heap.size 0 1 1 [pt x] rfl rfl (by simp [Value.oneCell']) (Vw.of_blk (blk_new _ _ rfl)) o2 (by omega) (by omega) ?_)
  intro v3 w3 o3 k3 b3
  have hgv : ¬ v.ownBlock = some g := fun e => (hO g e).2 rfl
  have B3 := (hB.kp0 kA).kp k3 hgv
  have f3 := B3.free 0
  have c3 := B3.cell 0
  simp at c3
  obtain ⟨g3, cap3, rfl, m1, m2, m3⟩ := own_some o3 (by omega)
  have hg3 : g3 ≠ g := fun e => by
    subst e
    rcases b3 with b3 | b3
    · exact hgv (b3 ▸ rfl)
    · simp [Value.ownBlock] at b3
      have := hB.lt
      have := kA.size
      omega
  have o4 : w3.ownsRow 0 47 1 (.slice (some ⟨g3, 0, none⟩) (l.length + 1) cap3) (l ++ [x]).length ((l ++ [x]).map pt) := by
    rw [List.length_append, List.map_append]; exact o3
  have o5 := own_kp o4 ((Kp.refl (· = g) w3).setCell (p := ⟨g, 0, none⟩) (fun _ => rfl) (.slice (some ⟨g3, 0, none⟩) (l.length + 1) cap3)) (fun i hi e => by simp [Value.ownBlock] at hi; omega)
  have B5 := B3.set 0 (.slice (some ⟨g3, 0, none⟩) (l.length + 1) cap3)
  have K3 : Kp O w w3 := by
    refine (K2.then0 kA).mono (S' := O) (fun _ _ x => x.elim) |>.trans k3 (fun i hi e => (hO i e).1)
  have K4 : Kp O w (w3.setCell ⟨g, 0, none⟩ (.slice (some ⟨g3, 0, none⟩) (l.length + 1) cap3)) := K3.setCell (p := ⟨g, 0, none⟩) (fun _ => hg) _
  have hfr : g3 < w.heap.size → O g3 := fun hlt => by
    rcases b3 with b3 | b3
    · exact (hO g3 (b3 ▸ rfl)).1
    · simp [Value.ownBlock] at b3
      have := K2.size
      omega
  clear o3 o4 k3 b3 o2 hO ho hB
  go_wp2
  go_ret
  refine ⟨rfl, fun i => O i ∨ i = g3, ⟨.inl hg, _, by simpa using B5, o5, fun i hi => ?_⟩, K4, fun i hi => ?_⟩
  · simp [Value.ownBlock] at hi
    subst hi
    exact ⟨.inr rfl, hg3⟩
  · rcases hi with hi | rfl
    · exact .inl hi
    · by_cases hlt : i < w.heap.size
      · exact .inl (hfr hlt)
      · exact .inr ⟨by omega, by simp [World.setCell]; exact m3⟩
end Go.Proofs.Ytnlkkcpcjeeplaa
