/- Package bin: Add. -/
import Derived.Test.YtccamciijpmkjaaB3
import Derived.Deep.CutRange
set_option linter.unusedVariables false
set_option linter.unusedSimpArgs false
namespace Go.Proofs.Ytccamciijpmkjaa
open Go.RowKit

set_option maxRecDepth 100000 in
theorem sort61_c (g cap : Nat) (l : List Bx) (x : Bx) (w : World) (ho : w.ownsRow 0 63 4 (.slice (some ⟨g, 0, none⟩) (l.length + 1) cap) (l.length + 1) (rb (l ++ [x]))) (hu : UpB l) (hl : l.length + 1 ≤ 20) :
    Calls Try.prog 61 #[.slice (some ⟨g, 0, none⟩) (l.length + 1) cap, .func (.func 62) #[] #[]] w fun e' w' => e' = .returned (.tuple #[]) ∧ w'.ownsRow 0 63 4 (.slice (some ⟨g, 0, none⟩) (l.length + 1) cap) (l.length + 1) (rb (addB l x)) ∧ Kp (· = g) w w' := by
  have h := stable75_c g cap l x w ho hu hl
  generalize rb (addB l x) = res at h ⊢
  generalize l.length + 1 = n at h ⊢
  clear ho hu hl
  go_enter Try.func61, Try.ntmps61
  go_wp2_with fail
  refine h.mono ?_
  rintro e' w1 ⟨rfl, o1, k1⟩
  go_wp2
  go_end0
  exact ⟨rfl, o1, k1⟩

theorem idx_cases (p : Bx → Bool) (l : List Bx) : (idx l p = -1 ∧ ∀ x ∈ l, p x = false) ∨ ∃ (i : Nat) (h : i < l.length), idx l p = (i : Int) ∧ l.findIdx? p = some i ∧ p l[i] = true := by
  unfold idx
  cases h : l.findIdx? p with
  | none => exact .inl ⟨rfl, List.findIdx?_eq_none_iff.1 h⟩
  | some i =>
    have h' := List.findIdx?_eq_some_iff_getElem.1 h
    exact .inr ⟨i, h'.1, rfl, rfl, h'.2.1⟩

set_option maxRecDepth 100000 in
theorem add_there_c (g : Nat) (O : Nat → Prop) (l : List Bx) (f e : ByteArray) (n s : Int) (w : World) (h : BinAt w g O l) (hl : l.length ≤ 100000) (hf : ∃ x ∈ l, isB f e n x = true) :
    Calls Try.prog 36 #[pt g, .string f, .string e, .int .i64 n, .int .i64 s] w fun e' w' => e' = .returned (.bool false) ∧ Kp0 w w' := by
  have ha := at60_c g O l f e n w h hl
  rcases idx_cases (isB f e n) l with ⟨_, h2⟩ | ⟨i, _, hi, _⟩
  · obtain ⟨x, hx, hp⟩ := hf
    rw [h2 x hx] at hp; cases hp
  rw [hi] at ha
  have h0 : (0 : Int) ≤ (i : Int) := by omega
  clear h hf hi
  go_enter Try.func36, Try.ntmps36
  go_wp2_with fail
  refine ha.mono ?_
  rintro e' w1 ⟨rfl, k1⟩
  go_wp2
  go_ret
  exact ⟨rfl, k1⟩

set_option maxRecDepth 100000 in
theorem add_new_c (g : Nat) (O : Nat → Prop) (l : List Bx) (f e : ByteArray) (n s : Int) (w : World) (h : BinAt w g O l) (hu : UpB l) (hl : l.length + 1 ≤ 20) (hf : ∀ x ∈ l, isB f e n x = false) :
    Calls Try.prog 36 #[pt g, .string f, .string e, .int .i64 n, .int .i64 s] w fun e' w' => e' = .returned (.bool true) ∧ ∃ O', BinAt w' g O' (addB l ⟨f, e, n, s⟩) ∧ Kp O w w' ∧ ∀ i, O' i → O i ∨ (w.heap.size ≤ i ∧ i < w'.heap.size) := by
  have ha := at60_c g O l f e n w h (by omega)
  rcases idx_cases (isB f e n) l with ⟨hi, _⟩ | ⟨i, hi, _, _, hp⟩
  rotate_left
  · rw [hf _ (List.getElem_mem hi)] at hp; cases hp
  rw [hi] at ha
  have CR := fun W (k : Kp0 w W) => h.kp k (fun _ _ x => x)
  clear hf h hi
  go_enter Try.func36, Try.ntmps36
  go_wp2_with fail
  refine ha.mono ?_
  rintro e' w2 ⟨rfl, K2⟩
  obtain ⟨hg, v, hB, ho, hO⟩ := CR w2 K2
  have cB := hB.cell 0
  simp at cB
  clear CR ha
  have kA : Kp0 w2 (w2.alloc (.cells #[.string f, .string e, .int .i64 n, .int .i64 s] 63)) := (Kp.refl _ _).alloc _
  have o2 := own_kp ho kA (fun _ _ x => x)
  go_wp2_with (at_builtin; refine list_app rfl _ _ 60 63 (.agg #[.string ByteArray.empty, .string ByteArray.empty, .int .i64 0, .int .i64 0]) 4 48 rfl rfl rfl rfl (by decide) v l.length (rb l) rfl w2.heap.size 0 1 1 [.string f, .string e, .int .i64 n, .int .i64 s] rfl rfl (by simp [Value.oneCell']) (Vw.of_blk (blk_new _ _ rfl)) o2 (by omega) (by omega) ?_)
  intro v3 w3 o3 k3 b3
  have hgv : ¬ v.ownBlock = some g := fun e => (hO g e).2 rfl
  have B3 := (hB.kp0 kA).kp k3 hgv
  have f3 := B3.free 0
  have c3 := B3.cell 0
  simp at c3
  obtain ⟨g3, cap3, rfl, m1, m2, m3⟩ := own_some o3 (by omega)
  have hg3 : g3 ≠ g := fun e => by
    subst e
    rcases b3 with b3 | b3
    · exact hgv (b3 ▸ rfl)
    · simp [Value.ownBlock] at b3
      have := hB.lt
      have := kA.size
      omega
  have o4 : w3.ownsRow 0 63 4 (.slice (some ⟨g3, 0, none⟩) (l.length + 1) cap3) (l.length + 1) (rb (l ++ [⟨f, e, n, s⟩])) := by
    rw [rb_app]; exact o3
  have o5 := own_kp o4 ((Kp.refl (· = g) w3).setCell (p := ⟨g, 0, none⟩) (fun _ => rfl) (.slice (some ⟨g3, 0, none⟩) (l.length + 1) cap3)) (fun i hi e => by simp [Value.ownBlock] at hi; omega)
  have B5 := B3.set 0 (.slice (some ⟨g3, 0, none⟩) (l.length + 1) cap3)
  have K3 : Kp O w w3 := (((K2.then0 kA).mono (S' := O) (fun _ _ x => x.elim))).trans k3 (fun i hi e => (hO i e).1)
  have K4 : Kp O w (w3.setCell ⟨g, 0, none⟩ (.slice (some ⟨g3, 0, none⟩) (l.length + 1) cap3)) := K3.setCell (p := ⟨g, 0, none⟩) (fun _ => hg) _
  have hfr : g3 < w.heap.size → O g3 := fun hlt => by
    rcases b3 with b3 | b3
    · exact (hO g3 (b3 ▸ rfl)).1
    · simp [Value.ownBlock] at b3
      have := K2.size
      omega
  have hs := sort61_c g3 cap3 l ⟨f, e, n, s⟩ _ o5 hu (by omega)
  have m4 : g3 < (w3.setCell ⟨g, 0, none⟩ (.slice (some ⟨g3, 0, none⟩) (l.length + 1) cap3)).heap.size := by simp [World.setCell]; exact m3
  clear o3 o4 k3 b3 o2 hO ho hB K3 o5
  go_upto_region 4 with fail
  have B5 : Blk (w3.setCell ⟨g, 0, none⟩ (.slice (some ⟨g3, 0, none⟩) (l.length + 1) cap3)) g #[.slice (some ⟨g3, 0, none⟩) (l.length + 1) cap3] 82 := by simpa using B5
  generalize w3.setCell ⟨g, 0, none⟩ (.slice (some ⟨g3, 0, none⟩) (l.length + 1) cap3) = w5 at hs K4 B5 m4 ⊢
  have c5 := B5.cell 0
  simp at c5
  clear c3 f3 B3
  go_wp2_with fail
  refine hs.mono ?_
  rintro e' w6 ⟨rfl, o6, k6⟩
  have B6 := B5.kp k6 (fun e => hg3 e.symm)
  have s6 := k6.size
  have K6 : Kp O w w6 := K4.trans k6 (fun i hi e => by subst e; exact hfr hi)
  have hab : (addB l ⟨f, e, n, s⟩).length = l.length + 1 := addB_len _ _
  clear hs c5
  go_wp2
  go_ret
  refine ⟨rfl, fun i => O i ∨ i = g3, ⟨.inl hg, _, B6, by rw [hab]; exact o6, fun i hi => ?_⟩, K6, fun i hi => ?_⟩
  · simp [Value.ownBlock] at hi
    subst hi
    exact ⟨.inr rfl, hg3⟩
  · rcases hi with hi | rfl
    · exact .inl hi
    · by_cases hlt : i < w.heap.size
      · exact .inl (hfr hlt)
      · exact .inr ⟨by omega, by omega⟩
end Go.Proofs.Ytccamciijpmkjaa
