/- Package disk: Sync. -/
import Derived.Test.YtkokgbmeienokaaDo
set_option linter.unusedVariables false
set_option linter.unusedSimpArgs false
namespace Go.Proofs.Ytkokgbmeienokaa
open Go.RowKit

noncomputable def Dk.syn (d : Dk) (p : ByteArray) : Int × Dk :=
  if d.there p ≠ 0 then (d.there p, d) else if d.step.1 ≠ 0 then d.step else (0, d.step.2.put p ⟨(d.old p).b, (d.old p).b.length, true⟩)

theorem there_some {d : Dk} {p : ByteArray} (h : d.there p = 0) : ∃ f, d.F p = some f := by
  unfold Dk.there at h
  split at h
  · rename_i h1; exact absurd h h1
  · split at h
    · rename_i h2; exact Option.isSome_iff_exists.1 h2
    · cases h
theorem len_le_used (d : Dk) (p : ByteArray) (hk : ∀ p, p ∈ d.ks ↔ (d.F p).isSome = true) : d.len p ≤ d.used := by
  by_cases hm : p ∈ d.ks
  · have : ∀ (l : List ByteArray), p ∈ l → d.len p ≤ (l.map d.len).sum := by
      intro l
      induction l with
      | nil => intro h; cases h
      | cons x l ih =>
        intro h
        simp only [List.map_cons, List.sum_cons]
        rcases List.mem_cons.1 h with rfl | h
        · omega
        · have := ih h; omega
    exact this _ hm
  · have : d.len p = 0 := by
      unfold Dk.len
      cases hF : d.F p with
      | none => rfl
      | some f => exact absurd ((hk p).2 (by rw [hF]; rfl)) hm
    omega

theorem field90_0 (a b c : Value) (W : World) : (Instr.field 90 (.agg #[a, b, c]) 0).run Try.prog W = .ok a W := by kernel_rfl
attribute [local go_sem ↓] field90_0

set_option maxRecDepth 100000 in
set_option maxHeartbeats 2000000 in
theorem sync21_c (g n : Nat) (O : Nat → Prop) (d : Dk) (p : ByteArray) (hp : p.size ≤ 100) (hn : n ≤ 1000000) (w : World) (h : DkAt w g n O d) :
    Calls Try.prog 21 #[.pointer (some ⟨g, 0, none⟩), .string p] w fun e w' => Did w w' g (n + 1) O (d.syn p) e := by
  have hth := there69_c g n O d p hp w h
  obtain ⟨t, ht⟩ : ∃ t, d.there p = t := ⟨_, rfl⟩
  have hsyn : d.syn p = if t ≠ 0 then (t, d) else if d.step.1 ≠ 0 then d.step else (0, d.step.2.put p ⟨(d.old p).b, (d.old p).b.length, true⟩) := by unfold Dk.syn; rw [ht]
  have hsome := fun h0 : t = 0 => there_some (ht.trans h0)
  rw [ht] at hth
  clear ht
  by_cases ht0 : t = 0
  · subst ht0
    obtain ⟨f, hf⟩ := hsome rfl
    rw [if_neg (by simp)] at hsyn
    have hstep := fun W (k : Kp0 w W) => step67_c g n O d W (h.kp0 k)
    obtain ⟨sF, sK, sQ⟩ := step_files d
    have hfo : d.old p = f := by unfold Dk.old; rw [hf]; rfl
    rw [hfo] at hsyn
    obtain ⟨s1, d2, hs⟩ : ∃ s1 d2, d.step = (s1, d2) := ⟨_, _, rfl⟩
    simp only [hs] at hstep hsyn sF sK sQ
    clear hs hfo
    have hog : O g := by obtain ⟨bm, V, h⟩ := h; exact h.og
    by_cases hs0 : s1 = 0
    · subst hs0
      rw [if_neg (by simp)] at hsyn
      rw [hsyn]
      clear hsyn hsome
      go_enter Try.func21, Try.ntmps21
      go_wp2_with fail
      refine hth.mono ?_
      rintro e w' ⟨rfl, k1⟩
      go_wp2_with fail
      refine (hstep _ k1).mono ?_
      rintro e w3 ⟨rfl, h3, k3⟩
      clear hth hstep
      obtain ⟨bm, V, I⟩ := h3
      have hK3 : Kp O w w3 := (k1.mono (fun _ _ x => x.elim)).trans k3 (fun i _ e => by rw [e]; exact hog)
      have hf2 : d2.F p = some f := by rw [sF]; exact hf
      obtain ⟨v, ev, A, c, rfl, hb, l1, l2, hsy, ho⟩ := I.yes p f hf2
      have hlk : ∀ W, Kp0 w3 W → (Instr.lookup 84 (.map (some bm)) (.string p) false).run Try.prog W = .ok (.agg #[.slice A f.b.length c, .int .i64 (f.sy : Int), .bool f.firm]) W := fun W k => by
        have := (I.mp.kp0 k).look hp
        rw [ev] at this; exact this
      have hS : ∀ W, Kp0 w3 W → W.cell? ⟨g, 0, none⟩ = some (.map (some bm)) ∧ (Instr.lookup 84 (.map (some bm)) (.string p) false).run Try.prog W = .ok (.agg #[.slice A f.b.length c, .int .i64 (f.sy : Int), .bool f.firm]) W := fun W k => ⟨by simpa using (I.cell.kp0 k).cell 0, hlk W k⟩
      have hEnd : ∀ W, Kp0 w3 W → ∃ w6, (Instr.mapUpdate 84 (.map (some bm)) (.string p) (.agg #[.slice A f.b.length c, .int .i64 (f.b.length : Int), .bool true])).run Try.prog W = .ok () w6 ∧
          (w6.cell? ⟨g, 0, none⟩ = some (.map (some bm)) ∧ (Instr.lookup 84 (.map (some bm)) (.string p) false).run Try.prog w6 = .ok (.agg #[.slice A f.b.length c, .int .i64 (f.b.length : Int), .bool true]) w6) ∧
          Did w w6 g (n + 1) O (0, d2.put p ⟨f.b, f.b.length, true⟩) (.returned (.int .i64 0)) := by
        intro W k
        have I5 := I.kp k (fun _ _ x => x)
        obtain ⟨w6, hrun, m6, k6⟩ := I5.mp.put hn hp (.agg #[.slice A f.b.length c, .int .i64 (f.b.length : Int), .bool true])
        have hl6 := m6.look hp
        rw [pt_same] at hl6
        have hne : bm ≠ g := I5.mp.ne I5.cell
        have hup := used_put d2 p ⟨f.b, f.b.length, true⟩ I.nd I.ks
        have hol : d2.len p = f.b.length := by unfold Dk.len; rw [hf2]
        rw [hol] at hup
        have hus := I.us
        obtain ⟨v2, e2, A2, c2, ev2, hb2, _⟩ := I5.yes p f hf2
        refine ⟨w6, hrun, ⟨by simpa using (I5.cell.kp k6 (fun e => hne e.symm)).cell 0, hl6⟩, O, rfl, ⟨bm, _, I5.put hp m6 k6 ⟨A, c, rfl, (hb.kp0 k).kp k6 (fun hz b hA e => ?_), l1, l2, Nat.le_refl _, ho⟩ (fun i hi => hi) (fun i hi => Nat.lt_of_lt_of_le (I5.lt i hi) k6.size) (by simp only at hup ⊢; show (d2.put p ⟨f.b, f.b.length, true⟩).used ≤ d2.quota; omega)⟩, fun i hi => .inl hi, (hK3.trans k (fun _ _ x => x.elim)).trans k6 (fun i _ e => by rw [e]; exact I.om)⟩
        obtain ⟨B, off, eA, _, hc⟩ := (hb.kp0 k).cell 0 (List.length_pos_iff.2 hz)
        rw [eA] at hA; injection hA with hA; subst hA
        exact I5.mp.cells _ e _ _ hc
      have K0 : Kp0 w3 w3.drew := (Kp.refl _ _).drew
      have HE := Lib.hid hEnd
      have hW : ∀ W, Kp0 w3 W → Calls Try.prog 70 #[.slice A f.b.length c] W fun e w' => e = .returned (.agg #[.slice A f.b.length c, .int .i64 (f.b.length : Int), .bool true]) ∧ Kp0 w3 w' := fun W k => (whole70_c A f.b.length c W).mono (by rintro e w' ⟨rfl, k'⟩; exact ⟨rfl, k.then0 k'⟩)
      generalize hm : f.b.length = m at *
      have HM := Lib.hid hm
      clear hm
      have hlk0 := hlk _ K0
      clear hEnd hlk I ev hb l1 l2 hsy ho sF sK sQ hf hf2 hK3 h hog k1 k3
      go_wp2_with fail
      go_region_held3 (fun W => W.cell? ⟨g, 0, none⟩ = some (.map (some bm))) (first | exact (hS _ K0).1 | exact (hS _ KA).1 | exact hl6.1) ((go_at_call 70; go_fit (hW _ K0); rintro e wA ⟨rfl, KA⟩; obtain ⟨w6, hrun, hl6, hdid⟩ := HE.out wA KA))
      go_wp2
      go_ret
      have hm := HM.out
      subst hm
      exact hdid
    · rw [if_pos hs0] at hsyn
      rw [hsyn]
      have hs' : (s1 != 0) = true := by rw [bne_iff_ne]; exact hs0
      clear hsyn hs0 hsome
      go_enter Try.func21, Try.ntmps21
      go_wp2_with fail
      refine hth.mono ?_
      rintro e w' ⟨rfl, k1⟩
      go_wp2_with fail
      refine (hstep _ k1).mono ?_
      rintro e w3 ⟨rfl, h3, k3⟩
      clear hth hstep
      go_wp2
      go_ret
      obtain ⟨bm, V, I⟩ := h3
      exact ⟨O, rfl, ⟨bm, V, { I with mp := I.mp.mono (by omega) }⟩, fun i hi => .inl hi, (k1.mono (fun _ _ x => x.elim)).trans k3 (fun i _ e => by rw [e]; exact hog)⟩
  · rw [if_pos ht0] at hsyn
    rw [hsyn]
    have ht' : (t != 0) = true := by rw [bne_iff_ne]; exact ht0
    clear hsyn ht0 hsome
    go_enter Try.func21, Try.ntmps21
    go_wp2_with fail
    refine hth.mono ?_
    rintro e w' ⟨rfl, k1⟩
    go_wp2
    go_ret
    exact Did.same h (by omega) k1
end Go.Proofs.Ytkokgbmeienokaa
