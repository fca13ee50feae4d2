/- Package disk: Remove. -/
import Derived.Test.YtkokgbmeienokaaDt
set_option linter.unusedVariables false
set_option linter.unusedSimpArgs false
namespace Go.Proofs.Ytkokgbmeienokaa
open Go.RowKit

def Dk.gone (d : Dk) (p : ByteArray) : Dk := { d with F := pt d.F p none, ks := d.ks.filter (fun q => decide (q ≠ p)) }
noncomputable def Dk.rem (d : Dk) (p : ByteArray) : Int × Dk :=
  if d.there p ≠ 0 then (d.there p, d) else if d.step.1 ≠ 0 then d.step else (0, d.step.2.gone p)
theorem gone_used (d : Dk) (p : ByteArray) : (d.gone p).used ≤ d.used := by
  unfold Dk.used
  show ((d.ks.filter _).map (d.gone p).len).sum ≤ _
  have hl : ∀ q, (d.gone p).len q ≤ d.len q := by
    intro q
    show (match pt d.F p none q with | some f => f.b.length | none => 0) ≤ (match d.F q with | some f => f.b.length | none => 0)
    by_cases e : q = p
    · subst e; rw [pt_same]; simp
    · rw [pt_other _ _ e]; exact Nat.le_refl _
  have : ∀ (l : List ByteArray) (q : ByteArray → Bool), ((l.filter q).map (d.gone p).len).sum ≤ (l.map d.len).sum := by
    intro l q
    induction l with
    | nil => simp
    | cons x l ih =>
      simp only [List.filter_cons]
      split
      · simp only [List.map_cons, List.sum_cons]; have := hl x; omega
      · simp only [List.map_cons, List.sum_cons]; omega
  exact this _ _
theorem DkIn.del {w w' : World} {g bm n : Nat} {O : Nat → Prop} {V : ByteArray → Option Value} {d : Dk} {p : ByteArray} (h : DkIn w g bm n O V d) (hm : MapD w' bm n (pt V p none)) (k : Kp (· = bm) w w') : DkIn w' g bm n O (pt V p none) (d.gone p) := by
  have hF : ∀ q, (d.gone p).F q = pt d.F p none q := fun q => rfl
  refine ⟨h.cell.kp k (fun e => h.mp.ne h.cell e.symm), hm, fun q hq hs => ?_, fun q f' hq => ?_, h.nd.filter _, fun q => ?_, fun q hq => ?_, Nat.le_trans (gone_used d p) h.us, h.qu, h.fu, h.og, h.om, fun i hi => Nat.lt_of_lt_of_le (h.lt i hi) k.size⟩
  · rw [hF] at hq
    by_cases e : q = p
    · subst e; rw [pt_same]
    · rw [pt_other _ _ e] at hq ⊢; exact h.no q hq hs
  · rw [hF] at hq
    by_cases e : q = p
    · subst e; rw [pt_same] at hq; cases hq
    · rw [pt_other _ _ e] at hq ⊢
      obtain ⟨u, e2, hu⟩ := h.yes q f' hq
      exact ⟨u, e2, hu.kp' k h.mp.cells⟩
  · rw [hF]
    show q ∈ d.ks.filter _ ↔ _
    rw [List.mem_filter]
    by_cases e : q = p
    · subst e; rw [pt_same]; simp
    · rw [pt_other _ _ e]; simp [e, h.ks q]
  · rw [hF] at hq
    by_cases e : q = p
    · subst e; rw [pt_same] at hq; cases hq
    · rw [pt_other _ _ e] at hq; exact h.sz q hq
theorem list_deld {w : World} {ops : Array Oper} {rest : List Oper} {o : Oper} {a : Act} {Q : Exit → Act → World → Prop} (hgd : o.guard = none) (m x : Operand)
    (ho : o.op = .call { callee := .builtin .delete, args := #[m, x], argTypes := #[84, 9] }) {b n : Nat} {F : ByteArray → Option Value} {p : ByteArray} (hm : a.eval m = .map (some b)) (hx : a.eval x = .string p)
    (h : MapD w b n F) (hp : p.size ≤ 100) (hK : ∀ w', MapD w' b n (pt F p none) → Kp (· = b) w w' → wpList Try.prog ops Q rest (a.put o.dst (.tuple #[])) w') :
    wpList Try.prog ops Q (o :: rest) a w := by
  obtain ⟨w', hrun, r1, r2⟩ := h.del hp o.type
  exact list_delr hgd m x ho hm hx hrun (hK w' r1 r2)

set_option maxRecDepth 100000 in
set_option maxHeartbeats 2000000 in
theorem remove31_c (g n : Nat) (O : Nat → Prop) (d : Dk) (p : ByteArray) (hp : p.size ≤ 100) (hn : n ≤ 1000000) (w : World) (h : DkAt w g n O d) :
    Calls Try.prog 31 #[.pointer (some ⟨g, 0, none⟩), .string p] w fun e w' => Did w w' g (n + 1) O (d.rem p) e := by
  have hth := there69_c g n O d p hp w h
  obtain ⟨t, ht⟩ : ∃ t, d.there p = t := ⟨_, rfl⟩
  have hrem : d.rem p = if t ≠ 0 then (t, d) else if d.step.1 ≠ 0 then d.step else (0, d.step.2.gone p) := by unfold Dk.rem; rw [ht]
  have hsome := fun h0 : t = 0 => there_some (ht.trans h0)
  rw [ht] at hth
  clear ht
  by_cases ht0 : t = 0
  · subst ht0
    obtain ⟨f, hf⟩ := hsome rfl
    rw [if_neg (by simp)] at hrem
    have hstep := fun W (k : Kp0 w W) => step67_c g n O d W (h.kp0 k)
    obtain ⟨sF, sK, sQ⟩ := step_files d
    obtain ⟨s1, d2, hs⟩ : ∃ s1 d2, d.step = (s1, d2) := ⟨_, _, rfl⟩
    simp only [hs] at hstep hrem sF sK sQ
    clear hs
    have hog : O g := by obtain ⟨bm, V, h⟩ := h; exact h.og
    by_cases hs0 : s1 = 0
    · subst hs0
      rw [if_neg (by simp)] at hrem
      rw [hrem]
      clear hrem hsome
      go_enter Try.func31, Try.ntmps31
      go_wp2_with fail
      refine hth.mono ?_
      rintro e w' ⟨rfl, k1⟩
      go_wp2_with fail
      refine (hstep _ k1).mono ?_
      rintro e w3 ⟨rfl, h3, k3⟩
      clear hth hstep
      obtain ⟨bm, V, I⟩ := h3
      have hK3 : Kp O w w3 := (k1.mono (fun _ _ x => x.elim)).trans k3 (fun i _ e => by rw [e]; exact hog)
      have cg := I.cell.cell 0
      simp only [List.getElem?_toArray, List.getElem?_cons_zero] at cg
      have hEnd : ∀ w6, MapD w6 bm n (pt V p none) → Kp (· = bm) w3 w6 → Did w w6 g (n + 1) O (0, d2.gone p) (.returned (.int .i64 0)) := fun w6 m6 k6 => by
        have I6 := I.del m6 k6
        exact ⟨O, rfl, ⟨bm, _, { I6 with mp := I6.mp.mono (Nat.le_succ n) }⟩, fun i hi => .inl hi, hK3.trans k6 (fun i _ e => by rw [e]; exact I.om)⟩
      have HE := Lib.hid hEnd
      have M := I.mp
      clear hEnd I sF sK sQ hf hK3 h hog k1 k3
      go_wp2_with (at_delete; refine list_deld rfl (.tmp 21) (.tmp 22) rfl rfl rfl M hp ?_)
      intro w6 m6 k6
      have hdid := HE.out w6 m6 k6
      clear HE M m6 k6
      go_wp2
      go_ret
      exact hdid
    · rw [if_pos hs0] at hrem
      rw [hrem]
      have hs' : (s1 != 0) = true := by rw [bne_iff_ne]; exact hs0
      clear hrem hs0 hsome
      go_enter Try.func31, Try.ntmps31
      go_wp2_with fail
      refine hth.mono ?_
      rintro e w' ⟨rfl, k1⟩
      go_wp2_with fail
      refine (hstep _ k1).mono ?_
      rintro e w3 ⟨rfl, h3, k3⟩
      clear hth hstep
      go_wp2
      go_ret
      obtain ⟨bm, V, I⟩ := h3
      exact ⟨O, rfl, ⟨bm, V, { I with mp := I.mp.mono (by omega) }⟩, fun i hi => .inl hi, (k1.mono (fun _ _ x => x.elim)).trans k3 (fun i _ e => by rw [e]; exact hog)⟩
  · rw [if_pos ht0] at hrem
    rw [hrem]
    have ht' : (t != 0) = true := by rw [bne_iff_ne]; exact ht0
    clear hrem ht0 hsome
    go_enter Try.func31, Try.ntmps31
    go_wp2_with fail
    refine hth.mono ?_
    rintro e w' ⟨rfl, k1⟩
    go_wp2
    go_ret
    exact Did.same h (by omega) k1
end Go.Proofs.Ytkokgbmeienokaa
