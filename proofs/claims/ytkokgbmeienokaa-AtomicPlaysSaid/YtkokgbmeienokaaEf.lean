/- Package disk: disks given by a list of files; what each act makes of it. -/
import Derived.Test.YtkokgbmeienokaaEe
import Derived.Test.YtkokgbmeienokaaDy
set_option linter.unusedVariables false
set_option linter.unusedSimpArgs false
namespace Go.Proofs.Ytkokgbmeienokaa
open Go.RowKit

abbrev Fl := List (ByteArray × Fi)
def alf : Fl → ByteArray → Option Fi
  | [], _ => none
  | (k, f) :: l, p => if p = k then some f else alf l p
def alp : Fl → ByteArray → Fi → Option Fl
  | [], _, _ => none
  | (k, f) :: l, p, v => if p = k then some ((k, v) :: l) else (alp l p v).map ((k, f) :: ·)
/-- v at p. -/
def alu (l : Fl) (p : ByteArray) (v : Fi) : Fl := (alp l p v).getD ((p, v) :: l)
def alg (l : Fl) (p : ByteArray) : Fl := l.filter (fun x => decide (x.1 ≠ p))
def als (l : Fl) : Nat := (l.map (fun x => x.2.b.length)).sum
/-- A disk of these files. -/
def al (q : Nat) (l : Fl) (fu : Option Nat) : Dk := { F := alf l, ks := l.map (·.1), quota := q, dead := false, lit := fu.isSome, fuse := fu.getD 0 }
def alo (l : Fl) (p : ByteArray) : Fi := (alf l p).getD ⟨[], 0, false⟩

theorem alf_none {l : Fl} {p : ByteArray} (h : p ∉ l.map (·.1)) : alf l p = none := by
  induction l with
  | nil => rfl
  | cons x l ih =>
    simp only [List.map_cons, List.mem_cons, not_or] at h
    unfold alf
    rw [if_neg h.1, ih h.2]
theorem alf_some {l : Fl} {p : ByteArray} (h : p ∈ l.map (·.1)) : (alf l p).isSome = true := by
  induction l with
  | nil => cases h
  | cons x l ih =>
    unfold alf
    by_cases e : p = x.1
    · rw [if_pos e]; rfl
    · rw [if_neg e]
      simp only [List.map_cons, List.mem_cons] at h
      exact ih (h.resolve_left e)
theorem alp_none {l : Fl} {p : ByteArray} {v : Fi} (h : p ∉ l.map (·.1)) : alp l p v = none := by
  induction l with
  | nil => rfl
  | cons x l ih =>
    simp only [List.map_cons, List.mem_cons, not_or] at h
    unfold alp
    rw [if_neg h.1, ih h.2]; rfl
theorem alp_some {l : Fl} {p : ByteArray} {v : Fi} (h : p ∈ l.map (·.1)) : ∃ l', alp l p v = some l' ∧ l'.map (·.1) = l.map (·.1) ∧ ∀ r, alf l' r = pt (alf l) p (some v) r := by
  induction l with
  | nil => cases h
  | cons x l ih =>
    obtain ⟨k, f⟩ := x
    unfold alp
    by_cases e : p = k
    · rw [if_pos e]
      refine ⟨_, rfl, rfl, fun r => ?_⟩
      subst e
      by_cases er : r = p
      · rw [er, pt_same]; simp [alf]
      · rw [pt_other _ _ er]; simp [alf, er]
    · rw [if_neg e]
      simp only [List.map_cons, List.mem_cons] at h
      obtain ⟨l', e1, e2, e3⟩ := ih (h.resolve_left e)
      refine ⟨(k, f) :: l', by rw [e1]; rfl, by simp [e2], fun r => ?_⟩
      by_cases er : r = k
      · subst er
        rw [pt_other _ _ (fun h => e h.symm)]; simp [alf]
      · have := e3 r
        unfold alf
        rw [if_neg er, this]
        by_cases ep : r = p
        · rw [ep, pt_same, pt_same]
        · rw [pt_other _ _ ep, pt_other _ _ ep]; simp [alf, er]
theorem dk_ext {d d' : Dk} (h1 : d.F = d'.F) (h2 : d.ks = d'.ks) (h3 : d.quota = d'.quota) (h4 : d.dead = d'.dead) (h5 : d.lit = d'.lit) (h6 : d.fuse = d'.fuse) : d = d' := by
  cases d; cases d'; simp at *; exact ⟨h1, h2, h3, h4, h5, h6⟩
theorem al_put (q : Nat) (l : Fl) (fu : Option Nat) (p : ByteArray) (v : Fi) : (al q l fu).put p v = al q (alu l p v) fu := by
  by_cases h : p ∈ l.map (·.1)
  · obtain ⟨l', e1, e2, e3⟩ := alp_some (v := v) h
    have hu : alu l p v = l' := by unfold alu; rw [e1]; rfl
    rw [hu]
    refine dk_ext ?_ ?_ rfl rfl rfl rfl
    · funext r
      exact (e3 r).symm
    · show (if (alf l p).isSome = true then _ else _) = _
      rw [if_pos (alf_some h)]
      exact e2.symm
  · have hu : alu l p v = (p, v) :: l := by unfold alu; rw [alp_none h]; rfl
    rw [hu]
    refine dk_ext ?_ ?_ rfl rfl rfl rfl
    · funext r
      show pt (alf l) p (some v) r = alf ((p, v) :: l) r
      by_cases e : r = p
      · subst e; rw [pt_same]; simp [alf]
      · rw [pt_other _ _ e]; simp [alf, e]
    · show (if (alf l p).isSome = true then _ else _) = _
      rw [if_neg (by rw [alf_none h]; simp)]
      rfl
theorem alf_filter (l : Fl) (p r : ByteArray) : alf (alg l p) r = pt (alf l) p none r := by
  induction l with
  | nil =>
    by_cases e : r = p
    · subst e; rw [pt_same]; rfl
    · rw [pt_other _ _ e]; rfl
  | cons x l ih =>
    obtain ⟨k, f⟩ := x
    unfold alg at ih ⊢
    by_cases ek : k = p
    · subst ek
      rw [List.filter_cons_of_neg (by simp), ih]
      by_cases e : r = k
      · subst e; rw [pt_same, pt_same]
      · rw [pt_other _ _ e, pt_other _ _ e]; simp [alf, e]
    · rw [List.filter_cons_of_pos (by simp [ek])]
      by_cases e : r = p
      · subst e
        rw [pt_same]
        rw [pt_same] at ih
        unfold alf
        rw [if_neg (fun h => ek h.symm), ih]
      · rw [pt_other _ _ e] at ih ⊢
        unfold alf
        rw [ih]
theorem al_gone (q : Nat) (l : Fl) (fu : Option Nat) (p : ByteArray) : (al q l fu).gone p = al q (alg l p) fu := by
  refine dk_ext ?_ ?_ rfl rfl rfl rfl
  · funext r
    exact (alf_filter l p r).symm
  · show (l.map (·.1)).filter _ = (l.filter _).map _
    rw [List.filter_map]
    rfl
theorem al_len (q : Nat) (l : Fl) (fu : Option Nat) (p : ByteArray) : (al q l fu).len p = (alo l p).b.length := by
  unfold Dk.len alo
  show (match alf l p with | some f => f.b.length | none => 0) = _
  cases alf l p <;> rfl
theorem al_old (q : Nat) (l : Fl) (fu : Option Nat) (p : ByteArray) : (al q l fu).old p = alo l p := rfl
theorem al_used (q : Nat) (l : Fl) (fu : Option Nat) (hn : (l.map (·.1)).Nodup) : (al q l fu).used = als l := by
  unfold Dk.used als
  show ((l.map (·.1)).map _).sum = _
  rw [List.map_map]
  congr 1
  apply List.map_congr_left
  intro x hx
  show (al q l fu).len x.1 = x.2.b.length
  rw [al_len]
  have : ∀ l : Fl, (l.map (·.1)).Nodup → x ∈ l → alf l x.1 = some x.2 := by
    intro l hn hx
    induction l with
    | nil => cases hx
    | cons y l ih =>
      rw [List.map_cons, List.nodup_cons] at hn
      unfold alf
      rcases List.mem_cons.1 hx with rfl | h
      · rw [if_pos rfl]
      · rw [if_neg (fun e => hn.1 (by rw [← e]; exact List.mem_map_of_mem h)), ih hn.2 h]
  unfold alo
  rw [this l hn hx]; rfl

/-- Dead, as it is. -/
def ald (q : Nat) (l : Fl) : Dk := { al q l (some 0) with dead := true }
/-- An act that is right: l' is what it makes. -/
def act (q : Nat) (l l' : Fl) : Option Nat → Int × Dk
  | none => (0, al q l' none)
  | some 0 => (7, ald q l)
  | some (k + 1) => (0, al q l' (some k))
theorem al_may (q : Nat) (l : Fl) (fu : Option Nat) {p : ByteArray} (hp : p ≠ emp) : (al q l fu).may [p] = 0 := dead_may rfl hp
theorem al_step (q : Nat) (l : Fl) : ∀ fu, (al q l fu).step = match fu with | none => (0, al q l none) | some 0 => (7, ald q l) | some (k + 1) => (0, al q l (some k))
  | none => rfl
  | some 0 => rfl
  | some (k + 1) => by unfold Dk.step al; simp
theorem al_app {q : Nat} {l : Fl} (fu : Option Nat) {p : ByteArray} {b : List Int} (hn : (l.map (·.1)).Nodup) (hp : p ≠ emp) (h : als l + b.length ≤ q) :
    (al q l fu).app p b = act q l (alu l p { alo l p with b := (alo l p).b ++ b }) fu := by
  unfold Dk.app
  rw [al_may q l fu hp, al_used q l fu hn, al_step]
  rw [if_neg (by simp), if_neg (by show ¬ ((q : Int) - _ < _); omega)]
  rcases fu with _ | _ | k
  · rw [if_neg (by simp)]
    show (0, (al q l none).put p _) = _
    rw [al_put]; rfl
  · rw [if_pos (by simp)]; rfl
  · rw [if_neg (by simp)]
    show (0, (al q l (some k)).put p _) = _
    rw [al_put]; rfl
theorem al_full {q : Nat} {l : Fl} (fu : Option Nat) {p : ByteArray} {b : List Int} (hn : (l.map (·.1)).Nodup) (hp : p ≠ emp) (h : q < als l + b.length) :
    (al q l fu).app p b = (6, al q l fu) := by
  unfold Dk.app
  rw [al_may q l fu hp, al_used q l fu hn]
  rw [if_neg (by simp), if_pos (by show ((q : Int) - _ < _); omega)]
theorem al_there {q : Nat} {l : Fl} (fu : Option Nat) {p : ByteArray} (hp : p ≠ emp) : (al q l fu).there p = if (alf l p).isSome = true then 0 else 3 := by
  unfold Dk.there
  rw [al_may q l fu hp, if_neg (by simp)]
  rfl
theorem al_syn {q : Nat} {l : Fl} (fu : Option Nat) {p : ByteArray} (hp : p ≠ emp) (h : (alf l p).isSome = true) :
    (al q l fu).syn p = act q l (alu l p ⟨(alo l p).b, (alo l p).b.length, true⟩) fu := by
  unfold Dk.syn
  rw [al_there fu hp, if_pos h, if_neg (by simp), al_step]
  rcases fu with _ | _ | k
  · rw [if_neg (by simp)]
    show (0, (al q l none).put p _) = _
    rw [al_put]; rfl
  · rw [if_pos (by simp)]; rfl
  · rw [if_neg (by simp)]
    show (0, (al q l (some k)).put p _) = _
    rw [al_put]; rfl
theorem al_rem {q : Nat} {l : Fl} (fu : Option Nat) {p : ByteArray} (hp : p ≠ emp) (h : (alf l p).isSome = true) :
    (al q l fu).rem p = act q l (alg l p) fu := by
  unfold Dk.rem
  rw [al_there fu hp, if_pos h, if_neg (by simp), al_step]
  rcases fu with _ | _ | k
  · rw [if_neg (by simp)]
    show (0, (al q l none).gone p) = _
    rw [al_gone]; rfl
  · rw [if_pos (by simp)]; rfl
  · rw [if_neg (by simp)]
    show (0, (al q l (some k)).gone p) = _
    rw [al_gone]; rfl
theorem al_cut {q : Nat} {l : Fl} (fu : Option Nat) {p : ByteArray} {n : Nat} (hp : p ≠ emp) (h : (alf l p).isSome = true) (hn : n ≤ (alo l p).b.length) :
    (al q l fu).cut p n = act q l (alu l p ⟨(alo l p).b.take n, n, true⟩) fu := by
  unfold Dk.cut
  rw [al_there fu hp, if_pos h, if_neg (by simp), al_step, al_len, if_neg (by omega)]
  rcases fu with _ | _ | k
  · rw [if_neg (by simp)]
    show (0, (al q l none).put p _) = _
    rw [al_put]; rfl
  · rw [if_pos (by simp)]; rfl
  · rw [if_neg (by simp)]
    show (0, (al q l (some k)).put p _) = _
    rw [al_put]; rfl
theorem al_ren {q : Nat} {l : Fl} (fu : Option Nat) {p r : ByteArray} (hp : p ≠ emp) (hr : r ≠ emp) (h : (alf l p).isSome = true) :
    (al q l fu).ren p r = act q l (alu (alg l p) r ⟨(alo l p).b, (alo l p).b.length, true⟩) fu := by
  have hm : (al q l fu).may [p, r] = 0 := by
    unfold Dk.may
    rw [if_neg (by show ¬ (false = true); simp), if_neg (by rw [hasE_no (by simp only [List.mem_cons, List.not_mem_nil, or_false, not_or]; exact ⟨fun e => hp e.symm, fun e => hr e.symm⟩)]; simp)]
  unfold Dk.ren
  rw [hm, al_there fu hp, if_pos h, if_neg (by simp), if_neg (by simp), al_step]
  rcases fu with _ | _ | k
  · rw [if_neg (by simp)]
    show (0, ((al q l none).gone p).put r _) = _
    rw [al_gone, al_put]; rfl
  · rw [if_pos (by simp)]; rfl
  · rw [if_neg (by simp)]
    show (0, ((al q l (some k)).gone p).put r _) = _
    rw [al_gone, al_put]; rfl

def acr (k : Nat) : Fl → Fl
  | [] => []
  | (p, f) :: l => match crF k f with | some f' => (p, f') :: acr k l | none => acr k l
theorem acr_sub (k : Nat) (l : Fl) (p : ByteArray) (h : p ∈ (acr k l).map (·.1)) : p ∈ l.map (·.1) := by
  induction l with
  | nil => exact h
  | cons x l ih =>
    obtain ⟨r, f⟩ := x
    unfold acr at h
    cases hc : crF k f with
    | none =>
      rw [hc] at h
      exact List.mem_cons_of_mem _ (ih h)
    | some f' =>
      rw [hc] at h
      simp only [List.map_cons, List.mem_cons] at h ⊢
      exact h.imp id ih
theorem al_crashF (k : Nat) (l : Fl) (hn : (l.map (·.1)).Nodup) (p : ByteArray) : alf (acr k l) p = (alf l p).bind (crF k) := by
  induction l with
  | nil => rfl
  | cons x l ih =>
    obtain ⟨r, f⟩ := x
    rw [List.map_cons, List.nodup_cons] at hn
    have ih := ih hn.2
    unfold acr
    by_cases e : p = r
    · subst e
      have hl : alf ((p, f) :: l) p = some f := by simp [alf]
      rw [hl]
      show _ = crF k f
      cases hc : crF k f with
      | none => exact alf_none (fun h => hn.1 (acr_sub k l p h))
      | some f' => simp [alf]
    · have hl : alf ((r, f) :: l) p = alf l p := by simp [alf, e]
      rw [hl]
      cases hc : crF k f with
      | none => exact ih
      | some f' =>
        show alf ((r, f') :: acr k l) p = _
        simp only [alf, e, if_false]
        exact ih
theorem al_crash (q : Nat) (l : Fl) (fu : Option Nat) (k : Nat) (hn : (l.map (·.1)).Nodup) : (al q l fu).crash k = al q (acr k l) none := by
  refine dk_ext ?_ ?_ rfl rfl rfl rfl
  · funext p
    exact (al_crashF k l hn p).symm
  · show (l.map (·.1)).filter (fun p => ((alf l p).bind (crF k)).isSome) = _
    have : ∀ (m : Fl) (G : ByteArray → Option Fi), (∀ x ∈ m, G x.1 = some x.2) → (m.map (·.1)).filter (fun p => ((G p).bind (crF k)).isSome) = (acr k m).map (·.1) := by
      intro m G hG
      induction m with
      | nil => rfl
      | cons x m ih =>
        obtain ⟨r, f⟩ := x
        have h1 : G r = some f := hG (r, f) (by simp)
        have ih := ih (fun y hy => hG y (by simp [hy]))
        rw [List.map_cons]
        unfold acr
        cases hc : crF k f with
        | none =>
          rw [List.filter_cons_of_neg (by simp [h1, hc])]
          exact ih
        | some f' =>
          rw [List.filter_cons_of_pos (by simp [h1, hc])]
          rw [ih]
          rfl
    refine this l (alf l) (fun x hx => ?_)
    have : ∀ l : Fl, (l.map (·.1)).Nodup → x ∈ l → alf l x.1 = some x.2 := by
      intro l hn hx
      induction l with
      | nil => cases hx
      | cons y l ih =>
        rw [List.map_cons, List.nodup_cons] at hn
        unfold alf
        rcases List.mem_cons.1 hx with rfl | h
        · rw [if_pos rfl]
        · rw [if_neg (fun e => hn.1 (by rw [← e]; exact List.mem_map_of_mem h)), ih hn.2 h]
    exact this l hn hx
theorem ald_crash (q : Nat) (l : Fl) (k : Nat) (hn : (l.map (·.1)).Nodup) : (ald q l).crash k = al q (acr k l) none := al_crash q l (some 0) k hn
theorem al_lt (q : Nat) (l : Fl) (fu : Option Nat) (k : Nat) : lt (al q l fu) k = al q l (some k) := rfl
theorem al_zero (q : Nat) : dk0 q = al q [] none := rfl
end Go.Proofs.Ytkokgbmeienokaa
