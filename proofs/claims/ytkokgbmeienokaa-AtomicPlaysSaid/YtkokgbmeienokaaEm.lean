/- Package atomic: what Clean leaves; AtomicWhole: plain law. -/
import Derived.Test.YtkokgbmeienokaaEl
set_option linter.unusedVariables false
set_option linter.unusedSimpArgs false
set_option linter.unnecessarySimpa false
namespace Go.Proofs.Ytkokgbmeienokaa
open Go.RowKit

theorem mk_tol (q : ByteArray) : (⟨(tol q).toArray⟩ : ByteArray) = q := by cases q; simp [tol]
theorem mem_lst (d : Dk) (p : ByteArray) (h : p ∈ d.ks) : p ∈ d.lst := by
  unfold Dk.lst srt
  refine List.mem_map.2 ⟨tol p, (List.mergeSort_perm _ _).mem_iff.2 (List.mem_map.2 ⟨p, h, rfl⟩), mk_tol p⟩
theorem lst_nodup (d : Dk) (h : d.ks.Nodup) : d.lst.Nodup := by
  unfold Dk.lst srt
  have h1 : (d.ks.map tol).Nodup := List.pairwise_map.2 (h.imp (fun h e => h (tol_inj e)))
  have h2 := (List.mergeSort_perm (d.ks.map tol) leB').nodup_iff.2 h1
  refine List.pairwise_map.2 (h2.imp (fun h e => h ?_))
  injection e with e
  have := congrArg Array.toList e
  simpa using this
theorem isT_ne {p : ByteArray} (h : isT p = true) : p ≠ emp := by
  rintro rfl
  revert h
  decide
theorem alg_nodup {l : Fl} (h : (l.map (·.1)).Nodup) (p : ByteArray) : ((alg l p).map (·.1)).Nodup := by
  unfold alg
  exact (h.sublist ((List.filter_sublist).map _))
open Classical in
theorem clnL_al (q : Nat) : ∀ (ps : List ByteArray) (l : Fl), ps.Nodup → (∀ p ∈ ps, p ∈ l.map (·.1)) → (l.map (·.1)).Nodup →
    clnL ps (al q l none) = (0, al q (l.filter (fun x => !(isT x.1 && decide (x.1 ∈ ps)))) none)
  | [], l, _, _, _ => by
    rw [clnL]
    congr 2
    exact (List.filter_eq_self.2 (fun x _ => by simp)).symm
  | p :: ps, l, hn, hm, hl => by
    rw [List.nodup_cons] at hn
    by_cases ht : isT p = true
    · rw [clnL, if_pos ht, al_rem none (isT_ne ht) (alf_some (hm p (by simp)))]
      show (if (0 : Int) ≠ 0 then _ else clnL ps (al q (alg l p) none)) = _
      rw [if_neg (by simp), clnL_al q ps (alg l p) hn.2 (fun r hr => ?_) (alg_nodup hl p)]
      · congr 2
        unfold alg
        rw [List.filter_filter]
        apply List.filter_congr
        intro x _
        by_cases e : x.1 = p
        · simp [e, ht]
        · simp [e]
      · obtain ⟨x, hx, rfl⟩ := List.mem_map.1 (hm r (by simp [hr]))
        refine List.mem_map.2 ⟨x, ?_, rfl⟩
        unfold alg
        refine List.mem_filter.2 ⟨hx, decide_eq_true (fun e => hn.1 (e ▸ hr))⟩
    · rw [clnL, if_neg ht, clnL_al q ps l hn.2 (fun r hr => hm r (by simp [hr])) hl]
      congr 2
      apply List.filter_congr
      intro x _
      by_cases e : x.1 = p
      · have : isT x.1 = false := by rw [e]; simpa using ht
        simp [this]
      · simp [e]
open Classical in
theorem al_cln (q : Nat) (l : Fl) (hl : (l.map (·.1)).Nodup) : (al q l none).cln = (0, al q (l.filter (fun x => !isT x.1)) none) := by
  unfold Dk.cln
  rw [clnL_al q _ l (lst_nodup _ hl) (fun p hp => lst_mem _ p hp) hl]
  congr 2
  apply List.filter_congr
  intro x hx
  have : x.1 ∈ (al q l none).lst := mem_lst _ _ (List.mem_map_of_mem hx)
  simp [this]

theorem isT_pft : isT (pf ++ tl) = true := by decide
theorem isT_pf : isT pf = false := by decide
theorem pft_ne : pf ++ tl ≠ pf := by
  intro h
  have := tl_size pf
  rw [h] at this
  omega
def sy (b : List Int) : Fi := ⟨b, b.length, true⟩
theorem crF_sy (m : Nat) (b : List Int) : crF m (sy b) = some (sy b) := by
  have : kept m (sy b) = b.length := by unfold kept sy; simp
  unfold crF
  rw [this, if_neg (by simp [sy])]
  simp [sy]
/-- One file, or none. -/
def fil : Option (List Int) → Fl
  | none => []
  | some a => [(pf, sy a)]
theorem acr_fil (m : Nat) (x : Option (List Int)) : acr m (fil x) = fil x := by
  cases x with
  | none => rfl
  | some a => simp [fil, acr, crF_sy]
theorem fil_not (x : Option (List Int)) : pf ++ tl ∉ (fil x).map (·.1) := by
  cases x with
  | none => simp [fil]
  | some a => simp only [fil, List.map_cons, List.map_nil, List.mem_singleton]; exact pft_ne
theorem fil_nodup (x : Option (List Int)) : ((fil x).map (·.1)).Nodup := by cases x <;> simp [fil]
theorem fil_filter (x : Option (List Int)) : (fil x).filter (fun x => !isT x.1) = fil x := by
  cases x with
  | none => rfl
  | some a => simp [fil, isT_pf]
def lnO : Option (List Int) → Nat
  | none => 0
  | some a => a.length
theorem fil_als (x : Option (List Int)) : als (fil x) = lnO x := by cases x <;> simp [fil, als, lnO, sy]
theorem fil_alu (x : Option (List Int)) (b : List Int) : alu (fil x) pf ⟨b, b.length, true⟩ = fil (some b) := by
  cases x with
  | none => rfl
  | some a => exact alu_head _ _ _ _

/-- Crashed, then cleaned. -/
theorem tmp_clean (q m : Nat) (x : Option (List Int)) (f : Fi) (d : Dk) (hd : d.crash m = al q (acr m ((pf ++ tl, f) :: fil x)) none) :
    (d.crash m).cln = (0, al q (fil x) none) ∧ (d.crash m).ks.length ≤ 10 := by
  rw [hd]
  unfold acr
  cases crF m f with
  | none =>
    show (al q (acr m (fil x)) none).cln = _ ∧ _
    rw [acr_fil, al_cln q _ (fil_nodup x), fil_filter]
    refine ⟨rfl, ?_⟩
    cases x <;> simp [al, fil, acr, crF_sy]
  | some f' =>
    show (al q ((pf ++ tl, f') :: acr m (fil x)) none).cln = _ ∧ _
    rw [acr_fil, al_cln q _ (by rw [List.map_cons, List.nodup_cons]; exact ⟨fil_not x, fil_nodup x⟩), List.filter_cons_of_neg (by simp [isT_pft]), fil_filter]
    refine ⟨rfl, ?_⟩
    cases x <;> simp [al, fil, acr, crF_sy]
theorem fil_clean (q m : Nat) (x : Option (List Int)) (d : Dk) (hd : d.crash m = al q (acr m (fil x)) none) :
    (d.crash m).cln = (0, al q (fil x) none) ∧ (d.crash m).ks.length ≤ 10 := by
  rw [hd, acr_fil, al_cln q _ (fil_nodup x), fil_filter]
  refine ⟨rfl, ?_⟩
  cases x <;> simp [al, fil]

/-- Wherever the disk stops within a write, and whatever it keeps. -/
theorem whole_law (q k m : Nat) (x : Option (List Int)) (b : List Int) (hq : lnO x + b.length ≤ q) :
    ∃ e d1, (lt (al q (fil x) none) k).wri pf b = (e, d1) ∧ ((3 ≤ k ∧ e = 0 ∧ (d1.crash m).cln = (0, al q (fil (some b)) none)) ∨ (k < 3 ∧ e = 7 ∧ (d1.crash m).cln = (0, al q (fil x) none))) ∧ (d1.crash m).ks.length ≤ 10 := by
  have hw : (lt (al q (fil x) none) k).wri pf b = wrs q (fil x) pf (pf ++ tl) b (some k) := al_wri (some k) (fil_nodup x) pf_ne (fil_not x) (by rw [fil_als]; exact hq)
  have hn1 : ∀ f : Fi, ((((pf ++ tl, f) :: fil x : Fl)).map (·.1)).Nodup := fun f => by rw [List.map_cons, List.nodup_cons]; exact ⟨fil_not x, fil_nodup x⟩
  rcases k with _ | _ | _ | k
  · obtain ⟨h1, h2⟩ := fil_clean q m x (ald q (fil x)) (ald_crash q _ m (fil_nodup x))
    exact ⟨7, _, hw, .inr ⟨by omega, rfl, h1⟩, h2⟩
  · obtain ⟨h1, h2⟩ := tmp_clean q m x _ (ald q ((pf ++ tl, ⟨b, 0, false⟩) :: fil x)) (ald_crash q _ m (hn1 _))
    exact ⟨7, _, hw, .inr ⟨by omega, rfl, h1⟩, h2⟩
  · obtain ⟨h1, h2⟩ := tmp_clean q m x _ (ald q ((pf ++ tl, ⟨b, b.length, true⟩) :: fil x)) (ald_crash q _ m (hn1 _))
    exact ⟨7, _, hw, .inr ⟨by omega, rfl, h1⟩, h2⟩
  · have hw2 : wrs q (fil x) pf (pf ++ tl) b (some (k + 3)) = (0, al q (fil (some b)) (some k)) := by
      show (0, al q (alu (fil x) pf ⟨b, b.length, true⟩) (some k)) = _
      rw [fil_alu]
    obtain ⟨h1, h2⟩ := fil_clean q m (some b) (al q (fil (some b)) (some k)) (al_crash q _ _ m (fil_nodup _))
    exact ⟨0, _, hw.trans hw2, .inl ⟨by omega, rfl, h1⟩, h2⟩
end Go.Proofs.Ytkokgbmeienokaa
