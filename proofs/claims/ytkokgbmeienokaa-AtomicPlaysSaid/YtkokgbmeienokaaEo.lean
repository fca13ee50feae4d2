/- Rows of paths compared; sorted paths; AtomicCleans: plain law. -/
import Derived.Test.YtkokgbmeienokaaEn
set_option linter.unusedVariables false
set_option linter.unusedSimpArgs false
set_option linter.unnecessarySimpa false
namespace Go.Proofs.Ytkokgbmeienokaa
open Go.RowKit

/-- A slice's paths. -/
def Sg (w : World) (A : Option Addr) (ps : List ByteArray) : Prop := ∀ j (h : j < ps.length), ∃ b off, A = some ⟨b, off, none⟩ ∧ b < w.heap.size ∧ w.cell? ⟨b, off + j, none⟩ = some (.string ps[j])
theorem Sg.kp0 {w w' : World} {A : Option Addr} {ps : List ByteArray} (h : Sg w A ps) (k : Kp0 w w') : Sg w' A ps := fun j hj => by
  obtain ⟨b, off, e, hb, hc⟩ := h j hj
  exact ⟨b, off, e, Nat.lt_of_lt_of_le hb k.size, (k.below0.cell (p := ⟨b, off + j, none⟩) hb).trans hc⟩
theorem sg_own {w : World} {A : Option Addr} {c : Nat} {ps : List ByteArray} (h : w.ownsRow 0 9 1 (.slice A ps.length c) ps.length (ps.map Value.string)) : Sg w A ps := fun j hj => by
  rcases own_shape h with ⟨e, h0, _⟩ | ⟨r, cap, e, m1, m2, m3, m4⟩
  · omega
  · injection e with e1 _ _
    refine ⟨r, 0, e1, m3, ?_⟩
    rw [Nat.zero_add, m4 j (by omega), List.getElem?_map, List.getElem?_eq_getElem hj]; rfl
theorem sg_blk {w : World} {B : Nat} {ps : List ByteArray} (h : Blk w B (ps.map Value.string).toArray 9) : Sg w (some ⟨B, 0, none⟩) ps := fun j hj => by
  refine ⟨B, 0, rfl, h.lt, ?_⟩
  rw [h.cell]
  simp [List.getElem?_eq_getElem hj]

set_option maxRecDepth 100000 in
theorem same37_c (a1 : Option Addr) (c1 : Nat) (a2 : Option Addr) (c2 : Nat) (bs : List ByteArray) (hl : bs.length ≤ 1000000) (w : World) (h1 : Sg w a1 bs) (h2 : Sg w a2 bs) :
    Calls Try.prog 37 #[.slice a1 bs.length c1, .slice a2 bs.length c2] w fun e w' => e = .returned (.bool true) ∧ Kp0 w w' := by
  have i1 : (((bs.length : Nat) : Int) != ((bs.length : Nat) : Int)) = false := by simp
  go_enter Try.func37, Try.ntmps37
  go_wp2_with fail
  go_loopw [5] (fun i wr => ∃ j : Nat, j ≤ bs.length ∧ i = .int .i64 j ∧ Kp0 w wr) (fun i _ => (bs.length - intOf i).toNat)
  case atStart => exact ⟨0, by omega, rfl, Kp.refl _ _⟩
  case round =>
    obtain ⟨j, hj, rfl, K⟩ := hrel
    by_cases hlt : j < bs.length
    · obtain ⟨b1, o1, rfl, hb1, d1⟩ := (h1.kp0 K) j hlt
      obtain ⟨b2, o2, rfl, hb2, d2⟩ := (h2.kp0 K) j hlt
      clear h1 h2
      generalize bs[j] = z at *
      go_wp2_with fail
      go_quiet (fail)
      go_wp2
      go_roundw
      case rel => exact ⟨j + 1, by omega, by go_num, K.drewN _⟩
      case measure => simp [intOf]; omega
    · clear h1 h2
      go_wp2
      go_ret
      exact ⟨rfl, K⟩

theorem srt_eq {ks : List ByteArray} {s : List (List UInt8)} (h : s.Perm (ks.map tol)) (hp : s.Pairwise (fun a b => leB' a b = true)) : srt ks = s := by
  unfold srt
  have : (ks.map tol).mergeSort leB' = s.mergeSort leB' := (mergeSort_of_perm h).symm
  rw [this]
  exact List.mergeSort_of_pairwise hp

def pb : ByteArray := { data := #[98, 47, 99] }
def qx : ByteArray := { data := #[120, 126] }
def qy : ByteArray := { data := #[121, 47, 122, 126] }
theorem tne {p q : ByteArray} (h : tol p ≠ tol q) : p ≠ q := fun e => h (by rw [e])
theorem pb_ne : pb ≠ emp := tne (by decide)
theorem qx_ne : qx ≠ emp := tne (by decide)
theorem qy_ne : qy ≠ emp := tne (by decide)
def c4 (b : List Int) : Fl := [(qy, sy b), (qx, ⟨b, 0, false⟩), (pb, sy b), (pa, sy b)]
def c2 (b : List Int) : Fl := [(pb, sy b), (pa, sy b)]
theorem c4_nodup (b : List Int) : ((c4 b).map (·.1)).Nodup := by
  show [qy, qx, pb, pa].Nodup
  simp only [List.nodup_cons, List.mem_cons, List.not_mem_nil, or_false, not_or, not_false_eq_true, List.nodup_nil, and_true]
  exact ⟨⟨tne (by decide), tne (by decide), tne (by decide)⟩, ⟨tne (by decide), tne (by decide)⟩, tne (by decide)⟩
theorem c2_nodup (b : List Int) : ((c2 b).map (·.1)).Nodup := by
  show [pb, pa].Nodup
  simp only [List.nodup_cons, List.mem_cons, List.not_mem_nil, or_false, not_or, not_false_eq_true, List.nodup_nil, and_true]
  exact tne (by decide)
theorem c4_lst (q : Nat) (b : List Int) (fu : Option Nat) : (al q (c4 b) fu).lst = [pa, pb, qx, qy] := by
  unfold Dk.lst
  have : srt (al q (c4 b) fu).ks = [tol pa, tol pb, tol qx, tol qy] := srt_eq (show [tol pa, tol pb, tol qx, tol qy].Perm ([qy, qx, pb, pa].map tol) by decide) (by decide)
  rw [this]
  simp only [List.map_cons, List.map_nil, mk_tol]
theorem c2_lst (q : Nat) (b : List Int) (fu : Option Nat) : (al q (c2 b) fu).lst = [pa, pb] := by
  unfold Dk.lst
  have : srt (al q (c2 b) fu).ks = [tol pa, tol pb] := srt_eq (show [tol pa, tol pb].Perm ([pb, pa].map tol) by decide) (by decide)
  rw [this]
  simp only [List.map_cons, List.map_nil, mk_tol]
theorem acr_none {m : Nat} {p : ByteArray} {f : Fi} (l : Fl) (h : crF m f = none) : acr m ((p, f) :: l) = acr m l := by simp [acr, h]
theorem acr_some {m : Nat} {p : ByteArray} {f f' : Fi} (l : Fl) (h : crF m f = some f') : acr m ((p, f) :: l) = (p, f') :: acr m l := by simp [acr, h]
theorem acr_filter (m : Nat) (l : Fl) : (acr m l).filter (fun x => !isT x.1) = acr m (l.filter (fun x => !isT x.1)) := by
  induction l with
  | nil => rfl
  | cons x l ih =>
    obtain ⟨p, f⟩ := x
    cases hc : crF m f with
    | none =>
      rw [acr_none l hc, ih]
      by_cases ht : isT p = true
      · rw [List.filter_cons_of_neg (by simp [ht])]
      · rw [List.filter_cons_of_pos (by simp [ht]), acr_none _ hc]
    | some f' =>
      rw [acr_some l hc]
      by_cases ht : isT p = true
      · rw [List.filter_cons_of_neg (by simp [ht]), List.filter_cons_of_neg (by simp [ht]), ih]
      · rw [List.filter_cons_of_pos (by simp [ht]), List.filter_cons_of_pos (by simp [ht]), ih, acr_some _ hc]
theorem acr_nodup (m : Nat) (l : Fl) (h : (l.map (·.1)).Nodup) : ((acr m l).map (·.1)).Nodup := by
  induction l with
  | nil => exact h
  | cons x l ih =>
    obtain ⟨p, f⟩ := x
    rw [List.map_cons, List.nodup_cons] at h
    unfold acr
    cases crF m f with
    | none => exact ih h.2
    | some f' =>
      rw [List.map_cons, List.nodup_cons]
      exact ⟨fun hm => h.1 (acr_sub m l p hm), ih h.2⟩
theorem acr_len (m : Nat) (l : Fl) : (acr m l).length ≤ l.length := by
  induction l with
  | nil => exact Nat.le_refl _
  | cons x l ih =>
    obtain ⟨p, f⟩ := x
    unfold acr
    cases crF m f with
    | none => simp; omega
    | some f' => simp; omega
theorem c2_acr (m : Nat) (b : List Int) : acr m (c2 b) = c2 b := by simp [c2, acr, crF_sy]
/-- Crashed, then cleaned, whatever is left. -/
theorem crash_clean (q m : Nat) (b : List Int) (l : Fl) (d : Dk) (hl : (l.map (·.1)).Nodup) (hf : l.filter (fun x => !isT x.1) = c2 b) (h10 : l.length ≤ 10) (hd : d.crash m = al q (acr m l) none) :
    (d.crash m).cln = (0, al q (c2 b) none) ∧ (d.crash m).ks.length ≤ 10 := by
  rw [hd, al_cln q _ (acr_nodup m l hl), acr_filter, hf, c2_acr]
  refine ⟨rfl, ?_⟩
  show ((acr m l).map _).length ≤ 10
  rw [List.length_map]
  exact Nat.le_trans (acr_len m l) h10
theorem c4_filter (b : List Int) : (c4 b).filter (fun x => !isT x.1) = c2 b := by
  have h1 : isT qy = true := by decide
  have h2 : isT qx = true := by decide
  have h3 : isT pb = false := by decide
  have h4 : isT pa = false := by decide
  simp [c4, c2, h1, h2, h3, h4]
theorem c2_filter (b : List Int) : (c2 b).filter (fun x => !isT x.1) = c2 b := by
  have h3 : isT pb = false := by decide
  have h4 : isT pa = false := by decide
  simp [c2, h3, h4]
def c3 (b : List Int) : Fl := [(qy, sy b), (pb, sy b), (pa, sy b)]
theorem c3_nodup (b : List Int) : ((c3 b).map (·.1)).Nodup := by
  show [qy, pb, pa].Nodup
  simp only [List.nodup_cons, List.mem_cons, List.not_mem_nil, or_false, not_or, not_false_eq_true, List.nodup_nil, and_true]
  exact ⟨⟨tne (by decide), tne (by decide)⟩, tne (by decide)⟩
theorem c3_filter (b : List Int) : (c3 b).filter (fun x => !isT x.1) = c2 b := by
  have h1 : isT qy = true := by decide
  have h3 : isT pb = false := by decide
  have h4 : isT pa = false := by decide
  simp [c3, c2, h1, h3, h4]
theorem alg_c4 (b : List Int) : alg (c4 b) qx = c3 b := by
  have h1 : qy ≠ qx := tne (by decide)
  have h2 : pb ≠ qx := tne (by decide)
  have h3 : pa ≠ qx := tne (by decide)
  simp [alg, c4, c3, h1, h2, h3]
theorem alg_c3 (b : List Int) : alg (c3 b) qy = c2 b := by
  have h2 : pb ≠ qy := tne (by decide)
  have h3 : pa ≠ qy := tne (by decide)
  simp [alg, c2, c3, h2, h3]

/-- Cleaned with a fuse. -/
theorem c4_fuse (q k : Nat) (b : List Int) : ∃ e d1, (lt (al q (c4 b) none) k).cln = (e, d1) ∧ ((2 ≤ k ∧ e = 0) ∨ (k < 2 ∧ e = 7)) ∧ ∀ m, (d1.crash m).cln = (0, al q (c2 b) none) ∧ (d1.crash m).ks.length ≤ 10 := by
  have h1 : isT qy = true := by decide
  have h2 : isT qx = true := by decide
  have h3 : isT pb = false := by decide
  have h4 : isT pa = false := by decide
  have hx : (alf (c4 b) qx).isSome = true := alf_some (by simp [c4])
  have hy : (alf (c3 b) qy).isSome = true := alf_some (by simp [c3])
  have hc : (lt (al q (c4 b) none) k).cln = if ((al q (c4 b) (some k)).rem qx).1 ≠ 0 then (al q (c4 b) (some k)).rem qx else clnL [qy] ((al q (c4 b) (some k)).rem qx).2 := by
    show clnL (al q (c4 b) (some k)).lst (al q (c4 b) (some k)) = _
    rw [c4_lst, clnL, if_neg (by rw [h4]; simp), clnL, if_neg (by rw [h3]; simp), clnL, if_pos h2]
  rw [al_rem (some k) qx_ne hx, alg_c4] at hc
  rcases k with _ | k
  · exact ⟨7, ald q (c4 b), hc, .inr ⟨by omega, rfl⟩, fun m => crash_clean q m b (c4 b) _ (c4_nodup b) (c4_filter b) (by simp [c4]) (ald_crash q _ m (c4_nodup b))⟩
  · have hc2 : (lt (al q (c4 b) none) (k + 1)).cln = if ((al q (c3 b) (some k)).rem qy).1 ≠ 0 then (al q (c3 b) (some k)).rem qy else clnL [] ((al q (c3 b) (some k)).rem qy).2 := by
      rw [hc]
      show (if (0 : Int) ≠ 0 then _ else clnL [qy] (al q (c3 b) (some k))) = _
      rw [if_neg (by simp)]
      conv => lhs; rw [clnL, if_pos h1]
    rw [al_rem (some k) qy_ne hy, alg_c3] at hc2
    rcases k with _ | k
    · exact ⟨7, ald q (c3 b), hc2, .inr ⟨by omega, rfl⟩, fun m => crash_clean q m b (c3 b) _ (c3_nodup b) (c3_filter b) (by simp [c3]) (ald_crash q _ m (c3_nodup b))⟩
    · exact ⟨0, al q (c2 b) (some k), hc2, .inl ⟨by omega, rfl⟩, fun m => crash_clean q m b (c2 b) _ (c2_nodup b) (c2_filter b) (by simp [c2]) (al_crash q _ _ m (c2_nodup b))⟩
theorem c2_clean (q : Nat) (b : List Int) : (al q (c2 b) none).cln = (0, al q (c2 b) none) := by
  rw [al_cln q _ (c2_nodup b), c2_filter]
theorem c2_used (q : Nat) (b : List Int) : (al q (c2 b) none).used = 2 * b.length := by
  rw [al_used q _ none (c2_nodup b)]
  simp [als, c2, sy]; omega
/-- How the disk is made. -/
theorem c4_made (b : List Int) (hb : b.length ≤ 21) : ∃ d1 d2 d3 d4, (al 500 [] none).wri pa b = (0, d1) ∧ d1.wri pb b = (0, d2) ∧ d2.app qx b = (0, d3) ∧ d3.app qy b = (0, d4) ∧ d4.syn qy = (0, al 500 (c4 b) none) := by
  have n1 : (([(pa, sy b)] : Fl).map (·.1)).Nodup := by simp
  have n2 : pb ∉ (([(pa, sy b)] : Fl).map (·.1)) := by simp only [List.map_cons, List.map_nil, List.mem_singleton]; exact tne (by decide)
  have n2' : pb ++ tl ∉ (([(pa, sy b)] : Fl).map (·.1)) := by simp only [List.map_cons, List.map_nil, List.mem_singleton]; exact tne (by decide)
  have n3 : qx ∉ ((c2 b).map (·.1)) := by
    show qx ∉ [pb, pa]
    simp only [List.mem_cons, List.not_mem_nil, or_false, not_or]
    exact ⟨tne (by decide), tne (by decide)⟩
  have n4 : qy ∉ (((qx, (⟨b, 0, false⟩ : Fi)) :: c2 b).map (·.1)) := by
    show qy ∉ [qx, pb, pa]
    simp only [List.mem_cons, List.not_mem_nil, or_false, not_or]
    exact ⟨tne (by decide), tne (by decide), tne (by decide)⟩
  have n3' : (((qx, (⟨b, 0, false⟩ : Fi)) :: c2 b).map (·.1)).Nodup := by rw [List.map_cons, List.nodup_cons]; exact ⟨n3, c2_nodup b⟩
  have e1 : (al 500 [] none).wri pa b = (0, al 500 [(pa, sy b)] none) := al_wri none (by simp) pa_ne (by simp) (by simp [als]; omega)
  have e2 : (al 500 [(pa, sy b)] none).wri pb b = (0, al 500 (c2 b) none) := (al_wri none n1 pb_ne n2' (by simp [als, sy]; omega)).trans (by unfold wrs; rw [alu_new n2]; rfl)
  have e3 : (al 500 (c2 b) none).app qx b = (0, al 500 ((qx, ⟨b, 0, false⟩) :: c2 b) none) := (al_app none (c2_nodup b) qx_ne (by simp [als, c2, sy]; omega)).trans (by rw [alo_new n3, alu_new n3]; rfl)
  have e4 : (al 500 ((qx, ⟨b, 0, false⟩) :: c2 b) none).app qy b = (0, al 500 ((qy, ⟨b, 0, false⟩) :: (qx, ⟨b, 0, false⟩) :: c2 b) none) := (al_app none n3' qy_ne (by simp [als, c2, sy]; omega)).trans (by rw [alo_new n4, alu_new n4]; rfl)
  have e5 : (al 500 ((qy, ⟨b, 0, false⟩) :: (qx, ⟨b, 0, false⟩) :: c2 b) none).syn qy = (0, al 500 (c4 b) none) := (al_syn none qy_ne (by rw [alf_head]; rfl)).trans (by rw [alo_head, alu_head]; rfl)
  exact ⟨_, _, _, _, e1, e2, e3, e4, e5⟩
end Go.Proofs.Ytkokgbmeienokaa
