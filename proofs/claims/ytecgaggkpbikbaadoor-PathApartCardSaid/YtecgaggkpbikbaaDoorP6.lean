/- PathApart: plain law. -/
import Derived.Test.YtecgaggkpbikbaaDoorP5
import Derived.Test.YtecgaggkpbikbaaDoorN10
set_option linter.unusedVariables false
set_option linter.unusedSimpArgs false
namespace Go.Proofs.YtecgaggkpbikbaaDoor
open Go.RowKit

theorem sep_inj : ∀ (f g t u : List UInt8), 47 ∉ f → 47 ∉ g → f ++ 47 :: t = g ++ 47 :: u → f = g ∧ t = u
  | [], [], t, u, _, _, h => ⟨rfl, by injection h⟩
  | [], y :: g, t, u, _, hg, h => by
    injection h with h1 h2
    exact absurd (h1 ▸ List.mem_cons_self) hg
  | x :: f, [], t, u, hf, _, h => by
    injection h with h1 h2
    exact absurd (h1 ▸ List.mem_cons_self) hf
  | x :: f, y :: g, t, u, hf, hg, h => by
    injection h with h1 h2
    obtain ⟨e1, e2⟩ := sep_inj f g t u (fun m => hf (List.mem_cons_of_mem _ m)) (fun m => hg (List.mem_cons_of_mem _ m)) h2
    exact ⟨by rw [h1, e1], e2⟩
theorem rgt_no47 {p : ByteArray} (h : rgt p = true) : 47 ∉ tol p := by
  rw [rgt_tol, Bool.and_eq_true] at h
  intro hm
  have := List.all_eq_true.1 h.2 47 hm
  revert this; decide
theorem rgt_last {p : ByteArray} (h : rgt p = true) : ∃ l c, tol p = l ++ [c] ∧ c ≠ 126 := by
  rw [rgt_tol, Bool.and_eq_true, decide_eq_true_iff] at h
  have hne : tol p ≠ [] := fun e => by rw [e] at h; exact absurd h.1.1 (by simp)
  refine ⟨(tol p).dropLast, (tol p).getLast hne, (List.dropLast_concat_getLast hne).symm, fun e => ?_⟩
  have := List.all_eq_true.1 h.2 _ (List.getLast_mem hne)
  rw [e] at this
  revert this; decide
theorem isT_last {p : ByteArray} {l : List UInt8} {c : UInt8} (h : tol p = l ++ [c]) (hc : c ≠ 126) : isT p = false := by
  unfold isT
  rw [show p.data.toList = l ++ [c] from h]
  unfold Lib.hasSuffix
  rw [Bool.eq_false_iff]
  intro hs
  rw [List.isSuffixOf_iff_suffix] at hs
  obtain ⟨r, hr⟩ := hs
  have := congrArg List.getLast? hr
  simp at this
  exact hc this.symm
theorem twN_last (m : Nat) (h : m ≤ 24) : ∃ l c, tol (twN m) = l ++ [c] ∧ c ≠ 126 := by
  refine ⟨[UInt8.ofNat (48 + m / 10)], UInt8.ofNat (48 + m % 10), rfl, fun e => ?_⟩
  have := congrArg UInt8.toNat e
  simp at this
  omega
theorem twN_inj {n m : Nat} (hn : n ≤ 24) (hm : m ≤ 24) (h : twN n = twN m) : n = m := by
  have h1 : tol (twN n) = tol (twN m) := by rw [h]
  rw [tol_twN, tol_twN] at h1
  injection h1 with a1 a2
  injection a2 with a2 _
  have b1 := congrArg UInt8.toNat a1
  have b2 := congrArg UInt8.toNat a2
  simp at b1 b2
  omega

/-- What the law holds of five paths. -/
structure Five (a b : ByteArray) (n : Nat) (ps : List ByteArray) : Prop where
  len : ps.length = 5
  ne : ∀ i (h : i < 5), ps[i]'(by omega) ≠ es
  tmp : ∀ i (h : i < 5), isT (ps[i]'(by omega)) = false
  un : ∀ i k (h : i < 5) (hk : k < i), ps[k]'(by omega) ≠ ps[i]'(by omega)

def five (a b : ByteArray) (n : Nat) : List ByteArray := [epo, adm (n : Int), lgp a b, ofp { data := #[103, 111, 110, 101] } a b (n : Int), ofp { data := #[98, 111, 120] } a b (n : Int)]
theorem adm_tol (n : Nat) (h : 1 ≤ n ∧ n ≤ 24) : tol (adm (n : Int)) = [97, 100, 109, 105, 116, 47] ++ tol (twN n) := by rw [adm_yes n h, tol_app]; rfl
theorem lgp_tol {a b : ByteArray} (ha : rgt a = true) (hb : rgt b = true) : tol (lgp a b) = [108, 111, 103] ++ 47 :: (tol a ++ 47 :: tol b) := by
  unfold lgp
  rw [if_pos (by rw [ha, hb]; rfl), tol_app, tol_app, tol_app]
  show [108, 111, 103, 47] ++ tol a ++ [47] ++ tol b = _
  simp
theorem ofp_tol {h a b : ByteArray} {n : Nat} (ha : rgt a = true) (hb : rgt b = true) (hn : 1 ≤ n ∧ n ≤ 24) : tol (ofp h a b (n : Int)) = tol h ++ 47 :: (tol a ++ 47 :: (tol b ++ 47 :: tol (twN n))) := by
  unfold ofp
  rw [if_pos ⟨ha, hb, by omega, by omega⟩, tw_yes (by omega), Int.toNat_natCast, tol_jn]

theorem five_law {a b : ByteArray} {n : Nat} (ha : rgt a = true) (hb : rgt b = true) (hn : 1 ≤ n ∧ n ≤ 24) : Five a b n (five a b n) := by
  have t1 := adm_tol n hn
  have t2 := lgp_tol ha hb
  have t3 := ofp_tol (h := { data := #[103, 111, 110, 101] }) ha hb hn
  have t4 := ofp_tol (h := { data := #[98, 111, 120] }) ha hb hn
  have h0 : (tol epo).head? = some 101 := rfl
  have h1 : (tol (adm (n : Int))).head? = some 97 := by rw [t1]; rfl
  have h2 : (tol (lgp a b)).head? = some 108 := by rw [t2]; rfl
  have h3 : (tol (ofp { data := #[103, 111, 110, 101] } a b (n : Int))).head? = some 103 := by rw [t3]; rfl
  have h4 : (tol (ofp { data := #[98, 111, 120] } a b (n : Int))).head? = some 98 := by rw [t4]; rfl
  obtain ⟨lb, cb, eb, nb⟩ := rgt_last hb
  obtain ⟨lw, cw, ew, nw⟩ := twN_last n hn.2
  have hd : ∀ i (h : i < 5), (tol ((five a b n)[i]'(by show i < 5; exact h))).head? = some (([101, 97, 108, 103, 98] : List UInt8).getD i 0) := by
    intro i h
    obtain rfl | rfl | rfl | rfl | rfl : i = 0 ∨ i = 1 ∨ i = 2 ∨ i = 3 ∨ i = 4 := by omega
    · exact h0
    · exact h1
    · exact h2
    · exact h3
    · exact h4
  refine ⟨rfl, fun i h e => ?_, fun i h => ?_, fun i k h hk e => ?_⟩
  · have := hd i h
    rw [e] at this
    cases this
  · obtain rfl | rfl | rfl | rfl | rfl : i = 0 ∨ i = 1 ∨ i = 2 ∨ i = 3 ∨ i = 4 := by omega
    · show isT epo = false
      decide
    · exact isT_last (l := [97, 100, 109, 105, 116, 47] ++ lw) (c := cw) (by show tol (adm (n : Int)) = _; rw [t1, ew, List.append_assoc]) nw
    · exact isT_last (l := [108, 111, 103] ++ 47 :: (tol a ++ 47 :: lb)) (c := cb) (by show tol (lgp a b) = _; rw [t2, eb]; simp) nb
    · exact isT_last (l := tol { data := #[103, 111, 110, 101] } ++ 47 :: (tol a ++ 47 :: (tol b ++ 47 :: lw))) (c := cw) (by show tol (ofp { data := #[103, 111, 110, 101] } a b (n : Int)) = _; rw [t3, ew]; simp) nw
    · exact isT_last (l := tol { data := #[98, 111, 120] } ++ 47 :: (tol a ++ 47 :: (tol b ++ 47 :: lw))) (c := cw) (by show tol (ofp { data := #[98, 111, 120] } a b (n : Int)) = _; rw [t4, ew]; simp) nw
  · have e1 := hd i h
    have e2 := hd k (by omega)
    rw [e, e1] at e2
    injection e2 with e2
    have hu : ∀ i, i < 5 → ∀ k, k < i → ([101, 97, 108, 103, 98] : List UInt8).getD i 0 ≠ ([101, 97, 108, 103, 98] : List UInt8).getD k 0 := by decide
    exact hu i h k hk e2

theorem log_iff {a b c d : ByteArray} (ha : rgt a = true) (hb : rgt b = true) (hc : rgt c = true) (hd : rgt d = true) : decide (lgp c d = lgp a b) = (decide (a = c) && decide (b = d)) := by
  rw [Bool.eq_iff_iff, decide_eq_true_iff, Bool.and_eq_true, decide_eq_true_iff, decide_eq_true_iff]
  constructor
  · intro h
    have h1 : tol (lgp c d) = tol (lgp a b) := by rw [h]
    rw [lgp_tol hc hd, lgp_tol ha hb] at h1
    have h2 : tol c ++ 47 :: tol d = tol a ++ 47 :: tol b := by simpa using h1
    obtain ⟨e1, e2⟩ := sep_inj _ _ _ _ (rgt_no47 hc) (rgt_no47 ha) h2
    exact ⟨(tol_inj e1).symm, (tol_inj e2).symm⟩
  · rintro ⟨rfl, rfl⟩; rfl
theorem of_iff {h a b c d : ByteArray} {n m : Nat} (ha : rgt a = true) (hb : rgt b = true) (hc : rgt c = true) (hd : rgt d = true) (hn : 1 ≤ n ∧ n ≤ 24) (hm : 1 ≤ m ∧ m ≤ 24) : decide (ofp h c d (m : Int) = ofp h a b (n : Int)) = ((decide (a = c) && decide (b = d)) && decide (n = m)) := by
  rw [Bool.eq_iff_iff, decide_eq_true_iff, Bool.and_eq_true, Bool.and_eq_true, decide_eq_true_iff, decide_eq_true_iff, decide_eq_true_iff]
  constructor
  · intro e
    have h1 : tol (ofp h c d (m : Int)) = tol (ofp h a b (n : Int)) := by rw [e]
    rw [ofp_tol hc hd hm, ofp_tol ha hb hn] at h1
    have h2 := List.append_cancel_left h1
    injection h2 with _ h2
    obtain ⟨e1, e2⟩ := sep_inj _ _ _ _ (rgt_no47 hc) (rgt_no47 ha) h2
    obtain ⟨e3, e4⟩ := sep_inj _ _ _ _ (rgt_no47 hd) (rgt_no47 hb) e2
    exact ⟨⟨(tol_inj e1).symm, (tol_inj e3).symm⟩, (twN_inj hm.2 hn.2 (tol_inj e4)).symm⟩
  · rintro ⟨⟨rfl, rfl⟩, rfl⟩; rfl
theorem adm_iff {n m : Nat} (hn : 1 ≤ n ∧ n ≤ 24) (hm : 1 ≤ m ∧ m ≤ 24) : decide (adm (m : Int) = adm (n : Int)) = decide (n = m) := by
  rw [Bool.eq_iff_iff, decide_eq_true_iff, decide_eq_true_iff]
  constructor
  · intro e
    have h1 : tol (adm (m : Int)) = tol (adm (n : Int)) := by rw [e]
    rw [adm_tol m hm, adm_tol n hn] at h1
    exact (twN_inj hm.2 hn.2 (tol_inj (List.append_cancel_left h1))).symm
  · rintro rfl; rfl
theorem bl_cons (x : UInt8) (l m : List UInt8) : Op.bytesLess (x :: l) (x :: m) = Op.bytesLess l m := by
  rw [Op.bytesLess]
  simp
theorem two_less : ∀ n m : Fin 25, Op.bytesLess [UInt8.ofNat (48 + n.1 / 10), UInt8.ofNat (48 + n.1 % 10)] [UInt8.ofNat (48 + m.1 / 10), UInt8.ofNat (48 + m.1 % 10)] = decide (n.1 < m.1) := by decide +kernel
theorem adm_less {n m : Nat} (hn : 1 ≤ n ∧ n ≤ 24) (hm : 1 ≤ m ∧ m ≤ 24) : Op.bytesLess (adm (n : Int)).toList (adm (m : Int)).toList = decide (n < m) := by
  rw [ByteArray.toList_eq, ByteArray.toList_eq]
  show Op.bytesLess (tol (adm (n : Int))) (tol (adm (m : Int))) = _
  rw [adm_tol n hn, adm_tol m hm]
  show Op.bytesLess (97 :: 100 :: 109 :: 105 :: 116 :: 47 :: tol (twN n)) (97 :: 100 :: 109 :: 105 :: 116 :: 47 :: tol (twN m)) = _
  rw [bl_cons, bl_cons, bl_cons, bl_cons, bl_cons, bl_cons]
  exact two_less ⟨n, by omega⟩ ⟨m, by omega⟩
end Go.Proofs.YtecgaggkpbikbaaDoor
