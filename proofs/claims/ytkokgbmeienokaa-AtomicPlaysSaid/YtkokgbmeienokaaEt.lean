/- DiskNames: plain law. -/
import Derived.Test.YtkokgbmeienokaaEs
set_option linter.unusedVariables false
set_option linter.unusedSimpArgs false
set_option linter.unnecessarySimpa false
namespace Go.Proofs.Ytkokgbmeienokaa
open Go.RowKit

def n1 : ByteArray := { data := #[98, 47, 49] }
def n2 : ByteArray := { data := #[98, 47, 50] }
def n10 : ByteArray := { data := #[98, 47, 49, 48] }
def nc : ByteArray := { data := #[99, 47, 49] }
def nt : ByteArray := { data := #[116] }
def nbs : ByteArray := { data := #[98, 47] }
def nz : ByteArray := { data := #[122] }
def nps : List ByteArray := [n2, pa, n1, pB, nc, n10]
def nmL (b : List Int) (ps : List ByteArray) : Fl := ps.reverse.map (fun p => (p, sy b))
theorem nmL_keys (b : List Int) (ps : List ByteArray) : (nmL b ps).map (·.1) = ps.reverse := by unfold nmL; rw [List.map_map]; exact (List.map_congr_left (fun _ _ => rfl)).trans (List.map_id _)
theorem nmL_als (b : List Int) (ps : List ByteArray) : als (nmL b ps) = ps.length * b.length := by
  unfold als nmL
  rw [List.map_map]
  induction ps with
  | nil => simp
  | cons p ps ih =>
    simp only [List.reverse_cons, List.map_append, List.map_cons, List.map_nil, List.sum_append, List.sum_cons, List.sum_nil, List.length_cons] at ih ⊢
    rw [ih, Nat.add_mul]
    simp [sy]
theorem nps_nodup : nps.Nodup := by
  have : (nps.map tol).Nodup := by decide
  exact (List.pairwise_map.1 this).imp (fun h e => h (by rw [e]))
theorem nps_ne : ∀ p ∈ nps, p ≠ emp := fun p hp e => by
  subst e
  have : tol emp ∈ nps.map tol := List.mem_map_of_mem hp
  revert this
  decide
theorem nps_sz : ∀ p ∈ nps, p.size ≤ 100 := by decide
/-- One path more. -/
theorem nm_step (b : List Int) (hb : b.length ≤ 20) (j : Nat) (hj : j < nps.length) : ∃ d1, (al 500 (nmL b (nps.take j)) none).app nps[j] b = (0, d1) ∧ d1.syn nps[j] = (0, al 500 (nmL b (nps.take (j + 1))) none) := by
  have htk : nps.take (j + 1) = nps.take j ++ [nps[j]] := List.take_succ_eq_append_getElem hj
  have hnd : (nps.take (j + 1)).Nodup := nps_nodup.sublist (List.take_sublist _ _)
  rw [htk] at hnd
  have hnm : nps[j] ∉ nps.take j := fun h => (List.nodup_append.1 hnd).2.2 _ h _ (List.mem_singleton.2 rfl) rfl
  have hne := nps_ne nps[j] (List.getElem_mem hj)
  have hk : nps[j] ∉ (nmL b (nps.take j)).map (·.1) := by rw [nmL_keys, List.mem_reverse]; exact hnm
  have hn0 : ((nmL b (nps.take j)).map (·.1)).Nodup := by rw [nmL_keys]; exact (List.reverse_perm _).nodup_iff.2 (nps_nodup.sublist (List.take_sublist _ _))
  have h6 : nps.length = 6 := rfl
  have hl : (nps.take j).length = j := by rw [List.length_take]; omega
  have hm : j * b.length ≤ 6 * 20 := Nat.mul_le_mul (by omega) hb
  have hcons : nmL b (nps.take (j + 1)) = (nps[j], sy b) :: nmL b (nps.take j) := by
    show (nps.take (j + 1)).reverse.map (fun p => (p, sy b)) = _
    rw [htk, List.reverse_append, List.map_append]; rfl
  rw [hcons]
  generalize nps[j] = p at *
  refine ⟨_, (al_app none hn0 hne (by rw [nmL_als, hl]; omega)).trans (show _ = (0, al 500 ((p, ⟨b, 0, false⟩) :: nmL b (nps.take j)) none) by rw [alo_new hk, alu_new hk]; rfl), (al_syn none hne (by rw [alf_head]; rfl)).trans (by rw [alo_head, alu_head]; rfl)⟩

def n6 (b : List Int) (f : Fi) : Fl := [(n10, sy b), (nc, sy b), (pB, sy b), (n1, f), (pa, sy b), (n2, sy b)]
theorem n6_eq (b : List Int) : nmL b nps = n6 b (sy b) := rfl
theorem n6_keys (b : List Int) (f : Fi) : (n6 b f).map (·.1) = nps.reverse := rfl
theorem n6_nodup (b : List Int) (f : Fi) : ((n6 b f).map (·.1)).Nodup := by rw [n6_keys]; exact (List.reverse_perm _).nodup_iff.2 nps_nodup
theorem n6_srt (q : Nat) (b : List Int) (f : Fi) : srt (al q (n6 b f) none).ks = [pa, pB, n1, n10, n2, nc].map tol := srt_eq (show ([pa, pB, n1, n10, n2, nc].map tol).Perm (nps.reverse.map tol) by decide) (by decide)
theorem mkp_tol (p : ByteArray) : mkp (tol p) = p := mk_tol p
theorem n6_lsp1 (q : Nat) (b : List Int) (f : Fi) : (al q (n6 b f) none).lsp nbs = [n1, n10, n2] := by
  unfold Dk.lsp
  rw [n6_srt]
  have : ([pa, pB, n1, n10, n2, nc].map tol).filter (fun x => Lib.hasPrefix x (tol nbs)) = [n1, n10, n2].map tol := by decide
  rw [this]
  simp [mkp_tol]
theorem n6_lsp0 (q : Nat) (b : List Int) (f : Fi) : (al q (n6 b f) none).lsp es = [pa, pB, n1, n10, n2, nc] := by
  unfold Dk.lsp
  rw [n6_srt]
  have : ([pa, pB, n1, n10, n2, nc].map tol).filter (fun x => Lib.hasPrefix x (tol es)) = [pa, pB, n1, n10, n2, nc].map tol := by decide
  rw [this]
  simp [mkp_tol]
theorem n6_lspz (q : Nat) (b : List Int) (f : Fi) : (al q (n6 b f) none).lsp nz = [] := by
  unfold Dk.lsp
  rw [n6_srt]
  have : ([pa, pB, n1, n10, n2, nc].map tol).filter (fun x => Lib.hasPrefix x (tol nz)) = [] := by decide
  rw [this]; rfl
theorem nt_ne : nt ≠ emp := tne (by decide)
theorem n1_ne : n1 ≠ emp := tne (by decide)
theorem nt_not (b : List Int) (f : Fi) : nt ∉ (n6 b f).map (·.1) := by
  rw [n6_keys, List.mem_reverse]
  intro h
  have : tol nt ∈ nps.map tol := List.mem_map_of_mem h
  revert this
  decide
theorem n6_alu (b : List Int) (f f' : Fi) : alu (n6 b f) n1 f' = n6 b f' := by
  have h1 : n1 ≠ n10 := tne (by decide)
  have h2 : n1 ≠ nc := tne (by decide)
  have h3 : n1 ≠ pB := tne (by decide)
  simp [n6, alu, alp, h1, h2, h3]
theorem n6_F (b : List Int) (f : Fi) : alf (n6 b f) n1 = some f := by
  have h1 : n1 ≠ n10 := tne (by decide)
  have h2 : n1 ≠ nc := tne (by decide)
  have h3 : n1 ≠ pB := tne (by decide)
  simp [n6, alf, h1, h2, h3]
theorem al_none {q : Nat} {l : Fl} {p : ByteArray} (hp : p ≠ emp) (h : p ∉ l.map (·.1)) : (al q l none).there p = 3 := by
  rw [al_there none hp, if_neg (by rw [alf_none h]; simp)]
theorem names_law (b : List Int) (hb : b.length ≤ 20) : ∃ d1 d2 dn, (al 500 (n6 b (sy b)) none).app nt b = (0, d1) ∧ d1.app nt [7] = (0, d2) ∧ d2.ren nt n1 = (0, dn) ∧ dn.ren nt n1 = (3, dn) ∧ dn.crash 0 = dn ∧ dn.F n1 = some (sy (b ++ [7])) ∧ dn.F nt = none ∧
    dn.cut n1 ((b.length : Int) + 1 + 1) = (1, dn) ∧ dn.cut n1 (-1) = (1, dn) ∧ dn.cut nt 0 = (3, dn) ∧ dn.syn nt = (3, dn) ∧ dn.rem nt = (3, dn) := by
  have hals : ∀ f : Fi, als (n6 b f) = 5 * b.length + f.b.length := fun f => by simp [als, n6, sy]; omega
  have hnd2 : (((nt, (⟨b, 0, false⟩ : Fi)) :: n6 b (sy b)).map (·.1)).Nodup := by rw [List.map_cons, List.nodup_cons]; exact ⟨nt_not _ _, n6_nodup _ _⟩
  have e1 : (al 500 (n6 b (sy b)) none).app nt b = (0, al 500 ((nt, ⟨b, 0, false⟩) :: n6 b (sy b)) none) := (al_app none (n6_nodup _ _) nt_ne (by rw [hals]; simp [sy]; omega)).trans (by rw [alo_new (nt_not _ _), alu_new (nt_not _ _)]; rfl)
  have e2 : (al 500 ((nt, ⟨b, 0, false⟩) :: n6 b (sy b)) none).app nt [7] = (0, al 500 ((nt, ⟨b ++ [7], 0, false⟩) :: n6 b (sy b)) none) := (al_app none hnd2 nt_ne (by
    have : als ((nt, ⟨b, 0, false⟩) :: n6 b (sy b)) = b.length + als (n6 b (sy b)) := by simp [als]
    rw [this, hals]; simp [sy]; omega)).trans (by rw [alo_head, alu_head]; rfl)
  have e3 : (al 500 ((nt, ⟨b ++ [7], 0, false⟩) :: n6 b (sy b)) none).ren nt n1 = (0, al 500 (n6 b (sy (b ++ [7]))) none) := (al_ren none nt_ne n1_ne (by rw [alf_head]; rfl)).trans (by rw [alo_head, alg_head (nt_not _ _), n6_alu]; rfl)
  have hth : (al 500 (n6 b (sy (b ++ [7]))) none).there nt = 3 := al_none nt_ne (nt_not _ _)
  have hth1 : (al 500 (n6 b (sy (b ++ [7]))) none).there n1 = 0 := by rw [al_there none n1_ne, if_pos (by rw [n6_F]; rfl)]
  have hln : (al 500 (n6 b (sy (b ++ [7]))) none).len n1 = b.length + 1 := by rw [al_len]; unfold alo; rw [n6_F]; simp [sy]
  have hmay : (al 500 (n6 b (sy (b ++ [7]))) none).may [nt, n1] = 0 := by
    unfold Dk.may
    rw [if_neg (by show ¬ (false = true); simp), if_neg (by rw [hasE_no (by simp only [List.mem_cons, List.not_mem_nil, or_false, not_or]; exact ⟨fun e => nt_ne e.symm, fun e => n1_ne e.symm⟩)]; simp)]
  refine ⟨_, _, _, e1, e2, e3, ?_, ?_, n6_F b (sy (b ++ [7])), alf_none (nt_not b (sy (b ++ [7]))), ?_, ?_, ?_, ?_, ?_⟩
  · unfold Dk.ren; rw [hmay, hth, if_neg (by simp), if_pos (by simp)]
  · rw [al_crash _ _ _ _ (n6_nodup _ _)]
    have : acr 0 (n6 b (sy (b ++ [7]))) = n6 b (sy (b ++ [7])) := by simp [n6, acr, crF_sy]
    rw [this]
  · unfold Dk.cut; rw [hth1, hln, if_neg (by simp), if_pos (by right; omega)]
  · unfold Dk.cut; rw [hth1, if_neg (by simp), if_pos (by left; omega)]
  · unfold Dk.cut; rw [hth, if_pos (by simp)]
  · unfold Dk.syn; rw [hth, if_pos (by simp)]
  · unfold Dk.rem; rw [hth, if_pos (by simp)]
end Go.Proofs.Ytkokgbmeienokaa
