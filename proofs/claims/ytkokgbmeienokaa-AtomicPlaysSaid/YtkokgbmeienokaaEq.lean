/- DiskRoom: plain law; slices that are made. -/
import Derived.Test.YtkokgbmeienokaaEo
set_option linter.unusedVariables false
set_option linter.unusedSimpArgs false
set_option linter.unnecessarySimpa false
namespace Go.Proofs.Ytkokgbmeienokaa
open Go.RowKit

theorem madeN (n : Nat) (hn : n ≤ 100000) (w : World) : ∃ w', (Instr.makeSlice 22 (.int .i64 (n : Int)) (.int .i64 (n : Int))).run Try.prog w = .ok (.slice (some ⟨w.heap.size, 0, none⟩) n n) w' ∧ Bz w' (some ⟨w.heap.size, 0, none⟩) n (List.replicate n 0) ∧ Kp0 w w' := by
  obtain ⟨i0, hi, hzz⟩ := Option.map_eq_some_iff.1 info5'
  simp only [Prod.mk.injEq] at hzz
  obtain ⟨hz0, hz1, hz2⟩ := hzz
  obtain ⟨w', h1, h2, h3⟩ := run_make_full (P := Try.prog) w 0 22 5 i0 (.int .u8 0) 1 Try.underlying22 hi hz0 hz1 .i64 .i64 n (by rw [hz2]; omega) (by unfold maxLen; omega) (Nat.zero_le _)
  refine ⟨w', h1, bz_own (n := n) (bs := List.replicate n 0) ?_ (by rw [List.length_replicate]) (by intro c hc; rw [List.mem_replicate] at hc; omega), (Kp.refl _ _).grown h3 (fun k hk _ => by cases hk)⟩
  have e : (madeCells (Value.int .u8 0).cells (n * 1)).toList = u8s (List.replicate n 0) := by
    show (madeCells #[Value.int .u8 0] (n * 1)).toList = _
    rw [toList_madeCells_one, u8s, List.map_replicate, Nat.mul_one]
  rw [e] at h2
  rw [List.length_replicate]
  exact h2

def pB : ByteArray := { data := #[98] }
def pC : ByteArray := { data := #[99] }
def pX : ByteArray := { data := #[120] }
theorem pB_ne : pB ≠ emp := tne (by decide)
theorem pC_ne : pC ≠ emp := tne (by decide)
theorem pX_ne : pX ≠ emp := tne (by decide)
def rp (n : Nat) : List Int := List.replicate n 0
theorem rp_len (n : Nat) : (rp n).length = n := List.length_replicate
def r3 (n : Nat) (f : Fi) : Fl := [(pC, ⟨[], 0, false⟩), (pB, f), (pa, ⟨rp n, 0, false⟩)]
theorem r3_nodup (n : Nat) (f : Fi) : ((r3 n f).map (·.1)).Nodup := by
  show [pC, pB, pa].Nodup
  simp only [List.nodup_cons, List.mem_cons, List.not_mem_nil, or_false, not_or, not_false_eq_true, List.nodup_nil, and_true]
  exact ⟨⟨tne (by decide), tne (by decide)⟩, tne (by decide)⟩
theorem nBa : pB ≠ pa := tne (by decide)
theorem nCB : pC ≠ pB := tne (by decide)
theorem nCa : pC ≠ pa := tne (by decide)
theorem nXC : pX ≠ pC := tne (by decide)

/-- Room, step by step. -/
theorem room_law (Q a b : Nat) (ha : a < Q) (hb : b ≤ Q - a) :
    ∃ d1 d2 d3 d4 d5 d6 d7, (al Q [] none).used = 0 ∧ (al Q [] none).app pa (rp a) = (0, d1) ∧ d1.app pB (rp (Q - a)) = (0, d2) ∧ d2.used = Q ∧ d2.app pC [1] = (6, d2) ∧ d2.app pC [] = (0, d3) ∧
      d3.cut pB (b : Int) = (0, d4) ∧ d4.used = a + b ∧ d4.ren pa pB = (0, d5) ∧ d5.used = a ∧ d5.rem pB = (0, d6) ∧ d6.used = 0 ∧ d6.lst = [pC] ∧ d6.app pX (rp Q) = (0, d7) ∧ d7.used = Q ∧ d1.quota = Q ∧ d2.quota = Q ∧ d3.quota = Q ∧ d4.quota = Q ∧ d5.quota = Q ∧ d6.quota = Q ∧ d7.quota = Q := by
  have nB : pB ∉ (([(pa, (⟨rp a, 0, false⟩ : Fi))] : Fl).map (·.1)) := by simp only [List.map_cons, List.map_nil, List.mem_singleton]; exact nBa
  have n2 : (([(pB, (⟨rp (Q - a), 0, false⟩ : Fi)), (pa, ⟨rp a, 0, false⟩)] : Fl).map (·.1)).Nodup := by
    show [pB, pa].Nodup
    simp only [List.nodup_cons, List.mem_cons, List.not_mem_nil, or_false, not_false_eq_true, List.nodup_nil, and_true]
    exact nBa
  have nC : pC ∉ (([(pB, (⟨rp (Q - a), 0, false⟩ : Fi)), (pa, ⟨rp a, 0, false⟩)] : Fl).map (·.1)) := by
    show pC ∉ [pB, pa]
    simp only [List.mem_cons, List.not_mem_nil, or_false, not_or]
    exact ⟨nCB, nCa⟩
  have e1 : (al Q [] none).app pa (rp a) = (0, al Q [(pa, ⟨rp a, 0, false⟩)] none) := (al_app none (by simp) pa_ne (by simp [als, rp_len]; omega)).trans rfl
  have e2 : (al Q [(pa, ⟨rp a, 0, false⟩)] none).app pB (rp (Q - a)) = (0, al Q [(pB, ⟨rp (Q - a), 0, false⟩), (pa, ⟨rp a, 0, false⟩)] none) := (al_app none (by simp) pB_ne (by simp [als, rp_len]; omega)).trans (by rw [alo_new nB, alu_new nB]; rfl)
  have u2 : als [(pB, ⟨rp (Q - a), 0, false⟩), (pa, ⟨rp a, 0, false⟩)] = Q := by simp [als, rp_len]; omega
  have e3 : (al Q [(pB, ⟨rp (Q - a), 0, false⟩), (pa, ⟨rp a, 0, false⟩)] none).app pC [1] = (6, al Q [(pB, ⟨rp (Q - a), 0, false⟩), (pa, ⟨rp a, 0, false⟩)] none) := al_full none n2 pC_ne (by rw [u2]; simp)
  have e4 : (al Q [(pB, ⟨rp (Q - a), 0, false⟩), (pa, ⟨rp a, 0, false⟩)] none).app pC [] = (0, al Q (r3 a ⟨rp (Q - a), 0, false⟩) none) := (al_app none n2 pC_ne (by rw [u2]; simp)).trans (by rw [alo_new nC, alu_new nC]; rfl)
  have hB : ∀ f, alf (r3 a f) pB = some f := fun f => by simp [r3, alf, nCB.symm]
  have uB : ∀ f f', alu (r3 a f) pB f' = r3 a f' := fun f f' => by simp [r3, alu, alp, nCB.symm]
  have oB : ∀ f, alo (r3 a f) pB = f := fun f => by unfold alo; rw [hB]; rfl
  have hA : ∀ f, alf (r3 a f) pa = some ⟨rp a, 0, false⟩ := fun f => by simp [r3, alf, nCa.symm, nBa.symm]
  have oA : ∀ f, alo (r3 a f) pa = ⟨rp a, 0, false⟩ := fun f => by unfold alo; rw [hA]; rfl
  have u3 : ∀ f, als (r3 a f) = f.b.length + a := fun f => by simp [als, r3, rp_len]
  have e5 : (al Q (r3 a ⟨rp (Q - a), 0, false⟩) none).cut pB (b : Int) = (0, al Q (r3 a ⟨rp b, b, true⟩) none) := (al_cut none pB_ne (by rw [hB]; rfl) (by rw [oB, rp_len]; omega)).trans (by
    rw [oB, uB]
    show (0, al Q (r3 a ⟨(rp (Q - a)).take b, b, true⟩) none) = _
    have : (rp (Q - a)).take b = rp b := by unfold rp; rw [List.take_replicate, Nat.min_eq_left hb]
    rw [this])
  have gA : ∀ f, alg (r3 a f) pa = [(pC, ⟨[], 0, false⟩), (pB, f)] := fun f => by simp [alg, r3, nCa, nBa]
  have e6 : (al Q (r3 a ⟨rp b, b, true⟩) none).ren pa pB = (0, al Q [(pC, ⟨[], 0, false⟩), (pB, sy (rp a))] none) := (al_ren none pa_ne pB_ne (by rw [hA]; rfl)).trans (by
    rw [oA, gA]
    have : alu [(pC, ⟨[], 0, false⟩), (pB, ⟨rp b, b, true⟩)] pB ⟨rp a, (rp a).length, true⟩ = [(pC, ⟨[], 0, false⟩), (pB, sy (rp a))] := by simp [alu, alp, nCB.symm, sy]
    rw [this]; rfl)
  have n5 : (([(pC, (⟨[], 0, false⟩ : Fi)), (pB, sy (rp a))] : Fl).map (·.1)).Nodup := by
    show [pC, pB].Nodup
    simp only [List.nodup_cons, List.mem_cons, List.not_mem_nil, or_false, not_false_eq_true, List.nodup_nil, and_true]
    exact nCB
  have e7 : (al Q [(pC, ⟨[], 0, false⟩), (pB, sy (rp a))] none).rem pB = (0, al Q [(pC, ⟨[], 0, false⟩)] none) := (al_rem none pB_ne (alf_some (by simp))).trans (by
    have : alg [(pC, ⟨[], 0, false⟩), (pB, sy (rp a))] pB = [(pC, ⟨[], 0, false⟩)] := by simp [alg, nCB]
    rw [this]; rfl)
  have nX : pX ∉ (([(pC, (⟨[], 0, false⟩ : Fi))] : Fl).map (·.1)) := by simp only [List.map_cons, List.map_nil, List.mem_singleton]; exact nXC
  have e8 : (al Q [(pC, ⟨[], 0, false⟩)] none).app pX (rp Q) = (0, al Q [(pX, ⟨rp Q, 0, false⟩), (pC, ⟨[], 0, false⟩)] none) := (al_app none (by simp) pX_ne (by simp [als, rp_len])).trans (by rw [alo_new nX, alu_new nX]; rfl)
  refine ⟨_, _, _, _, _, _, _, rfl, e1, e2, (al_used _ _ _ n2).trans u2, e3, e4, e5, (al_used _ _ _ (r3_nodup _ _)).trans (by rw [u3, rp_len]; omega), e6, (al_used _ _ _ n5).trans (by simp [als, sy, rp_len]), e7, (al_used _ _ _ (by simp)).trans (by simp [als]), ?_, e8, (al_used _ _ _ ?_).trans (by simp [als, rp_len]), rfl, rfl, rfl, rfl, rfl, rfl, rfl⟩
  · unfold Dk.lst
    have : srt (al Q [(pC, ⟨[], 0, false⟩)] none).ks = [tol pC] := srt_eq (show [tol pC].Perm ([pC].map tol) by decide) (by decide)
    rw [this]
    simp only [List.map_cons, List.map_nil, mk_tol]
  · show [pX, pC].Nodup
    simp only [List.nodup_cons, List.mem_cons, List.not_mem_nil, or_false, not_false_eq_true, List.nodup_nil, and_true]
    exact nXC
end Go.Proofs.Ytkokgbmeienokaa
