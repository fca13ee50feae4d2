/- BinPlays: the walk. -/
import Derived.Test.YtccamciijpmkjaaB16
import Derived.Test.YtccamciijpmkjaaSc
import Derived.Test.YtccamciijpmkjaaOwn
set_option linter.unusedVariables false
set_option linter.unusedSimpArgs false
namespace Go.Proofs.Ytccamciijpmkjaa
open Go.RowKit

theorem within13_n (v n : Int) (hn : 1 ≤ n) (h1 : n ≤ 9223372036854775807) : ∃ q : Nat, (q : Int) < n ∧ ∀ W, Calls Try.prog 13 #[.int .i64 v, .int .i64 n] W fun e w' => e = .returned (.int .i64 (q : Nat)) ∧ W = w' := by
  have p0 := Int.emod_nonneg v (show n ≠ 0 by omega)
  have p1 := Int.emod_lt_of_pos v (show 0 < n by omega)
  refine ⟨(v % n).toNat, by omega, fun w => ?_⟩
  rw [show (((v % n).toNat : Nat) : Int) = v % n by omega]
  obtain ⟨t1, t2, t3, t4, t5, t6⟩ := tmod_facts v n hn
  have c0 : (n == 0) = false := by rw [beq_eq_false_iff_ne]; omega
  have c1 : ¬ n < 1 := by omega
  by_cases h : v.tmod n < 0
  · have e := t1 h
    have HE := Lib.hid e
    clear e t1 t2 p0 p1
    go_enter Try.func13, Try.ntmps13
    go_wp2
    go_ret
    exact ⟨ret_int (by rw [HE.out]), rfl⟩
  · have e := t2 (by omega)
    have HE := Lib.hid e
    clear e t1 t2 p0 p1
    go_enter Try.func13, Try.ntmps13
    go_wp2
    go_ret
    exact ⟨ret_int (by rw [HE.out]), rfl⟩

/-- What the law's boxes are. -/
def Rng (x : Bx) : Prop := (x.f = sf ∨ x.f = sg) ∧ (x.e = sx ∨ x.e = sy) ∧ 1 ≤ x.n ∧ x.n ≤ 3
def code (x : Bx) : Nat := (if x.f = sf then 0 else 6) + (if x.e = sx then 0 else 3) + (x.n - 1).toNat
theorem sf_sg : sg ≠ sf := by intro h; have := congrArg (fun b => b.data[0]?) h; simp at this
theorem sx_sy : sy ≠ sx := by intro h; have := congrArg (fun b => b.data[0]?) h; simp at this
theorem sz_sf : sz ≠ sf := by intro h; have := congrArg (fun b => b.data[0]?) h; simp at this
theorem sz_sg : sz ≠ sg := by intro h; have := congrArg (fun b => b.data[0]?) h; simp at this
theorem code_lt {x : Bx} (h : Rng x) : code x < 12 := by
  obtain ⟨_, _, h1, h2⟩ := h
  unfold code
  split <;> split <;> omega
theorem code_eq {x y : Bx} (hx : Rng x) (hy : Rng y) (h : code x = code y) : x.f = y.f ∧ x.e = y.e ∧ x.n = y.n := by
  obtain ⟨f1, e1, n1, m1⟩ := hx
  obtain ⟨f2, e2, n2, m2⟩ := hy
  unfold code at h
  have a := sf_sg
  have b := sx_sy
  rcases f1 with f1 | f1 <;> rcases f2 with f2 | f2 <;> rcases e1 with e1 | e1 <;> rcases e2 with e2 | e2 <;> rw [f1, f2, e1, e2] at h ⊢ <;> simp [a, b] at h ⊢ <;> omega
theorem rng_len {l : List Bx} (hu : Uni l) (hr : ∀ x ∈ l, Rng x) : l.length ≤ 12 := by
  refine few code 12 l ?_ (fun x hx => code_lt (hr x hx))
  unfold Uni at hu
  rw [List.pairwise_iff_getElem] at hu ⊢
  intro i j hi hj hij h
  exact hu i j hi hj hij (code_eq (hr _ (List.getElem_mem hi)) (hr _ (List.getElem_mem hj)) h)

/-- Both bins, and the law's own run of them. -/
structure Bp (w wr : World) (g r : Nat) (O P : Nat → Prop) (l : List Bx) : Prop where
  cr : BinAt wr g O (allR l)
  rf : RbAt wr r P l
  un : Uni l
  rg : ∀ x ∈ l, Rng x
  kp : Kp0 w wr
  lo : ∀ i, O i → w.heap.size ≤ i ∧ i < wr.heap.size
  lp : ∀ i, P i → w.heap.size ≤ i ∧ i < wr.heap.size
  ap : ∀ i, O i → ¬ P i
theorem Bp.then0 {w wr W : World} {g r : Nat} {O P : Nat → Prop} {l : List Bx} (h : Bp w wr g r O P l) (k : Kp0 wr W) : Bp w W g r O P l :=
  ⟨h.cr.kp k (fun _ _ x => x), h.rf.kp0 k, h.un, h.rg, h.kp.then0 k, bkeep h.lo k, bkeep h.lp k, h.ap⟩
theorem Bp.len {w wr : World} {g r : Nat} {O P : Nat → Prop} {l : List Bx} (h : Bp w wr g r O P l) : l.length ≤ 12 ∧ (allR l).length ≤ 12 := by
  have := rng_len h.un h.rg
  rw [allR_len]; exact ⟨this, this⟩
theorem Bp.turn {w wr w2 w3 : World} {g r : Nat} {O P O' P' : Nat → Prop} {l l' : List Bx} (h : Bp w wr g r O P l) (C : BinAt w2 g O' (allR l')) (k2 : Kp O wr w2) (hO : ∀ i, O' i → O i ∨ (wr.heap.size ≤ i ∧ i < w2.heap.size))
    (R : RbAt w3 r P' l') (k3 : Kp P w2 w3) (hP : ∀ i, P' i → P i ∨ (w2.heap.size ≤ i ∧ i < w3.heap.size)) (un : Uni l') (rg : ∀ x ∈ l', Rng x) : Bp w w3 g r O' P' l' := by
  have s2 := k2.size
  have s3 := k3.size
  have hO' : ∀ i, O' i → w.heap.size ≤ i ∧ i < w2.heap.size ∧ ¬ P i := fun i hi => by
    rcases hO i hi with e | e
    · have := h.lo i e; exact ⟨by omega, by omega, h.ap i e⟩
    · have := h.kp.size; exact ⟨by omega, by omega, fun hp => by have := h.lp i hp; omega⟩
  refine ⟨C.kp k3 (fun i hi => (hO' i hi).2.2), R, un, rg, (h.kp.trans k2 (fun i hi e => by have := h.lo i e; omega)).trans k3 (fun i hi e => by have := h.lp i e; omega), fun i hi => by have := hO' i hi; omega, fun i hi => ?_, fun i hi hp => ?_⟩
  · rcases hP i hi with e | e
    · have := h.lp i e; omega
    · have := h.kp.size; omega
  · have h1 := hO' i hi
    rcases hP i hp with e | e
    · exact h1.2.2 e
    · omega

set_option maxRecDepth 100000 in
set_option maxHeartbeats 8000000 in
theorem binPlays_c (A : Option Addr) (len cap : Nat) (V : Nat → Nat → Int) (v1 v2 : Int) (w : World) (hs : Sl w A len cap 5 (fun i j => .int .i64 (V i j))) :
    Calls Try.prog 11 #[.slice A len cap, .int .i64 v1, .int .i64 v2] w fun e w' => e = .returned (.bool true) ∧ Kp0 w w' := by
  obtain ⟨hl, hc, hz⟩ := hs
  go_enter Try.func11, Try.ntmps11
  go_wp2_with fail
  refine (bin_new_c w).mono ?_
  rintro e w1 ⟨rfl, C0, K0⟩
  have hg1 : w.heap.size < w1.heap.size := C0.lt
  have ka : Kp0 w1 (w1.alloc (.cells #[.slice none 0 0] 72)) := (Kp.refl _ _).alloc _
  have L0 : Bp w (w1.alloc (.cells #[.slice none 0 0] 72)) w.heap.size w1.heap.size (· = w.heap.size) (· = w1.heap.size) [] :=
    ⟨C0.kp ka (fun _ _ x => x), ⟨rfl, _, Blk.new _ _ _, World.ownsRow_nil _ _ _ _, fun i hi => by simp [Value.ownBlock] at hi⟩, List.Pairwise.nil, fun x hx => by simp at hx, K0.then0 ka,
     fun i e => by subst e; have := ka.size; omega, fun i e => by subst e; simp; omega, fun i e h => by omega⟩
  clear ka C0 K0
  generalize hgg : w.heap.size = g at L0 hg1 ⊢
  clear hgg
  go_wp2_with fail
  go_loopw [9] (fun s9 wr => ∃ (I : Nat) (l : List Bx) (O P : Nat → Prop), I ≤ 24 ∧ I ≤ len ∧ s9 = .int .i64 (I : Nat) ∧ Bp w wr g w1.heap.size O P l) (fun s9 _ => (24 - intOf s9).toNat)
  case atStart => exact ⟨0, [], _, _, by simp, by simp, rfl, L0⟩
  case round =>
    clear L0 hg1
    obtain ⟨I, l, O, P, h24, hlen, rfl, L⟩ := hrel
    generalize w1.heap.size = r at L ⊢
    by_cases hlt : I < 24 ∧ I < len
    · obtain ⟨i9, i1⟩ := hlt
      have i9' : (I : Int) < 24 := by omega
      have i1' : (I : Int) < (len : Int) := by omega
      have i0 : (0 : Int) ≤ (I : Int) := by omega
      have hz' := hz.resolve_left (by omega)
      obtain ⟨b, off, rfl, hcell⟩ := hz'
      clear hz
      have hb : b < w.heap.size := World.block_lt_of_cell? w ⟨b, _, none⟩ (hcell I i1 0 (by omega))
      have cc : ∀ j, j < 5 → wr.cell? ⟨b, off + (I * 5 + j), none⟩ = some (.int .i64 (V I j)) := fun j hj => cell_kp0 L.kp hb (hcell I i1 j hj)
      have c0 : wr.cell? ⟨b, off + I * 5, none⟩ = some (.int .i64 (V I 0)) := cc 0 (by omega)
      have c1 : wr.cell? ⟨b, off + I * 5 + 1, none⟩ = some (.int .i64 (V I 1)) := cc 1 (by omega)
      have c2 : wr.cell? ⟨b, off + I * 5 + 2, none⟩ = some (.int .i64 (V I 2)) := cc 2 (by omega)
      have c3 : wr.cell? ⟨b, off + I * 5 + 3, none⟩ = some (.int .i64 (V I 3)) := cc 3 (by omega)
      have c4 : wr.cell? ⟨b, off + I * 5 + 4, none⟩ = some (.int .i64 (V I 4)) := cc 4 (by omega)
      clear cc hcell
      have ka : Kp0 wr (wr.alloc (.cells #[.int .i64 (V I 0), .int .i64 (V I 1), .int .i64 (V I 2), .int .i64 (V I 3), .int .i64 (V I 4)] 59)) := (Kp.refl _ _).alloc _
      have BA : Blk (wr.alloc (.cells #[.int .i64 (V I 0), .int .i64 (V I 1), .int .i64 (V I 2), .int .i64 (V I 3), .int .i64 (V I 4)] 59)) wr.heap.size #[.int .i64 (V I 0), .int .i64 (V I 1), .int .i64 (V I 2), .int .i64 (V I 3), .int .i64 (V I 4)] 59 := blk_new _ _ rfl
      go_upto_region 8 with fail
      clear c0 c1 c2 c3 c4
      have LA := L.then0 ka
      clear L ka
      generalize wr.heap.size = ga at BA ⊢
      generalize wr.alloc (.cells #[.int .i64 (V I 0), .int .i64 (V I 1), .int .i64 (V I 2), .int .i64 (V I 3), .int .i64 (V I 4)] 59) = wa at LA BA ⊢
      go_cut [11, 12, 13, 14] from 21 to 104 (fun s11 s12 s13 s14 wx => ∃ (f' e' : ByteArray) (n' s' : Int), s11 = .string f' ∧ s12 = .string e' ∧ s13 = .int .i64 n' ∧ s14 = .int .i64 s' ∧ Rng ⟨f', e', n', s'⟩ ∧ Kp0 wa wx)
      case first =>
        obtain ⟨q1, hq1l, hq1⟩ := within13_n (V I 1) 2 (by omega) (by omega)
        obtain ⟨q2, hq2l, hq2⟩ := within13_n (V I 2) 2 (by omega) (by omega)
        obtain ⟨q3, hq3l, hq3⟩ := within13_n (V I 3) 3 (by omega) (by omega)
        obtain ⟨q4, hq4l, hq4⟩ := within13_n (V I 4) 20 (by omega) (by omega)
        have hF1 : ∃ F1 : ByteArray, (F1 = sf ∨ F1 = sg) ∧ ∀ W D, Blk W D #[.string { data := #[102] }, .string { data := #[103] }] 9 → W.cell? ⟨D, q1, none⟩ = some (.string F1) := by
          obtain rfl | rfl : q1 = 0 ∨ q1 = 1 := by omega
          · exact ⟨_, .inl rfl, fun W D B => by rw [B.cell]; rfl⟩
          · exact ⟨_, .inr rfl, fun W D B => by rw [B.cell]; rfl⟩
        have hF2 : ∃ F2 : ByteArray, (F2 = sx ∨ F2 = sy) ∧ ∀ W D, Blk W D #[.string { data := #[120] }, .string { data := #[121] }] 9 → W.cell? ⟨D, q2, none⟩ = some (.string F2) := by
          obtain rfl | rfl : q2 = 0 ∨ q2 = 1 := by omega
          · exact ⟨_, .inl rfl, fun W D B => by rw [B.cell]; rfl⟩
          · exact ⟨_, .inr rfl, fun W D B => by rw [B.cell]; rfl⟩
        obtain ⟨F1, hf1, hF1⟩ := hF1
        obtain ⟨F2, hf2, hF2⟩ := hF2
        obtain ⟨n3, hn3⟩ : ∃ n3 : Int, n3 = 1 + (q3 : Int) := ⟨_, rfl⟩
        have hw3 : IntKind.i64.wrap (1 + (q3 : Int)) = n3 := by rw [IntKind.wrap_i64]; omega
        have HR := Lib.hid (show Rng ⟨F1, F2, n3, (q4 : Nat)⟩ from ⟨hf1, hf2, by show 1 ≤ n3; omega, by show n3 ≤ 3; omega⟩)
        have hS : ∀ W, Kp0 wa W → (W.cell? ⟨ga, 1, none⟩ = some (.int .i64 (V I 1)) ∧ W.cell? ⟨ga, 2, none⟩ = some (.int .i64 (V I 2)) ∧ W.cell? ⟨ga, 3, none⟩ = some (.int .i64 (V I 3)) ∧ W.cell? ⟨ga, 4, none⟩ = some (.int .i64 (V I 4))) := fun W k => by
          have B := BA.kp0 k
          exact ⟨by rw [B.cell]; rfl, by rw [B.cell]; rfl, by rw [B.cell]; rfl, by rw [B.cell]; rfl⟩
        have q1i : (0 : Int) ≤ (q1 : Int) := by omega
        have q2i : (0 : Int) ≤ (q2 : Int) := by omega
        clear LA BA hf1 hf2 hn3
        refine heldStart (by kernel_rfl) (fun W kx => hS _ kx) (fun W0 k0_0 hH0 => ?_)
        have zz0 := k0_0.size
        refine wpAnyH_take (i := 1) (v := ?_) rfl (by kernel_rfl) (by kernel_rfl) (by kernel_rfl) (fun _ _ _ h => h) (Or.inl ⟨by rfl, ?_⟩) hH0 ?_
        rotate_left
        · (intro w hSw; (try dsimp only at hSw); go_simp); first | done | with_reducible rfl
        rotate_left
        try simp only [Act.put, List.getElem_toArray, List.getElem_cons_zero, List.getElem_cons_succ, List.setIfInBounds_toArray, List.set_cons_zero, List.set_cons_succ]
        refine wpAnyH_take (i := 2) (v := ?_) rfl (by kernel_rfl) (by kernel_rfl) (by kernel_rfl) (fun _ _ _ h => h) (Or.inl ⟨by rfl, ?_⟩) hH0 ?_
        rotate_left
        · (intro w hSw; (try dsimp only at hSw); go_simp); first | done | with_reducible rfl
        rotate_left
        try simp only [Act.put, List.getElem_toArray, List.getElem_cons_zero, List.getElem_cons_succ, List.setIfInBounds_toArray, List.set_cons_zero, List.set_cons_succ]
        refine wpAnyH_take (i := 7) (v := ?_) rfl (by kernel_rfl) (by kernel_rfl) (by kernel_rfl) (fun _ _ _ h => h) (Or.inl ⟨by rfl, ?_⟩) hH0 ?_
        rotate_left
        · (intro w hSw; (try dsimp only at hSw); go_simp); first | done | with_reducible rfl
        rotate_left
        try simp only [Act.put, List.getElem_toArray, List.getElem_cons_zero, List.getElem_cons_succ, List.setIfInBounds_toArray, List.set_cons_zero, List.set_cons_succ]
        refine wpAnyH_take (i := 8) (v := ?_) rfl (by kernel_rfl) (by kernel_rfl) (by kernel_rfl) (fun _ _ _ h => h) (Or.inl ⟨by rfl, ?_⟩) hH0 ?_
        rotate_left
        · (intro w hSw; (try dsimp only at hSw); go_simp); first | done | with_reducible rfl
        rotate_left
        try simp only [Act.put, List.getElem_toArray, List.getElem_cons_zero, List.getElem_cons_succ, List.setIfInBounds_toArray, List.set_cons_zero, List.set_cons_succ]
        refine wpAnyH_take (i := 12) (v := ?_) rfl (by kernel_rfl) (by kernel_rfl) (by kernel_rfl) (fun _ _ _ h => h) (Or.inl ⟨by rfl, ?_⟩) hH0 ?_
        rotate_left
        · (intro w hSw; (try dsimp only at hSw); go_simp); first | done | with_reducible rfl
        rotate_left
        try simp only [Act.put, List.getElem_toArray, List.getElem_cons_zero, List.getElem_cons_succ, List.setIfInBounds_toArray, List.set_cons_zero, List.set_cons_succ]
        refine wpAnyH_take (i := 13) (v := ?_) rfl (by kernel_rfl) (by kernel_rfl) (by kernel_rfl) (fun _ _ _ h => h) (Or.inl ⟨by rfl, ?_⟩) hH0 ?_
        rotate_left
        · (intro w hSw; (try dsimp only at hSw); go_simp); first | done | with_reducible rfl
        rotate_left
        try simp only [Act.put, List.getElem_toArray, List.getElem_cons_zero, List.getElem_cons_succ, List.setIfInBounds_toArray, List.set_cons_zero, List.set_cons_succ]
        refine wpAnyH_take (i := 16) (v := ?_) rfl (by kernel_rfl) (by kernel_rfl) (by kernel_rfl) (fun _ _ _ h => h) (Or.inl ⟨by rfl, ?_⟩) hH0 ?_
        rotate_left
        · (intro w hSw; (try dsimp only at hSw); go_simp); first | done | with_reducible rfl
        rotate_left
        try simp only [Act.put, List.getElem_toArray, List.getElem_cons_zero, List.getElem_cons_succ, List.setIfInBounds_toArray, List.set_cons_zero, List.set_cons_succ]
        refine wpAnyH_take (i := 17) (v := ?_) rfl (by kernel_rfl) (by kernel_rfl) (by kernel_rfl) (fun _ _ _ h => h) (Or.inl ⟨by rfl, ?_⟩) hH0 ?_
        rotate_left
        · (intro w hSw; (try dsimp only at hSw); go_simp); first | done | with_reducible rfl
        rotate_left
        try simp only [Act.put, List.getElem_toArray, List.getElem_cons_zero, List.getElem_cons_succ, List.setIfInBounds_toArray, List.set_cons_zero, List.set_cons_succ]
        refine wpAnyH_call (i := 3) (v := .int .i64 (q1 : Nat)) rfl (by kernel_rfl) (by kernel_rfl) (by kernel_rfl) (fun _ _ _ h => h) ⟨by rfl, fun w hSw => ?_⟩ hH0 ?_
        · unfold Oper.quietAt; (try dsimp only at hSw); go_simp; exact (hq1 w).mono (fun _ _ h => ⟨h.1, h.2.symm⟩)
        try simp only [Act.put, List.getElem_toArray, List.getElem_cons_zero, List.getElem_cons_succ, List.setIfInBounds_toArray, List.set_cons_zero, List.set_cons_succ]
        refine wpAnyH_call (i := 9) (v := .int .i64 (q2 : Nat)) rfl (by kernel_rfl) (by kernel_rfl) (by kernel_rfl) (fun _ _ _ h => h) ⟨by rfl, fun w hSw => ?_⟩ hH0 ?_
        · unfold Oper.quietAt; (try dsimp only at hSw); go_simp; exact (hq2 w).mono (fun _ _ h => ⟨h.1, h.2.symm⟩)
        try simp only [Act.put, List.getElem_toArray, List.getElem_cons_zero, List.getElem_cons_succ, List.setIfInBounds_toArray, List.set_cons_zero, List.set_cons_succ]
        refine wpAnyH_call (i := 14) (v := .int .i64 (q3 : Nat)) rfl (by kernel_rfl) (by kernel_rfl) (by kernel_rfl) (fun _ _ _ h => h) ⟨by rfl, fun w hSw => ?_⟩ hH0 ?_
        · unfold Oper.quietAt; (try dsimp only at hSw); go_simp; exact (hq3 w).mono (fun _ _ h => ⟨h.1, h.2.symm⟩)
        try simp only [Act.put, List.getElem_toArray, List.getElem_cons_zero, List.getElem_cons_succ, List.setIfInBounds_toArray, List.set_cons_zero, List.set_cons_succ]
        refine wpAnyH_take (i := 15) (v := ?_) rfl (by kernel_rfl) (by kernel_rfl) (by kernel_rfl) (fun _ _ _ h => h) (Or.inl ⟨by rfl, ?_⟩) hH0 ?_
        rotate_left
        · (intro w hSw; (try dsimp only at hSw); go_simp); first | done | with_reducible rfl
        rotate_left
        try simp only [Act.put, List.getElem_toArray, List.getElem_cons_zero, List.getElem_cons_succ, List.setIfInBounds_toArray, List.set_cons_zero, List.set_cons_succ]
        refine wpAnyH_call (i := 18) (v := .int .i64 (q4 : Nat)) rfl (by kernel_rfl) (by kernel_rfl) (by kernel_rfl) (fun _ _ _ h => h) ⟨by rfl, fun w hSw => ?_⟩ hH0 ?_
        · unfold Oper.quietAt; (try dsimp only at hSw); go_simp; exact (hq4 w).mono (fun _ _ h => ⟨h.1, h.2.symm⟩)
        try simp only [Act.put, List.getElem_toArray, List.getElem_cons_zero, List.getElem_cons_succ, List.setIfInBounds_toArray, List.set_cons_zero, List.set_cons_succ]
        refine wpAnyH_ready (rs := [0, 6]) (by kernel_rfl) (by simp) ?_
        refine (AllReadyH.cons rfl (fun K hK => ?_) (AllReadyH.cons rfl (fun K hK => ?_) AllReadyH.nil))
        · go_simp
          refine heldAlloc hK.out (fun W kx bx => (hS _ (k0_0.then0 kx))) (fun W1 kx1 bx1 hH1 => ?_)
          clear hK K
          have k1_0 := k0_0.then0 kx1
          have zz1 : W0.heap.size < W1.heap.size := bx1.lt
          have hx1 : ∀ W, Kp0 W1 W → W.cell? ⟨W0.heap.size, q1, none⟩ = some (.string F1) := fun W kz => hF1 _ _ (bx1.kp0 kz)
          have kr1 : Kp0 W1 W1 := Kp.refl _ _
          refine wpAnyH_add (X := fun W => W.cell? ⟨W0.heap.size, q1, none⟩ = some (.string F1)) ?_
          have hG1 := And.intro hH1 (hx1 _ kr1)
          refine wpAnyH_take (i := 4) (v := ?_) rfl (by kernel_rfl) (by kernel_rfl) (by kernel_rfl) (fun _ _ _ h => h) (Or.inl ⟨by rfl, ?_⟩) hG1 ?_
          rotate_left
          · (intro w hSw; (try dsimp only at hSw); go_simp); first | done | with_reducible rfl
          rotate_left
          try simp only [Act.put, List.getElem_toArray, List.getElem_cons_zero, List.getElem_cons_succ, List.setIfInBounds_toArray, List.set_cons_zero, List.set_cons_succ]
          refine wpAnyH_take (i := 5) (v := ?_) rfl (by kernel_rfl) (by kernel_rfl) (by kernel_rfl) (fun _ _ _ h => h) (Or.inl ⟨by rfl, ?_⟩) hG1 ?_
          rotate_left
          · (intro w hSw; (try dsimp only at hSw); go_simp); first | done | with_reducible rfl
          rotate_left
          try simp only [Act.put, List.getElem_toArray, List.getElem_cons_zero, List.getElem_cons_succ, List.setIfInBounds_toArray, List.set_cons_zero, List.set_cons_succ]
          refine wpAnyH_take (i := 19) (v := ?_) rfl (by kernel_rfl) (by kernel_rfl) (by kernel_rfl) (fun _ _ _ h => h) (Or.inl ⟨by rfl, ?_⟩) hG1 ?_
          rotate_left
          · (intro w hSw; (try dsimp only at hSw); go_simp); first | done | with_reducible rfl
          rotate_left
          try simp only [Act.put, List.getElem_toArray, List.getElem_cons_zero, List.getElem_cons_succ, List.setIfInBounds_toArray, List.set_cons_zero, List.set_cons_succ]
          refine wpAnyH_ready (rs := [6]) (by kernel_rfl) (by simp) ?_
          refine (AllReadyH.cons rfl (fun K hK => ?_) AllReadyH.nil)
          go_simp
          refine heldAlloc hK.out (fun W kx bx => ⟨(hS _ (k1_0.then0 kx)), hx1 _ (kr1.then0 kx)⟩) (fun W2 kx2 bx2 hH2 => ?_)
          clear hK K
          have k2_0 := k1_0.then0 kx2
          have k2_1 := kr1.then0 kx2
          have zz2 : W1.heap.size < W2.heap.size := bx2.lt
          have hx2 : ∀ W, Kp0 W2 W → W.cell? ⟨W1.heap.size, q2, none⟩ = some (.string F2) := fun W kz => hF2 _ _ (bx2.kp0 kz)
          have kr2 : Kp0 W2 W2 := Kp.refl _ _
          refine wpAnyH_add (X := fun W => W.cell? ⟨W1.heap.size, q2, none⟩ = some (.string F2)) ?_
          have hG2 := And.intro hH2 (hx2 _ kr2)
          refine wpAnyH_take (i := 10) (v := ?_) rfl (by kernel_rfl) (by kernel_rfl) (by kernel_rfl) (fun _ _ _ h => h) (Or.inl ⟨by rfl, ?_⟩) hG2 ?_
          rotate_left
          · (intro w hSw; (try dsimp only at hSw); go_simp); first | done | with_reducible rfl
          rotate_left
          try simp only [Act.put, List.getElem_toArray, List.getElem_cons_zero, List.getElem_cons_succ, List.setIfInBounds_toArray, List.set_cons_zero, List.set_cons_succ]
          refine wpAnyH_take (i := 11) (v := ?_) rfl (by kernel_rfl) (by kernel_rfl) (by kernel_rfl) (fun _ _ _ h => h) (Or.inl ⟨by rfl, ?_⟩) hG2 ?_
          rotate_left
          · (intro w hSw; (try dsimp only at hSw); go_simp); first | done | with_reducible rfl
          rotate_left
          try simp only [Act.put, List.getElem_toArray, List.getElem_cons_zero, List.getElem_cons_succ, List.setIfInBounds_toArray, List.set_cons_zero, List.set_cons_succ]
          refine wpAnyH_take (i := 20) (v := ?_) rfl (by kernel_rfl) (by kernel_rfl) (by kernel_rfl) (fun _ _ _ h => h) (Or.inl ⟨by rfl, ?_⟩) hG2 ?_
          rotate_left
          · (intro w hSw; (try dsimp only at hSw); go_simp); first | done | with_reducible rfl
          rotate_left
          try simp only [Act.put, List.getElem_toArray, List.getElem_cons_zero, List.getElem_cons_succ, List.setIfInBounds_toArray, List.set_cons_zero, List.set_cons_succ]
          refine wpAnyH_take (i := 21) (v := ?_) rfl (by kernel_rfl) (by kernel_rfl) (by kernel_rfl) (fun _ _ _ h => h) (Or.inl ⟨by rfl, ?_⟩) hG2 ?_
          rotate_left
          · (intro w hSw; (try dsimp only at hSw); go_simp); first | done | with_reducible rfl
          rotate_left
          try simp only [Act.put, List.getElem_toArray, List.getElem_cons_zero, List.getElem_cons_succ, List.setIfInBounds_toArray, List.set_cons_zero, List.set_cons_succ]
          refine wpAnyH_take (i := 22) (v := ?_) rfl (by kernel_rfl) (by kernel_rfl) (by kernel_rfl) (fun _ _ _ h => h) (Or.inl ⟨by rfl, ?_⟩) hG2 ?_
          rotate_left
          · (intro w hSw; (try dsimp only at hSw); go_simp); first | done | with_reducible rfl
          rotate_left
          try simp only [Act.put, List.getElem_toArray, List.getElem_cons_zero, List.getElem_cons_succ, List.setIfInBounds_toArray, List.set_cons_zero, List.set_cons_succ]
          refine wpAnyH_done (by kernel_rfl) ?_ _
          go_wp2_with fail
          go_meet
          exact ⟨_, _, _, _, rfl, rfl, rfl, rfl, HR.out, k2_0⟩
        · go_simp
          refine heldAlloc hK.out (fun W kx bx => (hS _ (k0_0.then0 kx))) (fun W1 kx1 bx1 hH1 => ?_)
          clear hK K
          have k1_0 := k0_0.then0 kx1
          have zz1 : W0.heap.size < W1.heap.size := bx1.lt
          have hx1 : ∀ W, Kp0 W1 W → W.cell? ⟨W0.heap.size, q2, none⟩ = some (.string F2) := fun W kz => hF2 _ _ (bx1.kp0 kz)
          have kr1 : Kp0 W1 W1 := Kp.refl _ _
          refine wpAnyH_add (X := fun W => W.cell? ⟨W0.heap.size, q2, none⟩ = some (.string F2)) ?_
          have hG1 := And.intro hH1 (hx1 _ kr1)
          refine wpAnyH_take (i := 10) (v := ?_) rfl (by kernel_rfl) (by kernel_rfl) (by kernel_rfl) (fun _ _ _ h => h) (Or.inl ⟨by rfl, ?_⟩) hG1 ?_
          rotate_left
          · (intro w hSw; (try dsimp only at hSw); go_simp); first | done | with_reducible rfl
          rotate_left
          try simp only [Act.put, List.getElem_toArray, List.getElem_cons_zero, List.getElem_cons_succ, List.setIfInBounds_toArray, List.set_cons_zero, List.set_cons_succ]
          refine wpAnyH_take (i := 11) (v := ?_) rfl (by kernel_rfl) (by kernel_rfl) (by kernel_rfl) (fun _ _ _ h => h) (Or.inl ⟨by rfl, ?_⟩) hG1 ?_
          rotate_left
          · (intro w hSw; (try dsimp only at hSw); go_simp); first | done | with_reducible rfl
          rotate_left
          try simp only [Act.put, List.getElem_toArray, List.getElem_cons_zero, List.getElem_cons_succ, List.setIfInBounds_toArray, List.set_cons_zero, List.set_cons_succ]
          refine wpAnyH_ready (rs := [0]) (by kernel_rfl) (by simp) ?_
          refine (AllReadyH.cons rfl (fun K hK => ?_) AllReadyH.nil)
          go_simp
          refine heldAlloc hK.out (fun W kx bx => ⟨(hS _ (k1_0.then0 kx)), hx1 _ (kr1.then0 kx)⟩) (fun W2 kx2 bx2 hH2 => ?_)
          clear hK K
          have k2_0 := k1_0.then0 kx2
          have k2_1 := kr1.then0 kx2
          have zz2 : W1.heap.size < W2.heap.size := bx2.lt
          have hx2 : ∀ W, Kp0 W2 W → W.cell? ⟨W1.heap.size, q1, none⟩ = some (.string F1) := fun W kz => hF1 _ _ (bx2.kp0 kz)
          have kr2 : Kp0 W2 W2 := Kp.refl _ _
          refine wpAnyH_add (X := fun W => W.cell? ⟨W1.heap.size, q1, none⟩ = some (.string F1)) ?_
          have hG2 := And.intro hH2 (hx2 _ kr2)
          refine wpAnyH_take (i := 4) (v := ?_) rfl (by kernel_rfl) (by kernel_rfl) (by kernel_rfl) (fun _ _ _ h => h) (Or.inl ⟨by rfl, ?_⟩) hG2 ?_
          rotate_left
          · (intro w hSw; (try dsimp only at hSw); go_simp); first | done | with_reducible rfl
          rotate_left
          try simp only [Act.put, List.getElem_toArray, List.getElem_cons_zero, List.getElem_cons_succ, List.setIfInBounds_toArray, List.set_cons_zero, List.set_cons_succ]
          refine wpAnyH_take (i := 5) (v := ?_) rfl (by kernel_rfl) (by kernel_rfl) (by kernel_rfl) (fun _ _ _ h => h) (Or.inl ⟨by rfl, ?_⟩) hG2 ?_
          rotate_left
          · (intro w hSw; (try dsimp only at hSw); go_simp); first | done | with_reducible rfl
          rotate_left
          try simp only [Act.put, List.getElem_toArray, List.getElem_cons_zero, List.getElem_cons_succ, List.setIfInBounds_toArray, List.set_cons_zero, List.set_cons_succ]
          refine wpAnyH_take (i := 19) (v := ?_) rfl (by kernel_rfl) (by kernel_rfl) (by kernel_rfl) (fun _ _ _ h => h) (Or.inl ⟨by rfl, ?_⟩) hG2 ?_
          rotate_left
          · (intro w hSw; (try dsimp only at hSw); go_simp); first | done | with_reducible rfl
          rotate_left
          try simp only [Act.put, List.getElem_toArray, List.getElem_cons_zero, List.getElem_cons_succ, List.setIfInBounds_toArray, List.set_cons_zero, List.set_cons_succ]
          refine wpAnyH_take (i := 20) (v := ?_) rfl (by kernel_rfl) (by kernel_rfl) (by kernel_rfl) (fun _ _ _ h => h) (Or.inl ⟨by rfl, ?_⟩) hG2 ?_
          rotate_left
          · (intro w hSw; (try dsimp only at hSw); go_simp); first | done | with_reducible rfl
          rotate_left
          try simp only [Act.put, List.getElem_toArray, List.getElem_cons_zero, List.getElem_cons_succ, List.setIfInBounds_toArray, List.set_cons_zero, List.set_cons_succ]
          refine wpAnyH_take (i := 21) (v := ?_) rfl (by kernel_rfl) (by kernel_rfl) (by kernel_rfl) (fun _ _ _ h => h) (Or.inl ⟨by rfl, ?_⟩) hG2 ?_
          rotate_left
          · (intro w hSw; (try dsimp only at hSw); go_simp); first | done | with_reducible rfl
          rotate_left
          try simp only [Act.put, List.getElem_toArray, List.getElem_cons_zero, List.getElem_cons_succ, List.setIfInBounds_toArray, List.set_cons_zero, List.set_cons_succ]
          refine wpAnyH_take (i := 22) (v := ?_) rfl (by kernel_rfl) (by kernel_rfl) (by kernel_rfl) (fun _ _ _ h => h) (Or.inl ⟨by rfl, ?_⟩) hG2 ?_
          rotate_left
          · (intro w hSw; (try dsimp only at hSw); go_simp); first | done | with_reducible rfl
          rotate_left
          try simp only [Act.put, List.getElem_toArray, List.getElem_cons_zero, List.getElem_cons_succ, List.setIfInBounds_toArray, List.set_cons_zero, List.set_cons_succ]
          refine wpAnyH_done (by kernel_rfl) ?_ _
          go_wp2_with fail
          go_meet
          exact ⟨_, _, _, _, rfl, rfl, rfl, rfl, HR.out, k2_0⟩

      case rest =>
      obtain ⟨f', e', n', s', rfl, rfl, rfl, rfl, hR, k9⟩ := hcut
      have HR := Lib.hid hR
      have L1 := LA.then0 k9
      have B1 := BA.kp0 k9
      clear LA BA k9 hR
      obtain ⟨q, hql, hq⟩ := within13_n (V I 0) 6 (by omega) (by omega)
      have d0 : wc.cell? ⟨ga, 0, none⟩ = some (.int .i64 (V I 0)) := by rw [B1.cell]; rfl
      have hlen12 := L1.len
      go_wp2_with fail
      refine (hq wc).mono ?_
      rintro e w' ⟨rfl, rfl⟩
      clear d0 hq B1
      go_upto_block 2 with fail
      go_cut [] from 21 to 104 (fun wy => ∃ (l' : List Bx) (O' P' : Nat → Prop), Bp w wy g r O' P' l')
      case first =>
        obtain hq3 | rfl | rfl : (q = 0 ∨ q = 1 ∨ q = 2 ∨ q = 3) ∨ q = 4 ∨ q = 5 := by omega
        · by_cases hth : ∃ x ∈ l, isB f' e' n' x = true
          · have h1 := add_there_c g O (allR l) f' e' n' s' wc L1.cr (by omega) (by obtain ⟨x, hx, hp⟩ := hth; exact ⟨x, (allR_mem l x).2 hx, hp⟩)
            have h2 := fun W (k : Kp0 wc W) => radd_there r P l f' e' n' s' W (L1.rf.kp0 k) (by omega) hth
            have HL := Lib.hid L1
            clear L1 hth
            rcases hq3 with rfl | rfl | rfl | rfl
            all_goals as_aux_lemma =>
              go_wp2_with fail
              refine h1.mono ?_
              rintro e w2 ⟨rfl, k2⟩
              go_wp2_with fail
              refine (h2 _ k2).mono ?_
              rintro e w3 ⟨rfl, k3⟩
              go_wp2_with fail
              go_meet
              exact ⟨l, O, P, (HL.out.then0 k2).then0 k3⟩
          · have hno : ∀ x ∈ l, isB f' e' n' x = false := fun x hx => by
              cases hb : isB f' e' n' x with
              | false => rfl
              | true => exact absurd ⟨x, hx, hb⟩ hth
            have h1 := add_new_c g O (allR l) f' e' n' s' wc L1.cr (le_up (allR_le l)) (by omega) (fun x hx => hno x ((allR_mem l x).1 hx))
            have h2 := fun W (R : RbAt W r P l) => radd_new r P l f' e' n' s' W R (by omega) hno
            have HU := Lib.hid (uni_snoc L1.un ⟨f', e', n', s'⟩ hno)
            have HL := Lib.hid L1
            clear L1 hth hno
            rcases hq3 with rfl | rfl | rfl | rfl
            all_goals as_aux_lemma =>
              go_wp2_with fail
              refine h1.mono ?_
              rintro e w2 ⟨rfl, O', C2, k2, hO'⟩
              have R2 := HL.out.rf.kp k2 (fun i hp ho => HL.out.ap i ho hp)
              go_wp2_with fail
              refine (h2 _ R2).mono ?_
              rintro e w3 ⟨rfl, P', R3, k3, hP'⟩
              go_wp2_with fail
              go_meet
              exact ⟨l ++ [⟨f', e', n', s'⟩], O', P', HL.out.turn (by rw [allR_snoc]; exact C2) k2 hO' R3 k3 hP' HU.out (fun x hx => by
                rcases List.mem_append.1 hx with hx | hx
                · exact HL.out.rg x hx
                · rw [List.mem_singleton] at hx; subst hx; exact HR.out)⟩
        · cases hi : l.findIdx? (isB f' e' n') with
          | none =>
            have hno : ∀ x ∈ l, isB f' e' n' x = false := by rw [List.findIdx?_eq_none_iff] at hi; exact hi
            have h1 := take_none_c g O (allR l) f' e' n' wc L1.cr (by omega) (fun x hx => hno x ((allR_mem l x).1 hx))
            have h2 := fun W (k : Kp0 wc W) => rtake_none r P l f' e' n' W (L1.rf.kp0 k) (by omega) hno
            have HL := Lib.hid L1
            clear L1 hno hi
            as_aux_lemma =>
              go_wp2_with fail
              refine h1.mono ?_
              rintro e w2 ⟨rfl, k2⟩
              go_wp2_with fail
              refine (h2 _ k2).mono ?_
              rintro e w3 ⟨rfl, k3⟩
              go_wp2_with fail
              go_meet
              exact ⟨l, O, P, (HL.out.then0 k2).then0 k3⟩
          | some j =>
            obtain ⟨i, hii⟩ : ∃ i, (allR l).findIdx? (isB f' e' n') = some i := by
              cases h : (allR l).findIdx? (isB f' e' n') with
              | none => rw [(find_both l _).1 h] at hi; cases hi
              | some i => exact ⟨i, rfl⟩
            have h1 := take_some_c g O (allR l) f' e' n' i wc L1.cr (by omega) hii
            have h2 := fun W (R : RbAt W r P l) => rtake_some r P l f' e' n' j W R (by omega) hi
            obtain ⟨hb1, hb2⟩ := take_both L1.un hii hi
            rw [hb1] at h1
            have HU := Lib.hid hb2
            have HL := Lib.hid L1
            clear L1 hi hii hb1 hb2
            as_aux_lemma =>
              go_wp2_with fail
              refine h1.mono ?_
              rintro e w2 ⟨rfl, C2, k2⟩
              have R2 := HL.out.rf.kp k2 (fun i hp ho => HL.out.ap i ho hp)
              go_wp2_with fail
              refine (h2 _ R2).mono ?_
              rintro e w3 ⟨rfl, P', R3, k3, hP'⟩
              go_wp2_with fail
              go_meet
              exact ⟨l.eraseIdx j, O, P', HL.out.turn C2 k2 (fun i hi => .inl hi) R3 k3 hP' HU.out (fun x hx => HL.out.rg x (List.mem_of_mem_eraseIdx hx))⟩
        · have h1 := clone40_c g O (allR l) wc L1.cr (by omega)
          have hzz : ∀ x ∈ allR l, isB sz sz 1 x = false := fun x hx => by
            cases hb : isB sz sz 1 x with
            | false => rfl
            | true =>
              have h := (isB_iff.1 hb).1
              rcases (L1.rg x ((allR_mem l x).1 hx)).1 with e | e
              · exact absurd (h.symm.trans e) sz_sf
              · exact absurd (h.symm.trans e) sz_sg
          have h2 := fun W g2 O2 (C : BinAt W g2 O2 (allR l)) => add_new_c g2 O2 (allR l) sz sz 1 0 W C (le_up (allR_le l)) (by omega) hzz
          have hlen2 : (addB (allR l) ⟨sz, sz, 1, 0⟩).length ≤ 13 := by rw [addB_len]; omega
          have HL := Lib.hid L1
          clear L1 hzz
          generalize addB (allR l) ⟨sz, sz, 1, 0⟩ = l2 at h2 hlen2
          as_aux_lemma =>
          go_wp2_with fail
          refine h1.mono ?_
          rintro e w2 ⟨g2, O2, rfl, hg2, C2, k2, hO2⟩
          go_wp2_with fail
          refine (h2 w2 g2 O2 C2).mono ?_
          rintro e w3 ⟨rfl, O3, C3, k3, hO3⟩
          have s2 := k2.size
          have s3 := k3.size
          have K3 : Kp0 wc w3 := k2.trans k3 (fun i hi e => by have := hO2 i e; omega)
          have hO3' : ∀ i, O3 i → wc.heap.size ≤ i := fun i hi => by
            rcases hO3 i hi with e | e
            · have := hO2 i e; omega
            · omega
          have h3 : Calls Try.prog 39 #[pt g2, .string f', .string e', .int .i64 n'] w3 fun e' w' => ∃ b, e' = .returned (.bool b) ∧ Kp O3 w3 w' := by
            cases hf3 : l2.findIdx? (isB f' e' n') with
            | none =>
              rw [List.findIdx?_eq_none_iff] at hf3
              exact (take_none_c g2 O3 l2 f' e' n' w3 C3 (by omega) hf3).mono (fun _ _ h => ⟨false, h.1, h.2.mono (fun _ _ x => x.elim)⟩)
            | some i => exact (take_some_c g2 O3 l2 f' e' n' i w3 C3 (by omega) hf3).mono (fun _ _ h => ⟨true, h.1, h.2.2⟩)
          clear h1 h2 C2 C3 hO2 hO3
          go_wp2_with fail
          refine h3.mono ?_
          rintro e w4 ⟨b, rfl, k4⟩
          go_wp2_with fail
          go_meet
          exact ⟨l, O, P, HL.out.then0 (K3.trans k4 (fun i hi e => by have := hO3' i e; omega))⟩
      case rest =>
      obtain ⟨l', O', P', L2⟩ := hcut
      clear L1 hlen12 HR
      have hlen12 := L2.len
      have h1 := all37_c g O' (allR l') wc L2.cr (by omega)
      have h2 := fun W (k : Kp0 wc W) => rall45_c r P' l' W (L2.rf.kp0 k) (by omega)
      have HAL := Lib.hid (allR_len l')
      have HL := Lib.hid L2
      clear L2
      go_wp2_with fail
      refine h1.mono ?_
      rintro e w2 ⟨v3, rfl, o3, k2⟩
      go_wp2_with fail
      refine (h2 _ k2).mono ?_
      rintro e w3 ⟨v4, rfl, I4⟩
      have h3 := same44_c v3 v4 (allR l') (by omega) w3 (own_base (own_kp o3 I4.kp (fun _ _ x => x))) (by rw [HAL.out]; exact I4.ow)
      have K3 := k2.then0 I4.kp
      clear h1 h2 o3 I4
      go_wp2_with fail
      refine h3.mono ?_
      rintro e w4 ⟨rfl, k4⟩
      clear h3
      go_wp2_with fail
      go_roundw
      case rel => exact ⟨I + 1, l', O', P', by omega, by omega, by go_num, HL.out.then0 (K3.then0 k4)⟩
      case measure => simp [intOf]; omega
    · have hend : ((I : Int) < (len : Int) ∧ ¬ (I : Int) < 24) ∨ ¬ (I : Int) < (len : Int) := by omega
      have hlen12 := L.len
      clear hz hl hc hlt hlen
      have HL := Lib.hid L
      have HAL := Lib.hid (allR_len l)
      have hdl := due_le (allR l)
      clear L
      rcases hend with ⟨e1, e2⟩ | e1
      all_goals as_aux_lemma =>
        go_wp2_with fail
        refine (within13_x v1 30 (by omega) (by omega) wr).mono ?_
        rintro e w' ⟨nw, n0, n1, rfl, rfl⟩
        go_wp2_with fail
        refine (within13_x v2 20 (by omega) (by omega) wr).mono ?_
        rintro e w' ⟨dl, d0, d1, rfl, rfl⟩
        have hdl := hdl (nw - dl)
        have h1 := due38_c g O (allR l) nw dl wr HL.out.cr (by omega) (by omega) (by omega)
        have h2 := fun W (k : Kp0 wr W) => rdue46_c r P l nw dl W (HL.out.rf.kp0 k) (by omega) (by omega) (by omega)
        generalize dueL (allR l) (nw - dl) = D at h1 h2 hdl
        go_wp2_with fail
        refine h1.mono ?_
        rintro e w2 ⟨v3, rfl, o3, k2, _⟩
        go_wp2_with fail
        refine (h2 _ k2).mono ?_
        rintro e w3 ⟨v4, rfl, o4, k3⟩
        have h3 := same44_c v3 v4 D (by omega) w3 (own_kp o3 k3 (fun _ _ x => x)) o4
        clear h1 h2 o3 o4
        go_wp2_with fail
        refine h3.mono ?_
        rintro e w4 ⟨rfl, k4⟩
        clear h3
        go_wp2_with fail
        refine (wakes34_c _).mono ?_
        rintro e w5 ⟨rfl, k5⟩
        go_wp2
        go_ret
        exact ⟨rfl, (((HL.out.kp.then0 k2).then0 k3).then0 k4).then0 k5⟩
theorem binPlays_w (a0 : Option Addr) (len0 cap0 : Nat) (z0 : Nat → Nat → Int) (v1 v2 : Int) (w : World) (h0 : Sl w a0 len0 cap0 5 (fun i j => .int .i64 (z0 i j))) (_ : ∀ i, i < len0 → ∀ j, j < 5 → (Lit.int .i64 (z0 i j)).wf = true) (_ : (Lit.int .i64 v1).wf = true) (_ : (Lit.int .i64 v2).wf = true) :
    Calls Try.prog 11 #[.slice a0 len0 cap0, .int .i64 v1, .int .i64 v2] w fun e w' => e = .returned (.bool true) ∧ Below w.heap.size w w' :=
  (binPlays_c a0 len0 cap0 z0 v1 v2 w h0).mono fun _ _ h => ⟨h.1, h.2.below0⟩
end Go.Proofs.Ytccamciijpmkjaa

