/- CrewPlays: the walk. -/
import Derived.Test.YtnlkkcpcjeeplaaE1
import Derived.Test.YtnlkkcpcjeeplaaD2
import Derived.Deep.CutRange
import Derived.Deep.CutBlock
import Derived.Deep.DeepCutAuto
set_option linter.unusedVariables false
set_option linter.unusedSimpArgs false
namespace Go.Proofs.Ytnlkkcpcjeeplaa
open Go.RowKit

theorem within_n (v n : Int) (hn : 1 ≤ n) (h1 : n ≤ 9223372036854775807) : ∃ q : Nat, (q : Int) < n ∧ ∀ W, Calls Try.prog 15 #[.int .i64 v, .int .i64 n] W fun e w' => e = .returned (.int .i64 (q : Nat)) ∧ W = w' := by
  have h0 := Int.emod_nonneg v (show n ≠ 0 by omega)
  have h2 := Int.emod_lt_of_pos v (show 0 < n by omega)
  refine ⟨(v % n).toNat, by omega, fun W => ?_⟩
  have := within_c v n hn h1 W
  rw [show (((v % n).toNat : Nat) : Int) = v % n by omega]
  exact this

theorem Cq.sh {w wr : World} {g : Nat} {s6 : Value} {l : List Nat} {R : Nat → Rn} {O : Nat → Prop} (h : Cq w wr g s6 l R O) : ∃ A c, s6 = .slice A l.length c ∧ l.length ≤ c ∧ c ≤ 9223372036854775807 ∧ ∀ k (hk : k < l.length), ∃ b, A = some ⟨b, 0, none⟩ ∧ ∀ W, Kp0 wr W →
    W.cell? ⟨b, k * 4, none⟩ = some (.string (R l[k]).f) ∧ W.cell? ⟨b, k * 4 + 1, none⟩ = some (.string (R l[k]).e) ∧ W.cell? ⟨b, k * 4 + 2, none⟩ = some (.int .i64 (R l[k]).n) ∧ W.cell? ⟨b, k * 4 + 3, none⟩ = some (.pointer (some ⟨l[k], 0, none⟩)) := by
  rcases own_shape h.ow with ⟨e, e0, _⟩ | ⟨b, cap, e, m1, m2, m3, m4⟩
  · exact ⟨none, 0, by rw [e, e0], by omega, by omega, fun k hk => by omega⟩
  · refine ⟨_, cap, e, m1, m2, fun k hk => ⟨b, rfl, fun W kk => ?_⟩⟩
    have hx := List.getElem?_eq_getElem hk
    have hh : ∀ j, j < 4 → W.cell? ⟨b, k * 4 + j, none⟩ = (cell4 (R l[k]) l[k])[j]? := fun j hj => by
      have e1 := m4 (k * 4 + j) (by omega)
      rw [th_at R l k l[k] j hx hj] at e1
      have e2 : (cell4 (R l[k]) l[k])[j]? = some ((cell4 (R l[k]) l[k])[j]'(by show j < 4; exact hj)) := List.getElem?_eq_getElem _
      rw [e2] at e1 ⊢
      exact cell_kp0 kk m3 e1
    exact ⟨hh 0 (by omega), hh 1 (by omega), hh 2 (by omega), hh 3 (by omega)⟩
theorem Cq.sh6 {w wr : World} {g c6 : Nat} {A6 : Option Addr} {l : List Nat} {R : Nat → Rn} {O : Nat → Prop} (h : Cq w wr g (.slice A6 l.length c6) l R O) (k : Nat) (hk : k < l.length) : ∃ b, A6 = some ⟨b, 0, none⟩ ∧ ∀ W, Kp0 wr W →
    W.cell? ⟨b, k * 4, none⟩ = some (.string (R l[k]).f) ∧ W.cell? ⟨b, k * 4 + 1, none⟩ = some (.string (R l[k]).e) ∧ W.cell? ⟨b, k * 4 + 2, none⟩ = some (.int .i64 (R l[k]).n) ∧ W.cell? ⟨b, k * 4 + 3, none⟩ = some (.pointer (some ⟨l[k], 0, none⟩)) := by
  obtain ⟨A, c, e, _, _, h6⟩ := h.sh
  injection e with e1 e2 e3
  subst e1
  exact h6 k hk
theorem filt_at (p : Nat → Bool) (l : List Nat) (j : Nat) (hj : j < l.length) : (l.take (j + 1)).filter p = (l.take j).filter p ++ (if p l[j] = true then [l[j]] else []) ∧ (p l[j] = true → (l.filter p)[((l.take j).filter p).length]? = some l[j]) := by
  have e1 : l.take (j + 1) = l.take j ++ [l[j]] := by rw [List.take_add_one, List.getElem?_eq_getElem hj]; rfl
  have e2 : (l.take (j + 1)).filter p = (l.take j).filter p ++ (if p l[j] = true then [l[j]] else []) := by
    rw [e1, List.filter_append]
    congr 1
    cases h : p l[j] <;> simp [h]
  refine ⟨e2, fun h => ?_⟩
  have e3 : l.filter p = (l.take (j + 1)).filter p ++ (l.drop (j + 1)).filter p := by rw [← List.filter_append, List.take_append_drop]
  rw [e3, e2, if_pos h, List.append_assoc, List.getElem?_append_right (Nat.le_refl _), Nat.sub_self]
  rfl

set_option maxRecDepth 100000 in
set_option maxHeartbeats 8000000 in
theorem crewPlays_c (A : Option Addr) (len cap : Nat) (V : Nat → Nat → Int) (v1 : Int) (w : World) (hs : Sl w A len cap 5 (fun i j => .int .i64 (V i j))) :
    Calls Try.prog 10 #[.slice A len cap, .int .i64 v1] w fun e w' => e = .returned (.bool true) ∧ Kp0 w w' := by
  obtain ⟨hl, hc, hz⟩ := hs
  have h1 := crew_new_c w
  go_enter Try.func10, Try.ntmps10
  go_wp2_with fail
  refine h1.mono ?_
  rintro e w1 ⟨rfl, C1, k1⟩
  clear h1
  have hg : w.heap.size < w1.heap.size := C1.lt
  have L0 : Cq w w1 w.heap.size (.slice none 0 0) [] (fun _ => ⟨sF, sX, 1, 0, 0, false⟩) (· = w.heap.size) :=
    ⟨C1, fun y hy => by simp at hy, fun x e => by subst e; exact ⟨Nat.le_refl _, hg⟩, fun y hy => by simp at hy, List.Pairwise.nil, World.ownsRow_nil _ _ _ _, fun i hi => by simp [Value.ownBlock] at hi, k1⟩
  generalize hgg : w.heap.size = g at C1 L0 hg ⊢
  have HG := Lib.hid hgg
  clear C1 k1 hgg
  go_wp2_with fail
  go_loopw [6, 7] (fun s6 s7 wr => ∃ (I : Nat) (l : List Nat) (R : Nat → Rn) (O : Nat → Prop), I ≤ 24 ∧ I ≤ len ∧ l.length ≤ I ∧ s7 = .int .i64 (I : Nat) ∧ Cq w wr g s6 l R O) (fun _ s7 _ => (24 - intOf s7).toNat)
  case atStart => exact ⟨0, [], _, _, by simp, by simp, by simp, rfl, L0⟩
  case round =>
    clear L0
    obtain ⟨I, l, R, O, h24, hlen, hlI, rfl, L⟩ := hrel
    by_cases hlt : I < 24 ∧ I < len
    · obtain ⟨i9, i1⟩ := hlt
      have i9' : (I : Int) < 24 := by omega
      have i1' : (I : Int) < (len : Int) := by omega
      have i0 : (0 : Int) ≤ (I : Int) := by omega
      have hl24 : l.length ≤ 24 := by omega
      have hz' := hz.resolve_left (by omega)
      obtain ⟨b, off, rfl, hcell⟩ := hz'
      clear hz
      have hb : b < w.heap.size := World.block_lt_of_cell? w ⟨b, _, none⟩ (hcell I i1 0 (by omega))
      have cc : ∀ j, j < 5 → wr.cell? ⟨b, off + (I * 5 + j), none⟩ = some (.int .i64 (V I j)) := fun j hj => cell_kp0 L.kp hb (hcell I i1 j hj)
      have c0 : wr.cell? ⟨b, off + I * 5, none⟩ = some (.int .i64 (V I 0)) := cc 0 (by omega)
      have c1 : wr.cell? ⟨b, off + I * 5 + 1, none⟩ = some (.int .i64 (V I 1)) := cc 1 (by omega)
      have c2 : wr.cell? ⟨b, off + I * 5 + 2, none⟩ = some (.int .i64 (V I 2)) := cc 2 (by omega)
      have c3 : wr.cell? ⟨b, off + I * 5 + 3, none⟩ = some (.int .i64 (V I 3)) := cc 3 (by omega)
      have c4 : wr.cell? ⟨b, off + I * 5 + 4, none⟩ = some (.int .i64 (V I 4)) := cc 4 (by omega)
      clear cc hcell
      have ka : Kp0 wr (wr.alloc (.cells #[.int .i64 (V I 0), .int .i64 (V I 1), .int .i64 (V I 2), .int .i64 (V I 3), .int .i64 (V I 4)] 72)) := (Kp.refl _ _).alloc _
      have BA : Blk (wr.alloc (.cells #[.int .i64 (V I 0), .int .i64 (V I 1), .int .i64 (V I 2), .int .i64 (V I 3), .int .i64 (V I 4)] 72)) wr.heap.size #[.int .i64 (V I 0), .int .i64 (V I 1), .int .i64 (V I 2), .int .i64 (V I 3), .int .i64 (V I 4)] 72 := blk_new _ _ rfl
      go_upto_region 9 with fail
      clear c0 c1 c2 c3 c4
      have LA := L.kp0 ka
      have hga : g < wr.heap.size := L.cr.lt
      have nla : ∀ y ∈ l, y < wr.heap.size := fun y hy => (L.rs y hy).lt
      have noa : ∀ y, O y → y < wr.heap.size := fun y hy => (L.fo y hy).2
      clear L ka
      generalize wr.heap.size = ga at BA hga nla noa ⊢
      generalize wr.alloc (.cells #[.int .i64 (V I 0), .int .i64 (V I 1), .int .i64 (V I 2), .int .i64 (V I 3), .int .i64 (V I 4)] 72) = wa at LA BA ⊢
      go_cut [9, 10, 11] from 28 to 189 (fun s9 s10 s11 wx => ∃ (f' e' : ByteArray) (n' : Int), s9 = .string f' ∧ s10 = .string e' ∧ s11 = .int .i64 n' ∧ Kp0 wa wx)
      case first =>
        obtain ⟨q1, hq1l, hq1⟩ := within_n (V I 1) 2 (by omega) (by omega)
        obtain ⟨q2, hq2l, hq2⟩ := within_n (V I 2) 3 (by omega) (by omega)
        obtain ⟨q3, hq3l, hq3⟩ := within_n (V I 3) 3 (by omega) (by omega)
        have hF1 : ∃ F1 : ByteArray, ∀ W D, Blk W D #[.string { data := #[102] }, .string { data := #[103] }] 9 → W.cell? ⟨D, q1, none⟩ = some (.string F1) := by
          obtain rfl | rfl : q1 = 0 ∨ q1 = 1 := by omega
          · exact ⟨_, fun W D B => by rw [B.cell]; rfl⟩
          · exact ⟨_, fun W D B => by rw [B.cell]; rfl⟩
        have hF2 : ∃ F2 : ByteArray, ∀ W D, Blk W D #[.string { data := #[120] }, .string { data := #[121] }, .string { data := #[122] }] 9 → W.cell? ⟨D, q2, none⟩ = some (.string F2) := by
          obtain rfl | rfl | rfl : q2 = 0 ∨ q2 = 1 ∨ q2 = 2 := by omega
          · exact ⟨_, fun W D B => by rw [B.cell]; rfl⟩
          · exact ⟨_, fun W D B => by rw [B.cell]; rfl⟩
          · exact ⟨_, fun W D B => by rw [B.cell]; rfl⟩
        obtain ⟨F1, hF1⟩ := hF1
        obtain ⟨F2, hF2⟩ := hF2
        have hS : ∀ W, Kp0 wa W → (W.cell? ⟨ga, 1, none⟩ = some (.int .i64 (V I 1)) ∧ W.cell? ⟨ga, 2, none⟩ = some (.int .i64 (V I 2)) ∧ W.cell? ⟨ga, 3, none⟩ = some (.int .i64 (V I 3))) := fun W k => by
          have B := BA.kp0 k
          exact ⟨by rw [B.cell]; rfl, by rw [B.cell]; rfl, by rw [B.cell]; rfl⟩
        have q1i : (0 : Int) ≤ (q1 : Int) := by omega
        have q2i : (0 : Int) ≤ (q2 : Int) := by omega
        clear LA BA hga nla noa
        refine heldStart (by kernel_rfl) (fun W kx => hS _ kx) (fun W0 k0_0 hH0 => ?_)
        have zz0 := k0_0.size
        refine wpAnyH_take (i := 1) (v := ?_) rfl (by kernel_rfl) (by kernel_rfl) (by kernel_rfl) (fun _ _ _ h => h) (Or.inl ⟨by rfl, ?_⟩) hH0 ?_
        rotate_left
        · (intro w hSw; (try dsimp only at hSw); go_simp); first | done | with_reducible rfl
        rotate_left
        try simp only [Act.put, List.getElem_toArray, List.getElem_cons_zero, List.getElem_cons_succ, List.setIfInBounds_toArray, List.set_cons_zero, List.set_cons_succ]
        refine wpAnyH_take (i := 2) (v := ?_) rfl (by kernel_rfl) (by kernel_rfl) (by kernel_rfl) (fun _ _ _ h => h) (Or.inl ⟨by rfl, ?_⟩) hH0 ?_
        rotate_left
        · (intro w hSw; (try dsimp only at hSw); go_simp); first | done | with_reducible rfl
        rotate_left
        try simp only [Act.put, List.getElem_toArray, List.getElem_cons_zero, List.getElem_cons_succ, List.setIfInBounds_toArray, List.set_cons_zero, List.set_cons_succ]
        refine wpAnyH_take (i := 7) (v := ?_) rfl (by kernel_rfl) (by kernel_rfl) (by kernel_rfl) (fun _ _ _ h => h) (Or.inl ⟨by rfl, ?_⟩) hH0 ?_
        rotate_left
        · (intro w hSw; (try dsimp only at hSw); go_simp); first | done | with_reducible rfl
        rotate_left
        try simp only [Act.put, List.getElem_toArray, List.getElem_cons_zero, List.getElem_cons_succ, List.setIfInBounds_toArray, List.set_cons_zero, List.set_cons_succ]
        refine wpAnyH_take (i := 8) (v := ?_) rfl (by kernel_rfl) (by kernel_rfl) (by kernel_rfl) (fun _ _ _ h => h) (Or.inl ⟨by rfl, ?_⟩) hH0 ?_
        rotate_left
        · (intro w hSw; (try dsimp only at hSw); go_simp); first | done | with_reducible rfl
        rotate_left
        try simp only [Act.put, List.getElem_toArray, List.getElem_cons_zero, List.getElem_cons_succ, List.setIfInBounds_toArray, List.set_cons_zero, List.set_cons_succ]
        refine wpAnyH_take (i := 12) (v := ?_) rfl (by kernel_rfl) (by kernel_rfl) (by kernel_rfl) (fun _ _ _ h => h) (Or.inl ⟨by rfl, ?_⟩) hH0 ?_
        rotate_left
        · (intro w hSw; (try dsimp only at hSw); go_simp); first | done | with_reducible rfl
        rotate_left
        try simp only [Act.put, List.getElem_toArray, List.getElem_cons_zero, List.getElem_cons_succ, List.setIfInBounds_toArray, List.set_cons_zero, List.set_cons_succ]
        refine wpAnyH_take (i := 13) (v := ?_) rfl (by kernel_rfl) (by kernel_rfl) (by kernel_rfl) (fun _ _ _ h => h) (Or.inl ⟨by rfl, ?_⟩) hH0 ?_
        rotate_left
        · (intro w hSw; (try dsimp only at hSw); go_simp); first | done | with_reducible rfl
        rotate_left
        try simp only [Act.put, List.getElem_toArray, List.getElem_cons_zero, List.getElem_cons_succ, List.setIfInBounds_toArray, List.set_cons_zero, List.set_cons_succ]
        refine wpAnyH_call (i := 3) (v := .int .i64 (q1 : Nat)) rfl (by kernel_rfl) (by kernel_rfl) (by kernel_rfl) (fun _ _ _ h => h) ⟨by rfl, fun w hSw => ?_⟩ hH0 ?_
        · unfold Oper.quietAt; (try dsimp only at hSw); go_simp; exact (hq1 w).mono (fun _ _ h => ⟨h.1, h.2.symm⟩)
        try simp only [Act.put, List.getElem_toArray, List.getElem_cons_zero, List.getElem_cons_succ, List.setIfInBounds_toArray, List.set_cons_zero, List.set_cons_succ]
        refine wpAnyH_call (i := 9) (v := .int .i64 (q2 : Nat)) rfl (by kernel_rfl) (by kernel_rfl) (by kernel_rfl) (fun _ _ _ h => h) ⟨by rfl, fun w hSw => ?_⟩ hH0 ?_
        · unfold Oper.quietAt; (try dsimp only at hSw); go_simp; exact (hq2 w).mono (fun _ _ h => ⟨h.1, h.2.symm⟩)
        try simp only [Act.put, List.getElem_toArray, List.getElem_cons_zero, List.getElem_cons_succ, List.setIfInBounds_toArray, List.set_cons_zero, List.set_cons_succ]
        refine wpAnyH_call (i := 14) (v := .int .i64 (q3 : Nat)) rfl (by kernel_rfl) (by kernel_rfl) (by kernel_rfl) (fun _ _ _ h => h) ⟨by rfl, fun w hSw => ?_⟩ hH0 ?_
        · unfold Oper.quietAt; (try dsimp only at hSw); go_simp; exact (hq3 w).mono (fun _ _ h => ⟨h.1, h.2.symm⟩)
        try simp only [Act.put, List.getElem_toArray, List.getElem_cons_zero, List.getElem_cons_succ, List.setIfInBounds_toArray, List.set_cons_zero, List.set_cons_succ]
        refine wpAnyH_take (i := 15) (v := ?_) rfl (by kernel_rfl) (by kernel_rfl) (by kernel_rfl) (fun _ _ _ h => h) (Or.inl ⟨by rfl, ?_⟩) hH0 ?_
        rotate_left
        · (intro w hSw; (try dsimp only at hSw); go_simp); first | done | with_reducible rfl
        rotate_left
        try simp only [Act.put, List.getElem_toArray, List.getElem_cons_zero, List.getElem_cons_succ, List.setIfInBounds_toArray, List.set_cons_zero, List.set_cons_succ]
        refine wpAnyH_ready (rs := [0, 6]) (by kernel_rfl) (by simp) ?_
        refine (AllReadyH.cons rfl (fun K hK => ?_) (AllReadyH.cons rfl (fun K hK => ?_) AllReadyH.nil))
        · go_simp
          refine heldAlloc hK.out (fun W kx bx => (hS _ (k0_0.then0 kx))) (fun W1 kx1 bx1 hH1 => ?_)
          clear hK K
          have k1_0 := k0_0.then0 kx1
          have zz1 : W0.heap.size < W1.heap.size := bx1.lt
          have hx1 : ∀ W, Kp0 W1 W → W.cell? ⟨W0.heap.size, q1, none⟩ = some (.string F1) := fun W kz => hF1 _ _ (bx1.kp0 kz)
          have kr1 : Kp0 W1 W1 := Kp.refl _ _
          refine wpAnyH_add (X := fun W => W.cell? ⟨W0.heap.size, q1, none⟩ = some (.string F1)) ?_
          have hG1 := And.intro hH1 (hx1 _ kr1)
          refine wpAnyH_take (i := 4) (v := ?_) rfl (by kernel_rfl) (by kernel_rfl) (by kernel_rfl) (fun _ _ _ h => h) (Or.inl ⟨by rfl, ?_⟩) hG1 ?_
          rotate_left
          · (intro w hSw; (try dsimp only at hSw); go_simp); first | done | with_reducible rfl
          rotate_left
          try simp only [Act.put, List.getElem_toArray, List.getElem_cons_zero, List.getElem_cons_succ, List.setIfInBounds_toArray, List.set_cons_zero, List.set_cons_succ]
          refine wpAnyH_take (i := 5) (v := ?_) rfl (by kernel_rfl) (by kernel_rfl) (by kernel_rfl) (fun _ _ _ h => h) (Or.inl ⟨by rfl, ?_⟩) hG1 ?_
          rotate_left
          · (intro w hSw; (try dsimp only at hSw); go_simp); first | done | with_reducible rfl
          rotate_left
          try simp only [Act.put, List.getElem_toArray, List.getElem_cons_zero, List.getElem_cons_succ, List.setIfInBounds_toArray, List.set_cons_zero, List.set_cons_succ]
          refine wpAnyH_take (i := 16) (v := ?_) rfl (by kernel_rfl) (by kernel_rfl) (by kernel_rfl) (fun _ _ _ h => h) (Or.inl ⟨by rfl, ?_⟩) hG1 ?_
          rotate_left
          · (intro w hSw; (try dsimp only at hSw); go_simp); first | done | with_reducible rfl
          rotate_left
          try simp only [Act.put, List.getElem_toArray, List.getElem_cons_zero, List.getElem_cons_succ, List.setIfInBounds_toArray, List.set_cons_zero, List.set_cons_succ]
          refine wpAnyH_ready (rs := [6]) (by kernel_rfl) (by simp) ?_
          refine (AllReadyH.cons rfl (fun K hK => ?_) AllReadyH.nil)
          go_simp
          refine heldAlloc hK.out (fun W kx bx => ⟨(hS _ (k1_0.then0 kx)), hx1 _ (kr1.then0 kx)⟩) (fun W2 kx2 bx2 hH2 => ?_)
          clear hK K
          have k2_0 := k1_0.then0 kx2
          have k2_1 := kr1.then0 kx2
          have zz2 : W1.heap.size < W2.heap.size := bx2.lt
          have hx2 : ∀ W, Kp0 W2 W → W.cell? ⟨W1.heap.size, q2, none⟩ = some (.string F2) := fun W kz => hF2 _ _ (bx2.kp0 kz)
          have kr2 : Kp0 W2 W2 := Kp.refl _ _
          refine wpAnyH_add (X := fun W => W.cell? ⟨W1.heap.size, q2, none⟩ = some (.string F2)) ?_
          have hG2 := And.intro hH2 (hx2 _ kr2)
          refine wpAnyH_take (i := 10) (v := ?_) rfl (by kernel_rfl) (by kernel_rfl) (by kernel_rfl) (fun _ _ _ h => h) (Or.inl ⟨by rfl, ?_⟩) hG2 ?_
          rotate_left
          · (intro w hSw; (try dsimp only at hSw); go_simp); first | done | with_reducible rfl
          rotate_left
          try simp only [Act.put, List.getElem_toArray, List.getElem_cons_zero, List.getElem_cons_succ, List.setIfInBounds_toArray, List.set_cons_zero, List.set_cons_succ]
          refine wpAnyH_take (i := 11) (v := ?_) rfl (by kernel_rfl) (by kernel_rfl) (by kernel_rfl) (fun _ _ _ h => h) (Or.inl ⟨by rfl, ?_⟩) hG2 ?_
          rotate_left
          · (intro w hSw; (try dsimp only at hSw); go_simp); first | done | with_reducible rfl
          rotate_left
          try simp only [Act.put, List.getElem_toArray, List.getElem_cons_zero, List.getElem_cons_succ, List.setIfInBounds_toArray, List.set_cons_zero, List.set_cons_succ]
          refine wpAnyH_take (i := 17) (v := ?_) rfl (by kernel_rfl) (by kernel_rfl) (by kernel_rfl) (fun _ _ _ h => h) (Or.inl ⟨by rfl, ?_⟩) hG2 ?_
          rotate_left
          · (intro w hSw; (try dsimp only at hSw); go_simp); first | done | with_reducible rfl
          rotate_left
          try simp only [Act.put, List.getElem_toArray, List.getElem_cons_zero, List.getElem_cons_succ, List.setIfInBounds_toArray, List.set_cons_zero, List.set_cons_succ]
          refine wpAnyH_take (i := 18) (v := ?_) rfl (by kernel_rfl) (by kernel_rfl) (by kernel_rfl) (fun _ _ _ h => h) (Or.inl ⟨by rfl, ?_⟩) hG2 ?_
          rotate_left
          · (intro w hSw; (try dsimp only at hSw); go_simp); first | done | with_reducible rfl
          rotate_left
          try simp only [Act.put, List.getElem_toArray, List.getElem_cons_zero, List.getElem_cons_succ, List.setIfInBounds_toArray, List.set_cons_zero, List.set_cons_succ]
          refine wpAnyH_done (by kernel_rfl) ?_ _
          go_wp2_with fail
          go_meet
          exact ⟨_, _, _, rfl, rfl, rfl, k2_0⟩
        · go_simp
          refine heldAlloc hK.out (fun W kx bx => (hS _ (k0_0.then0 kx))) (fun W1 kx1 bx1 hH1 => ?_)
          clear hK K
          have k1_0 := k0_0.then0 kx1
          have zz1 : W0.heap.size < W1.heap.size := bx1.lt
          have hx1 : ∀ W, Kp0 W1 W → W.cell? ⟨W0.heap.size, q2, none⟩ = some (.string F2) := fun W kz => hF2 _ _ (bx1.kp0 kz)
          have kr1 : Kp0 W1 W1 := Kp.refl _ _
          refine wpAnyH_add (X := fun W => W.cell? ⟨W0.heap.size, q2, none⟩ = some (.string F2)) ?_
          have hG1 := And.intro hH1 (hx1 _ kr1)
          refine wpAnyH_take (i := 10) (v := ?_) rfl (by kernel_rfl) (by kernel_rfl) (by kernel_rfl) (fun _ _ _ h => h) (Or.inl ⟨by rfl, ?_⟩) hG1 ?_
          rotate_left
          · (intro w hSw; (try dsimp only at hSw); go_simp); first | done | with_reducible rfl
          rotate_left
          try simp only [Act.put, List.getElem_toArray, List.getElem_cons_zero, List.getElem_cons_succ, List.setIfInBounds_toArray, List.set_cons_zero, List.set_cons_succ]
          refine wpAnyH_take (i := 11) (v := ?_) rfl (by kernel_rfl) (by kernel_rfl) (by kernel_rfl) (fun _ _ _ h => h) (Or.inl ⟨by rfl, ?_⟩) hG1 ?_
          rotate_left
          · (intro w hSw; (try dsimp only at hSw); go_simp); first | done | with_reducible rfl
          rotate_left
          try simp only [Act.put, List.getElem_toArray, List.getElem_cons_zero, List.getElem_cons_succ, List.setIfInBounds_toArray, List.set_cons_zero, List.set_cons_succ]
          refine wpAnyH_ready (rs := [0]) (by kernel_rfl) (by simp) ?_
          refine (AllReadyH.cons rfl (fun K hK => ?_) AllReadyH.nil)
          go_simp
          refine heldAlloc hK.out (fun W kx bx => ⟨(hS _ (k1_0.then0 kx)), hx1 _ (kr1.then0 kx)⟩) (fun W2 kx2 bx2 hH2 => ?_)
          clear hK K
          have k2_0 := k1_0.then0 kx2
          have k2_1 := kr1.then0 kx2
          have zz2 : W1.heap.size < W2.heap.size := bx2.lt
          have hx2 : ∀ W, Kp0 W2 W → W.cell? ⟨W1.heap.size, q1, none⟩ = some (.string F1) := fun W kz => hF1 _ _ (bx2.kp0 kz)
          have kr2 : Kp0 W2 W2 := Kp.refl _ _
          refine wpAnyH_add (X := fun W => W.cell? ⟨W1.heap.size, q1, none⟩ = some (.string F1)) ?_
          have hG2 := And.intro hH2 (hx2 _ kr2)
          refine wpAnyH_take (i := 4) (v := ?_) rfl (by kernel_rfl) (by kernel_rfl) (by kernel_rfl) (fun _ _ _ h => h) (Or.inl ⟨by rfl, ?_⟩) hG2 ?_
          rotate_left
          · (intro w hSw; (try dsimp only at hSw); go_simp); first | done | with_reducible rfl
          rotate_left
          try simp only [Act.put, List.getElem_toArray, List.getElem_cons_zero, List.getElem_cons_succ, List.setIfInBounds_toArray, List.set_cons_zero, List.set_cons_succ]
          refine wpAnyH_take (i := 5) (v := ?_) rfl (by kernel_rfl) (by kernel_rfl) (by kernel_rfl) (fun _ _ _ h => h) (Or.inl ⟨by rfl, ?_⟩) hG2 ?_
          rotate_left
          · (intro w hSw; (try dsimp only at hSw); go_simp); first | done | with_reducible rfl
          rotate_left
          try simp only [Act.put, List.getElem_toArray, List.getElem_cons_zero, List.getElem_cons_succ, List.setIfInBounds_toArray, List.set_cons_zero, List.set_cons_succ]
          refine wpAnyH_take (i := 16) (v := ?_) rfl (by kernel_rfl) (by kernel_rfl) (by kernel_rfl) (fun _ _ _ h => h) (Or.inl ⟨by rfl, ?_⟩) hG2 ?_
          rotate_left
          · (intro w hSw; (try dsimp only at hSw); go_simp); first | done | with_reducible rfl
          rotate_left
          try simp only [Act.put, List.getElem_toArray, List.getElem_cons_zero, List.getElem_cons_succ, List.setIfInBounds_toArray, List.set_cons_zero, List.set_cons_succ]
          refine wpAnyH_take (i := 17) (v := ?_) rfl (by kernel_rfl) (by kernel_rfl) (by kernel_rfl) (fun _ _ _ h => h) (Or.inl ⟨by rfl, ?_⟩) hG2 ?_
          rotate_left
          · (intro w hSw; (try dsimp only at hSw); go_simp); first | done | with_reducible rfl
          rotate_left
          try simp only [Act.put, List.getElem_toArray, List.getElem_cons_zero, List.getElem_cons_succ, List.setIfInBounds_toArray, List.set_cons_zero, List.set_cons_succ]
          refine wpAnyH_take (i := 18) (v := ?_) rfl (by kernel_rfl) (by kernel_rfl) (by kernel_rfl) (fun _ _ _ h => h) (Or.inl ⟨by rfl, ?_⟩) hG2 ?_
          rotate_left
          · (intro w hSw; (try dsimp only at hSw); go_simp); first | done | with_reducible rfl
          rotate_left
          try simp only [Act.put, List.getElem_toArray, List.getElem_cons_zero, List.getElem_cons_succ, List.setIfInBounds_toArray, List.set_cons_zero, List.set_cons_succ]
          refine wpAnyH_done (by kernel_rfl) ?_ _
          go_wp2_with fail
          go_meet
          exact ⟨_, _, _, rfl, rfl, rfl, k2_0⟩

      case rest =>
      obtain ⟨f', e', n', rfl, rfl, rfl, k9⟩ := hcut
      have L1 := LA.kp0 k9
      have B1 := BA.kp0 k9
      have hwc : ga < wc.heap.size := B1.lt
      clear LA BA k9
      obtain ⟨A6, c6, rfl, hc6, hc6', h6⟩ := L1.sh
      have H6 := Lib.hid h6
      clear h6
      go_wp2_with fail
      go_loopw [60, 12] (fun s60 s12 wx => ∃ k : Nat, k ≤ l.length ∧ s60 = .int .i64 (k : Nat) ∧ s12 = .int .i64 (idx (l.take k) (fun x => isRun f' e' (R x))) ∧ Kp0 wc wx) (fun s60 _ _ => (l.length - intOf s60).toNat)
      case atStart => exact ⟨0, by omega, rfl, rfl, Kp.refl _ _⟩
      case round =>
        obtain ⟨k, hk, rfl, rfl, kx⟩ := hrel
        by_cases hkl : k < l.length
        · obtain ⟨b6, rfl, h6⟩ := H6.out k hkl
          obtain ⟨c0, c1, c2, c3⟩ := h6 _ kx
          have hsn := idx_snoc (R := R) f' e' L1.un k hkl
          have e1 := tl_beq (R l[k]).f f'
          have e2 := tl_beq (R l[k]).e e'
          have hi : isRun f' e' (R l[k]) = (decide ((R l[k]).f = f') && decide ((R l[k]).e = e')) := rfl
          rw [hi] at hsn
          have HSN := Lib.hid hsn
          have hkl' : (k : Int) < (l.length : Int) ∧ (0 : Int) ≤ (k : Int) := by omega
          clear hi hsn h6
          generalize decide ((R l[k]).f = f') = d1 at e1 HSN
          generalize decide ((R l[k]).e = e') = d2 at e2 HSN
          generalize (R l[k]).f = ff at c0 e1
          generalize (R l[k]).e = ee at c1 e2
          generalize (R l[k]).n = nn at c2
          generalize l[k] = y at c3
          cases d1 with
          | true =>
            cases d2 with
            | true =>
              go_wp2_with fail
              go_roundw
              case rel => exact ⟨k + 1, by omega, by go_num, by rw [HSN.out, if_pos (by rfl)], kx.alloc _⟩
              case measure => simp [intOf]; omega
            | false =>
              go_wp2_with fail
              go_roundw
              case rel => exact ⟨k + 1, by omega, by go_num, by rw [HSN.out, if_neg (by simp)], kx.alloc _⟩
              case measure => simp [intOf]; omega
          | false =>
            go_wp2_with fail
            go_roundw
            case rel => exact ⟨k + 1, by omega, by go_num, by rw [HSN.out, if_neg (by simp)], kx.alloc _⟩
            case measure => simp [intOf]; omega
        · obtain rfl : k = l.length := by omega
          rw [List.take_length]
          have L2 := L1.kp0 kx
          have B2 := B1.kp0 kx
          have hwx := B2.lt
          clear L1 B1 kx H6 hwc
          obtain ⟨q, hql, hq⟩ := within_n (V I 0) 6 (by omega) (by omega)
          obtain ⟨z, hzz⟩ : ∃ z, idx l (fun x => isRun f' e' (R x)) = z := ⟨_, rfl⟩
          rw [hzz]
          have hidx := fi_cases (fun x => isRun f' e' (R x)) l
          have d0 : wr.cell? ⟨ga, 0, none⟩ = some (.int .i64 (V I 0)) := by rw [B2.cell]; rfl
          go_wp2_with fail
          refine (hq wr).mono ?_
          rintro e w' ⟨rfl, rfl⟩
          clear d0 hq
          go_upto_block 4 with fail
          go_cut [6] from 28 to 189 (fun s6 wy => ∃ (l' : List Nat) (R' : Nat → Rn) (O' : Nat → Prop), l'.length ≤ I + 1 ∧ Cq w wy g s6 l' R' O')
          case first =>
            obtain hq3 | hq3 | hq3 : (q = 0 ∨ q = 1 ∨ q = 2) ∨ q = 3 ∨ (q = 4 ∨ q = 5) := by omega
            · rcases hidx with ⟨hi, hf⟩ | ⟨i, x, hi, hx, hf⟩
              · have hi' : z = -1 := by rw [← hzz]; unfold idx; rw [hi]
                subst hi'
                clear hi hzz
                rcases hq3 with rfl | rfl | rfl
                all_goals as_aux_lemma =>
                  go_wp2_with fail
                  refine (run_new_c f' e' n' wr).mono ?_
                  rintro e w3 ⟨y, rfl, hy, Y1, k1⟩
                  have d4 : w3.cell? ⟨ga, 4, none⟩ = some (.int .i64 (V I 4)) := by rw [(B2.kp0 k1).cell]; rfl
                  go_upto_if 124 with fail
                  go_cut [4] from 28 to 189 (fun s4 wz => ∃ r : Rn, RunAt wz y r ∧ r.f = f' ∧ r.e = e' ∧ r.n = n' ∧ Kp (· = y) w3 wz)
                  case first =>
                    cases hb3 : ((V I 4).tmod 3 != 0) with
                    | true =>
                      go_wp2_with fail
                      refine (within_x (V I 4) 20 (by omega) (by omega) w3).mono ?_
                      rintro e w' ⟨due, _, _, rfl, rfl⟩
                      go_wp2_with fail
                      refine (begin_c y _ 1 due w3 Y1).mono ?_
                      rintro e w4 ⟨rfl, Y2, k2⟩
                      go_wp2_with fail
                      go_meet
                      exact ⟨_, Y2, rfl, rfl, rfl, k2⟩
                    | false =>
                      go_wp2_with fail
                      go_meet
                      exact ⟨_, Y1, rfl, rfl, rfl, Kp.refl _ _⟩
                  case rest =>
                  obtain ⟨r, Y2, e1, e2, e3, k2⟩ := hcut
                  have K12 : Kp0 wr wc := k1.trans k2 (fun j hj e => by subst e; omega)
                  have L3 := L2.kp0 K12
                  have hno' : fnd l R r.f r.e = none := by rw [e1, e2]; exact hf
                  have ha := add_new_c g O l R y r wc L3.cr L3.rs Y2 (by omega) hno'
                  clear d4
                  go_wp2_with fail
                  refine ha.mono ?_
                  rintro e w4 ⟨rfl, O', C4, k4, hO'⟩
                  clear ha
                  have ka : Kp0 w4 (w4.alloc (.cells #[.string f', .string e', .int .i64 n', .pointer (some ⟨y, 0, none⟩)] 74)) := (Kp.refl _ _).alloc _
                  have oa := own_kp (own_kp L3.ow k4 (fun j hj e => (L2.fr j hj).2.1 e)) ka (fun _ _ x => x)
                  go_wp2_with (at_builtin; refine list_app rfl _ _ 70 74 (.agg #[.string ByteArray.empty, .string ByteArray.empty, .int .i64 0, .pointer none]) 4 48 rfl rfl rfl rfl (by decide) (.slice A6 l.length c6) l.length (th R l) rfl w4.heap.size 0 1 1 [.string f', .string e', .int .i64 n', .pointer (some ⟨y, 0, none⟩)] rfl rfl (by simp [Value.oneCell']) (Vw.of_blk (blk_new _ _ rfl)) oa (by omega) (by omega) ?_)
                  intro v7 w7 o7 k7 b7
                  go_wp2_with fail
                  go_meet
                  have hyw : y < w3.heap.size := Y1.lt
                  have hy2 := k2.size
                  have hy4 := k4.size
                  have hya := ka.size
                  have hy7 := k7.size
                  have hu : ∀ j, (Value.slice A6 l.length c6).ownBlock = some j → j < wr.heap.size := fun j hj => (L2.ow.lt j hj).2
                  have hO1 : ∀ j, O j → j < wr.heap.size := fun j hj => (L2.fo j hj).2
                  have hyO : ¬ O y := fun e => by have := hO1 y e; omega
                  have hO2 : ∀ j, O' j → j < w4.heap.size := fun j hj => by
                    rcases hO' j hj with e | ⟨_, e⟩
                    · have := hO1 j e; omega
                    · exact e
                  have K7 : Kp (fun j => O j ∨ (Value.slice A6 l.length c6).ownBlock = some j) wr w7 := (((K12.mono (fun _ _ x => x.elim)).trans k4 (fun j _ e => .inl e)).then0 ka).trans k7 (fun j _ e => .inr e)
                  have C7 := (C4.kp ka (fun _ _ x => x)).kp k7 (fun j hj e => by
                    rcases hO' j hj with e' | ⟨e', _⟩
                    · exact (L2.fr j e).2.1 e'
                    · have := hu j e; omega)
                  have Y7 := ((Y2.kp k4 hyO).kp ka (fun x => x)).kp k7 (fun e => by have := hu y e; omega)
                  refine ⟨l ++ [y], upd R y r, O', by rw [List.length_append]; simp; omega, Cq.add L2 hy K7 C7 Y7 hno' (fun j hj => ?_) (by rw [List.length_append]; show w7.ownsRow 0 74 4 v7 (l.length + 1) (th R l ++ [.string r.f, .string r.e, .int .i64 r.n, pt y]); rw [e1, e2, e3]; exact o7) (fun j hj => ?_)⟩
                  · rcases hO' j hj with e | ⟨e1, e2⟩
                    · exact .inl e
                    · exact .inr ⟨by omega, by omega⟩
                  · rcases b7 with b7 | b7
                    · exact .inl (b7 ▸ hj)
                    · rw [b7] at hj
                      injection hj with hj
                      have hj' : w4.heap.size + 1 = j := by simpa using hj
                      exact .inr ⟨by omega, fun e => by have := hO2 j e; omega⟩
              · have hi' : z = (i : Int) := by rw [← hzz]; unfold idx; rw [hi]
                subst hi'
                clear hi hzz
                rcases hq3 with rfl | rfl | rfl
                all_goals as_aux_lemma =>
                  go_wp2_with fail
                  refine (run_new_c f' e' n' wr).mono ?_
                  rintro e w3 ⟨y, rfl, hy, Y1, k1⟩
                  have d4 : w3.cell? ⟨ga, 4, none⟩ = some (.int .i64 (V I 4)) := by rw [(B2.kp0 k1).cell]; rfl
                  go_upto_if 124 with fail
                  go_cut [4] from 28 to 189 (fun s4 wz => ∃ r : Rn, RunAt wz y r ∧ r.f = f' ∧ r.e = e' ∧ r.n = n' ∧ Kp (· = y) w3 wz)
                  case first =>
                    cases hb3 : ((V I 4).tmod 3 != 0) with
                    | true =>
                      go_wp2_with fail
                      refine (within_x (V I 4) 20 (by omega) (by omega) w3).mono ?_
                      rintro e w' ⟨due, _, _, rfl, rfl⟩
                      go_wp2_with fail
                      refine (begin_c y _ 1 due w3 Y1).mono ?_
                      rintro e w4 ⟨rfl, Y2, k2⟩
                      go_wp2_with fail
                      go_meet
                      exact ⟨_, Y2, rfl, rfl, rfl, k2⟩
                    | false =>
                      go_wp2_with fail
                      go_meet
                      exact ⟨_, Y1, rfl, rfl, rfl, Kp.refl _ _⟩
                  case rest =>
                  obtain ⟨r, Y2, e1, e2, e3, k2⟩ := hcut
                  have K12 : Kp0 wr wc := k1.trans k2 (fun j hj e => by subst e; omega)
                  have L3 := L2.kp0 K12
                  have ha := add_there_c g O l R y r wc L3.cr L3.rs Y2 (by omega) (by rw [e1, e2]; exact (by rw [show fnd l R f' e' = some x from hf]; rfl))
                  clear d4
                  go_wp2_with fail
                  refine ha.mono ?_
                  rintro e w4 ⟨rfl, k4⟩
                  clear ha
                  go_wp2_with fail
                  go_meet
                  exact ⟨l, R, O, by omega, L3.kp0 k4⟩
            · subst hq3
              rcases hidx with ⟨hi, hf⟩ | ⟨i, x, hi, hx, hf⟩
              · have hi' : z = -1 := by rw [← hzz]; unfold idx; rw [hi]
                subst hi'
                clear hi hzz
                as_aux_lemma =>
                  go_wp2_with fail
                  refine (drop_none_c g O l R f' e' wr L2.cr L2.rs (by omega) hf).mono ?_
                  rintro e w3 ⟨rfl, k3⟩
                  go_wp2_with fail
                  go_meet
                  exact ⟨l, R, O, by omega, L2.kp0 k3⟩
              · have hi' : z = (i : Int) := by rw [← hzz]; unfold idx; rw [hi]
                subst hi'
                clear hzz
                · skip
                  have hil : i < l.length := (List.getElem?_eq_some_iff.1 hx).1
                  have hle : (l.eraseIdx i).length = l.length - 1 := List.length_eraseIdx_of_lt hil
                  have hdr := drop_some_c g O l R f' e' i wr L2.cr L2.rs (by omega) hi
                  obtain ⟨b6, hA6, _⟩ := L2.sh6 i hil
                  subst hA6
                  have hii : (0 : Int) ≤ (i : Int) ∧ (i : Int) < (l.length : Int) ∧ (i : Int) ≤ (l.length : Int) := by omega
                  have hi1 : (i : Int) + 1 ≤ (l.length : Int) := by omega
                  have hw1 : IntKind.i64.wrap ((i : Int) + 1) = (i : Int) + 1 := by rw [IntKind.wrap_i64]; omega
                  go_wp2_with fail
                  refine hdr.mono ?_
                  rintro e w3 ⟨rfl, C3, k3⟩
                  have hb6 : ¬ O b6 := (L2.fr b6 rfl).2.1
                  have o3 := own_kp L2.ow k3 (fun j hj e => (L2.fr j hj).2.1 e)
                  have V3 := Vw.of_own o3
                  clear hdr
                  have HB1 : ∀ W, Kp0 w3 W → Vw W b6 0 ((th R l).take (i * 4)) := fun W k => (V3.take (i * 4)).kp0 k (o3.lt b6 rfl).2
                  have hy1 : ((th R l).take (i * 4)).length = i * 4 := by rw [List.length_take, th_len]; omega
                  have hy2 : ((th R l).drop ((i + 1) * 4)).length = (l.length - (i + 1)) * 4 := by rw [List.length_drop, th_len]; omega
                  have h11 : ∀ u ∈ (th R l).take (i * 4), u.oneCell' = true := fun u hu => th_one u (List.mem_of_mem_take hu)
                  have h12 : ∀ u ∈ (th R l).drop ((i + 1) * 4), u.oneCell' = true := fun u hu => th_one u (List.mem_of_mem_drop hu)
                  have hth : th R (l.eraseIdx i) = (th R l).take (i * 4) ++ (th R l).drop ((i + 1) * 4) := by
                    rw [th_take R l i (by omega), th_drop R l (i + 1) (by omega), ← th_app, List.eraseIdx_eq_take_drop_succ]
                  have hic : i ≤ c6 ∧ i + 1 ≤ c6 ∧ i + 1 ≤ l.length := by omega
                  obtain ⟨hic1, hic2, hic3⟩ := hic
                  have hi10 : (0 : Int) ≤ (i : Int) + 1 := by omega
                  have hi11 : (i : Int) ≤ (i : Int) + 1 := by omega
                  by_cases hlast : c6 = i + 1
                  · subst hlast
                    have HB2 : ∀ W, Kp0 w3 W → Vw W b6 0 ((th R l).drop ((i + 1) * 4)) := fun W k j u hj => by
                      have hd : (th R l).drop ((i + 1) * 4) = [] := List.drop_eq_nil_of_le (by rw [th_len]; omega)
                      rw [hd] at hj
                      simp at hj
                    go_upto_region 45 with fail
                    go_region_law (first
                      | (refine step_app rfl (.const (.slice none 0 0)) (.tmp 160) 70 74 (.agg #[.string ByteArray.empty, .string ByteArray.empty, .int .i64 0, .pointer none]) 4 48 rfl rfl rfl rfl (by decide) (.slice none 0 0) 0 [] (by simp [Act.eval, Act.put]) b6 0 i (i + 1) ((th R l).take (i * 4)) (by simp [Act.eval, Act.put]) hy1 h11 (HB1 _ ((Kp.refl _ _).drew)) (World.ownsRow_nil _ _ _ _) (by omega) (by omega) ?_; intro v1' w4 o1 k4 b1; have K4 : Kp0 w3 w4 := ((Kp.refl _ _).drew).trans k4 (fun _ _ e => absurd e (by simp [Value.ownBlock])))
                      | (refine step_app rfl (.tmp 161) (.tmp 165) 70 74 (.agg #[.string ByteArray.empty, .string ByteArray.empty, .int .i64 0, .pointer none]) 4 48 rfl rfl rfl rfl (by decide) v1' (0 + i) _ (by simp [Act.eval, Act.put]) b6 0 (l.length - (i + 1)) ((i + 1) - (i + 1)) ((th R l).drop ((i + 1) * 4)) (by simp [Act.eval, Act.put] <;> omega) hy2 h12 (HB2 _ K4) o1 (by omega) (by omega) ?_; intro v2' w5 o2 k5 b2))
                    go_wp2_with fail
                    go_meet
                    have hv1 : ∀ j, v1'.ownBlock = some j → w3.heap.size ≤ j := fun j hj => by
                      rcases b1 with b1 | b1
                      · rw [b1] at hj; simp [Value.ownBlock] at hj
                      · rw [b1] at hj; injection hj with hj
                        have hj' : w3.heap.size = j := by simpa using hj
                        omega
                    have K5 : Kp0 w3 w5 := K4.trans k5 (fun j hj e => by have := hv1 j e; omega)
                    have hs3 := k3.size
                    have hs4 := K4.size
                    have hO3 : ∀ j, O j → j < wr.heap.size := fun j hj => (L2.fo j hj).2
                    refine ⟨l.eraseIdx i, R, O, by omega, Cq.drop L2 ((k3.mono (fun _ _ e => .inl e)).then0 K5) (C3.kp K5 (fun _ _ x => x)) ?_ (fun j hj => ?_)⟩
                    · rw [hle, hth]
                      rw [show 0 + i + (l.length - (i + 1)) = l.length - 1 by omega] at o2
                      exact o2
                    · have hj3 : w3.heap.size ≤ j := by
                        rcases b2 with b2 | b2
                        · exact hv1 j (b2 ▸ hj)
                        · rw [b2] at hj; injection hj with hj; omega
                      exact .inr ⟨by omega, fun e => by have := hO3 j e; omega⟩
                  · have hlast' : ¬ i + 1 = c6 := fun e => hlast e.symm
                    have HB2 : ∀ W, Kp0 w3 W → Vw W b6 ((i + 1) * 4) ((th R l).drop ((i + 1) * 4)) := fun W k => by
                      have := (V3.drop ((i + 1) * 4)).kp0 k (o3.lt b6 rfl).2
                      rwa [Nat.zero_add] at this
                    go_upto_region 45 with fail
                    go_region_law (first
                      | (refine step_app rfl (.const (.slice none 0 0)) (.tmp 160) 70 74 (.agg #[.string ByteArray.empty, .string ByteArray.empty, .int .i64 0, .pointer none]) 4 48 rfl rfl rfl rfl (by decide) (.slice none 0 0) 0 [] (by simp [Act.eval, Act.put]) b6 0 i c6 ((th R l).take (i * 4)) (by simp [Act.eval, Act.put]) hy1 h11 (HB1 _ ((Kp.refl _ _).drew)) (World.ownsRow_nil _ _ _ _) (by omega) (by omega) ?_; intro v1' w4 o1 k4 b1; have K4 : Kp0 w3 w4 := ((Kp.refl _ _).drew).trans k4 (fun _ _ e => absurd e (by simp [Value.ownBlock])))
                      | (refine step_app rfl (.tmp 161) (.tmp 165) 70 74 (.agg #[.string ByteArray.empty, .string ByteArray.empty, .int .i64 0, .pointer none]) 4 48 rfl rfl rfl rfl (by decide) v1' (0 + i) _ (by simp [Act.eval, Act.put]) b6 ((i + 1) * 4) (l.length - (i + 1)) (c6 - (i + 1)) ((th R l).drop ((i + 1) * 4)) (by simp [Act.eval, Act.put]) hy2 h12 (HB2 _ K4) o1 (by omega) (by omega) ?_; intro v2' w5 o2 k5 b2))
                    go_wp2_with fail
                    go_meet
                    have hv1 : ∀ j, v1'.ownBlock = some j → w3.heap.size ≤ j := fun j hj => by
                      rcases b1 with b1 | b1
                      · rw [b1] at hj; simp [Value.ownBlock] at hj
                      · rw [b1] at hj; injection hj with hj
                        have hj' : w3.heap.size = j := by simpa using hj
                        omega
                    have K5 : Kp0 w3 w5 := K4.trans k5 (fun j hj e => by have := hv1 j e; omega)
                    have hs3 := k3.size
                    have hs4 := K4.size
                    have hO3 : ∀ j, O j → j < wr.heap.size := fun j hj => (L2.fo j hj).2
                    refine ⟨l.eraseIdx i, R, O, by omega, Cq.drop L2 ((k3.mono (fun _ _ e => .inl e)).then0 K5) (C3.kp K5 (fun _ _ x => x)) ?_ (fun j hj => ?_)⟩
                    · rw [hle, hth]
                      rw [show 0 + i + (l.length - (i + 1)) = l.length - 1 by omega] at o2
                      exact o2
                    · have hj3 : w3.heap.size ≤ j := by
                        rcases b2 with b2 | b2
                        · exact hv1 j (b2 ▸ hj)
                        · rw [b2] at hj; injection hj with hj; omega
                      exact .inr ⟨by omega, fun e => by have := hO3 j e; omega⟩
            · skip
              rcases hidx with ⟨hi, hf⟩ | ⟨i, x, hi, hx, hf⟩
              · have hi' : z = -1 := by rw [← hzz]; unfold idx; rw [hi]
                subst hi'
                clear hi hzz
                rcases hq3 with rfl | rfl
                all_goals as_aux_lemma =>
                  go_wp2_with fail
                  refine (find_none_c R L2.cr L2.rs (by omega) hf).mono ?_
                  rintro e w3 ⟨rfl, k3⟩
                  have L3 := L2.kp0 k3
                  go_wp2_with fail
                  refine (exact_none_c R L3.cr L3.rs (by omega) (by unfold exa fnd; rw [hf]; rfl)).mono ?_
                  rintro e w4 ⟨rfl, k4⟩
                  go_wp2_with fail
                  go_meet
                  exact ⟨l, R, O, by omega, L3.kp0 k4⟩
              · have hi' : z = (i : Int) := by rw [← hzz]; unfold idx; rw [hi]
                subst hi'
                clear hi hzz
                have hil : i < l.length := (List.getElem?_eq_some_iff.1 hx).1
                obtain ⟨b6, hA6, hcs⟩ := L2.sh6 i hil
                subst hA6
                obtain ⟨_, _, s2, s3⟩ := hcs wr (Kp.refl _ _)
                have hxi : l[i] = x := by rw [List.getElem?_eq_getElem hil] at hx; exact Option.some.inj hx
                rw [hxi] at s2 s3
                have hii : (0 : Int) ≤ (i : Int) ∧ (i : Int) < (l.length : Int) := by omega
                have hexa : exa l R f' e' n' = if (R x).n = n' then some x else none := by
                  unfold exa
                  rw [show fnd l R f' e' = some x from hf, Option.filter_some]
                  by_cases h : (R x).n = n'
                  · rw [if_pos h, decide_eq_true h]; rfl
                  · rw [if_neg h, decide_eq_false h]; rfl
                have pn := ptr_ne x
                clear hcs hxi
                by_cases hn : (R x).n = n'
                · rw [if_pos hn] at hexa
                  have hbn : ((R x).n == n') = true := by rw [beq_iff_eq]; exact hn
                  clear hn
                  generalize (R x).n = m at s2 hbn
                  rcases hq3 with rfl | rfl
                  all_goals as_aux_lemma =>
                    go_wp2_with fail
                    refine (find_some_c R L2.cr L2.rs (by omega) hf).mono ?_
                    rintro e w3 ⟨rfl, k3⟩
                    have L3 := L2.kp0 k3
                    clear s2 s3
                    go_wp2_with fail
                    refine (exact_some_c R L3.cr L3.rs (by omega) hexa).mono ?_
                    rintro e w4 ⟨rfl, k4⟩
                    go_wp2_with fail
                    go_meet
                    exact ⟨l, R, O, by omega, L3.kp0 k4⟩
                · rw [if_neg hn] at hexa
                  have hbn : ((R x).n == n') = false := by rw [beq_eq_false_iff_ne]; exact hn
                  clear hn
                  generalize (R x).n = m at s2 hbn
                  rcases hq3 with rfl | rfl
                  all_goals as_aux_lemma =>
                    go_wp2_with fail
                    refine (find_some_c R L2.cr L2.rs (by omega) hf).mono ?_
                    rintro e w3 ⟨rfl, k3⟩
                    have L3 := L2.kp0 k3
                    clear s2 s3
                    go_wp2_with fail
                    refine (exact_none_c R L3.cr L3.rs (by omega) hexa).mono ?_
                    rintro e w4 ⟨rfl, k4⟩
                    go_wp2_with fail
                    go_meet
                    exact ⟨l, R, O, by omega, L3.kp0 k4⟩
          case rest =>
          obtain ⟨l2, R2, O2, hl2, L3⟩ := hcut
          obtain ⟨A7, c7, rfl, _, _, h7⟩ := L3.sh
          have hA := all56_c g O2 l2 wc L3.cr (by omega)
          have H7 := Lib.hid h7
          clear h7 L2 B2 hwx hidx hzz
          go_wp2_with fail
          refine hA.mono ?_
          rintro e w5 ⟨v, rfl, o5, k5⟩
          obtain ⟨A8, c8, rfl, h8⟩ := row_sh o5
          have H8 := Lib.hid h8
          clear hA h8 o5
          go_wp2_with fail
          go_loopw [176] (fun s176 wx => ∃ k : Nat, k ≤ l2.length ∧ s176 = .int .i64 (k : Nat) ∧ Kp0 w5 wx) (fun s176 _ => (l2.length - intOf s176).toNat)
          case atStart => exact ⟨0, by omega, rfl, Kp.refl _ _⟩
          case round =>
            obtain ⟨k, hk, rfl, kx⟩ := hrel
            by_cases hkl : k < l2.length
            · obtain ⟨b7, rfl, h7⟩ := H7.out k hkl
              obtain ⟨_, _, _, c7'⟩ := h7 _ (k5.then0 kx)
              obtain ⟨b8, rfl, hb8, c8'⟩ := H8.out k hkl
              rw [List.getElem?_map, List.getElem?_eq_getElem hkl] at c8'
              have c8' := cell_kp0 kx hb8 (show w5.cell? ⟨b8, k, none⟩ = some (.pointer (some ⟨l2[k], 0, none⟩)) from c8')
              have pn := ptr_ne l2[k]
              have hkl' : (k : Int) < (l2.length : Int) ∧ (0 : Int) ≤ (k : Int) := by omega
              generalize l2[k] = y at c7' c8' pn
              clear h7 H7 H8
              as_aux_lemma =>
                go_wp2_with fail
                go_quiet (fail)
                go_wp2
                go_roundw
                case rel => exact ⟨k + 1, by omega, by go_num, kx.drewN _⟩
                case measure => simp [intOf]; omega
            · obtain rfl : k = l2.length := by omega
              have L4 := L3.kp0 (k5.then0 kx)
              clear L3 H7 H8
              as_aux_lemma =>
                go_wp2_with fail
                go_roundw
                case rel => exact ⟨I + 1, l2, R2, O2, by omega, by omega, hl2, by go_num, L4⟩
                case measure => simp [intOf]; omega
    · have hend : ((I : Int) < (len : Int) ∧ ¬ (I : Int) < 24) ∨ ¬ (I : Int) < (len : Int) := by omega
      obtain ⟨A7, c7, rfl, _, _, h7⟩ := L.sh
      have H7 := Lib.hid h7
      have hl24 : l.length ≤ 100 := by omega
      clear h7 hz
      rcases hend with ⟨e1, e2⟩ | e1
      all_goals
        go_wp2_with fail
        refine (within_x v1 24 (by omega) (by omega) wr).mono ?_
        rintro e w' ⟨now, _, _, rfl, rfl⟩
        have hla := late57_c g O l R now wr L.cr L.rs (by omega)
        have HLt := Lib.hid (show lat l R now = l.filter (fun x => (R x).late now) from rfl)
        generalize lat l R now = lt at hla HLt
        go_wp2_with fail
        refine hla.mono ?_
        rintro e w2 ⟨v, rfl, o2, k2, _⟩
        obtain ⟨A3, c3, rfl, h3⟩ := row_sh o2
        have H3 := Lib.hid h3
        clear h3 o2 hla
        go_wp2_with fail
        go_loopw [197, 22] (fun s197 s22 wx => ∃ j : Nat, j ≤ l.length ∧ s197 = .int .i64 (j : Nat) ∧ s22 = .int .i64 (((l.take j).filter (fun x => (R x).late now)).length : Nat) ∧ Kp0 w2 wx) (fun s197 _ _ => (l.length - intOf s197).toNat)
        case atStart => exact ⟨0, by omega, rfl, rfl, Kp.refl _ _⟩
        case round =>
          obtain ⟨j, hj, rfl, rfl, kx⟩ := hrel
          by_cases hjl : j < l.length
          · obtain ⟨b7, rfl, h7⟩ := H7.out j hjl
            obtain ⟨c0, c1, c2, c3'⟩ := h7 _ (k2.then0 kx)
            obtain ⟨f1, f2⟩ := filt_at (fun x => (R x).late now) l j hjl
            have RX := (L.rs l[j] (List.getElem_mem hjl)).kp (k2.then0 kx) (fun x => x)
            have hsub : ((l.take j).filter (fun x => (R x).late now)).length ≤ 100 := Nat.le_trans (List.length_filter_le _ _) (by rw [List.length_take]; omega)
            rw [← HLt.out] at f2
            have hjl' : (j : Int) < (l.length : Int) ∧ (0 : Int) ≤ (j : Int) := by omega
            have pn := ptr_ne l[j]
            generalize hkk : ((l.take j).filter (fun x => (R x).late now)).length = kk at f1 f2 hsub ⊢
            have hk1 : ((l.take (j + 1)).filter (fun x => (R x).late now)).length = kk + if (R l[j]).late now = true then 1 else 0 := by
              rw [f1, List.length_append, hkk]
              congr 1
              cases (R l[j]).late now <;> rfl
            have HK1 := Lib.hid hk1
            clear f1 hk1 hkk h7
            generalize hff : (R l[j]).f = ff at c0
            generalize hee : (R l[j]).e = ee at c1
            generalize hnn : (R l[j]).n = nn at c2
            clear hff hee hnn
            have hlc := fun W (k : Kp0 _ W) => late_c l[j] (R l[j]) now W (RX.kp k (fun x => x))
            generalize (R l[j]).late now = lb at hlc HK1 f2
            clear RX
            generalize l[j] = y at c3' f2 pn hlc
            cases lb with
            | true =>
              have f2 := f2 rfl
              have hkl : kk < lt.length := (List.getElem?_eq_some_iff.1 f2).1
              obtain ⟨b3, rfl, hb3, c3''⟩ := H3.out kk hkl
              rw [List.getElem?_map, f2] at c3''
              have c3'' := cell_kp0 kx hb3 (show w2.cell? ⟨b3, kk, none⟩ = some (.pointer (some ⟨y, 0, none⟩)) from c3'')
              have hge : decide ((lt.length : Int) ≤ (kk : Int)) = false := decide_eq_false (by omega)
              have hkk' : (kk : Int) < (lt.length : Int) ∧ (0 : Int) ≤ (kk : Int) ∧ ¬ (lt.length : Int) ≤ (kk : Int) := by omega
              have ka : Kp0 wr (wr.alloc (.cells #[.string ff, .string ee, .int .i64 nn, .pointer (some ⟨y, 0, none⟩)] 74)) := (Kp.refl _ _).alloc _
              have BX : Blk (wr.alloc (.cells #[.string ff, .string ee, .int .i64 nn, .pointer (some ⟨y, 0, none⟩)] 74)) wr.heap.size #[.string ff, .string ee, .int .i64 nn, .pointer (some ⟨y, 0, none⟩)] 74 := blk_new _ _ rfl
              have kxa := kx.then0 ka
              have hl1 := hlc _ ka
              have c4 := cell_kp0 ka (World.block_lt_of_cell? _ ⟨b3, kk, none⟩ c3'') c3''
              have x3 := BX.cell 3
              have hwk : IntKind.i64.wrap ((kk : Int) + 1) = (kk : Int) + 1 := by rw [IntKind.wrap_i64]; omega
              clear f2 hlc BX H3 H7 ka
              go_upto_region 61 with fail
              generalize wr.alloc (.cells #[.string ff, .string ee, .int .i64 nn, .pointer (some ⟨y, 0, none⟩)] 74) = wa at hl1 c4 x3 kxa ⊢
              generalize wr.heap.size = xa at x3 ⊢
              clear c0 c1 c2 c3' c3''
              simp at x3
              as_aux_lemma =>
                go_wp2_with fail
                refine hl1.mono ?_
                rintro e w' ⟨rfl, rfl⟩
                go_wp2_with fail
                go_quiet (fail)
                go_wp2
                go_roundw
                case rel => exact ⟨j + 1, by omega, by go_num, by rw [HK1.out, if_pos (by simp)]; go_num, kxa.drewN _⟩
                case measure => simp [intOf]; omega
            | false =>
              have ka : Kp0 wr (wr.alloc (.cells #[.string ff, .string ee, .int .i64 nn, .pointer (some ⟨y, 0, none⟩)] 74)) := (Kp.refl _ _).alloc _
              have BX : Blk (wr.alloc (.cells #[.string ff, .string ee, .int .i64 nn, .pointer (some ⟨y, 0, none⟩)] 74)) wr.heap.size #[.string ff, .string ee, .int .i64 nn, .pointer (some ⟨y, 0, none⟩)] 74 := blk_new _ _ rfl
              have kxa := kx.then0 ka
              have hl1 := hlc _ ka
              have x3 := BX.cell 3
              clear f2 hlc BX H3 H7 ka
              go_upto_region 61 with fail
              generalize wr.alloc (.cells #[.string ff, .string ee, .int .i64 nn, .pointer (some ⟨y, 0, none⟩)] 74) = wa at hl1 x3 kxa ⊢
              generalize wr.heap.size = xa at x3 ⊢
              clear c0 c1 c2 c3'
              simp at x3
              as_aux_lemma =>
                go_wp2_with fail
                refine hl1.mono ?_
                rintro e w' ⟨rfl, rfl⟩
                go_wp2_with fail
                go_roundw
                case rel => exact ⟨j + 1, by omega, by go_num, by rw [HK1.out, if_neg (by decide), Nat.add_zero], kxa⟩
                case measure => simp [intOf]; omega
          · obtain rfl : j = l.length := by omega
            rw [List.take_length, ← HLt.out]
            have KF := (L.kp.then0 k2).then0 kx
            clear L H3 H7 HLt k2 kx
            as_aux_lemma =>
              go_wp2_with fail
              refine (wakes58_c _).mono ?_
              rintro e w7 ⟨rfl, k7⟩
              go_wp2
              go_ret
              exact ⟨rfl, KF.then0 k7⟩

theorem crewPlays_w (a0 : Option Addr) (len0 cap0 : Nat) (z0 : Nat → Nat → Int) (v1 : Int) (w : World) (h0 : Sl w a0 len0 cap0 5 (fun i j => .int .i64 (z0 i j))) (_ : ∀ i, i < len0 → ∀ j, j < 5 → (Lit.int .i64 (z0 i j)).wf = true) (_ : (Lit.int .i64 v1).wf = true) :
    Calls Try.prog 10 #[.slice a0 len0 cap0, .int .i64 v1] w fun e w' => e = .returned (.bool true) ∧ Below w.heap.size w w' :=
  (crewPlays_c a0 len0 cap0 z0 v1 w h0).mono fun _ _ h => ⟨h.1, h.2.below0⟩
end Go.Proofs.Ytnlkkcpcjeeplaa

