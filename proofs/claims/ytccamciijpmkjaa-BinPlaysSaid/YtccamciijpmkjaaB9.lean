/- BinCopies: the walk. -/
import Derived.Test.YtccamciijpmkjaaB8
set_option linter.unusedVariables false
set_option linter.unusedSimpArgs false
namespace Go.Proofs.Ytccamciijpmkjaa
open Go.RowKit

theorem within13_x (v n : Int) (hn : 1 ≤ n) (h1 : n ≤ 9223372036854775807) (w : World) :
    Calls Try.prog 13 #[.int .i64 v, .int .i64 n] w fun e w' => ∃ r : Int, 0 ≤ r ∧ r < n ∧ e = .returned (.int .i64 r) ∧ w = w' := by
  have p0 := Int.emod_nonneg v (show n ≠ 0 by omega)
  have p1 := Int.emod_lt_of_pos v (show 0 < n by omega)
  have key : Calls Try.prog 13 #[.int .i64 v, .int .i64 n] w fun e w' => e = .returned (.int .i64 (v % n)) ∧ w = w' := by
    obtain ⟨t1, t2, t3, t4, t5, t6⟩ := tmod_facts v n hn
    have c0 : (n == 0) = false := by rw [beq_eq_false_iff_ne]; omega
    have c1 : ¬ n < 1 := by omega
    by_cases h : v.tmod n < 0
    · have e := t1 h
      have HE := Lib.hid e
      clear e t1 t2 p0 p1
      go_enter Try.func13, Try.ntmps13
      go_wp2
      go_ret
      exact ⟨ret_int (by rw [HE.out]), rfl⟩
    · have e := t2 (by omega)
      have HE := Lib.hid e
      clear e t1 t2 p0 p1
      go_enter Try.func13, Try.ntmps13
      go_wp2
      go_ret
      exact ⟨ret_int (by rw [HE.out]), rfl⟩
  exact key.mono fun _ _ h => ⟨v % n, p0, p1, h.1, h.2⟩

abbrev sf : ByteArray := { data := #[102] }
abbrev sg : ByteArray := { data := #[103] }
abbrev sh : ByteArray := { data := #[104] }
abbrev sx : ByteArray := { data := #[120] }
abbrev sy : ByteArray := { data := #[121] }
abbrev sz : ByteArray := { data := #[122] }
theorem isB_f {f e f' e' : ByteArray} {n n' s : Int} (h : ¬ (f' = f ∧ e' = e ∧ n' = n)) : isB f e n ⟨f', e', n', s⟩ = false := by
  unfold isB
  by_cases h1 : f' = f
  · by_cases h2 : e' = e
    · have h3 : ¬ n' = n := fun h3 => h ⟨h1, h2, h3⟩
      rw [decide_eq_true h1, decide_eq_true h2, Bool.true_and, Bool.true_and, beq_eq_false_iff_ne]
      exact h3
    · rw [decide_eq_false h2, Bool.and_false, Bool.false_and]
  · rw [decide_eq_false h1, Bool.false_and, Bool.false_and]
theorem isB_t (f e : ByteArray) (n s : Int) : isB f e n ⟨f, e, n, s⟩ = true := by unfold isB; simp

theorem row_any {w : World} {b e size n : Nat} {v : Value} {xs : List Value} (h : w.ownsRow b e size v n xs) : ∃ A c, v = .slice A n c := by
  rcases own_shape h with ⟨e, e0, _⟩ | ⟨_, _, e, _⟩
  · exact ⟨none, 0, by rw [e, e0]⟩
  · exact ⟨_, _, e⟩
theorem bstep {w w1 w2 : World} {O O' : Nat → Prop} (K : Kp0 w w1) (lo : ∀ i, O i → w.heap.size ≤ i ∧ i < w1.heap.size) (k : Kp O w1 w2) (hO : ∀ i, O' i → O i ∨ (w1.heap.size ≤ i ∧ i < w2.heap.size)) :
    Kp0 w w2 ∧ ∀ i, O' i → w.heap.size ≤ i ∧ i < w2.heap.size := by
  have h1 := K.size
  have h2 := k.size
  refine ⟨K.trans k (fun i hi e => by have := (lo i e).1; omega), fun i hi => ?_⟩
  rcases hO i hi with e | e
  · have := lo i e; omega
  · omega
theorem bkeep {w w1 w2 : World} {O : Nat → Prop} (lo : ∀ i, O i → w.heap.size ≤ i ∧ i < w1.heap.size) (k : Kp0 w1 w2) : ∀ i, O i → w.heap.size ≤ i ∧ i < w2.heap.size := fun i hi => by
  have := lo i hi
  have := k.size
  omega

set_option maxRecDepth 100000 in
set_option maxHeartbeats 4000000 in
theorem binCopies_c (v0 v1 : Int) (w : World) : Calls Try.prog 10 #[.int .i64 v0, .int .i64 v1] w fun e w' => e = .returned (.bool true) ∧ Kp0 w w' := by
  go_enter Try.func10, Try.ntmps10
  go_wp2_with fail
  refine (bin_new_c w).mono ?_
  rintro e w1 ⟨rfl, C0, K0⟩
  have lo0 : ∀ i, i = w.heap.size → w.heap.size ≤ i ∧ i < w1.heap.size := fun i e => by subst e; exact ⟨Nat.le_refl _, C0.lt⟩
  generalize hgg : w.heap.size = g at C0 ⊢
  have HG := Lib.hid hgg
  clear hgg
  go_wp2_with fail
  refine (within13_x v0 50 (by omega) (by omega) w1).mono ?_
  rintro e w' ⟨s, s0, s1, rfl, rfl⟩
  go_wp2_with fail
  refine (within13_x v1 20 (by omega) (by omega) w1).mono ?_
  rintro e w' ⟨r, r0, r1, rfl, rfl⟩
  obtain ⟨n, hn⟩ : ∃ n, 1 + r = n := ⟨_, rfl⟩
  have hnr : 1 ≤ n ∧ n ≤ 20 := by omega
  have q1 : IntKind.i64.wrap (1 + r) = n := by rw [IntKind.wrap_i64]; omega
  have a2 : addB [⟨sf, sx, n, s⟩] ⟨sf, sx, n + 1, s⟩ = [⟨sf, sx, n, s⟩, ⟨sf, sx, n + 1, s⟩] := by simp [addB, insR]
  have a3 : addB [⟨sf, sx, n, s⟩, ⟨sf, sx, n + 1, s⟩] ⟨sf, sy, n, s + 2⟩ = [⟨sf, sx, n, s⟩, ⟨sf, sx, n + 1, s⟩, ⟨sf, sy, n, s + 2⟩] := by simp [addB, insR, show ¬ s + 2 < s by omega]
  have a4 : addB [⟨sf, sx, n, s⟩, ⟨sf, sx, n + 1, s⟩, ⟨sf, sy, n, s + 2⟩] ⟨sg, sx, n, s⟩ = [⟨sf, sx, n, s⟩, ⟨sf, sx, n + 1, s⟩, ⟨sg, sx, n, s⟩, ⟨sf, sy, n, s + 2⟩] := by simp [addB, insR, show s < s + 2 by omega]
  have up0 : UpB [] := (by intro i h; obtain _ | _ | _ | _ | i := i <;> simp at h ⊢ <;> omega)
  have up1 : UpB [⟨sf, sx, n, s⟩] := (by intro i h; obtain _ | _ | _ | _ | i := i <;> simp at h ⊢ <;> omega)
  have up2 : UpB [⟨sf, sx, n, s⟩, ⟨sf, sx, n + 1, s⟩] := (by intro i h; obtain _ | _ | _ | _ | i := i <;> simp at h ⊢ <;> omega)
  have up3 : UpB [⟨sf, sx, n, s⟩, ⟨sf, sx, n + 1, s⟩, ⟨sf, sy, n, s + 2⟩] := (by intro i h; obtain _ | _ | _ | _ | i := i <;> simp at h ⊢ <;> omega)
  have up4 : UpB [⟨sf, sx, n + 1, s⟩, ⟨sg, sx, n, s⟩, ⟨sf, sy, n, s + 2⟩] := (by intro i h; obtain _ | _ | _ | _ | i := i <;> simp at h ⊢ <;> omega)
  have f0 : ∀ x ∈ ([] : List Bx), isB sf sx n x = false := fun x hx => by simp at hx
  have f1 : ∃ x ∈ ([⟨sf, sx, n, s⟩] : List Bx), isB sf sx n x = true := ⟨_, List.mem_cons_self, isB_t _ _ _ _⟩
  have f2 : ∀ x ∈ ([⟨sf, sx, n, s⟩] : List Bx), isB sf sx (n + 1) x = false := (fun x hx => by simp only [List.mem_cons, List.not_mem_nil, or_false] at hx; rcases hx with rfl <;> exact isB_f (by rintro ⟨h1, h2, h3⟩; first | omega | (revert h1; decide) | (revert h2; decide)))
  have f3 : ∀ x ∈ ([⟨sf, sx, n, s⟩, ⟨sf, sx, n + 1, s⟩] : List Bx), isB sf sy n x = false := (fun x hx => by simp only [List.mem_cons, List.not_mem_nil, or_false] at hx; rcases hx with rfl | rfl <;> exact isB_f (by rintro ⟨h1, h2, h3⟩; first | omega | (revert h1; decide) | (revert h2; decide)))
  have f4 : ∀ x ∈ ([⟨sf, sx, n, s⟩, ⟨sf, sx, n + 1, s⟩, ⟨sf, sy, n, s + 2⟩] : List Bx), isB sg sx n x = false := (fun x hx => by simp only [List.mem_cons, List.not_mem_nil, or_false] at hx; rcases hx with rfl | rfl | rfl <;> exact isB_f (by rintro ⟨h1, h2, h3⟩; first | omega | (revert h1; decide) | (revert h2; decide)))
  have f5 : ([⟨sf, sx, n, s⟩, ⟨sf, sx, n + 1, s⟩, ⟨sg, sx, n, s⟩, ⟨sf, sy, n, s + 2⟩] : List Bx).findIdx? (isB sf sx n) = some 0 := by rw [List.findIdx?_cons, isB_t]; rfl
  have f6 : ∀ x ∈ ([⟨sf, sx, n + 1, s⟩, ⟨sg, sx, n, s⟩, ⟨sf, sy, n, s + 2⟩] : List Bx), isB sf sx n x = false := (fun x hx => by simp only [List.mem_cons, List.not_mem_nil, or_false] at hx; rcases hx with rfl | rfl | rfl <;> exact isB_f (by rintro ⟨h1, h2, h3⟩; first | omega | (revert h1; decide) | (revert h2; decide)))
  have f7 : ∀ x ∈ ([⟨sf, sx, n + 1, s⟩, ⟨sg, sx, n, s⟩, ⟨sf, sy, n, s + 2⟩] : List Bx), isB sh sz 1 x = false := (fun x hx => by simp only [List.mem_cons, List.not_mem_nil, or_false] at hx; rcases hx with rfl | rfl | rfl <;> exact isB_f (by rintro ⟨h1, h2, h3⟩; first | omega | (revert h1; decide) | (revert h2; decide)))
  have f8 : ∀ x ∈ ([⟨sf, sx, n, s⟩, ⟨sf, sx, n + 1, s⟩, ⟨sg, sx, n, s⟩, ⟨sf, sy, n, s + 2⟩] : List Bx), isB sf sz n x = false := (fun x hx => by simp only [List.mem_cons, List.not_mem_nil, or_false] at hx; rcases hx with rfl | rfl | rfl | rfl <;> exact isB_f (by rintro ⟨h1, h2, h3⟩; first | omega | (revert h1; decide) | (revert h2; decide)))
  have d5 : dueL [⟨sf, sx, n, s⟩, ⟨sf, sx, n + 1, s⟩, ⟨sg, sx, n, s⟩, ⟨sf, sy, n, s + 2⟩] (s + 5 - 5) = [⟨sf, sx, n, s⟩, ⟨sf, sx, n + 1, s⟩, ⟨sg, sx, n, s⟩] := by simp [dueL]; omega
  have d4 : dueL [⟨sf, sx, n, s⟩, ⟨sf, sx, n + 1, s⟩, ⟨sg, sx, n, s⟩, ⟨sf, sy, n, s + 2⟩] (s + 4 - 5) = [] := by simp [dueL, show ¬ s ≤ s + 4 - 5 by omega, show ¬ s + 2 ≤ s + 4 - 5 by omega]
  have d7 : dueL [⟨sf, sx, n, s⟩, ⟨sf, sx, n + 1, s⟩, ⟨sg, sx, n, s⟩, ⟨sf, sy, n, s + 2⟩] (s + 7 - 5) = [⟨sf, sx, n, s⟩, ⟨sf, sx, n + 1, s⟩, ⟨sg, sx, n, s⟩, ⟨sf, sy, n, s + 2⟩] := by simp [dueL, show s ≤ s + 7 - 5 by omega, show s + 2 ≤ s + 7 - 5 by omega]
  have w1' : IntKind.i64.wrap (s + 1) = s + 1 := by rw [IntKind.wrap_i64]; omega
  have w2' : IntKind.i64.wrap (s + 2) = s + 2 := by rw [IntKind.wrap_i64]; omega
  have w3' : IntKind.i64.wrap (n + 1) = n + 1 := by rw [IntKind.wrap_i64]; omega
  have w5' : IntKind.i64.wrap (s + 5) = s + 5 := by rw [IntKind.wrap_i64]; omega
  have w4' : IntKind.i64.wrap (s + 4) = s + 4 := by rw [IntKind.wrap_i64]; omega
  have w7' : IntKind.i64.wrap (s + 7) = s + 7 := by rw [IntKind.wrap_i64]; omega
  have hA1 := add_new_c g _ [] sf sx n s w1 C0 up0 (by simp) f0
  clear hn r0 r1
  go_wp2_with fail
  refine hA1.mono ?_
  rintro e w2 ⟨rfl, O1, C1, k1, h1⟩
  obtain ⟨K1, lo1⟩ := bstep K0 (fun i e => lo0 i (by rw [HG.out]; exact e)) k1 h1
  have C1 : BinAt w2 g O1 [⟨sf, sx, n, s⟩] := C1
  clear hA1 k1 h1 C0 lo0 K0
  have hA2 := add_there_c g O1 _ sf sx n (s + 1) w2 C1 (by simp) f1
  go_wp2_with fail
  refine hA2.mono ?_
  rintro e w3 ⟨rfl, k2⟩
  have C2 := C1.kp k2 (fun _ _ x => x)
  have K2 := K1.then0 k2
  have lo2 := bkeep lo1 k2
  clear hA2 C1 K1 lo1 k2
  have hA3 := add_new_c g O1 _ sf sx (n + 1) s w3 C2 up1 (by simp) f2
  rw [a2] at hA3
  go_wp2_with fail
  refine hA3.mono ?_
  rintro e w4 ⟨rfl, O3, C3, k3, h3⟩
  obtain ⟨K3, lo3⟩ := bstep K2 lo2 k3 h3
  clear hA3 k3 h3 C2 lo2 K2
  have hA4 := add_new_c g O3 _ sf sy n (s + 2) w4 C3 up2 (by simp) f3
  rw [a3] at hA4
  go_wp2_with fail
  refine hA4.mono ?_
  rintro e w5 ⟨rfl, O4, C4, k4, h4⟩
  obtain ⟨K4, lo4⟩ := bstep K3 lo3 k4 h4
  clear hA4 k4 h4 C3 lo3 K3
  have hA5 := add_new_c g O4 _ sg sx n s w5 C4 up3 (by simp) f4
  rw [a4] at hA5
  go_wp2_with fail
  refine hA5.mono ?_
  rintro e w6 ⟨rfl, O5, C5, k5, h5⟩
  obtain ⟨K5, lo5⟩ := bstep K4 lo4 k5 h5
  clear hA5 k5 h5 C4 lo4 K4 a2 a3 a4 up0 up1 up2 up3 f0 f1 f2 f3 f4
  have hC := clone40_c g O5 _ w6 C5 (by simp)
  go_wp2_with fail
  refine hC.mono ?_
  rintro e w7 ⟨gc, P, rfl, hgc, D0, k7, hP⟩
  have C7 := C5.kp k7 (fun _ _ x => x)
  have K7 := K5.then0 k7
  have lo7 := bkeep lo5 k7
  have sep : ∀ i, O5 i → ¬ P i := fun i hi hp => by have := (lo5 i hi).2; have := (hP i hp).1; omega
  have loP : ∀ i, P i → w.heap.size ≤ i ∧ i < w7.heap.size := fun i hp => ⟨by have := (hP i hp).1; have := K5.size; omega, (hP i hp).2⟩
  clear hC k7 hP C5 K5 lo5
  have hT := take_some_c gc P _ sf sx n 0 w7 D0 (by simp) f5
  go_wp2_with fail
  refine hT.mono ?_
  rintro e w8 ⟨rfl, D1, k8⟩
  have D1 : BinAt w8 gc P [⟨sf, sx, n + 1, s⟩, ⟨sg, sx, n, s⟩, ⟨sf, sy, n, s + 2⟩] := D1
  have C8 := C7.kp k8 sep
  obtain ⟨K8, loP8⟩ := bstep K7 loP k8 (fun i hi => .inl hi)
  have lo8 : ∀ i, O5 i → w.heap.size ≤ i ∧ i < w8.heap.size := fun i hi => by have := lo7 i hi; have := k8.size; omega
  clear hT k8 C7 K7 loP lo7 D0 f5
  have hT2 := take_none_c gc P _ sf sx n w8 D1 (by simp) f6
  go_wp2_with fail
  refine hT2.mono ?_
  rintro e w9 ⟨rfl, k9⟩
  have D2 := D1.kp k9 (fun _ _ x => x)
  have C9 := C8.kp k9 (fun _ _ x => x)
  have K9 := K8.then0 k9
  have loP9 := bkeep loP8 k9
  have lo9 := bkeep lo8 k9
  clear hT2 k9 C8 K8 loP8 lo8 D1 f6
  have hA6 := add_new_c gc P _ sh sz 1 0 w9 D2 up4 (by simp) f7
  have hlen : (addB [⟨sf, sx, n + 1, s⟩, ⟨sg, sx, n, s⟩, ⟨sf, sy, n, s + 2⟩] ⟨sh, sz, 1, 0⟩).length = 4 := addB_len _ _
  generalize addB [⟨sf, sx, n + 1, s⟩, ⟨sg, sx, n, s⟩, ⟨sf, sy, n, s + 2⟩] ⟨sh, sz, 1, 0⟩ = lc at hA6 hlen
  go_wp2_with fail
  refine hA6.mono ?_
  rintro e w10 ⟨rfl, P2, D3, k10, h10⟩
  have C10 := C9.kp k10 sep
  obtain ⟨K10, loP10⟩ := bstep K9 loP9 k10 h10
  have hO10 : ∀ i, O5 i → i < w10.heap.size := fun i hi => by have := (lo9 i hi).2; have := k10.size; omega
  clear hA6 k10 h10 C9 K9 loP9 lo9 D2 f7 up4 sep
  have hB := all37_c g O5 _ w10 C10 (by simp)
  go_wp2_with fail
  refine hB.mono ?_
  rintro e w11 ⟨v, rfl, o11, k11⟩
  obtain ⟨gv, cv, rfl, _, _, _⟩ := own_some o11 (by simp)
  have C11 := C10.kp k11 (fun _ _ x => x)
  have D11 := D3.kp k11 (fun _ _ x => x)
  have K11 := K10.then0 k11
  have s11 := k11.size
  clear hB k11 C10 D3 K10 o11
  have hB2 := all37_c gc P2 _ w11 D11 (by omega)
  rw [hlen] at hB2
  go_wp2_with fail
  refine hB2.mono ?_
  rintro e w12 ⟨v, rfl, o12, k12⟩
  obtain ⟨gv2, cv2, rfl, _, _, _⟩ := own_some o12 (by omega)
  have C12 := C11.kp k12 (fun _ _ x => x)
  have K12 := K11.then0 k12
  have s12 := k12.size
  clear hB2 k12 C11 D11 K11 o12 hlen
  have hB3 := all37_c g O5 _ w12 C12 (by simp)
  go_wp2_with fail
  refine hB3.mono ?_
  rintro e w13 ⟨v, rfl, o13, k13⟩
  obtain ⟨gl, cl, rfl, z1, z2, z3⟩ := own_some o13 (by simp)
  have hgl : w12.heap.size ≤ gl := (o13.lt gl rfl).1
  have C13 := C12.kp k13 (fun _ _ x => x)
  have K13 := K12.then0 k13
  have cl0 := (Vw.of_own o13) 0 (.string sf) rfl
  have fl0 := own_free o13 0
  have kS : Kp (· = gl) w13 (w13.setCell ⟨gl, 0, none⟩ (.string { data := #[110, 111, 110, 101] })) := (Kp.self gl w13).put 0 _
  have s13 := k13.size
  have C14 := C13.kp kS (fun i hi e => by have := hO10 i hi; omega)
  have K14 : Kp0 w (w13.setCell ⟨gl, 0, none⟩ (.string { data := #[110, 111, 110, 101] })) := K13.trans kS (fun i hi e => by have := K12.size; omega)
  clear hB3 k13 C13 K13 o13 C12 K12 kS hO10 s11 s12 s13
  go_upto_region 12 with fail
  clear cl0 fl0
  generalize w13.setCell ⟨gl, 0, none⟩ (.string { data := #[110, 111, 110, 101] }) = w14 at C14 K14 ⊢
  have hB4 := all37_c g O5 _ w14 C14 (by simp)
  go_wp2_with fail
  refine hB4.mono ?_
  rintro e w15 ⟨vm, rfl, o15, k15⟩
  have C15 := C14.kp k15 (fun _ _ x => x)
  have K15 := K14.then0 k15
  have o15 := own_base o15
  clear hB4 k15 C14 K14
  have ka : Kp0 w15 (w15.alloc (.cells #[.string sf, .string sx, .int .i64 n, .int .i64 s, .string sf, .string sx, .int .i64 (n + 1), .int .i64 s, .string sg, .string sx, .int .i64 n, .int .i64 s, .string sf, .string sy, .int .i64 n, .int .i64 (s + 2)] 63)) := (Kp.refl _ _).alloc _
  have BW : Blk (w15.alloc (.cells #[.string sf, .string sx, .int .i64 n, .int .i64 s, .string sf, .string sx, .int .i64 (n + 1), .int .i64 s, .string sg, .string sx, .int .i64 n, .int .i64 s, .string sf, .string sy, .int .i64 n, .int .i64 (s + 2)] 63)) w15.heap.size #[.string sf, .string sx, .int .i64 n, .int .i64 s, .string sf, .string sx, .int .i64 (n + 1), .int .i64 s, .string sg, .string sx, .int .i64 n, .int .i64 s, .string sf, .string sy, .int .i64 n, .int .i64 (s + 2)] 63 := blk_new _ _ rfl
  have ow : (w15.alloc (.cells #[.string sf, .string sx, .int .i64 n, .int .i64 s, .string sf, .string sx, .int .i64 (n + 1), .int .i64 s, .string sg, .string sx, .int .i64 n, .int .i64 s, .string sf, .string sy, .int .i64 n, .int .i64 (s + 2)] 63)).ownsRow 0 63 4 (.slice (some ⟨w15.heap.size, 0, none⟩) 4 4) 4 (rb [⟨sf, sx, n, s⟩, ⟨sf, sx, n + 1, s⟩, ⟨sg, sx, n, s⟩, ⟨sf, sy, n, s + 2⟩]) := ⟨rfl, .inr ⟨w15.heap.size, 4, _, rfl, Nat.zero_le _, BW, Nat.le_refl _, by decide, rfl, rfl⟩⟩
  have o16 := own_kp o15 ka (fun _ _ x => x)
  have C16 := C15.kp ka (fun _ _ x => x)
  have K16 := K15.then0 ka
  have hS := same41_c vm (.slice (some ⟨w15.heap.size, 0, none⟩) 4 4) [⟨sf, sx, n, s⟩, ⟨sf, sx, n + 1, s⟩, ⟨sg, sx, n, s⟩, ⟨sf, sy, n, s + 2⟩] (by simp) _ o16 ow
  clear BW ow o15 o16 C15 K15 ka
  go_upto_region 14 with fail
  generalize w15.alloc (.cells #[.string sf, .string sx, .int .i64 n, .int .i64 s, .string sf, .string sx, .int .i64 (n + 1), .int .i64 s, .string sg, .string sx, .int .i64 n, .int .i64 s, .string sf, .string sy, .int .i64 n, .int .i64 (s + 2)] 63) = w16 at C16 K16 hS ⊢
  go_wp2_with fail
  refine hS.mono ?_
  rintro e w17 ⟨rfl, k17⟩
  have C17 := C16.kp k17 (fun _ _ x => x)
  have K17 := K16.then0 k17
  clear hS k17 C16 K16
  have hD1 := due38_c g O5 _ (s + 5) 5 w17 C17 (by simp) (by omega) (by omega)
  rw [d5] at hD1
  go_wp2_with fail
  refine hD1.mono ?_
  rintro e w18 ⟨v, rfl, o18, k18, _⟩
  obtain ⟨A18, c18, rfl⟩ := row_any o18
  have C18 := C17.kp k18 (fun _ _ x => x)
  have K18 := K17.then0 k18
  clear hD1 o18 k18 C17 K17 d5
  have hD2 := due38_c g O5 _ (s + 4) 5 w18 C18 (by simp) (by omega) (by omega)
  rw [d4] at hD2
  go_wp2_with fail
  refine hD2.mono ?_
  rintro e w19 ⟨v, rfl, o19, k19, _⟩
  obtain ⟨A19, c19, rfl⟩ := row_any o19
  have C19 := C18.kp k19 (fun _ _ x => x)
  have K19 := K18.then0 k19
  clear hD2 o19 k19 C18 K18 d4
  have hD3 := due38_c g O5 _ (s + 7) 5 w19 C19 (by simp) (by omega) (by omega)
  rw [d7] at hD3
  go_wp2_with fail
  refine hD3.mono ?_
  rintro e w20 ⟨v, rfl, o20, k20, _⟩
  obtain ⟨A20, c20, rfl⟩ := row_any o20
  have C20 := C19.kp k20 (fun _ _ x => x)
  have K20 := K19.then0 k20
  clear hD3 o20 k20 C19 K19 d7
  have hT3 := take_none_c g O5 _ sf sz n w20 C20 (by simp) f8
  go_wp2_with fail
  refine hT3.mono ?_
  rintro e w21 ⟨rfl, k21⟩
  clear hT3 f8 C20
  go_wp2_with fail
  refine (wakes34_c _).mono ?_
  rintro e w22 ⟨rfl, k22⟩
  go_wp2
  go_ret
  exact ⟨rfl, (K20.then0 k21).then0 k22⟩
theorem binCopies_w (v0 v1 : Int) (w : World) (_ : (Lit.int .i64 v0).wf = true) (_ : (Lit.int .i64 v1).wf = true) :
    Calls Try.prog 10 #[.int .i64 v0, .int .i64 v1] w fun e w' => e = .returned (.bool true) ∧ Below w.heap.size w w' :=
  (binCopies_c v0 v1 w).mono fun _ _ h => ⟨h.1, h.2.below0⟩
end Go.Proofs.Ytccamciijpmkjaa
