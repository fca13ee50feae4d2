/- DiskRoom: the walk. -/
import Derived.Test.YtkokgbmeienokaaEq
import Derived.Test.YtkokgbmeienokaaEp
set_option linter.unusedVariables false
set_option linter.unusedSimpArgs false
set_option linter.unnecessarySimpa false
namespace Go.Proofs.Ytkokgbmeienokaa
open Go.RowKit

theorem fd_cut {w w1 : World} {g n : Nat} {O : Nat → Prop} {d d2 : Dk} {p : ByteArray} {m x : Int} (h : Fd w w1 g n O d) (hp : p.size ≤ 100) (hn : n ≤ 1000000) (he : d.cut p m = (x, d2)) :
    Calls Try.prog 33 #[.pointer (some ⟨g, 0, none⟩), .string p, .int .i64 m] w1 fun e w' => e = .returned (.int .i64 x) ∧ ∃ O', Fd w w' g (n + 1) O' d2 :=
  (cut33_c g n O d p hp m hn w1 h.at_).mono fun e w' D => h.did (he ▸ D.1)
theorem fd_ren {w w1 : World} {g n : Nat} {O : Nat → Prop} {d d2 : Dk} {p q : ByteArray} {x : Int} (h : Fd w w1 g n O d) (hp : p.size ≤ 100) (hq : q.size ≤ 100) (hn : n ≤ 1000000) (he : d.ren p q = (x, d2)) :
    Calls Try.prog 32 #[.pointer (some ⟨g, 0, none⟩), .string p, .string q] w1 fun e w' => e = .returned (.int .i64 x) ∧ ∃ O', Fd w w' g (n + 1) O' d2 :=
  (rename32_c g n O d p q hp hq hn w1 h.at_).mono fun e w' D => h.did (he ▸ D)
theorem fd_app2 {w w1 : World} {g n : Nat} {O : Nat → Prop} {d d2 : Dk} {p : ByteArray} {x : Int} (h : Fd w w1 g n O d) (hp : p.size ≤ 100) {A : Option Addr} {c : Nat} {bs : List Int} (hl : bs.length ≤ 1000000) (hn : n ≤ 1000000) (hb : Bz w1 A c bs) (hbO : bs ≠ [] → ∀ b, A = some b → ¬ O b.block) (he : d.app p bs = (x, d2)) :
    Calls Try.prog 20 #[.pointer (some ⟨g, 0, none⟩), .string p, .slice A bs.length c] w1 fun e w' => e = .returned (.int .i64 x) ∧ Kp O w1 w' ∧ ∃ O', Fd w w' g (n + 1) O' d2 ∧ ∀ i, O' i → O i ∨ w1.heap.size ≤ i := by
  refine (append20_c g n O d p hp A c bs hl hn w1 h.at_ hb hbO).mono ?_
  rintro e w' D
  have D2 := h.did (he ▸ D)
  obtain ⟨O', _, h1, h2, k⟩ := D
  rw [he] at h1
  refine ⟨D2.1, k, O', ⟨h1, fun i hi => ?_, h.kp.trans k (fun i hi e => by have := h.new i e; omega)⟩, h2⟩
  rcases h2 i hi with h3 | h3
  · exact h.new i h3
  · exact Nat.le_trans h.kp.size h3
theorem dq2 (Q : Nat) (h : Q ≤ 65536) : dk0 (if (Q : Int) < 0 then 0 else if (65536 : Int) < Q then 65536 else (Q : Int).toNat) = al Q [] none := by
  rw [if_neg (by omega), if_neg (by omega), Int.toNat_natCast]; rfl
theorem fd_room {w w1 : World} {g n : Nat} {O : Nat → Prop} {d : Dk} (h : Fd w w1 g n O d) (R : Nat) (hr : d.used + R = d.quota) :
    Calls Try.prog 36 #[.pointer (some ⟨g, 0, none⟩)] w1 fun e w' => e = .returned (.int .i64 (R : Int)) ∧ Fd w w' g n O d ∧ Kp0 w1 w' := by
  refine (room36_c g n O d w1 h.at_).mono ?_
  rintro e w' ⟨rfl, k⟩
  have : (d.quota : Int) - (d.used : Int) = R := by omega
  rw [this]
  exact ⟨rfl, h.kp0 k, k⟩
theorem fd_used {w w1 : World} {g n : Nat} {O : Nat → Prop} {d : Dk} (h : Fd w w1 g n O d) (R : Nat) (hr : d.used = R) :
    Calls Try.prog 27 #[.pointer (some ⟨g, 0, none⟩)] w1 fun e w' => e = .returned (.int .i64 (R : Int)) ∧ Fd w w' g n O d ∧ Kp0 w1 w' := by
  refine (used27_c g n O d w1 h.at_).mono ?_
  rintro e w' ⟨rfl, k⟩
  rw [hr]
  exact ⟨rfl, h.kp0 k, k⟩
theorem fresh_not {w w1 w2 : World} {g n : Nat} {O : Nat → Prop} {d : Dk} (h : Fd w w1 g n O d) (c : Nat) : ∀ b, (some (⟨w1.heap.size, 0, none⟩ : Addr)) = some b → ¬ O b.block := fun b hb ho => by
  injection hb with hb; subst hb; exact Nat.lt_irrefl _ (h.at_.olt _ ho)

set_option maxHeartbeats 1000000 in
theorem room2 (Q a M : Nat) (ha : a + M = Q) (h0 : a < Q) : ∃ d1 d2 d3, ((al Q [] none).used = 0 ∧ (al Q [] none).app pa (rp a) = (0, d1) ∧ d1.app pB (rp M) = (0, d2) ∧ d2.used + 0 = d2.quota ∧ d2.app pC [1] = (6, d2) ∧ d2.app pC [] = (0, d3)) ∧
    ∀ b, b ≤ M → ∃ d4 d5 d6 d7, d3.cut pB (b : Int) = (0, d4) ∧ d4.used = a + b ∧ d4.used + (M - b) = d4.quota ∧ d4.ren pa pB = (0, d5) ∧ d5.used = a ∧ d5.rem pB = (0, d6) ∧ d6.used = 0 ∧ d6.lst = [pC] ∧ d6.app pX (rp Q) = (0, d7) ∧ d7.used + 0 = d7.quota := by
  have hM : Q - a = M := by omega
  obtain ⟨d1, d2, d3, _, _, _, _, u0, e1, e2, u2, e3, e4, _, _, _, _, _, _, _, _, _, q1, q2, _⟩ := room_law Q a 0 h0 (by omega)
  rw [hM] at e2
  refine ⟨d1, d2, d3, ⟨u0, e1, e2, by omega, e3, e4⟩, fun b hb => ?_⟩
  obtain ⟨d1', d2', d3', d4, d5, d6, d7, _, f1, f2, _, _, f4, e5, u4, e6, u5, e7, u6, l6, e8, u7, _, _, q3, q4, q5, q6, q7⟩ := room_law Q a b h0 (by omega)
  rw [hM] at f2
  obtain rfl : d1 = d1' := (Prod.mk.inj (e1.symm.trans f1)).2
  obtain rfl : d2 = d2' := (Prod.mk.inj (e2.symm.trans f2)).2
  obtain rfl : d3 = d3' := (Prod.mk.inj (e4.symm.trans f4)).2
  exact ⟨d4, d5, d6, d7, e5, u4, by omega, e6, u5, e7, u6, l6, e8, by omega⟩

set_option maxRecDepth 100000 in
set_option maxHeartbeats 4000000 in
theorem diskRoom_c (v0 v1 v2 : Int) (w : World) :
    Calls Try.prog 6 #[.int .i64 v0, .int .i64 v1, .int .i64 v2] w fun e' w' => e' = .returned (.bool true) ∧ Kp0 w w' := by
  go_enter Try.func6, Try.ntmps6
  go_wp2_with fail
  refine (within22_x v0 200 (by omega) (by omega) w).mono ?_
  rintro e w' ⟨r, hr, rfl, rfl⟩
  obtain ⟨Q, hQ⟩ : ∃ Q, 2 + r = Q := ⟨_, rfl⟩
  have hwQ : IntKind.i64.wrap (2 + (r : Int)) = (Q : Int) := by rw [IntKind.wrap_i64]; omega
  have hQ1 : 2 ≤ Q ∧ Q ≤ 201 := by omega
  clear hQ hr
  go_wp2_with fail
  clear hwQ
  refine (within22_x v1 Q (by omega) (by omega) w).mono ?_
  rintro e w' ⟨a, ha, rfl, rfl⟩
  obtain ⟨M, haM⟩ : ∃ M, a + M = Q := ⟨Q - a, by omega⟩
  have hwM : IntKind.i64.wrap ((Q : Int) - (a : Int)) = (M : Int) := by rw [IntKind.wrap_i64]; omega
  obtain ⟨d1, d2, d3, hE, hL⟩ := room2 Q a M haM (by omega)
  have HE := Lib.hid hE
  have HL := Lib.hid hL
  clear hE hL
  go_wp2_with fail
  refine (new19_c Q w).mono ?_
  rintro e w1 ⟨g, O, rfl, h1, hO, k1⟩
  rw [dq2 Q (by omega)] at h1
  have F1 : Fd w w1 g 0 O (al Q [] none) := ⟨h1, hO, k1⟩
  clear h1 hO k1
  go_wp2_with fail
  refine (fd_room F1 Q (by rw [HE.out.1]; show 0 + Q = Q; omega)).mono ?_
  rintro e w2 ⟨rfl, F2, _⟩
  clear F1
  obtain ⟨w3, hmk, z3, k3⟩ := madeN a (by omega) w2
  go_wp2_with fail
  clear hmk
  have happ := fd_app2 (F2.kp0 k3) (p := pa) (by decide) (by rw [rp_len]; omega) (by omega) (show Bz w3 (some ⟨w2.heap.size, 0, none⟩) a (rp a) from z3) (fun _ b hb ho => by injection hb with hb; subst hb; exact Nat.lt_irrefl _ (F2.at_.olt _ ho)) HE.out.2.1
  rw [rp_len] at happ
  refine happ.mono ?_
  rintro e w4 ⟨rfl, _, O4, F4, _⟩
  clear happ F2 z3 k3
  obtain ⟨w5, hmk, z5, k5⟩ := madeN M (by omega) w4
  go_wp2_with fail
  clear hmk
  have happ := fd_app2 (F4.kp0 k5) (p := pB) (by decide) (by rw [rp_len]; omega) (by omega) (show Bz w5 (some ⟨w4.heap.size, 0, none⟩) M (rp M) from z5) (fun _ b hb ho => by injection hb with hb; subst hb; exact Nat.lt_irrefl _ (F4.at_.olt _ ho)) HE.out.2.2.1
  rw [rp_len] at happ
  refine happ.mono ?_
  rintro e w6 ⟨rfl, _, O6, F6, _⟩
  clear happ F4 z5 k5
  go_wp2_with fail
  refine (fd_room F6 0 HE.out.2.2.2.1).mono ?_
  rintro e w7 ⟨rfl, F7, _⟩
  clear F6
  have ka : Kp0 w7 (w7.alloc (.cells #[.int .u8 1] 5)) := (Kp.refl _ _).alloc _
  have hlt := F7.at_.olt
  go_wp2_with fail
  refine (fd_app (F7.kp0 ka) (p := pC) (bs := [1]) (by decide) (by simp) (by omega) (one_bz (blk_new _ _ rfl) (by omega)) (fun _ b hb ho => ?_) HE.out.2.2.2.2.1).mono ?_
  · injection hb with hb; subst hb; exact Nat.lt_irrefl _ (hlt _ ho)
  rintro e w8 ⟨rfl, O8, F8⟩
  clear F7 ka hlt
  -- the last number
  have hwM1 : IntKind.i64.wrap ((M : Int) + 1) = (M : Int) + 1 := by rw [IntKind.wrap_i64]; omega
  go_wp2_with fail
  refine (fd_app F8 (p := pC) (bs := []) (by decide) (by simp) (by omega) (.inl ⟨.inl ⟨rfl, rfl, rfl⟩, by simp⟩) (by simp) HE.out.2.2.2.2.2).mono ?_
  rintro e w9 ⟨rfl, O9, F9⟩
  clear F8
  go_wp2_with fail
  refine (within22_x v2 ((M : Int) + 1) (by omega) (by omega) _).mono ?_
  rintro e w' ⟨b, hb, rfl, rfl⟩
  obtain ⟨d4, d5, d6, d7, e5, u4, hr4, e6, u5, e7, u6, l6, e8, hr7⟩ := HL.out b (by omega)
  obtain ⟨S, hS⟩ : ∃ S, a + b = S := ⟨_, rfl⟩
  obtain ⟨R, hR⟩ : ∃ R, M - b = R := ⟨_, rfl⟩
  have hwS : IntKind.i64.wrap ((a : Int) + (b : Int)) = (S : Int) := by rw [IntKind.wrap_i64]; omega
  have hwR : IntKind.i64.wrap ((M : Int) - (b : Int)) = (R : Int) := by rw [IntKind.wrap_i64]; omega
  rw [hS] at u4
  rw [hR] at hr4
  have E5 := Lib.hid e5
  have E6 := Lib.hid e6
  have E7 := Lib.hid e7
  have E8 := Lib.hid e8
  have U4 := Lib.hid u4
  have R4 := Lib.hid hr4
  have U5 := Lib.hid u5
  have U6 := Lib.hid u6
  have L6 := Lib.hid l6
  have R7 := Lib.hid hr7
  clear e5 e6 e7 e8 u4 hr4 u5 u6 l6 hr7 HL HE hS hR hwM1 hb
  go_wp2_with fail
  refine (fd_cut F9 (p := pB) (by decide) (by omega) E5.out).mono ?_
  rintro e w10 ⟨rfl, O10, F10⟩
  clear F9
  go_wp2_with fail
  refine (fd_used F10 S U4.out).mono ?_
  rintro e w11 ⟨rfl, F11, _⟩
  clear F10
  go_wp2_with fail
  refine (fd_room F11 R R4.out).mono ?_
  rintro e w12 ⟨rfl, F12, _⟩
  clear F11
  go_wp2_with fail
  refine (fd_ren F12 (p := pa) (q := pB) (by decide) (by decide) (by omega) E6.out).mono ?_
  rintro e w13 ⟨rfl, O13, F13⟩
  clear F12
  go_wp2_with fail
  refine (fd_used F13 a U5.out).mono ?_
  rintro e w14 ⟨rfl, F14, _⟩
  clear F13
  go_wp2_with fail
  refine (fd_rem F14 (p := pB) (by decide) (by omega) E7.out).mono ?_
  rintro e w15 ⟨rfl, O15, F15⟩
  clear F14
  go_wp2_with fail
  refine (fd_used F15 0 U6.out).mono ?_
  rintro e w16 ⟨rfl, F16, _⟩
  clear F15 hwS hwR hwM
  go_wp2_with fail
  refine (new19_c (-5) w16).mono ?_
  rintro e w17 ⟨gn, On, rfl, hn17, hOn, k17⟩
  have F17 := F16.kp0 k17
  go_wp2_with fail
  refine (new19_c 65545 w17).mono ?_
  rintro e w18 ⟨gm, Om, rfl, hm18, hOm, k18⟩
  have F18 := F17.kp0 k18
  have hn18 := hn17.kp0 k18
  have hOlt : ∀ i, O15 i → i < w16.heap.size := F16.at_.olt
  clear F16 F17 hn17
  have hz17 := k17.size
  go_wp2_with fail
  refine (fd_list F18 (by omega) _ L6.out).mono ?_
  rintro e w19 ⟨A19, c19, rfl, o19, F19, k19⟩
  have ka : Kp0 w19 (w19.alloc (.cells #[.string pC] 9)) := (Kp.refl _ _).alloc _
  have B19 : Blk (w19.alloc (.cells #[.string pC] 9)) w19.heap.size #[.string pC] 9 := blk_new _ _ rfl
  have hsame := same37_c A19 c19 (some ⟨w19.heap.size, 0, none⟩) 1 [pC] (by simp) _ ((sg_own o19).kp0 ka) (sg_blk B19)
  have F20 := F19.kp0 ka
  have hn20 := (hn18.kp0 k19).kp0 ka
  have hm20 := (hm18.kp0 k19).kp0 ka
  clear F18 F19 o19 B19 ka hn18 hm18 k19 k18 k17
  go_wp2_with fail
  refine hsame.mono ?_
  rintro e w21 ⟨rfl, k21⟩
  have F21 := F20.kp0 k21
  have hn21 := hn20.kp0 k21
  have hm21 := hm20.kp0 k21
  clear hsame F20 k21 hn20 hm20
  obtain ⟨w22, hmk, z22, k22⟩ := madeN Q (by omega) w21
  have hn22 := hn21.kp0 k22
  have hm22 := hm21.kp0 k22
  go_wp2_with fail
  clear hmk
  have happ := fd_app2 (F21.kp0 k22) (p := pX) (by decide) (by rw [rp_len]; omega) (by omega) (show Bz w22 (some ⟨w21.heap.size, 0, none⟩) Q (rp Q) from z22) (fun _ b hb ho => by injection hb with hb; subst hb; exact Nat.lt_irrefl _ (F21.at_.olt _ ho)) E8.out
  rw [rp_len] at happ
  refine happ.mono ?_
  rintro e w23 ⟨rfl, K23, O23, F23, _⟩
  have hn23 := hn22.kp K23 (fun i hi h => by have := hOn i hi; have := hOlt i h; omega)
  have hm23 := hm22.kp K23 (fun i hi h => by have := hOm i hi; have := hOlt i h; omega)
  clear happ F21 z22 k22 hn22 hm22 hn21 hm21 K23
  go_wp2_with fail
  refine (fd_room F23 0 R7.out).mono ?_
  rintro e w24 ⟨rfl, F24, k24⟩
  have hn24 := hn23.kp0 k24
  have hm24 := hm23.kp0 k24
  clear F23 hn23 hm23 k24
  go_wp2_with fail
  refine (room36_c gn _ _ _ w24 hn24).mono ?_
  rintro e w25 ⟨rfl, k25⟩
  have F25 := F24.kp0 k25
  have hm25 := hm24.kp0 k25
  clear F24 hn24 hm24 k25
  go_wp2_with fail
  refine (room36_c gm _ _ _ w25 hm25).mono ?_
  rintro e w26 ⟨rfl, k26⟩
  have F26 := F25.kp0 k26
  clear F25 hm25 k26
  go_wp2_with fail
  refine (wakes29_c w26).mono ?_
  rintro e w27 ⟨rfl, k27⟩
  have K := F26.kp.then0 k27
  clear F26 k27
  go_wp2
  go_ret
  exact ⟨rfl, K⟩

theorem diskRoom_w (v0 v1 v2 : Int) (w : World) (h0 : (Lit.int .i64 v0).wf = true) (h1 : (Lit.int .i64 v1).wf = true) (h2 : (Lit.int .i64 v2).wf = true) :
    Calls Try.prog 6 #[.int .i64 v0, .int .i64 v1, .int .i64 v2] w fun e' w' => e' = .returned (.bool true) ∧ Below w.heap.size w w' :=
  (diskRoom_c v0 v1 v2 w).mono fun _ _ h => ⟨h.1, h.2.below0⟩
end Go.Proofs.Ytkokgbmeienokaa
