/- PathTells: the walk. -/
import Derived.Test.YtecgaggkpbikbaaDoorP4
set_option linter.unusedVariables false
set_option linter.unusedSimpArgs false
namespace Go.Proofs.YtecgaggkpbikbaaDoor
open Go.RowKit

set_option maxRecDepth 100000 in
set_option maxHeartbeats 4000000 in
theorem pathTells_c (n how : Int) (f e s : ByteArray) (hf : f.size ≤ 9223372036854775807) (he : e.size ≤ 9223372036854775807) (hs : s.size ≤ 9223372036854775000) (w : World) :
    Calls Tryd.prog 8 #[.int .i64 n, .string f, .string e, .int .i64 how, .string s] w fun e' w' => e' = .returned (.bool true) ∧ Kp0 w w' := by
  go_enter Tryd.func8, Tryd.ntmps8
  go_upto_if 13 with fail
  go_cut [0] from 11 to 94 (fun s0 wx => ∃ n' : Int, s0 = .int .i64 n' ∧ w = wx)
  case first =>
    cases hc : (how.tmod 5 != 4) with
    | true =>
      go_wp2_with fail
      refine (within10_x n 27 (by omega) (by omega) w).mono ?_
      rintro e' w' ⟨r, hr, rfl, rfl⟩
      go_wp2_with fail
      go_meet
      exact ⟨_, rfl, rfl⟩
    | false =>
      go_wp2_with fail
      go_meet
      exact ⟨_, rfl, rfl⟩
  case rest =>
  obtain ⟨n', rfl, rfl⟩ := hcut
  go_wp2_with fail
  refine (text16_c f 10 (by omega) hf _).mono ?_
  rintro e' w1 ⟨rfl, rfl⟩
  go_wp2_with fail
  refine (text16_c e 10 (by omega) he _).mono ?_
  rintro e' w1 ⟨rfl, rfl⟩
  have zs := txt_sz f 10
  have zt := txt_sz e 10
  generalize txt f 10 = f1 at zs ⊢
  generalize txt e 10 = e1 at zt ⊢
  clear hf he
  go_upto_if 23 with fail
  go_cut [1, 2] from 11 to 94 (fun s1 s2 wx => ∃ f' e' : ByteArray, s1 = .string f' ∧ s2 = .string e' ∧ f'.size ≤ 10 ∧ e'.size ≤ 10 ∧ Kp0 w wx)
  case first =>
    cases hc : (how.tmod 3 != 2) with
    | true =>
      have ka : Kp0 w (w.alloc (.cells #[.string es, .string { data := #[49] }, .string { data := #[120, 57] }] 9)) := (Kp.refl _ _).alloc _
      have B : Blk (w.alloc (.cells #[.string es, .string { data := #[49] }, .string { data := #[120, 57] }] 9)) w.heap.size #[.string es, .string { data := #[49] }, .string { data := #[120, 57] }] 9 := blk_new _ _ rfl
      go_wp2_with fail
      refine (within10_x how 3 (by omega) (by omega) (w.alloc (.cells #[.string es, .string { data := #[49] }, .string { data := #[120, 57] }] 9))).mono ?_
      rintro e' w' ⟨r, hr, rfl, rfl⟩
      have c0 := B.cell 0
      have c1 := B.cell 1
      have c2 := B.cell 2
      generalize w.alloc (.cells #[.string es, .string { data := #[49] }, .string { data := #[120, 57] }] 9) = W at ka c0 c1 c2 ⊢
      simp at c0 c1 c2
      obtain rfl | rfl | rfl : r = 0 ∨ r = 1 ∨ r = 2 := by omega
      · go_wp2_with fail
        go_meet
        exact ⟨_, _, rfl, rfl, by decide, by decide, ka⟩
      · go_wp2_with fail
        go_meet
        exact ⟨_, _, rfl, rfl, by decide, by decide, ka⟩
      · go_wp2_with fail
        go_meet
        exact ⟨_, _, rfl, rfl, by decide, by decide, ka⟩
    | false =>
      go_wp2_with fail
      go_meet
      exact ⟨_, _, rfl, rfl, zs, zt, Kp.refl _ _⟩
  case rest =>
  obtain ⟨f2, e2, rfl, rfl, z1, z2, K⟩ := hcut
  clear zs zt
  go_upto_if 32 with fail
  go_cut [4] from 11 to 94 (fun s4 wx => ∃ s' : ByteArray, s4 = .string s' ∧ s'.size ≤ 9223372036854775001 ∧ wc = wx)
  case first =>
    cases hc : (how.tmod 7 == 5) with
    | true =>
      have h1 : s.size + tl.size ≤ 9223372036854775807 := by have : tl.size = 1 := rfl; omega
      have h2 : s.size + 1 ≤ 9223372036854775807 := by omega
      have h3 : (s ++ tl).size ≤ 9223372036854775001 := by rw [ByteArray.size_append]; have : tl.size = 1 := rfl; omega
      generalize hst : s ++ tl = st at h3
      have HS := Lib.hid hst
      clear hst
      go_wp2_with fail
      go_meet
      exact ⟨st, by rw [← HS.out], h3, rfl⟩
    | false =>
      go_wp2_with fail
      go_meet
      exact ⟨s, rfl, by omega, rfl⟩
  case rest =>
  obtain ⟨s2, rfl, hs2, rfl⟩ := hcut
  clear hs
  have a1 := fun W => admit19_c n' W
  have a2 := fun W => radm26_c n' W
  generalize adm n' = A at a1 a2
  have b1 := fun W => log20_c f2 e2 (by omega) (by omega) W
  have b2 := fun W => rlog27_c f2 e2 (by omega) (by omega) W
  generalize lgp f2 e2 = L at b1 b2
  have c1 := fun W => gone21_c f2 e2 n' (by omega) (by omega) W
  have c2 := fun W => rof28_c { data := #[103, 111, 110, 101] } f2 e2 n' (by decide) (by omega) (by omega) W
  generalize ofp { data := #[103, 111, 110, 101] } f2 e2 n' = G at c1 c2
  have d1 := fun W => box22_c f2 e2 n' (by omega) (by omega) W
  have d2 := fun W => rof28_c { data := #[98, 111, 120] } f2 e2 n' (by decide) (by omega) (by omega) W
  generalize ofp { data := #[98, 111, 120] } f2 e2 n' = X at d1 d2
  have hz : s2.size + tl.size ≤ 9223372036854775807 := by have : tl.size = 1 := rfl; omega
  have hz1 : s2.size + 1 ≤ 9223372036854775807 := by omega
  have t1 := fun W => temp23_c s2 (by omega) W
  have i1 := fun W => istemp24_c s2 (by omega) W
  have i2 := fun W => ristemp29_c s2 (by omega) W
  have i3 := fun W => istemp24_c (s2 ++ tl) (by rw [ByteArray.size_append]; exact hz) W
  have ht : isT (s2 ++ tl) = true := by
    unfold isT
    rw [show (s2 ++ tl).data.toList = tol s2 ++ [126] from tol_app s2 tl]
    unfold Lib.hasSuffix
    rw [List.isSuffixOf_iff_suffix]
    exact List.suffix_append _ _
  rw [ht] at i3
  clear ht
  generalize isT s2 = I at i1 i2
  generalize hst : s2 ++ tl = st at t1 i3
  have HS := Lib.hid hst
  have HA1 := Lib.hid a1
  have HA2 := Lib.hid a2
  have HB1 := Lib.hid b1
  have HB2 := Lib.hid b2
  have HC1 := Lib.hid c1
  have HC2 := Lib.hid c2
  have HD1 := Lib.hid d1
  have HD2 := Lib.hid d2
  have HT := Lib.hid t1
  have HI1 := Lib.hid i1
  have HI2 := Lib.hid i2
  have HI3 := Lib.hid i3
  clear a1 a2 b1 b2 c1 c2 d1 d2 t1 i1 i2 i3 hst z1 z2 hs2
  go_wp2_with fail
  refine (HA1.out _).mono ?_
  rintro e' w1 ⟨rfl, rfl⟩
  go_wp2_with fail
  refine (HA2.out _).mono ?_
  rintro e' w1 ⟨rfl, k1⟩
  have K1 := K.then0 k1
  go_wp2_with fail
  refine (HB1.out _).mono ?_
  rintro e' w2 ⟨rfl, k2⟩
  have K2 := K1.then0 k2
  go_wp2_with fail
  refine (HB2.out _).mono ?_
  rintro e' w3 ⟨rfl, k3⟩
  have K3 := K2.then0 k3
  go_wp2_with fail
  refine (HC1.out _).mono ?_
  rintro e' w4 ⟨rfl, k4⟩
  have K4 := K3.then0 k4
  go_wp2_with fail
  refine (HC2.out _).mono ?_
  rintro e' w5 ⟨rfl, k5⟩
  have K5 := K4.then0 k5
  go_wp2_with fail
  refine (HD1.out _).mono ?_
  rintro e' w6 ⟨rfl, k6⟩
  have K6 := K5.then0 k6
  go_wp2_with fail
  refine (HD2.out _).mono ?_
  rintro e' w7 ⟨rfl, k7⟩
  have K7 := K6.then0 k7
  clear K K1 K2 K3 K4 K5 K6 k1 k2 k3 k4 k5 k6 k7
  go_wp2_with fail
  refine (HT.out _).mono ?_
  rintro e' w8 ⟨rfl, rfl⟩
  have hst := HS.out
  go_wp2_with fail
  clear hst
  refine (HI1.out _).mono ?_
  rintro e' w8 ⟨rfl, rfl⟩
  go_wp2_with fail
  refine (HI2.out _).mono ?_
  rintro e' w8 ⟨rfl, rfl⟩
  go_wp2_with fail
  refine (HT.out _).mono ?_
  rintro e' w8 ⟨rfl, rfl⟩
  go_wp2_with fail
  refine (HI3.out _).mono ?_
  rintro e' w8 ⟨rfl, rfl⟩
  go_wp2_with fail
  refine (wakes25_c _).mono ?_
  rintro e' w8 ⟨rfl, rfl⟩
  go_wp2
  go_ret
  exact ⟨rfl, K7⟩
theorem pathTells_w (n : Int) (f e : ByteArray) (how : Int) (s : ByteArray) (w : World) (hn : (Lit.int .i64 n).wf = true) (hf : f.size ≤ maxLen) (he : e.size ≤ maxLen) (hh : (Lit.int .i64 how).wf = true) (hs : s.size ≤ 140737488351232) :
    Calls Tryd.prog 8 #[.int .i64 n, .string f, .string e, .int .i64 how, .string s] w fun e' w' => e' = .returned (.bool true) ∧ Below w.heap.size w w' :=
  (pathTells_c n how f e s (by unfold maxLen at hf; omega) (by unfold maxLen at he; omega) (by omega) w).mono fun _ _ h => ⟨h.1, h.2.below0⟩
end Go.Proofs.YtecgaggkpbikbaaDoor
