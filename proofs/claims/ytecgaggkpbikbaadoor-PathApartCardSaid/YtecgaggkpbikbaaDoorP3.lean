/- PathForms: the walk. -/
import Derived.Test.YtecgaggkpbikbaaDoorP2
set_option linter.unusedVariables false
set_option linter.unusedSimpArgs false
namespace Go.Proofs.YtecgaggkpbikbaaDoor
open Go.RowKit

theorem pl_to (s : ByteArray) (n : Nat) (h : n ≤ s.size) (W : World) : (Instr.sliceAt 9 (.string s) none (some (.int .i64 (n : Int))) none).run Tryd.prog W = .ok (.string (s.extract 0 n)) W := by
  rw [run_sliceAt_string _ _ _ _ _ _ Tryd.underlying9, run_slice_string_h _ _ _ Tryd.underlying9 _ _ (by omega) (by omega), Int.toNat_natCast]
theorem pl_from (s : ByteArray) (n : Nat) (h : n ≤ s.size) (W : World) : (Instr.sliceAt 9 (.string s) (some (.int .i64 (n : Int))) none none).run Tryd.prog W = .ok (.string (s.extract n s.size)) W := by
  rw [run_sliceAt_string _ _ _ _ _ _ Tryd.underlying9, run_slice_string_l _ _ _ Tryd.underlying9 _ _ (by omega) (by omega), Int.toNat_natCast]
abbrev dg : ByteArray := { data := #[48, 49, 50, 51, 52, 53, 54, 55, 56, 57] }
theorem digit (q : Nat) (h : q < 10) : tol ((dg.extract q dg.size).extract 0 1) = [UInt8.ofNat (48 + q)] := by
  rw [tol_cut, tol_ext]
  obtain rfl | rfl | rfl | rfl | rfl | rfl | rfl | rfl | rfl | rfl : q = 0 ∨ q = 1 ∨ q = 2 ∨ q = 3 ∨ q = 4 ∨ q = 5 ∨ q = 6 ∨ q = 7 ∨ q = 8 ∨ q = 9 := by omega
  all_goals decide
theorem adm_no {n : Int} (h : n < 1 ∨ 24 < n) : adm n = es := if_pos h
theorem adm_yes (m : Nat) (h : 1 ≤ m ∧ m ≤ 24) : adm (m : Int) = { data := #[97, 100, 109, 105, 116, 47] } ++ twN m := by
  unfold adm
  rw [if_neg (by omega), tw_yes (by omega), Int.toNat_natCast]
theorem ofp_yes (h f e : ByteArray) (m : Nat) (hf : rgt f = true) (he : rgt e = true) (hm : 1 ≤ m ∧ m ≤ 24) (K : ByteArray) (hK : tol K = tol h ++ 47 :: (tol f ++ 47 :: (tol e ++ [47]))) : ofp h f e (m : Int) = K ++ twN m := by
  unfold ofp
  rw [if_pos ⟨hf, he, by omega, by omega⟩, tw_yes (by omega), Int.toNat_natCast]
  apply tol_inj
  rw [tol_jn, tol_app, hK]
  simp
theorem ofp_no (h f e : ByteArray) (n : Int) (hx : rgt f = false ∨ rgt e = false ∨ n < 1 ∨ 24 < n) : ofp h f e n = es := by
  unfold ofp
  rw [if_neg]
  rintro ⟨h1, h2, h3, h4⟩
  rcases hx with hx | hx | hx
  · rw [hx] at h1; cases h1
  · rw [hx] at h2; cases h2
  · omega

set_option maxRecDepth 100000 in
set_option maxHeartbeats 4000000 in
theorem pathForms_c (v0 : Int) (w : World) : Calls Tryd.prog 7 #[.int .i64 v0] w fun e w' => e = .returned (.bool true) ∧ Kp0 w w' := by
  go_enter Tryd.func7, Tryd.ntmps7
  go_wp2_with fail
  refine (within10_x v0 24 (by omega) (by omega) w).mono ?_
  rintro e w' ⟨r0, h0, rfl, rfl⟩
  obtain ⟨n, hn⟩ : ∃ n, 1 + r0 = n := ⟨_, rfl⟩
  have hn24 : 1 ≤ n ∧ n ≤ 24 := by omega
  have hwn : IntKind.i64.wrap (1 + (r0 : Int)) = (n : Int) := by rw [IntKind.wrap_i64]; omega
  have ewn : wrap64 (1 + (r0 : Int)) = (n : Int) := by unfold wrap64; omega
  obtain ⟨q, hq⟩ : ∃ q, n / 10 = q := ⟨_, rfl⟩
  obtain ⟨r, hr⟩ : ∃ r, n % 10 = r := ⟨_, rfl⟩
  have hq10 : q < 10 := by omega
  have hr10 : r < 10 := by omega
  have eq1 : (n : Int).tdiv 10 = (q : Int) := by rw [← hq]; rfl
  have eq2 : (n : Int).tmod 10 = (r : Int) := by rw [← hr]; rfl
  have eq3 : wrap64 (q : Int) = (q : Int) := by unfold wrap64; omega
  have eq4 : IntKind.i64.wrap (q : Int) = (q : Int) := by rw [IntKind.wrap_i64]; omega
  have s1 := fun W => pl_from dg q (show q ≤ 10 by omega) W
  have s2 := fun W => pl_from dg r (show r ≤ 10 by omega) W
  have hA : (dg.extract q dg.size).size = 10 - q := by rw [ByteArray.size_extract]; show min 10 10 - q = 10 - q; omega
  have hB : (dg.extract r dg.size).size = 10 - r := by rw [ByteArray.size_extract]; show min 10 10 - r = 10 - r; omega
  have s3 : ∀ W, (Instr.sliceAt 9 (.string (dg.extract q dg.size)) none (some (.int .i64 1)) none).run Tryd.prog W = .ok (.string ((dg.extract q dg.size).extract 0 1)) W := fun W => pl_to (dg.extract q dg.size) 1 (by omega) W
  have s4 : ∀ W, (Instr.sliceAt 9 (.string (dg.extract r dg.size)) none (some (.int .i64 1)) none).run Tryd.prog W = .ok (.string ((dg.extract r dg.size).extract 0 1)) W := fun W => pl_to (dg.extract r dg.size) 1 (by omega) W
  have d1 := digit q hq10
  have d2 := digit r hr10
  have hd : (dg.extract q dg.size).extract 0 1 ++ (dg.extract r dg.size).extract 0 1 = twN n := tol_inj (by rw [tol_app, d1, d2, tol_twN, hq, hr]; rfl)
  have z1 : ((dg.extract q dg.size).extract 0 1).size = 1 := by rw [sz_tol, d1]; rfl
  have z2 : ((dg.extract r dg.size).extract 0 1).size = 1 := by rw [sz_tol, d2]; rfl
  generalize (dg.extract q dg.size).extract 0 1 = a1 at s3 hd z1
  generalize (dg.extract r dg.size).extract 0 1 = b1 at s4 hd z2
  generalize dg.extract q dg.size = qa at s1 s3
  generalize dg.extract r dg.size = qb at s2 s4
  have zz : a1.size + b1.size ≤ 9223372036854775807 := by omega
  have A1 := fun W => admit19_c (n : Int) W
  have G1 := fun W => gone21_c { data := #[102, 49] } { data := #[120] } (n : Int) (by decide) (by decide) W
  have X1 := fun W => box22_c { data := #[102, 49] } { data := #[120] } (n : Int) (by decide) (by decide) W
  rw [adm_yes n hn24] at A1
  rw [ofp_yes _ _ _ n (by decide) (by decide) hn24 { data := #[103, 111, 110, 101, 47, 102, 49, 47, 120, 47] } rfl] at G1
  rw [ofp_yes _ _ _ n (by decide) (by decide) hn24 { data := #[98, 111, 120, 47, 102, 49, 47, 120, 47] } rfl] at X1
  have zd : (twN n).size = 2 := rfl
  generalize twN n = d at hd A1 G1 X1 zd
  have A2 := fun W => admit19_c 0 W
  have A3 := fun W => admit19_c (-(n : Int)) W
  have A4 := fun W => admit19_c (24 + (n : Int)) W
  rw [adm_no (by omega)] at A2 A3 A4
  have L1 := fun W => log20_c { data := #[102, 49] } { data := #[97, 98] } (by decide) (by decide) W
  have L2 := fun W => log20_c { data := #[102] } es (by decide) (by decide) W
  have L3 := fun W => log20_c { data := #[70] } { data := #[97] } (by decide) (by decide) W
  rw [show lgp { data := #[102, 49] } { data := #[97, 98] } = { data := #[108, 111, 103, 47, 102, 49, 47, 97, 98] } from tol_inj (by decide)] at L1
  rw [show lgp { data := #[102] } es = es from tol_inj (by decide)] at L2
  rw [show lgp { data := #[70] } { data := #[97] } = es from tol_inj (by decide)] at L3
  have G2 := fun W => gone21_c es { data := #[120] } (n : Int) (by decide) (by decide) W
  have G3 := fun W => gone21_c { data := #[102] } { data := #[120] } 0 (by decide) (by decide) W
  have G4 := fun W => gone21_c { data := #[102] } { data := #[120] } 25 (by decide) (by decide) W
  have X2 := fun W => box22_c { data := #[102] } { data := #[88] } (n : Int) (by decide) (by decide) W
  have X3 := fun W => box22_c { data := #[102] } { data := #[120] } (-1) (by decide) (by decide) W
  have r0 : rgt es = false := by decide
  have rX : rgt { data := #[88] } = false := by decide
  rw [ofp_no _ es _ _ (.inl r0)] at G2
  rw [ofp_no _ _ _ 0 (.inr (.inr (.inl (by omega))))] at G3
  rw [ofp_no _ _ _ 25 (.inr (.inr (.inr (by omega))))] at G4
  rw [ofp_no _ _ _ (-1) (.inr (.inr (.inl (by omega))))] at X3
  rw [ofp_no _ _ { data := #[88] } _ (.inr (.inl rX))] at X2
  have T1 := fun W => temp23_c epo (by decide) W
  rw [show epo ++ tl = { data := #[101, 112, 111, 99, 104, 126] } from tol_inj (by decide)] at T1
  have I1 := fun W => istemp24_c tl (by decide) W
  have I2 := fun W => istemp24_c es (by decide) W
  have I3 := fun W => istemp24_c { data := #[97, 126, 98] } (by decide) W
  rw [show isT tl = true by decide] at I1
  rw [show isT es = false by decide] at I2
  rw [show isT { data := #[97, 126, 98] } = false by decide] at I3
  have hneg : wrap64 (-(n : Int)) = -(n : Int) := by unfold wrap64; omega
  have hadd : wrap64 (24 + (n : Int)) = 24 + (n : Int) := by unfold wrap64; omega
  have y1 : ({ data := #[97, 100, 109, 105, 116, 47] } : ByteArray).size + d.size ≤ 9223372036854775807 := by
    have k : ({ data := #[97, 100, 109, 105, 116, 47] } : ByteArray).size = 6 := rfl
    omega
  have y2 : ({ data := #[103, 111, 110, 101, 47, 102, 49, 47, 120, 47] } : ByteArray).size + d.size ≤ 9223372036854775807 := by
    have k : ({ data := #[103, 111, 110, 101, 47, 102, 49, 47, 120, 47] } : ByteArray).size = 10 := rfl
    omega
  have y3 : ({ data := #[98, 111, 120, 47, 102, 49, 47, 120, 47] } : ByteArray).size + d.size ≤ 9223372036854775807 := by
    have k : ({ data := #[98, 111, 120, 47, 102, 49, 47, 120, 47] } : ByteArray).size = 9 := rfl
    omega
  have u1 : 6 + d.size ≤ 9223372036854775807 := by omega
  have u2 : 10 + d.size ≤ 9223372036854775807 := by omega
  have u3 : 9 + d.size ≤ 9223372036854775807 := by omega
  have HN := Lib.hid hn24
  have HA1 := Lib.hid A1
  have HA2 := Lib.hid A2
  have HA3 := Lib.hid A3
  have HA4 := Lib.hid A4
  have HL1 := Lib.hid L1
  have HL2 := Lib.hid L2
  have HL3 := Lib.hid L3
  have HG1 := Lib.hid G1
  have HG2 := Lib.hid G2
  have HG3 := Lib.hid G3
  have HG4 := Lib.hid G4
  have HX1 := Lib.hid X1
  have HX2 := Lib.hid X2
  have HX3 := Lib.hid X3
  have HT1 := Lib.hid T1
  have HI1 := Lib.hid I1
  have HI2 := Lib.hid I2
  have HI3 := Lib.hid I3
  clear A1 A2 A3 A4 L1 L2 L3 G1 G2 G3 G4 X1 X2 X3 T1 I1 I2 I3 r0 rX hn24 hn h0 hq hr hA hB d1 d2 z1 z2 hq10 hr10
  go_wp2_with fail
  go_quiet (fail)
  have k0 : Kp0 w (w.drewN nq) := (Kp.refl _ _).drewN _
  generalize w.drewN nq = W0 at k0 ⊢
  clear hwn ewn eq1 eq2 eq3 eq4 s1 s2 s3 s4 hd zz HN
  go_wp2_with fail
  refine (HA1.out W0).mono ?_
  rintro e w' ⟨rfl, rfl⟩
  clear HA1
  go_wp2_with fail
  refine (HL1.out W0).mono ?_
  rintro e w1 ⟨rfl, j1⟩
  have k1 := k0.then0 j1
  clear HL1 j1 k0
  go_wp2_with fail
  refine (HG1.out w1).mono ?_
  rintro e w2 ⟨rfl, j2⟩
  have k2 := k1.then0 j2
  clear HG1 j2 k1
  go_wp2_with fail
  refine (HX1.out w2).mono ?_
  rintro e w3 ⟨rfl, j3⟩
  have k3 := k2.then0 j3
  clear HX1 j3 k2
  go_wp2_with fail
  refine (HT1.out w3).mono ?_
  rintro e w' ⟨rfl, rfl⟩
  clear HT1
  go_wp2_with fail
  refine (HA2.out w3).mono ?_
  rintro e w' ⟨rfl, rfl⟩
  clear HA2
  go_wp2_with fail
  refine (HA3.out w3).mono ?_
  rintro e w' ⟨rfl, rfl⟩
  clear HA3
  go_wp2_with fail
  refine (HA4.out w3).mono ?_
  rintro e w' ⟨rfl, rfl⟩
  clear HA4
  go_wp2_with fail
  refine (HL2.out w3).mono ?_
  rintro e w4 ⟨rfl, j4⟩
  have k4 := k3.then0 j4
  clear HL2 j4 k3
  go_wp2_with fail
  refine (HL3.out w4).mono ?_
  rintro e w5 ⟨rfl, j5⟩
  have k5 := k4.then0 j5
  clear HL3 j5 k4
  go_wp2_with fail
  refine (HG2.out w5).mono ?_
  rintro e w6 ⟨rfl, j6⟩
  have k6 := k5.then0 j6
  clear HG2 j6 k5
  go_wp2_with fail
  refine (HG3.out w6).mono ?_
  rintro e w7 ⟨rfl, j7⟩
  have k7 := k6.then0 j7
  clear HG3 j7 k6
  go_wp2_with fail
  refine (HG4.out w7).mono ?_
  rintro e w8 ⟨rfl, j8⟩
  have k8 := k7.then0 j8
  clear HG4 j8 k7
  go_wp2_with fail
  refine (HX2.out w8).mono ?_
  rintro e w9 ⟨rfl, j9⟩
  have k9 := k8.then0 j9
  clear HX2 j9 k8
  go_wp2_with fail
  refine (HX3.out w9).mono ?_
  rintro e w10 ⟨rfl, j10⟩
  have k10 := k9.then0 j10
  clear HX3 j10 k9
  have ka : Kp0 w10 (w10.alloc (.cells #[.string es, .string es, .string es, .string es, .string es, .string es, .string es, .string es, .string es, .string es] 9)) := (Kp.refl _ _).alloc _
  have B : Blk (w10.alloc (.cells #[.string es, .string es, .string es, .string es, .string es, .string es, .string es, .string es, .string es, .string es] 9)) w10.heap.size #[.string es, .string es, .string es, .string es, .string es, .string es, .string es, .string es, .string es, .string es] 9 := blk_new _ _ rfl
  have kb := k10.then0 ka
  clear ka k10
  go_wp2_with fail
  go_loopw [66] (fun s wr => ∃ j : Nat, j ≤ 10 ∧ s = .int .i64 (j : Nat) ∧ Kp0 w wr ∧ Blk wr w10.heap.size #[.string es, .string es, .string es, .string es, .string es, .string es, .string es, .string es, .string es, .string es] 9) (fun s _ => (10 - intOf s).toNat)
  case atStart => exact ⟨0, by omega, rfl, kb, B⟩
  case round =>
    obtain ⟨j, hj, rfl, K, Bj⟩ := hrel
    clear kb B
    by_cases hlt : j < 10
    · have hcell : wr.cell? ⟨w10.heap.size, j, none⟩ = some (.string es) := by
        rw [Bj.cell j]
        obtain rfl | rfl | rfl | rfl | rfl | rfl | rfl | rfl | rfl | rfl : j = 0 ∨ j = 1 ∨ j = 2 ∨ j = 3 ∨ j = 4 ∨ j = 5 ∨ j = 6 ∨ j = 7 ∨ j = 8 ∨ j = 9 := by omega
        all_goals rfl
      have HB := Lib.hid Bj
      clear Bj
      go_wp2
      go_roundw
      case rel => exact ⟨j + 1, by omega, by go_num, K, HB.out⟩
      case measure => simp [intOf]; omega
    · obtain rfl : j = 10 := by omega
      clear Bj
      go_wp2_with fail
      refine (HI1.out wr).mono ?_
      rintro e w' ⟨rfl, rfl⟩
      go_wp2_with fail
      refine (HI2.out wr).mono ?_
      rintro e w' ⟨rfl, rfl⟩
      go_wp2_with fail
      refine (HI3.out wr).mono ?_
      rintro e w' ⟨rfl, rfl⟩
      go_wp2_with fail
      refine (wakes25_c wr).mono ?_
      rintro e w' ⟨rfl, rfl⟩
      go_wp2
      go_ret
      exact ⟨rfl, K⟩

theorem pathForms_w (v0 : Int) (w : World) (h0 : (Lit.int .i64 v0).wf = true) :
    Calls Tryd.prog 7 #[.int .i64 v0] w fun e w' => e = .returned (.bool true) ∧ Below w.heap.size w w' :=
  (pathForms_c v0 w).mono fun _ _ h => ⟨h.1, h.2.below0⟩
end Go.Proofs.YtecgaggkpbikbaaDoor
