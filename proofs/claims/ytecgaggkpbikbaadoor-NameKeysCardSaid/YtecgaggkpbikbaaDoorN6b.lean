/- NameKeys: the walk. -/
import Derived.Test.YtecgaggkpbikbaaDoorN5
set_option linter.unusedVariables false
set_option linter.unusedSimpArgs false
namespace Go.Proofs.YtecgaggkpbikbaaDoor
open Go.RowKit

theorem sl_to (s : ByteArray) (n : Nat) (h : n ≤ s.size) (W : World) : (Instr.sliceAt 9 (.string s) none (some (.int .i64 (n : Int))) none).run Tryd.prog W = .ok (.string (s.extract 0 n)) W := by
  rw [run_sliceAt_string _ _ _ _ _ _ Tryd.underlying9, run_slice_string_h _ _ _ Tryd.underlying9 _ _ (by omega) (by omega), Int.toNat_natCast]
theorem sl_from (s : ByteArray) (n : Nat) (h : n ≤ s.size) (W : World) : (Instr.sliceAt 9 (.string s) (some (.int .i64 (n : Int))) none none).run Tryd.prog W = .ok (.string (s.extract n s.size)) W := by
  rw [run_sliceAt_string _ _ _ _ _ _ Tryd.underlying9, run_slice_string_l _ _ _ Tryd.underlying9 _ _ (by omega) (by omega), Int.toNat_natCast]

theorem neT {p q : ByteArray} (h : ¬ p = q) : (p.toList == q.toList) = false := by
  rw [beq_eq_false_iff_ne, ByteArray.toList_eq, ByteArray.toList_eq]
  exact fun e => h (tol_inj e)

set_option maxRecDepth 100000 in
set_option maxHeartbeats 4000000 in
theorem nameKeys_c (v0 v1 v2 v3 : Int) (hv : 0 ≤ v3 ∧ v3 < 256) (w : World) :
    Calls Tryd.prog 4 #[.int .i64 v0, .int .i64 v1, .int .i64 v2, .int .u8 v3] w fun e w' => e = .returned (.bool true) ∧ Kp0 w w' := by
  go_enter Tryd.func4, Tryd.ntmps4
  go_wp2_with fail
  refine (within10_x v0 8 (by omega) (by omega) w).mono ?_
  rintro e w' ⟨r0, h0, rfl, rfl⟩
  obtain ⟨n, hn⟩ : ∃ n, 1 + r0 = n := ⟨_, rfl⟩
  have hwn : IntKind.i64.wrap (1 + (r0 : Int)) = (n : Int) := by rw [IntKind.wrap_i64]; omega
  have ewn : wrap64 (1 + (r0 : Int)) = (n : Int) := by unfold wrap64; omega
  have hn8 : 1 ≤ n ∧ n ≤ 8 := by omega
  have HN := Lib.hid hn8
  clear hn8 hn h0
  go_wp2_with fail
  refine (within10_x v1 8 (by omega) (by omega) w).mono ?_
  rintro e w' ⟨r1, h1, rfl, rfl⟩
  obtain ⟨m, hm⟩ : ∃ m, 1 + r1 = m := ⟨_, rfl⟩
  have hwm : IntKind.i64.wrap (1 + (r1 : Int)) = (m : Int) := by rw [IntKind.wrap_i64]; omega
  have ewm : wrap64 (1 + (r1 : Int)) = (m : Int) := by unfold wrap64; omega
  have hn8 := HN.out
  have hm8 : 1 ≤ m ∧ m ≤ 8 := by omega
  have q1 := fun W => sl_to fK n (show n ≤ 8 by omega) W
  have q2 := fun W => sl_to tK m (show m ≤ 8 by omega) W
  obtain ⟨s, hs⟩ : ∃ s, fK.extract 0 n = s := ⟨_, rfl⟩
  obtain ⟨t, ht⟩ : ∃ t, tK.extract 0 m = t := ⟨_, rfl⟩
  rw [hs] at q1
  rw [ht] at q2
  clear hm h1
  have HM := Lib.hid hm8
  have HS := Lib.hid hs
  have HT := Lib.hid ht
  clear hn8 hm8 hs ht
  go_wp2_with fail
  go_quiet (fail)
  clear hwn hwm ewn ewm q1 q2
  go_wp2_with fail
  refine (within10_x v2 n (by have := HN.out; omega) (by have := HN.out; omega) _).mono ?_
  rintro e w' ⟨a, ha', rfl, rfl⟩
  have ha : a < n := by omega
  obtain ⟨x, hx⟩ : ∃ x, s.extract 0 a ++ mkStr [v3] ++ s.extract (a + 1) s.size = x := ⟨_, rfl⟩
  obtain ⟨zs, zx, zt, rs, rt, rx, st, rl⟩ := keys_law n m a v3 HN.out HM.out ha hv s t x HS.out HT.out hx
  obtain ⟨b, hb⟩ : ∃ b, a + 1 = b := ⟨_, rfl⟩
  have hn8 := HN.out
  rw [hb] at hx
  have ewa : wrap64 ((a : Int) + 1) = (b : Int) := by unfold wrap64; omega
  have hwa : IntKind.i64.wrap ((a : Int) + 1) = (b : Int) := by rw [IntKind.wrap_i64]; omega
  have qa := fun W => sl_to s a (by omega) W
  have qb := fun W => sl_from s b (by omega) W
  have zu : (mkStr [v3]).size = 1 := rfl
  have z1 : (s.extract 0 a).size = a := by rw [sz_tol, tol_cut, List.length_take, ← sz_tol]; omega
  have z2 : (s.extract b s.size).size = n - b := by rw [ByteArray.size_extract]; omega
  have hW0 : Kp0 w (w.drewN nq) := (Kp.refl _ _).drewN nq
  generalize w.drewN nq = W0 at *
  have B0 : Blk (W0.alloc (.cells #[.int .u8 v3] 5)).drew W0.heap.size #[.int .u8 v3] 5 := (show Blk (W0.alloc (.cells #[.int .u8 v3] 5)) W0.heap.size #[.int .u8 v3] 5 from blk_new _ _ rfl).kp0 (Kp.refl _ _).drew
  have hcv : (convert 24 9 (.slice (some ⟨W0.heap.size, 0, none⟩) 1 1)).run Tryd.prog (W0.alloc (.cells #[.int .u8 v3] 5)).drew = .ok (.string (mkStr [v3])) (W0.alloc (.cells #[.int .u8 v3] 5)).drew := conv_str (ns := [v3]) (Vw.of_blk B0) rfl
  generalize mkStr [v3] = u at hx zu hcv
  generalize s.extract 0 a = s1 at hx z1 qa
  generalize s.extract b s.size = s2 at hx z2 qb
  have hz1 : s1.size + u.size ≤ 9223372036854775807 := by have := HN.out; omega
  obtain ⟨y, hy⟩ : ∃ y, s1 ++ u = y := ⟨_, rfl⟩
  have zy : y.size = a + 1 := by rw [← hy, ByteArray.size_append]; omega
  rw [hy] at hx
  have hz2 : y.size + s2.size ≤ 9223372036854775807 := by have := HN.out; omega
  clear B0 ha' hb z1 z2 zu zy
  go_wp2_with fail
  go_region
  have K0 : Kp0 w (W0.alloc (.cells #[.int .u8 v3] 5)).drew := (hW0.alloc _).drew
  generalize (W0.alloc (.cells #[.int .u8 v3] 5)).drew = W1 at K0 ⊢
  clear hcv hx hy hz1 hz2 qa qb hwa ewa
  have zz : s.size + ({ data := #[49, 50, 51, 52, 53, 54, 55, 56] } : ByteArray).size ≤ 9223372036854775807 := by
    have : ({ data := #[49, 50, 51, 52, 53, 54, 55, 56] } : ByteArray).size = 8 := rfl
    omega
  have hm8 := HM.out
  have zz8 : s.size + 8 ≤ 9223372036854775807 := by omega
  have hsz : s.size ≤ 9223372036854775807 := by omega
  have htz : t.size ≤ 9223372036854775807 := by omega
  have hxz : x.size ≤ 9223372036854775807 := by omega
  have hlz : (s ++ { data := #[49, 50, 51, 52, 53, 54, 55, 56] }).size ≤ 9223372036854775807 := by rw [ByteArray.size_append]; omega
  have C1 := fun W => key14_c s t hsz htz W
  have C2 := fun W => key14_c x t hxz htz W
  have C3 := fun W => key14_c t x htz hxz W
  have C4 := fun W => key14_c s es hsz (by decide) W
  have C5 := fun W => key14_c es t (by decide) htz W
  have C6 := fun W => right11_c (s ++ { data := #[49, 50, 51, 52, 53, 54, 55, 56] }) hlz W
  have r0' : rgt es = false := by decide
  have g2 : allG [] [s, t] = true := by simp [allG, rs, rt, st]
  have g3 : allG [] [s, t, x] = (rgt x && decide (x ≠ s) && decide (x ≠ t)) := by
    by_cases e1 : rgt x = true
    · by_cases e2 : x = s
      · subst e2; simp [allG, rs, rt, st]
      · by_cases e3 : x = t
        · subst e3; simp [allG, rs, rt, st]
        · have e2' : ¬ s = x := fun e => e2 e.symm
          have e3' : ¬ t = x := fun e => e3 e.symm
          simp [allG, rs, rt, st, e1, e2, e3, e2', e3']
    · have e1' : rgt x = false := by simpa using e1
      simp [allG, rs, rt, st, e1']
  have A2 := fun W B (h : Blk W B #[.string s, .string t] 9) => all12_c (some ⟨B, 0, none⟩) 2 [s, t] (by simp) (by simp [hsz, htz]) W (sg_blk h)
  have A3 := fun W B (h : Blk W B #[.string s, .string t, .string x] 9) => all12_c (some ⟨B, 0, none⟩) 3 [s, t, x] (by simp) (by simp [hsz, htz, hxz]) W (sg_blk h)
  rw [rs, rt] at C1
  rw [rt, rx] at C2 C3
  rw [r0', rs] at C4
  rw [r0', rt] at C5
  rw [rl] at C6
  rw [g2] at A2
  rw [g3, rx] at A3
  simp only [Bool.and_true, Bool.true_and, Bool.and_false, Bool.false_and] at C1 C2 C3 C4 C5 A3
  have HC1 := Lib.hid C1
  have HC2 := Lib.hid C2
  have HC3 := Lib.hid C3
  have HC4 := Lib.hid C4
  have HC5 := Lib.hid C5
  have HC6 := Lib.hid C6
  have HA2 := Lib.hid A2
  have HA3 := Lib.hid A3
  clear C1 C2 C3 C4 C5 C6 A2 A3 g2 g3 r0' rs rt rx st rl zs zx zt hsz htz hxz hlz hn8 hm8 HS HT HM HN
  by_cases a1 : 97 ≤ v3
  · by_cases a2 : v3 ≤ 122
    · by_cases es1 : x = s
      · replace es1 := es1.symm
        subst es1
        have HSG := Lib.hid (show sgi v3 = true by unfold sgi; rw [decide_eq_true a1, decide_eq_true a2]; rfl)
        go_wp2_with fail
        refine (HC1.out W1).mono ?_
        rintro e w2 ⟨rfl, k2⟩
        have K2 := K0.then0 k2
        have C := HC2.out w2
        rw [HSG.out] at C
        clear k2 K0 HC1
        go_wp2_with fail
        refine C.mono ?_
        rintro e w3 ⟨rfl, k3⟩
        have K3 := K2.then0 k3
        clear C
        have C := HC3.out w3
        rw [HSG.out] at C
        clear k3 K2 HC2
        go_wp2_with fail
        refine C.mono ?_
        rintro e w4 ⟨rfl, k4⟩
        have K4 := K3.then0 k4
        clear C k4 K3 HC3
        go_wp2_with fail
        refine (HC4.out w4).mono ?_
        rintro e w5 ⟨rfl, k5⟩
        have K5 := K4.then0 k5
        clear k5 K4 HC4
        go_wp2_with fail
        refine (HC5.out w5).mono ?_
        rintro e w6 ⟨rfl, k6⟩
        have K6 := K5.then0 k6
        clear k6 K5 HC5
        have ka : Kp0 w6 (w6.alloc (.cells #[.string s, .string t] 9)) := (Kp.refl _ _).alloc _
        have C := HA2.out _ _ (show Blk (w6.alloc (.cells #[.string s, .string t] 9)) w6.heap.size #[.string s, .string t] 9 from blk_new _ _ rfl)
        go_wp2_with fail
        refine C.mono ?_
        rintro e w7 ⟨rfl, k7⟩
        have K7 := (K6.then0 ka).then0 k7
        clear C ka k7 K6 HA2
        have ka : Kp0 w7 (w7.alloc (.cells #[.string s, .string t, .string s] 9)) := (Kp.refl _ _).alloc _
        have C := HA3.out _ _ (show Blk (w7.alloc (.cells #[.string s, .string t, .string s] 9)) w7.heap.size #[.string s, .string t, .string s] 9 from blk_new _ _ rfl)
        rw [HSG.out, Bool.true_and, decide_eq_false (fun h => h rfl), Bool.false_and] at C
        go_wp2_with fail
        refine C.mono ?_
        rintro e w8 ⟨rfl, k8⟩
        have K8 := (K7.then0 ka).then0 k8
        clear C ka k8 K7 HA3
        go_wp2_with fail
        refine (HC6.out w8).mono ?_
        rintro e w9 ⟨rfl, k9⟩
        have K9 := K8.then0 k9
        clear k9 K8 HC6
        go_wp2_with fail
        refine (wakes13_c w9).mono ?_
        rintro e w10 ⟨rfl, k10⟩
        have K10 := K9.then0 k10
        clear k10 K9
        go_wp2
        go_ret
        exact ⟨rfl, K10⟩
      · by_cases et1 : x = t
        · replace et1 := et1.symm
          subst et1
          have hbs := neT es1
          have HSG := Lib.hid (show sgi v3 = true by unfold sgi; rw [decide_eq_true a1, decide_eq_true a2]; rfl)
          go_wp2_with fail
          refine (HC1.out W1).mono ?_
          rintro e w2 ⟨rfl, k2⟩
          have K2 := K0.then0 k2
          have C := HC2.out w2
          rw [HSG.out] at C
          clear k2 K0 HC1
          go_wp2_with fail
          refine C.mono ?_
          rintro e w3 ⟨rfl, k3⟩
          have K3 := K2.then0 k3
          clear C
          have C := HC3.out w3
          rw [HSG.out] at C
          clear k3 K2 HC2
          go_wp2_with fail
          refine C.mono ?_
          rintro e w4 ⟨rfl, k4⟩
          have K4 := K3.then0 k4
          clear C k4 K3 HC3
          go_wp2_with fail
          refine (HC4.out w4).mono ?_
          rintro e w5 ⟨rfl, k5⟩
          have K5 := K4.then0 k5
          clear k5 K4 HC4
          go_wp2_with fail
          refine (HC5.out w5).mono ?_
          rintro e w6 ⟨rfl, k6⟩
          have K6 := K5.then0 k6
          clear k6 K5 HC5
          have ka : Kp0 w6 (w6.alloc (.cells #[.string s, .string t] 9)) := (Kp.refl _ _).alloc _
          have C := HA2.out _ _ (show Blk (w6.alloc (.cells #[.string s, .string t] 9)) w6.heap.size #[.string s, .string t] 9 from blk_new _ _ rfl)
          go_wp2_with fail
          refine C.mono ?_
          rintro e w7 ⟨rfl, k7⟩
          have K7 := (K6.then0 ka).then0 k7
          clear C ka k7 K6 HA2
          have ka : Kp0 w7 (w7.alloc (.cells #[.string s, .string t, .string t] 9)) := (Kp.refl _ _).alloc _
          have C := HA3.out _ _ (show Blk (w7.alloc (.cells #[.string s, .string t, .string t] 9)) w7.heap.size #[.string s, .string t, .string t] 9 from blk_new _ _ rfl)
          rw [HSG.out, Bool.true_and, decide_eq_true es1, Bool.true_and, decide_eq_false (fun h => h rfl)] at C
          go_wp2_with fail
          refine C.mono ?_
          rintro e w8 ⟨rfl, k8⟩
          have K8 := (K7.then0 ka).then0 k8
          clear C ka k8 K7 HA3
          go_wp2_with fail
          refine (HC6.out w8).mono ?_
          rintro e w9 ⟨rfl, k9⟩
          have K9 := K8.then0 k9
          clear k9 K8 HC6
          go_wp2_with fail
          refine (wakes13_c w9).mono ?_
          rintro e w10 ⟨rfl, k10⟩
          have K10 := K9.then0 k10
          clear k10 K9
          go_wp2
          go_ret
          exact ⟨rfl, K10⟩
        · have hbs := neT es1
          have hbt := neT et1
          have HSG := Lib.hid (show sgi v3 = true by unfold sgi; rw [decide_eq_true a1, decide_eq_true a2]; rfl)
          go_wp2_with fail
          refine (HC1.out W1).mono ?_
          rintro e w2 ⟨rfl, k2⟩
          have K2 := K0.then0 k2
          have C := HC2.out w2
          rw [HSG.out] at C
          clear k2 K0 HC1
          go_wp2_with fail
          refine C.mono ?_
          rintro e w3 ⟨rfl, k3⟩
          have K3 := K2.then0 k3
          clear C
          have C := HC3.out w3
          rw [HSG.out] at C
          clear k3 K2 HC2
          go_wp2_with fail
          refine C.mono ?_
          rintro e w4 ⟨rfl, k4⟩
          have K4 := K3.then0 k4
          clear C k4 K3 HC3
          go_wp2_with fail
          refine (HC4.out w4).mono ?_
          rintro e w5 ⟨rfl, k5⟩
          have K5 := K4.then0 k5
          clear k5 K4 HC4
          go_wp2_with fail
          refine (HC5.out w5).mono ?_
          rintro e w6 ⟨rfl, k6⟩
          have K6 := K5.then0 k6
          clear k6 K5 HC5
          have ka : Kp0 w6 (w6.alloc (.cells #[.string s, .string t] 9)) := (Kp.refl _ _).alloc _
          have C := HA2.out _ _ (show Blk (w6.alloc (.cells #[.string s, .string t] 9)) w6.heap.size #[.string s, .string t] 9 from blk_new _ _ rfl)
          go_wp2_with fail
          refine C.mono ?_
          rintro e w7 ⟨rfl, k7⟩
          have K7 := (K6.then0 ka).then0 k7
          clear C ka k7 K6 HA2
          have ka : Kp0 w7 (w7.alloc (.cells #[.string s, .string t, .string x] 9)) := (Kp.refl _ _).alloc _
          have C := HA3.out _ _ (show Blk (w7.alloc (.cells #[.string s, .string t, .string x] 9)) w7.heap.size #[.string s, .string t, .string x] 9 from blk_new _ _ rfl)
          rw [HSG.out, Bool.true_and, decide_eq_true es1, Bool.true_and, decide_eq_true et1] at C
          go_wp2_with fail
          refine C.mono ?_
          rintro e w8 ⟨rfl, k8⟩
          have K8 := (K7.then0 ka).then0 k8
          clear C ka k8 K7 HA3
          go_wp2_with fail
          refine (HC6.out w8).mono ?_
          rintro e w9 ⟨rfl, k9⟩
          have K9 := K8.then0 k9
          clear k9 K8 HC6
          go_wp2_with fail
          refine (wakes13_c w9).mono ?_
          rintro e w10 ⟨rfl, k10⟩
          have K10 := K9.then0 k10
          clear k10 K9
          go_wp2
          go_ret
          exact ⟨rfl, K10⟩
    · have a3 : 48 ≤ v3 := by omega
      have a4 : ¬ v3 ≤ 57 := by omega
      have HSG := Lib.hid (show sgi v3 = false by unfold sgi; rw [decide_eq_true a1, decide_eq_false a2, decide_eq_true a3, decide_eq_false a4]; rfl)
      go_wp2_with fail
      refine (HC1.out W1).mono ?_
      rintro e w2 ⟨rfl, k2⟩
      have K2 := K0.then0 k2
      have C := HC2.out w2
      rw [HSG.out] at C
      clear k2 K0 HC1
      go_wp2_with fail
      refine C.mono ?_
      rintro e w3 ⟨rfl, k3⟩
      have K3 := K2.then0 k3
      clear C
      have C := HC3.out w3
      rw [HSG.out] at C
      clear k3 K2 HC2
      go_wp2_with fail
      refine C.mono ?_
      rintro e w4 ⟨rfl, k4⟩
      have K4 := K3.then0 k4
      clear C k4 K3 HC3
      go_wp2_with fail
      refine (HC4.out w4).mono ?_
      rintro e w5 ⟨rfl, k5⟩
      have K5 := K4.then0 k5
      clear k5 K4 HC4
      go_wp2_with fail
      refine (HC5.out w5).mono ?_
      rintro e w6 ⟨rfl, k6⟩
      have K6 := K5.then0 k6
      clear k6 K5 HC5
      have ka : Kp0 w6 (w6.alloc (.cells #[.string s, .string t] 9)) := (Kp.refl _ _).alloc _
      have C := HA2.out _ _ (show Blk (w6.alloc (.cells #[.string s, .string t] 9)) w6.heap.size #[.string s, .string t] 9 from blk_new _ _ rfl)
      go_wp2_with fail
      refine C.mono ?_
      rintro e w7 ⟨rfl, k7⟩
      have K7 := (K6.then0 ka).then0 k7
      clear C ka k7 K6 HA2
      have ka : Kp0 w7 (w7.alloc (.cells #[.string s, .string t, .string x] 9)) := (Kp.refl _ _).alloc _
      have C := HA3.out _ _ (show Blk (w7.alloc (.cells #[.string s, .string t, .string x] 9)) w7.heap.size #[.string s, .string t, .string x] 9 from blk_new _ _ rfl)
      rw [HSG.out, Bool.false_and, Bool.false_and] at C
      go_wp2_with fail
      refine C.mono ?_
      rintro e w8 ⟨rfl, k8⟩
      have K8 := (K7.then0 ka).then0 k8
      clear C ka k8 K7 HA3
      go_wp2_with fail
      refine (HC6.out w8).mono ?_
      rintro e w9 ⟨rfl, k9⟩
      have K9 := K8.then0 k9
      clear k9 K8 HC6
      go_wp2_with fail
      refine (wakes13_c w9).mono ?_
      rintro e w10 ⟨rfl, k10⟩
      have K10 := K9.then0 k10
      clear k10 K9
      go_wp2
      go_ret
      exact ⟨rfl, K10⟩
  · by_cases a3 : 48 ≤ v3
    · by_cases a4 : v3 ≤ 57
      · by_cases es1 : x = s
        · replace es1 := es1.symm
          subst es1
          have HSG := Lib.hid (show sgi v3 = true by unfold sgi; rw [decide_eq_false a1, decide_eq_true a3, decide_eq_true a4]; rfl)
          go_wp2_with fail
          refine (HC1.out W1).mono ?_
          rintro e w2 ⟨rfl, k2⟩
          have K2 := K0.then0 k2
          have C := HC2.out w2
          rw [HSG.out] at C
          clear k2 K0 HC1
          go_wp2_with fail
          refine C.mono ?_
          rintro e w3 ⟨rfl, k3⟩
          have K3 := K2.then0 k3
          clear C
          have C := HC3.out w3
          rw [HSG.out] at C
          clear k3 K2 HC2
          go_wp2_with fail
          refine C.mono ?_
          rintro e w4 ⟨rfl, k4⟩
          have K4 := K3.then0 k4
          clear C k4 K3 HC3
          go_wp2_with fail
          refine (HC4.out w4).mono ?_
          rintro e w5 ⟨rfl, k5⟩
          have K5 := K4.then0 k5
          clear k5 K4 HC4
          go_wp2_with fail
          refine (HC5.out w5).mono ?_
          rintro e w6 ⟨rfl, k6⟩
          have K6 := K5.then0 k6
          clear k6 K5 HC5
          have ka : Kp0 w6 (w6.alloc (.cells #[.string s, .string t] 9)) := (Kp.refl _ _).alloc _
          have C := HA2.out _ _ (show Blk (w6.alloc (.cells #[.string s, .string t] 9)) w6.heap.size #[.string s, .string t] 9 from blk_new _ _ rfl)
          go_wp2_with fail
          refine C.mono ?_
          rintro e w7 ⟨rfl, k7⟩
          have K7 := (K6.then0 ka).then0 k7
          clear C ka k7 K6 HA2
          have ka : Kp0 w7 (w7.alloc (.cells #[.string s, .string t, .string s] 9)) := (Kp.refl _ _).alloc _
          have C := HA3.out _ _ (show Blk (w7.alloc (.cells #[.string s, .string t, .string s] 9)) w7.heap.size #[.string s, .string t, .string s] 9 from blk_new _ _ rfl)
          rw [HSG.out, Bool.true_and, decide_eq_false (fun h => h rfl), Bool.false_and] at C
          go_wp2_with fail
          refine C.mono ?_
          rintro e w8 ⟨rfl, k8⟩
          have K8 := (K7.then0 ka).then0 k8
          clear C ka k8 K7 HA3
          go_wp2_with fail
          refine (HC6.out w8).mono ?_
          rintro e w9 ⟨rfl, k9⟩
          have K9 := K8.then0 k9
          clear k9 K8 HC6
          go_wp2_with fail
          refine (wakes13_c w9).mono ?_
          rintro e w10 ⟨rfl, k10⟩
          have K10 := K9.then0 k10
          clear k10 K9
          go_wp2
          go_ret
          exact ⟨rfl, K10⟩
        · by_cases et1 : x = t
          · replace et1 := et1.symm
            subst et1
            have hbs := neT es1
            have HSG := Lib.hid (show sgi v3 = true by unfold sgi; rw [decide_eq_false a1, decide_eq_true a3, decide_eq_true a4]; rfl)
            go_wp2_with fail
            refine (HC1.out W1).mono ?_
            rintro e w2 ⟨rfl, k2⟩
            have K2 := K0.then0 k2
            have C := HC2.out w2
            rw [HSG.out] at C
            clear k2 K0 HC1
            go_wp2_with fail
            refine C.mono ?_
            rintro e w3 ⟨rfl, k3⟩
            have K3 := K2.then0 k3
            clear C
            have C := HC3.out w3
            rw [HSG.out] at C
            clear k3 K2 HC2
            go_wp2_with fail
            refine C.mono ?_
            rintro e w4 ⟨rfl, k4⟩
            have K4 := K3.then0 k4
            clear C k4 K3 HC3
            go_wp2_with fail
            refine (HC4.out w4).mono ?_
            rintro e w5 ⟨rfl, k5⟩
            have K5 := K4.then0 k5
            clear k5 K4 HC4
            go_wp2_with fail
            refine (HC5.out w5).mono ?_
            rintro e w6 ⟨rfl, k6⟩
            have K6 := K5.then0 k6
            clear k6 K5 HC5
            have ka : Kp0 w6 (w6.alloc (.cells #[.string s, .string t] 9)) := (Kp.refl _ _).alloc _
            have C := HA2.out _ _ (show Blk (w6.alloc (.cells #[.string s, .string t] 9)) w6.heap.size #[.string s, .string t] 9 from blk_new _ _ rfl)
            go_wp2_with fail
            refine C.mono ?_
            rintro e w7 ⟨rfl, k7⟩
            have K7 := (K6.then0 ka).then0 k7
            clear C ka k7 K6 HA2
            have ka : Kp0 w7 (w7.alloc (.cells #[.string s, .string t, .string t] 9)) := (Kp.refl _ _).alloc _
            have C := HA3.out _ _ (show Blk (w7.alloc (.cells #[.string s, .string t, .string t] 9)) w7.heap.size #[.string s, .string t, .string t] 9 from blk_new _ _ rfl)
            rw [HSG.out, Bool.true_and, decide_eq_true es1, Bool.true_and, decide_eq_false (fun h => h rfl)] at C
            go_wp2_with fail
            refine C.mono ?_
            rintro e w8 ⟨rfl, k8⟩
            have K8 := (K7.then0 ka).then0 k8
            clear C ka k8 K7 HA3
            go_wp2_with fail
            refine (HC6.out w8).mono ?_
            rintro e w9 ⟨rfl, k9⟩
            have K9 := K8.then0 k9
            clear k9 K8 HC6
            go_wp2_with fail
            refine (wakes13_c w9).mono ?_
            rintro e w10 ⟨rfl, k10⟩
            have K10 := K9.then0 k10
            clear k10 K9
            go_wp2
            go_ret
            exact ⟨rfl, K10⟩
          · have hbs := neT es1
            have hbt := neT et1
            have HSG := Lib.hid (show sgi v3 = true by unfold sgi; rw [decide_eq_false a1, decide_eq_true a3, decide_eq_true a4]; rfl)
            go_wp2_with fail
            refine (HC1.out W1).mono ?_
            rintro e w2 ⟨rfl, k2⟩
            have K2 := K0.then0 k2
            have C := HC2.out w2
            rw [HSG.out] at C
            clear k2 K0 HC1
            go_wp2_with fail
            refine C.mono ?_
            rintro e w3 ⟨rfl, k3⟩
            have K3 := K2.then0 k3
            clear C
            have C := HC3.out w3
            rw [HSG.out] at C
            clear k3 K2 HC2
            go_wp2_with fail
            refine C.mono ?_
            rintro e w4 ⟨rfl, k4⟩
            have K4 := K3.then0 k4
            clear C k4 K3 HC3
            go_wp2_with fail
            refine (HC4.out w4).mono ?_
            rintro e w5 ⟨rfl, k5⟩
            have K5 := K4.then0 k5
            clear k5 K4 HC4
            go_wp2_with fail
            refine (HC5.out w5).mono ?_
            rintro e w6 ⟨rfl, k6⟩
            have K6 := K5.then0 k6
            clear k6 K5 HC5
            have ka : Kp0 w6 (w6.alloc (.cells #[.string s, .string t] 9)) := (Kp.refl _ _).alloc _
            have C := HA2.out _ _ (show Blk (w6.alloc (.cells #[.string s, .string t] 9)) w6.heap.size #[.string s, .string t] 9 from blk_new _ _ rfl)
            go_wp2_with fail
            refine C.mono ?_
            rintro e w7 ⟨rfl, k7⟩
            have K7 := (K6.then0 ka).then0 k7
            clear C ka k7 K6 HA2
            have ka : Kp0 w7 (w7.alloc (.cells #[.string s, .string t, .string x] 9)) := (Kp.refl _ _).alloc _
            have C := HA3.out _ _ (show Blk (w7.alloc (.cells #[.string s, .string t, .string x] 9)) w7.heap.size #[.string s, .string t, .string x] 9 from blk_new _ _ rfl)
            rw [HSG.out, Bool.true_and, decide_eq_true es1, Bool.true_and, decide_eq_true et1] at C
            go_wp2_with fail
            refine C.mono ?_
            rintro e w8 ⟨rfl, k8⟩
            have K8 := (K7.then0 ka).then0 k8
            clear C ka k8 K7 HA3
            go_wp2_with fail
            refine (HC6.out w8).mono ?_
            rintro e w9 ⟨rfl, k9⟩
            have K9 := K8.then0 k9
            clear k9 K8 HC6
            go_wp2_with fail
            refine (wakes13_c w9).mono ?_
            rintro e w10 ⟨rfl, k10⟩
            have K10 := K9.then0 k10
            clear k10 K9
            go_wp2
            go_ret
            exact ⟨rfl, K10⟩
      · have HSG := Lib.hid (show sgi v3 = false by unfold sgi; rw [decide_eq_false a1, decide_eq_true a3, decide_eq_false a4]; rfl)
        go_wp2_with fail
        refine (HC1.out W1).mono ?_
        rintro e w2 ⟨rfl, k2⟩
        have K2 := K0.then0 k2
        have C := HC2.out w2
        rw [HSG.out] at C
        clear k2 K0 HC1
        go_wp2_with fail
        refine C.mono ?_
        rintro e w3 ⟨rfl, k3⟩
        have K3 := K2.then0 k3
        clear C
        have C := HC3.out w3
        rw [HSG.out] at C
        clear k3 K2 HC2
        go_wp2_with fail
        refine C.mono ?_
        rintro e w4 ⟨rfl, k4⟩
        have K4 := K3.then0 k4
        clear C k4 K3 HC3
        go_wp2_with fail
        refine (HC4.out w4).mono ?_
        rintro e w5 ⟨rfl, k5⟩
        have K5 := K4.then0 k5
        clear k5 K4 HC4
        go_wp2_with fail
        refine (HC5.out w5).mono ?_
        rintro e w6 ⟨rfl, k6⟩
        have K6 := K5.then0 k6
        clear k6 K5 HC5
        have ka : Kp0 w6 (w6.alloc (.cells #[.string s, .string t] 9)) := (Kp.refl _ _).alloc _
        have C := HA2.out _ _ (show Blk (w6.alloc (.cells #[.string s, .string t] 9)) w6.heap.size #[.string s, .string t] 9 from blk_new _ _ rfl)
        go_wp2_with fail
        refine C.mono ?_
        rintro e w7 ⟨rfl, k7⟩
        have K7 := (K6.then0 ka).then0 k7
        clear C ka k7 K6 HA2
        have ka : Kp0 w7 (w7.alloc (.cells #[.string s, .string t, .string x] 9)) := (Kp.refl _ _).alloc _
        have C := HA3.out _ _ (show Blk (w7.alloc (.cells #[.string s, .string t, .string x] 9)) w7.heap.size #[.string s, .string t, .string x] 9 from blk_new _ _ rfl)
        rw [HSG.out, Bool.false_and, Bool.false_and] at C
        go_wp2_with fail
        refine C.mono ?_
        rintro e w8 ⟨rfl, k8⟩
        have K8 := (K7.then0 ka).then0 k8
        clear C ka k8 K7 HA3
        go_wp2_with fail
        refine (HC6.out w8).mono ?_
        rintro e w9 ⟨rfl, k9⟩
        have K9 := K8.then0 k9
        clear k9 K8 HC6
        go_wp2_with fail
        refine (wakes13_c w9).mono ?_
        rintro e w10 ⟨rfl, k10⟩
        have K10 := K9.then0 k10
        clear k10 K9
        go_wp2
        go_ret
        exact ⟨rfl, K10⟩
    · have HSG := Lib.hid (show sgi v3 = false by unfold sgi; rw [decide_eq_false a1, decide_eq_false a3]; rfl)
      go_wp2_with fail
      refine (HC1.out W1).mono ?_
      rintro e w2 ⟨rfl, k2⟩
      have K2 := K0.then0 k2
      have C := HC2.out w2
      rw [HSG.out] at C
      clear k2 K0 HC1
      go_wp2_with fail
      refine C.mono ?_
      rintro e w3 ⟨rfl, k3⟩
      have K3 := K2.then0 k3
      clear C
      have C := HC3.out w3
      rw [HSG.out] at C
      clear k3 K2 HC2
      go_wp2_with fail
      refine C.mono ?_
      rintro e w4 ⟨rfl, k4⟩
      have K4 := K3.then0 k4
      clear C k4 K3 HC3
      go_wp2_with fail
      refine (HC4.out w4).mono ?_
      rintro e w5 ⟨rfl, k5⟩
      have K5 := K4.then0 k5
      clear k5 K4 HC4
      go_wp2_with fail
      refine (HC5.out w5).mono ?_
      rintro e w6 ⟨rfl, k6⟩
      have K6 := K5.then0 k6
      clear k6 K5 HC5
      have ka : Kp0 w6 (w6.alloc (.cells #[.string s, .string t] 9)) := (Kp.refl _ _).alloc _
      have C := HA2.out _ _ (show Blk (w6.alloc (.cells #[.string s, .string t] 9)) w6.heap.size #[.string s, .string t] 9 from blk_new _ _ rfl)
      go_wp2_with fail
      refine C.mono ?_
      rintro e w7 ⟨rfl, k7⟩
      have K7 := (K6.then0 ka).then0 k7
      clear C ka k7 K6 HA2
      have ka : Kp0 w7 (w7.alloc (.cells #[.string s, .string t, .string x] 9)) := (Kp.refl _ _).alloc _
      have C := HA3.out _ _ (show Blk (w7.alloc (.cells #[.string s, .string t, .string x] 9)) w7.heap.size #[.string s, .string t, .string x] 9 from blk_new _ _ rfl)
      rw [HSG.out, Bool.false_and, Bool.false_and] at C
      go_wp2_with fail
      refine C.mono ?_
      rintro e w8 ⟨rfl, k8⟩
      have K8 := (K7.then0 ka).then0 k8
      clear C ka k8 K7 HA3
      go_wp2_with fail
      refine (HC6.out w8).mono ?_
      rintro e w9 ⟨rfl, k9⟩
      have K9 := K8.then0 k9
      clear k9 K8 HC6
      go_wp2_with fail
      refine (wakes13_c w9).mono ?_
      rintro e w10 ⟨rfl, k10⟩
      have K10 := K9.then0 k10
      clear k10 K9
      go_wp2
      go_ret
      exact ⟨rfl, K10⟩
theorem nameKeys_w (v0 v1 v2 v3 : Int) (w : World) (h0 : (Lit.int .i64 v0).wf = true) (h1 : (Lit.int .i64 v1).wf = true) (h2 : (Lit.int .i64 v2).wf = true) (h3 : (Lit.int .u8 v3).wf = true) :
    Calls Tryd.prog 4 #[.int .i64 v0, .int .i64 v1, .int .i64 v2, .int .u8 v3] w fun e w' => e = .returned (.bool true) ∧ Below w.heap.size w w' :=
  (nameKeys_c v0 v1 v2 v3 (byte_wf h3) w).mono fun _ _ h => ⟨h.1, h.2.below0⟩
end Go.Proofs.YtecgaggkpbikbaaDoor
