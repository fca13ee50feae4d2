/- NameForms: the walk. -/
import Derived.Test.YtecgaggkpbikbaaDoorN3
import Derived.Laws.BytesString
import Derived.Laws.Cells
set_option linter.unusedVariables false
set_option linter.unusedSimpArgs false
namespace Go.Proofs.YtecgaggkpbikbaaDoor
open Go.RowKit

theorem within10_x (v n : Int) (hn : 1 ≤ n) (h1 : n ≤ 9223372036854775807) (w : World) :
    Calls Tryd.prog 10 #[.int .i64 v, .int .i64 n] w fun e w' => ∃ r : Nat, (r : Int) < n ∧ e = .returned (.int .i64 (r : Int)) ∧ w = w' := by
  have key : Calls Tryd.prog 10 #[.int .i64 v, .int .i64 n] w fun e w' => e = .returned (.int .i64 (v % n)) ∧ w = w' := by
    obtain ⟨t1, t2, t3, t4, t5, t6⟩ := tmod_facts v n hn
    have c0 : (n == 0) = false := by rw [beq_eq_false_iff_ne]; omega
    have c1 : ¬ n < 1 := by omega
    by_cases h : v.tmod n < 0
    · have e := t1 h
      have HE := Lib.hid e
      clear e t1 t2
      go_enter Tryd.func10, Tryd.ntmps10
      go_wp2
      go_ret
      exact ⟨ret_int (by rw [HE.out]), rfl⟩
    · have e := t2 (by omega)
      have HE := Lib.hid e
      clear e t1 t2
      go_enter Tryd.func10, Tryd.ntmps10
      go_wp2
      go_ret
      exact ⟨ret_int (by rw [HE.out]), rfl⟩
  exact key.mono fun _ _ h => ⟨(v % n).toNat, by have := Int.emod_lt_of_pos v (show 0 < n by omega); have := Int.emod_nonneg v (show n ≠ 0 by omega); omega, by rw [h.1, Int.toNat_of_nonneg (Int.emod_nonneg v (by omega))], h.2⟩

def mkStr (l : List Int) : ByteArray := l.foldl (fun r n => r.push (UInt8.ofNat n.toNat)) ByteArray.empty
theorem conv_str {w : World} {B off n cap : Nat} {ns : List Int} (h : Vw w B off (ns.map (.int .u8 ·))) (hn : ns.length = n) :
    (convert 24 9 (.slice (some ⟨B, off, none⟩) n cap)).run Tryd.prog w = .ok (.string (mkStr ns)) w := by
  subst hn
  rw [run_convert_bytes_string _ 24 9 5 _ _ cap Tryd.underlying24 Tryd.underlying5 Tryd.underlying9]
  have := run_loadCells_list (P := Tryd.prog) w ⟨B, off, none⟩ (ns.map (.int .u8 ·)) h.add
  rw [List.length_map] at this
  exact run_bytesToString w _ _ _ _ this
/-- A small letter or a figure, as a number. -/
def sgi (v : Int) : Bool := (decide (97 ≤ v) && decide (v ≤ 122)) || (decide (48 ≤ v) && decide (v ≤ 57))
theorem sgn_of (v : Int) (h : 0 ≤ v ∧ v < 256) : sgn (UInt8.ofNat v.toNat) = sgi v := by
  obtain ⟨n, rfl⟩ : ∃ n : Nat, v = n := ⟨v.toNat, by omega⟩
  have hn : n < 256 := by omega
  have e : (UInt8.ofNat ((n : Int).toNat)).toNat = n := by simp; omega
  unfold sgn sgi
  simp only [UInt8.le_iff_toNat_le, e]
  have h1 : (97 : UInt8).toNat = 97 := rfl
  have h2 : (122 : UInt8).toNat = 122 := rfl
  have h3 : (48 : UInt8).toNat = 48 := rfl
  have h4 : (57 : UInt8).toNat = 57 := rfl
  rw [h1, h2, h3, h4]
  have d1 : decide (97 ≤ n) = decide ((97 : Int) ≤ (n : Int)) := by rw [decide_eq_decide]; omega
  have d2 : decide (n ≤ 122) = decide ((n : Int) ≤ 122) := by rw [decide_eq_decide]; omega
  have d3 : decide (48 ≤ n) = decide ((48 : Int) ≤ (n : Int)) := by rw [decide_eq_decide]; omega
  have d4 : decide (n ≤ 57) = decide ((n : Int) ≤ 57) := by rw [decide_eq_decide]; omega
  rw [d1, d2, d3, d4]
theorem rgt_two (v : Int) (h : 0 ≤ v ∧ v < 256) : rgt (mkStr [97, v]) = sgi v := by
  have e : mkStr [97, v] = ⟨#[97, UInt8.ofNat v.toNat]⟩ := rfl
  rw [e]
  unfold rgt
  have h1 : sgn 97 = true := by decide
  have h2 : (⟨#[97, UInt8.ofNat v.toNat]⟩ : ByteArray).size = 2 := rfl
  rw [h2]
  show (decide (0 < 2 ∧ 2 ≤ 8) && ([97, UInt8.ofNat v.toNat].all sgn)) = _
  simp [h1, sgn_of v h]

def pre (j : Nat) : ByteArray := ⟨([97, 98, 99, 122, 48, 49, 56, 57, 97, 98, 99, 122].take j).toArray⟩
theorem pre_sz (j : Nat) : (pre j).size ≤ 12 := by
  show (([97, 98, 99, 122, 48, 49, 56, 57, 97, 98, 99, 122] : List UInt8).take j).toArray.size ≤ 12
  simp; omega

set_option maxRecDepth 100000 in
set_option maxHeartbeats 4000000 in
theorem nameForms_c (v0 v1 : Int) (hv : 0 ≤ v1 ∧ v1 < 256) (w : World) :
    Calls Tryd.prog 3 #[.int .i64 v0, .int .u8 v1] w fun e w' => e = .returned (.bool true) ∧ Kp0 w w' := by
  go_enter Tryd.func3, Tryd.ntmps3
  go_wp2_with fail
  refine (within10_x v0 12 (by omega) (by omega) w).mono ?_
  rintro e w' ⟨N, hN, rfl, rfl⟩
  have hN' : N < 12 := by omega
  clear hN
  go_wp2_with fail
  go_loopw [5, 6] (fun s5 s6 wr => ∃ j : Nat, j ≤ N ∧ s6 = .int .i64 (j : Nat) ∧ s5 = .string (pre j) ∧ w = wr) (fun _ s6 _ => (N - intOf s6).toNat)
  case atStart => exact ⟨0, by omega, rfl, rfl, rfl⟩
  case round =>
    obtain ⟨j, hj, rfl, rfl, rfl⟩ := hrel
    by_cases hlt : j < N
    · obtain rfl | rfl | rfl | rfl | rfl | rfl | rfl | rfl | rfl | rfl | rfl : j = 0 ∨ j = 1 ∨ j = 2 ∨ j = 3 ∨ j = 4 ∨ j = 5 ∨ j = 6 ∨ j = 7 ∨ j = 8 ∨ j = 9 ∨ j = 10 := by omega
      all_goals
        have hj' : ((0 : Nat) : Int) = 0 := rfl
        go_wp2
        go_roundw
        case rel => exact ⟨_ + 1, hlt, rfl, rfl, trivial⟩
        case measure => simp [intOf]; omega
    · obtain rfl : j = N := by omega
      have hw : ∀ m, m < 12 → rgt (pre m) = decide (1 ≤ m ∧ m ≤ 8) := by decide
      have hr := hw j hN'
      have hc5 := fun W => right11_c (pre j) (by have := pre_sz j; omega) W
      rw [hr] at hc5
      generalize pre j = s at hc5 ⊢
      clear hw hr
      go_upto_region 7 with fail
      go_cut [7] from 21 to 34 (fun s7 wx => s7 = .bool (sgi v1) ∧ w = wx)
      case first =>
        clear hc5
        by_cases a1 : 97 ≤ v1
        · by_cases a2 : v1 ≤ 122
          · have HS := Lib.hid (show sgi v1 = true by unfold sgi; rw [decide_eq_true a1, decide_eq_true a2]; rfl)
            go_wp2_with fail
            go_meet
            exact ⟨congrArg Value.bool HS.out.symm, rfl⟩
          · have a3 : 48 ≤ v1 := by omega
            have a4 : ¬ v1 ≤ 57 := by omega
            have HS := Lib.hid (show sgi v1 = false by unfold sgi; rw [decide_eq_true a1, decide_eq_false a2, decide_eq_true a3, decide_eq_false a4]; rfl)
            go_wp2_with fail
            go_meet
            exact ⟨congrArg Value.bool HS.out.symm, rfl⟩
        · by_cases a3 : 48 ≤ v1
          · by_cases a4 : v1 ≤ 57
            · have HS := Lib.hid (show sgi v1 = true by unfold sgi; rw [decide_eq_false a1, decide_eq_true a3, decide_eq_true a4]; rfl)
              go_wp2_with fail
              go_meet
              exact ⟨congrArg Value.bool HS.out.symm, rfl⟩
            · have HS := Lib.hid (show sgi v1 = false by unfold sgi; rw [decide_eq_false a1, decide_eq_true a3, decide_eq_false a4]; rfl)
              go_wp2_with fail
              go_meet
              exact ⟨congrArg Value.bool HS.out.symm, rfl⟩
          · have HS := Lib.hid (show sgi v1 = false by unfold sgi; rw [decide_eq_false a1, decide_eq_false a3]; rfl)
            go_wp2_with fail
            go_meet
            exact ⟨congrArg Value.bool HS.out.symm, rfl⟩
      case rest =>
      obtain ⟨rfl, rfl⟩ := hcut
      have hr2 := rgt_two v1 hv
      have hstr : (mkStr [97, v1]).size ≤ 100 := by show 2 ≤ 100; omega
      have c48 := fun W => right11_c (mkStr [97, v1]) (by omega) W
      rw [hr2] at c48
      have hcv : ∀ W B, Blk W B #[.int .u8 97, .int .u8 v1] 5 → (convert 24 9 (.slice (some ⟨B, 0, none⟩) 2 2)).run Tryd.prog W = .ok (.string (mkStr [97, v1])) W := fun W B hB => conv_str (ns := [97, v1]) (Vw.of_blk hB) rfl
      generalize mkStr [97, v1] = t at c48 hcv
      generalize sgi v1 = sb at c48 ⊢
      clear hr2 hv hstr
      have hcase : (j = 0) ∨ (1 ≤ j ∧ j ≤ 8) ∨ 8 < j := by omega
      rcases hcase with h0 | h0 | h0
      · have hd : decide (1 ≤ j ∧ j ≤ 8) = false := decide_eq_false (fun h => by omega)
        rw [hd] at hc5
        subst h0
        clear hd
        go_wp2_with fail
        refine (hc5 w).mono ?_
        rintro e w1 ⟨rfl, k1⟩
        have ka : Kp0 w1 (w1.alloc (.cells #[.int .u8 97, .int .u8 v1] 5)) := (Kp.refl _ _).alloc _
        have hcv1 := hcv _ _ (show Blk (w1.alloc (.cells #[.int .u8 97, .int .u8 v1] 5)) w1.heap.size #[.int .u8 97, .int .u8 v1] 5 from blk_new _ _ rfl)
        clear hc5 hcv
        go_wp2_with fail
        clear hcv1
        refine (c48 _).mono ?_
        rintro e w2 ⟨rfl, k2⟩
        have K2 := (k1.then0 ka).then0 k2
        clear c48 k1 ka k2
        go_wp2_with fail
        refine (all12_c none 0 [] (by simp) (by simp) w2 (sg_nil _ _)).mono ?_
        rintro e w3 ⟨rfl, k3⟩
        have K3 := K2.then0 k3
        have e0 : allG [] [] = true := rfl
        rw [e0]
        have kb : Kp0 w3 (w3.alloc (.cells #[.string { data := #[97] }, .string { data := #[98] }] 9)) := (Kp.refl _ _).alloc _
        have e1 : allG [] [{ data := #[97] }, { data := #[98] }] = true := by decide
        have c1 := all12_c (some ⟨w3.heap.size, 0, none⟩) 2 [{ data := #[97] }, { data := #[98] }] (by simp) (by decide) _ (sg_blk (show Blk (w3.alloc (.cells #[.string { data := #[97] }, .string { data := #[98] }] 9)) w3.heap.size #[.string { data := #[97] }, .string { data := #[98] }] 9 from blk_new _ _ rfl))
        rw [e1] at c1
        clear K2 k3 e0 e1
        go_wp2_with fail
        refine c1.mono ?_
        rintro e w4 ⟨rfl, k4⟩
        have K4 := (K3.then0 kb).then0 k4
        have kb2 : Kp0 w4 (w4.alloc (.cells #[.string { data := #[97] }, .string { data := #[97] }] 9)) := (Kp.refl _ _).alloc _
        have e1 : allG [] [{ data := #[97] }, { data := #[97] }] = false := by decide
        have c2 := all12_c (some ⟨w4.heap.size, 0, none⟩) 2 [{ data := #[97] }, { data := #[97] }] (by simp) (by decide) _ (sg_blk (show Blk (w4.alloc (.cells #[.string { data := #[97] }, .string { data := #[97] }] 9)) w4.heap.size #[.string { data := #[97] }, .string { data := #[97] }] 9 from blk_new _ _ rfl))
        rw [e1] at c2
        clear K3 kb k4 c1 e1
        go_wp2_with fail
        refine c2.mono ?_
        rintro e w5 ⟨rfl, k5⟩
        have K5 := (K4.then0 kb2).then0 k5
        have kb3 : Kp0 w5 (w5.alloc (.cells #[.string { data := #[97] }, .string { data := #[] }] 9)) := (Kp.refl _ _).alloc _
        have e1 : allG [] [{ data := #[97] }, { data := #[] }] = false := by decide
        have c3 := all12_c (some ⟨w5.heap.size, 0, none⟩) 2 [{ data := #[97] }, { data := #[] }] (by simp) (by decide) _ (sg_blk (show Blk (w5.alloc (.cells #[.string { data := #[97] }, .string { data := #[] }] 9)) w5.heap.size #[.string { data := #[97] }, .string { data := #[] }] 9 from blk_new _ _ rfl))
        rw [e1] at c3
        clear K4 kb2 k5 c2 e1
        go_wp2_with fail
        refine c3.mono ?_
        rintro e w6 ⟨rfl, k6⟩
        have K6 := (K5.then0 kb3).then0 k6
        clear K5 kb3 k6 c3
        go_wp2_with fail
        refine (wakes13_c w6).mono ?_
        rintro e w7 ⟨rfl, k7⟩
        have K7 := K6.then0 k7
        clear K6 k7
        go_wp2
        go_ret
        exact ⟨rfl, K7⟩
      · have hd : decide (1 ≤ j ∧ j ≤ 8) = true := decide_eq_true h0
        rw [hd] at hc5
        have g1 : (1 : Int) ≤ (j : Int) := by omega
        have g2 : (j : Int) ≤ 8 := by omega
        clear hd h0
        go_wp2_with fail
        refine (hc5 w).mono ?_
        rintro e w1 ⟨rfl, k1⟩
        have ka : Kp0 w1 (w1.alloc (.cells #[.int .u8 97, .int .u8 v1] 5)) := (Kp.refl _ _).alloc _
        have hcv1 := hcv _ _ (show Blk (w1.alloc (.cells #[.int .u8 97, .int .u8 v1] 5)) w1.heap.size #[.int .u8 97, .int .u8 v1] 5 from blk_new _ _ rfl)
        clear hc5 hcv
        go_wp2_with fail
        clear hcv1
        refine (c48 _).mono ?_
        rintro e w2 ⟨rfl, k2⟩
        have K2 := (k1.then0 ka).then0 k2
        clear c48 k1 ka k2
        go_wp2_with fail
        refine (all12_c none 0 [] (by simp) (by simp) w2 (sg_nil _ _)).mono ?_
        rintro e w3 ⟨rfl, k3⟩
        have K3 := K2.then0 k3
        have e0 : allG [] [] = true := rfl
        rw [e0]
        have kb : Kp0 w3 (w3.alloc (.cells #[.string { data := #[97] }, .string { data := #[98] }] 9)) := (Kp.refl _ _).alloc _
        have e1 : allG [] [{ data := #[97] }, { data := #[98] }] = true := by decide
        have c1 := all12_c (some ⟨w3.heap.size, 0, none⟩) 2 [{ data := #[97] }, { data := #[98] }] (by simp) (by decide) _ (sg_blk (show Blk (w3.alloc (.cells #[.string { data := #[97] }, .string { data := #[98] }] 9)) w3.heap.size #[.string { data := #[97] }, .string { data := #[98] }] 9 from blk_new _ _ rfl))
        rw [e1] at c1
        clear K2 k3 e0 e1
        go_wp2_with fail
        refine c1.mono ?_
        rintro e w4 ⟨rfl, k4⟩
        have K4 := (K3.then0 kb).then0 k4
        have kb2 : Kp0 w4 (w4.alloc (.cells #[.string { data := #[97] }, .string { data := #[97] }] 9)) := (Kp.refl _ _).alloc _
        have e1 : allG [] [{ data := #[97] }, { data := #[97] }] = false := by decide
        have c2 := all12_c (some ⟨w4.heap.size, 0, none⟩) 2 [{ data := #[97] }, { data := #[97] }] (by simp) (by decide) _ (sg_blk (show Blk (w4.alloc (.cells #[.string { data := #[97] }, .string { data := #[97] }] 9)) w4.heap.size #[.string { data := #[97] }, .string { data := #[97] }] 9 from blk_new _ _ rfl))
        rw [e1] at c2
        clear K3 kb k4 c1 e1
        go_wp2_with fail
        refine c2.mono ?_
        rintro e w5 ⟨rfl, k5⟩
        have K5 := (K4.then0 kb2).then0 k5
        have kb3 : Kp0 w5 (w5.alloc (.cells #[.string { data := #[97] }, .string { data := #[] }] 9)) := (Kp.refl _ _).alloc _
        have e1 : allG [] [{ data := #[97] }, { data := #[] }] = false := by decide
        have c3 := all12_c (some ⟨w5.heap.size, 0, none⟩) 2 [{ data := #[97] }, { data := #[] }] (by simp) (by decide) _ (sg_blk (show Blk (w5.alloc (.cells #[.string { data := #[97] }, .string { data := #[] }] 9)) w5.heap.size #[.string { data := #[97] }, .string { data := #[] }] 9 from blk_new _ _ rfl))
        rw [e1] at c3
        clear K4 kb2 k5 c2 e1
        go_wp2_with fail
        refine c3.mono ?_
        rintro e w6 ⟨rfl, k6⟩
        have K6 := (K5.then0 kb3).then0 k6
        clear K5 kb3 k6 c3
        go_wp2_with fail
        refine (wakes13_c w6).mono ?_
        rintro e w7 ⟨rfl, k7⟩
        have K7 := K6.then0 k7
        clear K6 k7
        go_wp2
        go_ret
        exact ⟨rfl, K7⟩
      · have hd : decide (1 ≤ j ∧ j ≤ 8) = false := decide_eq_false (fun h => by omega)
        rw [hd] at hc5
        have g1 : (1 : Int) ≤ (j : Int) := by omega
        have g2 : decide ((j : Int) ≤ 8) = false := decide_eq_false (by omega)
        clear hd h0
        go_wp2_with fail
        refine (hc5 w).mono ?_
        rintro e w1 ⟨rfl, k1⟩
        have ka : Kp0 w1 (w1.alloc (.cells #[.int .u8 97, .int .u8 v1] 5)) := (Kp.refl _ _).alloc _
        have hcv1 := hcv _ _ (show Blk (w1.alloc (.cells #[.int .u8 97, .int .u8 v1] 5)) w1.heap.size #[.int .u8 97, .int .u8 v1] 5 from blk_new _ _ rfl)
        clear hc5 hcv
        go_wp2_with fail
        clear hcv1
        refine (c48 _).mono ?_
        rintro e w2 ⟨rfl, k2⟩
        have K2 := (k1.then0 ka).then0 k2
        clear c48 k1 ka k2
        go_wp2_with fail
        refine (all12_c none 0 [] (by simp) (by simp) w2 (sg_nil _ _)).mono ?_
        rintro e w3 ⟨rfl, k3⟩
        have K3 := K2.then0 k3
        have e0 : allG [] [] = true := rfl
        rw [e0]
        have kb : Kp0 w3 (w3.alloc (.cells #[.string { data := #[97] }, .string { data := #[98] }] 9)) := (Kp.refl _ _).alloc _
        have e1 : allG [] [{ data := #[97] }, { data := #[98] }] = true := by decide
        have c1 := all12_c (some ⟨w3.heap.size, 0, none⟩) 2 [{ data := #[97] }, { data := #[98] }] (by simp) (by decide) _ (sg_blk (show Blk (w3.alloc (.cells #[.string { data := #[97] }, .string { data := #[98] }] 9)) w3.heap.size #[.string { data := #[97] }, .string { data := #[98] }] 9 from blk_new _ _ rfl))
        rw [e1] at c1
        clear K2 k3 e0 e1
        go_wp2_with fail
        refine c1.mono ?_
        rintro e w4 ⟨rfl, k4⟩
        have K4 := (K3.then0 kb).then0 k4
        have kb2 : Kp0 w4 (w4.alloc (.cells #[.string { data := #[97] }, .string { data := #[97] }] 9)) := (Kp.refl _ _).alloc _
        have e1 : allG [] [{ data := #[97] }, { data := #[97] }] = false := by decide
        have c2 := all12_c (some ⟨w4.heap.size, 0, none⟩) 2 [{ data := #[97] }, { data := #[97] }] (by simp) (by decide) _ (sg_blk (show Blk (w4.alloc (.cells #[.string { data := #[97] }, .string { data := #[97] }] 9)) w4.heap.size #[.string { data := #[97] }, .string { data := #[97] }] 9 from blk_new _ _ rfl))
        rw [e1] at c2
        clear K3 kb k4 c1 e1
        go_wp2_with fail
        refine c2.mono ?_
        rintro e w5 ⟨rfl, k5⟩
        have K5 := (K4.then0 kb2).then0 k5
        have kb3 : Kp0 w5 (w5.alloc (.cells #[.string { data := #[97] }, .string { data := #[] }] 9)) := (Kp.refl _ _).alloc _
        have e1 : allG [] [{ data := #[97] }, { data := #[] }] = false := by decide
        have c3 := all12_c (some ⟨w5.heap.size, 0, none⟩) 2 [{ data := #[97] }, { data := #[] }] (by simp) (by decide) _ (sg_blk (show Blk (w5.alloc (.cells #[.string { data := #[97] }, .string { data := #[] }] 9)) w5.heap.size #[.string { data := #[97] }, .string { data := #[] }] 9 from blk_new _ _ rfl))
        rw [e1] at c3
        clear K4 kb2 k5 c2 e1
        go_wp2_with fail
        refine c3.mono ?_
        rintro e w6 ⟨rfl, k6⟩
        have K6 := (K5.then0 kb3).then0 k6
        clear K5 kb3 k6 c3
        go_wp2_with fail
        refine (wakes13_c w6).mono ?_
        rintro e w7 ⟨rfl, k7⟩
        have K7 := K6.then0 k7
        clear K6 k7
        go_wp2
        go_ret
        exact ⟨rfl, K7⟩

theorem byte_wf {v : Int} (h : (Lit.int .u8 v).wf = true) : 0 ≤ v ∧ v < 256 := by
  have h1 : IntKind.u8.min = 0 := rfl
  have h2 : IntKind.u8.max = 255 := rfl
  simp only [Lit.wf, Bool.and_eq_true, decide_eq_true_eq] at h
  omega
theorem nameForms_w (v0 v1 : Int) (w : World) (h0 : (Lit.int .i64 v0).wf = true) (h1 : (Lit.int .u8 v1).wf = true) :
    Calls Tryd.prog 3 #[.int .i64 v0, .int .u8 v1] w fun e w' => e = .returned (.bool true) ∧ Below w.heap.size w w' :=
  (nameForms_c v0 v1 (byte_wf h1) w).mono fun _ _ h => ⟨h.1, h.2.below0⟩
end Go.Proofs.YtecgaggkpbikbaaDoor
