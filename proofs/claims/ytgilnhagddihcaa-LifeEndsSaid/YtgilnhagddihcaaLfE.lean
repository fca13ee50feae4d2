/- The walk of LifeEnds. -/
import Derived.Test.YtgilnhagddihcaaLf
import Derived.OpenShut
namespace Go.Proofs.Ytgilnhagddihcaa
open Go.RowKit

def cn (s t : Nat) : Int := (((List.range (9 * s + t)).filter fun k => my ((k / 9 : Nat) : Int) ((k % 9 : Nat) : Int)).length : Nat)
theorem cn_step : ∀ s : Fin 9, ∀ t : Fin 9, cn s (t + 1) = (if my s t = true then cn s t + 1 else cn s t) ∧ 0 ≤ cn s t ∧ cn s t ≤ 100 := by decide +kernel
theorem my_facts : ∀ s : Fin 9, ∀ t : Fin 9, my s t = true → ov s = false ∧ s < t ∧ t.val ≠ 1 ∧ s.val ≠ 0 ∧ t.val ≤ 7 := by decide +kernel
theorem cn_all : cn 9 0 = 10 := by decide +kernel

theorem my1 (S : Nat) (h : S < 9) (b : Bool) (hb : (b = true) ↔ (2 ≤ S ∧ S ≤ 7)) : my 1 (S : Int) = b := by
  have : ∀ s : Fin 9, my 1 (s : Int) = decide (2 ≤ s.val ∧ s.val ≤ 7) := by decide +kernel
  have := this ⟨S, h⟩
  simp only at this
  rw [this]
  cases b <;> simp at hb ⊢ <;> omega

set_option maxRecDepth 100000 in
set_option maxHeartbeats 4000000 in
theorem ends_c (a b : Int) (ha : (Lit.int .i64 a).wf = true) (w : World) :
    Calls Try.prog 11 #[.int .i64 a, .int .i64 b] w fun e w' => e = .returned (.bool true) ∧ Below w.heap.size w w' := by
  have ba := bounds_i64 ha
  go_enter Try.func11, Try.ntmps11
  go_wp2_with fail
  go_loopw [5, 6] (fun n s wr => ∃ S : Nat, S ≤ 9 ∧ n = .int .i64 (cn S 0) ∧ s = .int .i64 S ∧ Below w.heap.size w wr) (fun _ s _ => (9 - intOf s).toNat)
  case atStart => exact ⟨0, by omega, rfl, rfl, Below.refl _ _⟩
  case round =>
    obtain ⟨S, hS, rfl, rfl, hB⟩ := hrel
    obtain ⟨wo, rfl⟩ : ∃ wo : World, wo = wr := ⟨_, rfl⟩
    by_cases hlt : S < 9
    · have h8 : (S : Int) ≤ 8 := by omega
      go_wp2_with fail
      go_loopw [5, 7] (fun n t wr => ∃ T : Nat, T ≤ 9 ∧ n = .int .i64 (cn S T) ∧ t = .int .i64 T ∧ wo = wr) (fun _ t _ => (9 - intOf t).toNat)
      case atStart => exact ⟨0, by omega, rfl, rfl, rfl⟩
      case round =>
        obtain ⟨T, hT, rfl, rfl, rfl⟩ := hrel
        by_cases hlt2 : T < 9
        · have h8' : (T : Int) ≤ 8 := by omega
          obtain ⟨c1, c2, c3⟩ := cn_step ⟨S, hlt⟩ ⟨T, hlt2⟩
          have mf := my_facts ⟨S, hlt⟩ ⟨T, hlt2⟩
          simp only at c1 c2 c3 mf
          by_cases hm : my (S : Int) (T : Int) = true
          · rw [if_pos hm] at c1
            obtain ⟨m1, m2, m3, m4, m5⟩ := mf hm
            have m2' : S < T := m2
            have C1 := Lib.hid c1
            have b1 : ((T : Int) == 1) = false := by rw [beq_eq_false_iff_ne]; omega
            have b2 : ((S : Int) == 0) = false := by rw [beq_eq_false_iff_ne]; omega
            clear c1 m2 m3 m4 mf
            go_wp2_with fail
            refine (may_c _ _ _).mono ?_
            rintro e w' ⟨rfl, rfl⟩
            go_wp2_with fail
            refine (over_c _ _).mono ?_
            rintro e w' ⟨rfl, rfl⟩
            go_wp2_with fail
            go_roundw
            case rel => exact ⟨T + 1, by omega, by rw [C1.out], by go_num, by first | rfl | trivial⟩
            case measure => simp [intOf]; omega
          · rw [if_neg hm] at c1
            have hm' : my (S : Int) (T : Int) = false := by simpa using hm
            have C1 := Lib.hid c1
            clear c1 mf hm
            go_wp2_with fail
            refine (may_c _ _ _).mono ?_
            rintro e w' ⟨rfl, rfl⟩
            go_wp2_with fail
            go_roundw
            case rel => exact ⟨T + 1, by omega, by rw [C1.out], by go_num, by first | rfl | trivial⟩
            case measure => simp [intOf]; omega
        · obtain rfl : T = 9 := by omega
          have e9 : cn S 9 = cn (S + 1) 0 := by unfold cn; rfl
          have E9 := Lib.hid e9
          clear e9
          have hs9 : S = 0 ∨ S = 1 ∨ S = 2 ∨ (3 ≤ S ∧ S ≤ 7) ∨ S = 8 := by omega
          rcases hs9 with hs9 | hs9 | hs9 | hs9 | hs9
          · have g1 : (S : Int) < 3 := by omega
            have g2 : (S : Int) < 1 := by omega
            have hov : ov (S : Int) = false := by unfold ov; simp; omega
            have hmy : my 1 (S : Int) = false := my1 S (by omega) _ (by simp; omega)
            have h2 : ((S : Int) == 2) = false := by simp; omega
            clear hs9
            go_wp2_with fail
            refine (over_c _ _).mono ?_
            rintro e w' ⟨rfl, rfl⟩
            go_wp2_with fail
            refine (name_c _ (by omega) (by omega) _).mono ?_
            rintro e w' ⟨s, rfl, hs, hb⟩
            have hs' : s.toList.isEmpty = true := by rw [hs]; simp; omega
            clear hs
            go_wp2_with fail
            refine (may_c _ _ _).mono ?_
            rintro e w' ⟨rfl, rfl⟩
            go_wp2_with fail
            refine (over_c _ _).mono ?_
            rintro e w' ⟨rfl, rfl⟩
            go_wp2_with fail
            go_roundw
            case rel => exact ⟨S + 1, by omega, by rw [E9.out], by go_num, hB.trans (hb.mono hB.size)⟩
            case measure => simp [intOf]; omega
          · have g1 : (S : Int) < 3 := by omega
            have g2 : 1 ≤ (S : Int) := by omega
            have hov : ov (S : Int) = false := by unfold ov; simp; omega
            have hmy : my 1 (S : Int) = false := my1 S (by omega) _ (by simp; omega)
            have h2 : ((S : Int) == 2) = false := by simp; omega
            clear hs9
            go_wp2_with fail
            refine (over_c _ _).mono ?_
            rintro e w' ⟨rfl, rfl⟩
            go_wp2_with fail
            refine (name_c _ (by omega) (by omega) _).mono ?_
            rintro e w' ⟨s, rfl, hs, hb⟩
            have hs' : s.toList.isEmpty = false := by rw [hs]; simp; omega
            clear hs
            go_wp2_with fail
            refine (may_c _ _ _).mono ?_
            rintro e w' ⟨rfl, rfl⟩
            go_wp2_with fail
            refine (over_c _ _).mono ?_
            rintro e w' ⟨rfl, rfl⟩
            go_wp2_with fail
            go_roundw
            case rel => exact ⟨S + 1, by omega, by rw [E9.out], by go_num, hB.trans (hb.mono hB.size)⟩
            case measure => simp [intOf]; omega
          · have g1 : (S : Int) < 3 := by omega
            have g2 : 1 ≤ (S : Int) := by omega
            have hov : ov (S : Int) = false := by unfold ov; simp; omega
            have hmy : my 1 (S : Int) = true := my1 S (by omega) _ (by simp; omega)
            have h2 : ((S : Int) == 2) = true := by simp; omega
            clear hs9
            go_wp2_with fail
            refine (over_c _ _).mono ?_
            rintro e w' ⟨rfl, rfl⟩
            go_wp2_with fail
            refine (name_c _ (by omega) (by omega) _).mono ?_
            rintro e w' ⟨s, rfl, hs, hb⟩
            have hs' : s.toList.isEmpty = false := by rw [hs]; simp; omega
            clear hs
            go_wp2_with fail
            refine (may_c _ _ _).mono ?_
            rintro e w' ⟨rfl, rfl⟩
            go_wp2_with fail
            go_roundw
            case rel => exact ⟨S + 1, by omega, by rw [E9.out], by go_num, hB.trans (hb.mono hB.size)⟩
            case measure => simp [intOf]; omega
          · have g1 : 3 ≤ (S : Int) := by omega
            have g2 : (S : Int) ≤ 7 := by omega
            have hov : ov (S : Int) = true := by unfold ov; simp; omega
            have hmy : my 1 (S : Int) = true := my1 S (by omega) _ (by simp; omega)
            have h2 : ((S : Int) == 2) = false := by simp; omega
            clear hs9
            go_wp2_with fail
            refine (over_c _ _).mono ?_
            rintro e w' ⟨rfl, rfl⟩
            go_wp2_with fail
            refine (name_c _ (by omega) (by omega) _).mono ?_
            rintro e w' ⟨s, rfl, hs, hb⟩
            have hs' : s.toList.isEmpty = false := by rw [hs]; simp; omega
            clear hs
            go_wp2_with fail
            refine (may_c _ _ _).mono ?_
            rintro e w' ⟨rfl, rfl⟩
            go_wp2_with fail
            refine (over_c _ _).mono ?_
            rintro e w' ⟨rfl, rfl⟩
            go_wp2_with fail
            go_roundw
            case rel => exact ⟨S + 1, by omega, by rw [E9.out], by go_num, hB.trans (hb.mono hB.size)⟩
            case measure => simp [intOf]; omega
          · have g1 : 8 ≤ (S : Int) := by omega
            have hov : ov (S : Int) = false := by unfold ov; simp; omega
            have hmy : my 1 (S : Int) = false := my1 S (by omega) _ (by simp; omega)
            have h2 : ((S : Int) == 2) = false := by simp; omega
            clear hs9
            go_wp2_with fail
            refine (over_c _ _).mono ?_
            rintro e w' ⟨rfl, rfl⟩
            go_wp2_with fail
            refine (name_c _ (by omega) (by omega) _).mono ?_
            rintro e w' ⟨s, rfl, hs, hb⟩
            have hs' : s.toList.isEmpty = true := by rw [hs]; simp; omega
            clear hs
            go_wp2_with fail
            refine (may_c _ _ _).mono ?_
            rintro e w' ⟨rfl, rfl⟩
            go_wp2_with fail
            refine (over_c _ _).mono ?_
            rintro e w' ⟨rfl, rfl⟩
            go_wp2_with fail
            go_roundw
            case rel => exact ⟨S + 1, by omega, by rw [E9.out], by go_num, hB.trans (hb.mono hB.size)⟩
            case measure => simp [intOf]; omega
    · obtain rfl : S = 9 := by omega
      have ca := cn_all
      rw [ca]
      by_cases h1 : 1 ≤ a
      · by_cases h7 : a ≤ 7
        · go_wp2_with fail
          refine (wakes9_c _).mono ?_
          rintro e w' ⟨rfl, hb⟩
          go_wp2
          go_ret
          exact ⟨rfl, hB.trans (hb.mono hB.size)⟩
        · have h7' : 7 < a := by omega
          have hmy : my a b = false := by unfold my; rw [if_neg (by omega), if_neg (by omega)]
          have hov : ov a = false := by unfold ov; simp; omega
          clear h7
          go_wp2_with fail
          refine (may_c _ _ _).mono ?_
          rintro e w' ⟨rfl, rfl⟩
          go_wp2_with fail
          refine (over_c _ _).mono ?_
          rintro e w' ⟨rfl, rfl⟩
          go_wp2_with fail
          refine (name_c _ (by omega) (by omega) _).mono ?_
          rintro e w' ⟨s, rfl, hs, hb⟩
          have hs' : s.toList.isEmpty = true := by rw [hs]; simp; omega
          clear hs
          go_wp2_with fail
          refine (wakes9_c _).mono ?_
          rintro e w'' ⟨rfl, hb2⟩
          go_wp2
          go_ret
          exact ⟨rfl, (hB.trans (hb.mono hB.size)).trans (hb2.mono (Nat.le_trans hB.size hb.size))⟩
      · have h1' : a < 1 := by omega
        have hmy : my a b = false := by unfold my; rw [if_neg (by omega), if_neg (by omega)]
        have hov : ov a = false := by unfold ov; simp; omega
        clear h1
        go_wp2_with fail
        refine (may_c _ _ _).mono ?_
        rintro e w' ⟨rfl, rfl⟩
        go_wp2_with fail
        refine (over_c _ _).mono ?_
        rintro e w' ⟨rfl, rfl⟩
        go_wp2_with fail
        refine (name_c _ (by omega) (by omega) _).mono ?_
        rintro e w' ⟨s, rfl, hs, hb⟩
        have hs' : s.toList.isEmpty = true := by rw [hs]; simp; omega
        clear hs
        go_wp2_with fail
        refine (wakes9_c _).mono ?_
        rintro e w'' ⟨rfl, hb2⟩
        go_wp2
        go_ret
        exact ⟨rfl, (hB.trans (hb.mono hB.size)).trans (hb2.mono (Nat.le_trans hB.size hb.size))⟩

theorem ends_w (a b : Int) (w : World) (ha : (Lit.int .i64 a).wf = true) (_ : (Lit.int .i64 b).wf = true) :
    Calls Try.prog 11 #[.int .i64 a, .int .i64 b] w fun e w' => e = .returned (.bool true) ∧ Below w.heap.size w w' := ends_c a b ha w

end Go.Proofs.Ytgilnhagddihcaa
