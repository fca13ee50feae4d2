/- The reference's Reader, the rest; bytes copied, lent, looked at. -/
import Derived.Test.YtnlkkcpcjeeplaaCr
import Derived.Laws.CopyRow
set_option linter.unusedVariables false
set_option linter.unusedSimpArgs false
namespace Go.Proofs.Ytnlkkcpcjeeplaa
open Go.RowKit

def rtxtR (bs : List Int) (bad : Bool) : ByteArray × List Int × Bool :=
  if (rnumR bs bad).2.2 = true then (ByteArray.empty, (rnumR bs bad).2.1, true)
  else if 200 < (rnumR bs bad).1 ∨ ((rnumR bs bad).2.1.length : Int) < (rnumR bs bad).1 then (ByteArray.empty, (rnumR bs bad).2.1, true)
  else (mkStr ((rnumR bs bad).2.1.take (rnumR bs bad).1.toNat), (rnumR bs bad).2.1.drop (rnumR bs bad).1.toNat, false)

theorem rnum_range {bs : List Int} {bad : Bool} (hb : ∀ c ∈ bs, 0 ≤ c ∧ c ≤ 255) : 0 ≤ (rnumR bs bad).1 := by
  unfold rnumR
  split
  · exact Int.le_refl 0
  · split
    · exact Int.le_refl 0
    · rename_i v k h
      exact nb_range bs 0 0 hb (by decide) v k h

set_option maxRecDepth 100000 in
set_option maxHeartbeats 4000000 in
theorem rtext_c (g : Nat) (bs : List Int) (bad : Bool) (w : World) (h : RrAt w g 38 bs bad) :
    Calls Try.prog 30 #[.pointer (some ⟨g, 0, none⟩)] w fun e w' => e = .returned (.string (rtxtR bs bad).1) ∧ RrAt w' g 38 (rtxtR bs bad).2.1 (rtxtR bs bad).2.2 ∧ Kp (· = g) w w' := by
  have hv0 : 0 ≤ (rnumR bs bad).1 := rnum_range (by obtain ⟨_, _, _, _, _, _, hb⟩ := h; exact hb)
  go_enter Try.func30, Try.ntmps30
  go_wp2_with fail
  refine (rnumber_c g bs bad _ h).mono ?_
  rintro e w1 ⟨rfl, h1, k1⟩
  have ht : rtxtR bs bad = rtxtR bs bad := rfl
  conv at ht => rhs; unfold rtxtR
  generalize rnumR bs bad = nr at *
  obtain ⟨v, r, bd⟩ := nr
  simp only at *
  have h10 := h1
  obtain ⟨a, cap, hB, hc, hm, hv, hb⟩ := h1
  have c0 := Blk.cell hB 0
  have c1 := Blk.cell hB 1
  have f0 := Blk.free hB 0
  have f1 := Blk.free hB 1
  have hset : RrAt (w1.setCell ⟨g, 1, none⟩ (.bool true)) g 38 r true := by
    refine ⟨a, cap, by simpa using hB.set 1 (.bool true), hc, hm, ?_, hb⟩
    exact hv.kp ((Kp.self g w1).put 1 _) (fun B _ hne x => hne x)
  simp at c0 c1
  cases bd with
  | true =>
    rw [if_pos rfl] at ht
    go_wp2
    go_ret
    try rw [ht]
    exact ⟨rfl, hset, k1.trans ((Kp.self g w1).put 1 _) (fun i _ x => x)⟩
  | false =>
    rw [if_neg (by decide)] at ht
    by_cases hg : 200 < v ∨ (r.length : Int) < v
    · rw [if_pos hg] at ht
      by_cases hg1 : 200 < v
      · go_wp2
        go_ret
        try rw [ht]
        exact ⟨rfl, hset, k1.trans ((Kp.self g w1).put 1 _) (fun i _ x => x)⟩
      · have hg2 : (r.length : Int) < v := hg.resolve_left hg1
        go_wp2
        go_ret
        try rw [ht]
        exact ⟨rfl, hset, k1.trans ((Kp.self g w1).put 1 _) (fun i _ x => x)⟩
    · rw [if_neg hg] at ht
      have hg1 : ¬ 200 < v := fun x => hg (.inl x)
      have hg2 : ¬ (r.length : Int) < v := fun x => hg (.inr x)
      obtain ⟨m, rfl⟩ := Int.eq_ofNat_of_zero_le hv0
      simp only [Int.toNat_natCast] at ht
      clear hg h10 hv0
      rcases hv with ⟨rfl, rfl, rfl⟩ | ⟨B, off, rfl, hV, hBs, hBg⟩
      · have hm0 : m = 0 := by simp at hg2; omega
        subst hm0
        have hcv : (convert 23 9 (.slice none 0 0)).run Try.prog w1 = .ok (.string ByteArray.empty) w1 := by rw [run_convert_bytes_string _ 23 9 5 none 0 0 rfl rfl rfl]; rfl
        go_wp2
        all_goals
          go_ret
          try rw [ht]
          exact ⟨rfl, ⟨none, 0, by simpa using hB.set 0 (.slice none 0 0), by simp, by simp, .inl ⟨rfl, rfl, rfl⟩, by simp⟩, k1.trans ((Kp.self g w1).put 0 _) (fun i _ x => x)⟩
      · have hcv := conv_str (n := m) (cap := cap) (ns := r.take m) (by rw [List.map_take]; exact hV.take m) (by rw [List.length_take]; omega)
        have hcv1 : (convert 23 9 (.slice (some ⟨B, off, none⟩) m cap)).run Try.prog w1 = .ok (.string (mkStr (r.take m))) w1 := by rw [run_convert_bytes_string _ 23 9 5 _ m cap rfl rfl rfl]; exact hcv
        clear hcv
        go_wp2
        all_goals
          go_ret
          try rw [ht]
          first | exact ⟨rfl, rr_endT hB hV hBg hBs hc hm hb m (by omega), k1.trans ((Kp.self g w1).put 0 _) (fun i _ x => x)⟩ | exact ⟨rfl, rr_endT0 hB hBg hBs m 0 (by omega), k1.trans ((Kp.self g w1).put 0 _) (fun i _ x => x)⟩

theorem rdone_c (g : Nat) (bs : List Int) (bad : Bool) (w : World) (h : RrAt w g 38 bs bad) :
    Calls Try.prog 32 #[.pointer (some ⟨g, 0, none⟩)] w fun e w' => e = .returned (.bool (!bad && (bs.length == 0))) ∧ w = w' := by
  obtain ⟨a, cap, hB, _⟩ := h
  have c0 := Blk.cell hB 0
  have c1 := Blk.cell hB 1
  simp at c0 c1
  cases bad with
  | true =>
    go_enter Try.func32, Try.ntmps32
    go_wp2
    go_ret
    exact ⟨rfl, rfl⟩
  | false =>
    go_enter Try.func32, Try.ntmps32
    go_wp2
    go_ret
    exact ⟨by congr 2; cases bs <;> simp <;> omega, rfl⟩


/-- The two readers beside each other: alike, but for what a bad one holds. -/
def Like (bs bs' : List Int) (bad : Bool) : Prop := bad = false → bs = bs'

theorem like_num {bs bs' : List Int} {bad : Bool} (h : Like bs bs' bad) : (numR bs bad).1 = (rnumR bs' bad).1 ∧ (numR bs bad).2.2 = (rnumR bs' bad).2.2 ∧ Like (numR bs bad).2.1 (rnumR bs' bad).2.1 (numR bs bad).2.2 := by
  cases bad with
  | true => exact ⟨rfl, rfl, fun h => by cases h⟩
  | false =>
    have e := h rfl
    subst e
    unfold numR rnumR
    rw [if_neg (by decide), if_neg (by decide)]
    cases nb bs 0 0 with
    | none => exact ⟨rfl, rfl, fun h => by cases h⟩
    | some p => exact ⟨rfl, rfl, fun _ => rfl⟩
theorem like_txt {bs bs' : List Int} {bad : Bool} (h : Like bs bs' bad) : (txtR bs bad).1 = (rtxtR bs' bad).1 ∧ (txtR bs bad).2.2 = (rtxtR bs' bad).2.2 ∧ Like (txtR bs bad).2.1 (rtxtR bs' bad).2.1 (txtR bs bad).2.2 := by
  obtain ⟨h1, h2, h3⟩ := like_num h
  unfold txtR rtxtR
  rw [← h1, ← h2]
  cases hb : (numR bs bad).2.2 with
  | true => simp [Like]
  | false =>
    rw [hb] at h3
    have h4 := h3 rfl
    rw [← h4]
    simp only [Bool.false_eq_true, if_false]
    split
    · exact ⟨rfl, rfl, fun h => by cases h⟩
    · exact ⟨rfl, rfl, fun _ => rfl⟩
end Go.Proofs.Ytnlkkcpcjeeplaa
