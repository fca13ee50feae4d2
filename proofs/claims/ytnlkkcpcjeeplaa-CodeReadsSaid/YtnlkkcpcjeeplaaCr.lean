/- Contracts of the reference's Reader. -/
import Derived.Test.YtnlkkcpcjeeplaaCe
set_option linter.unusedVariables false
set_option linter.unusedSimpArgs false
namespace Go.Proofs.Ytnlkkcpcjeeplaa
open Go.RowKit

theorem rr_endT {w : World} {g B off cap T : Nat} {bs : List Int} {a : Value} (h1 : Blk w g #[a, .bool false] T) (hV : Vw w B off (bs.map (.int .u8 ·))) (hBg : B ≠ g) (hB : B < w.heap.size) (hc : bs.length ≤ cap) (hm : cap ≤ 9223372036854775807)
    (hb : ∀ c ∈ bs, 0 ≤ c ∧ c ≤ 255) (k : Nat) (hk : k ≤ bs.length) :
    RrAt (w.setCell ⟨g, 0, none⟩ (.slice (some ⟨B, off + k, none⟩) (bs.length - k) (cap - k))) g T (bs.drop k) false := by
  have H := h1.set 0 (.slice (some ⟨B, off + k, none⟩) (bs.length - k) (cap - k))
  have K := (Kp.self g w).put 0 (.slice (some ⟨B, off + k, none⟩) (bs.length - k) (cap - k))
  refine ⟨some ⟨B, off + k, none⟩, cap - k, by rw [List.length_drop]; simpa using H, by rw [List.length_drop]; omega, by omega, .inr ⟨B, off + k, rfl, ?_, Nat.lt_of_lt_of_le hB K.size, hBg⟩, fun c hc => hb c (List.mem_of_mem_drop hc)⟩
  have := (hV.drop k).kp K hB hBg
  rwa [← List.map_drop] at this

theorem rr_endT0 {w : World} {g B off T : Nat} {bs : List Int} {a : Value} (h1 : Blk w g #[a, .bool false] T) (hBg : B ≠ g) (hB : B < w.heap.size) (k c' : Nat) (hk : bs.length ≤ k) :
    RrAt (w.setCell ⟨g, 0, none⟩ (.slice (some ⟨B, off, none⟩) (bs.length - k) 0)) g T (bs.drop k) false := by
  have hd : bs.drop k = [] := List.drop_eq_nil_of_le hk
  have H := h1.set 0 (.slice (some ⟨B, off, none⟩) (bs.length - k) 0)
  have K := (Kp.self g w).put 0 (.slice (some ⟨B, off, none⟩) (bs.length - k) 0)
  rw [hd, show bs.length - k = 0 by omega] at *
  exact ⟨some ⟨B, off, none⟩, 0, by simpa using H, by simp, by simp, .inr ⟨B, off, rfl, fun j u hj => by simp at hj, Nat.lt_of_lt_of_le hB K.size, hBg⟩, by simp⟩


def rnumR (bs : List Int) (bad : Bool) : Int × List Int × Bool :=
  if bad = true then (0, bs, true) else match nb bs 0 0 with | none => (0, bs, true) | some (v, k) => (v, bs.drop k, false)

set_option maxRecDepth 100000 in
set_option maxHeartbeats 16000000 in
theorem rnumber_c (g : Nat) (bs : List Int) (bad : Bool) (w : World) (h : RrAt w g 38 bs bad) :
    Calls Try.prog 28 #[.pointer (some ⟨g, 0, none⟩)] w fun e w' => e = .returned (.int .i64 (rnumR bs bad).1) ∧ RrAt w' g 38 (rnumR bs bad).2.1 (rnumR bs bad).2.2 ∧ Kp (· = g) w w' := by
  obtain ⟨a, cap, h1, hc, hm, hv, hb⟩ := h
  have c0 := Blk.cell h1 0
  have c1 := Blk.cell h1 1
  have f0 := Blk.free h1 0
  have f1 := Blk.free h1 1
  simp at c0 c1
  have hset : RrAt (w.setCell ⟨g, 1, none⟩ (.bool true)) g 38 bs true := by
    refine ⟨a, cap, by simpa using h1.set 1 (.bool true), hc, hm, ?_, hb⟩
    exact hv.kp ((Kp.self g w).put 1 _) (fun B _ hne x => hne x)
  cases bad with
  | true =>
    have hr : rnumR bs true = (0, bs, true) := rfl
    go_enter Try.func28, Try.ntmps28
    go_wp2_with fail
    go_loopw [3, 4] (fun n i wr => n = .int .i64 0 ∧ i = .int .i64 0 ∧ wr = w) (fun _ _ _ => 0)
    case atStart => exact ⟨rfl, rfl, rfl⟩
    case round =>
      obtain ⟨rfl, rfl, rfl⟩ := hrel
      go_wp2
      go_ret
      try rw [hr]
      exact ⟨rfl, hset, (Kp.self g wr).put 1 _⟩
  | false =>
    go_enter Try.func28, Try.ntmps28
    go_wp2_with fail
    go_loopw [3, 4] (fun x i wr => ∃ (k : Nat) (n : Int), x = .int .i64 n ∧ i = .int .i64 k ∧ nb (bs.drop k) k n = nb bs 0 0 ∧ k ≤ 5 ∧ k ≤ bs.length ∧ 0 ≤ n ∧ n < 2 ^ (7 * k) ∧ wr = w) (fun _ i _ => (5 - intOf i).toNat)
    case atStart => exact ⟨0, 0, rfl, rfl, rfl, by decide, by omega, by decide, by decide, rfl⟩
    case round =>
      obtain ⟨k, n, rfl, rfl, hs, hk5, hkl, hn0, hn1, rfl⟩ := hrel
      by_cases hout : k = 5 ∨ k = bs.length
      · have hr : rnumR bs false = (0, bs, true) := by
          rw [rnumR, if_neg (by decide), ← hs]
          rcases hout with rfl | rfl
          · rw [nb_five]
          · rw [List.drop_length, nb]
        rcases hout with rfl | rfl
        · go_wp2
          all_goals
            go_ret
            try rw [hr]
            exact ⟨rfl, hset, (Kp.self g wr).put 1 _⟩
        · go_wp2
          all_goals
            go_ret
            try rw [hr]
            exact ⟨rfl, hset, (Kp.self g wr).put 1 _⟩
      have hl : k < bs.length := by omega
      have hk : k = 0 ∨ k = 1 ∨ k = 2 ∨ k = 3 ∨ k = 4 := by omega
      obtain ⟨B, off, rfl, hV, hB, hBg⟩ := hv.resolve_left (by rintro ⟨_, _, rfl⟩; simp at hl)
      clear hout hv
      rcases hk with rfl | rfl | rfl | rfl | rfl
      · have hd : bs.drop 0 = bs[0] :: bs.drop (0 + 1) := List.drop_eq_getElem_cons hl
        have hcell := hV 0 _ (by rw [List.getElem?_map, List.getElem?_eq_getElem hl]; rfl)
        have hcb := hb _ (List.getElem_mem hl)
        generalize bs[0] = c at hd hcell hcb
        simp only [Nat.add_zero] at hcell
        obtain ⟨hc0, hc1⟩ := hcb
        rw [hd, nb, if_neg (by decide)] at hs
        obtain ⟨N, hN⟩ : ∃ N : Int, n + c % 128 * 2 ^ (7 * 0) = N := ⟨_, rfl⟩
        have hN' : n + c % 128 = N := by rw [← hN]; simp
        have hN0 : 0 ≤ N := by rw [← hN']; omega
        have hN1 : N < 2 ^ (7 * 1) := by rw [← hN', show (2 : Int) ^ (7 * 1) = 128 from rfl]; rw [show (2 : Int) ^ (7 * 0) = 1 from rfl] at hn1; omega
        rw [hN] at hs
        have hl1 : ((0 : Int) < bs.length) := by omega
        by_cases hg : 128 ≤ c
        · rw [if_pos hg] at hs
          clear hN hd
          go_wp2
          go_roundw
          case rel => exact ⟨1, N, by go_num, by go_num, hs, by decide, by omega, hN0, hN1, trivial⟩
          case measure => simp [intOf]
        · have hg' : c < 128 := by omega
          rw [if_neg hg] at hs
          · have hz : ¬ (c = 0 ∧ 1 ≤ 0) := by omega
            rw [if_neg (by omega)] at hs
            have hr : rnumR bs false = (N, bs.drop 1, false) := by rw [rnumR, if_neg (by decide), ← hs]
            go_wp2
            all_goals
              go_ret
              try rw [hr]
              refine ⟨rfl, ?_, (Kp.self g wr).put 0 _⟩
              rw [← List.drop_one]
              first | exact rr_endT h1 hV hBg hB hc hm hb 1 (by omega) | exact rr_endT0 h1 hBg hB 1 0 (by omega)
      · have hd : bs.drop 1 = bs[1] :: bs.drop (1 + 1) := List.drop_eq_getElem_cons hl
        have hcell := hV 1 _ (by rw [List.getElem?_map, List.getElem?_eq_getElem hl]; rfl)
        have hcb := hb _ (List.getElem_mem hl)
        generalize bs[1] = c at hd hcell hcb
        obtain ⟨hc0, hc1⟩ := hcb
        rw [hd, nb, if_neg (by decide)] at hs
        obtain ⟨N, hN⟩ : ∃ N : Int, n + c % 128 * 2 ^ (7 * 1) = N := ⟨_, rfl⟩
        have hN' : n + c % 128 * 128 = N := by rw [← hN]; rfl
        have hN0 : 0 ≤ N := by rw [← hN']; omega
        have hN1 : N < 2 ^ (7 * 2) := by rw [← hN', show (2 : Int) ^ (7 * 2) = 16384 from rfl]; rw [show (2 : Int) ^ (7 * 1) = 128 from rfl] at hn1; omega
        rw [hN] at hs
        have hl1 : ((1 : Int) < bs.length) := by omega
        by_cases hg : 128 ≤ c
        · rw [if_pos hg] at hs
          clear hN hd
          go_wp2
          go_roundw
          case rel => exact ⟨2, N, by go_num, by go_num, hs, by decide, by omega, hN0, hN1, trivial⟩
          case measure => simp [intOf]
        · have hg' : c < 128 := by omega
          rw [if_neg hg] at hs
          by_cases hz : c = 0
          · subst hz
            rw [if_pos ⟨rfl, by decide⟩] at hs
            have hr : rnumR bs false = (0, bs, true) := by rw [rnumR, if_neg (by decide), ← hs]
            go_wp2
            go_ret
            try rw [hr]
            exact ⟨rfl, ⟨_, cap, by simpa using h1.set 1 (.bool true), hc, hm, .inr ⟨B, off, rfl, hV.kp ((Kp.self g wr).put 1 _) hB hBg, by simpa using hB, hBg⟩, hb⟩, (Kp.self g wr).put 1 _⟩
          · have hzb : (c == 0) = false := by simpa using hz
            rw [if_neg (by omega)] at hs
            have hr : rnumR bs false = (N, bs.drop 2, false) := by rw [rnumR, if_neg (by decide), ← hs]
            go_wp2
            all_goals
              go_ret
              try rw [hr]
              refine ⟨rfl, ?_, (Kp.self g wr).put 0 _⟩
              first | exact rr_endT h1 hV hBg hB hc hm hb 2 (by omega) | exact rr_endT0 h1 hBg hB 2 0 (by omega)
      · have hd : bs.drop 2 = bs[2] :: bs.drop (2 + 1) := List.drop_eq_getElem_cons hl
        have hcell := hV 2 _ (by rw [List.getElem?_map, List.getElem?_eq_getElem hl]; rfl)
        have hcb := hb _ (List.getElem_mem hl)
        generalize bs[2] = c at hd hcell hcb
        obtain ⟨hc0, hc1⟩ := hcb
        rw [hd, nb, if_neg (by decide)] at hs
        obtain ⟨N, hN⟩ : ∃ N : Int, n + c % 128 * 2 ^ (7 * 2) = N := ⟨_, rfl⟩
        have hN' : n + c % 128 * 16384 = N := by rw [← hN]; rfl
        have hN0 : 0 ≤ N := by rw [← hN']; omega
        have hN1 : N < 2 ^ (7 * 3) := by rw [← hN', show (2 : Int) ^ (7 * 3) = 2097152 from rfl]; rw [show (2 : Int) ^ (7 * 2) = 16384 from rfl] at hn1; omega
        rw [hN] at hs
        have hl1 : ((2 : Int) < bs.length) := by omega
        by_cases hg : 128 ≤ c
        · rw [if_pos hg] at hs
          clear hN hd
          go_wp2
          go_roundw
          case rel => exact ⟨3, N, by go_num, by go_num, hs, by decide, by omega, hN0, hN1, trivial⟩
          case measure => simp [intOf]
        · have hg' : c < 128 := by omega
          rw [if_neg hg] at hs
          by_cases hz : c = 0
          · subst hz
            rw [if_pos ⟨rfl, by decide⟩] at hs
            have hr : rnumR bs false = (0, bs, true) := by rw [rnumR, if_neg (by decide), ← hs]
            go_wp2
            go_ret
            try rw [hr]
            exact ⟨rfl, ⟨_, cap, by simpa using h1.set 1 (.bool true), hc, hm, .inr ⟨B, off, rfl, hV.kp ((Kp.self g wr).put 1 _) hB hBg, by simpa using hB, hBg⟩, hb⟩, (Kp.self g wr).put 1 _⟩
          · have hzb : (c == 0) = false := by simpa using hz
            rw [if_neg (by omega)] at hs
            have hr : rnumR bs false = (N, bs.drop 3, false) := by rw [rnumR, if_neg (by decide), ← hs]
            go_wp2
            all_goals
              go_ret
              try rw [hr]
              refine ⟨rfl, ?_, (Kp.self g wr).put 0 _⟩
              first | exact rr_endT h1 hV hBg hB hc hm hb 3 (by omega) | exact rr_endT0 h1 hBg hB 3 0 (by omega)
      · have hd : bs.drop 3 = bs[3] :: bs.drop (3 + 1) := List.drop_eq_getElem_cons hl
        have hcell := hV 3 _ (by rw [List.getElem?_map, List.getElem?_eq_getElem hl]; rfl)
        have hcb := hb _ (List.getElem_mem hl)
        generalize bs[3] = c at hd hcell hcb
        obtain ⟨hc0, hc1⟩ := hcb
        rw [hd, nb, if_neg (by decide)] at hs
        obtain ⟨N, hN⟩ : ∃ N : Int, n + c % 128 * 2 ^ (7 * 3) = N := ⟨_, rfl⟩
        have hN' : n + c % 128 * 2097152 = N := by rw [← hN]; rfl
        have hN0 : 0 ≤ N := by rw [← hN']; omega
        have hN1 : N < 2 ^ (7 * 4) := by rw [← hN', show (2 : Int) ^ (7 * 4) = 268435456 from rfl]; rw [show (2 : Int) ^ (7 * 3) = 2097152 from rfl] at hn1; omega
        rw [hN] at hs
        have hl1 : ((3 : Int) < bs.length) := by omega
        by_cases hg : 128 ≤ c
        · rw [if_pos hg] at hs
          clear hN hd
          go_wp2
          go_roundw
          case rel => exact ⟨4, N, by go_num, by go_num, hs, by decide, by omega, hN0, hN1, trivial⟩
          case measure => simp [intOf]
        · have hg' : c < 128 := by omega
          rw [if_neg hg] at hs
          by_cases hz : c = 0
          · subst hz
            rw [if_pos ⟨rfl, by decide⟩] at hs
            have hr : rnumR bs false = (0, bs, true) := by rw [rnumR, if_neg (by decide), ← hs]
            go_wp2
            go_ret
            try rw [hr]
            exact ⟨rfl, ⟨_, cap, by simpa using h1.set 1 (.bool true), hc, hm, .inr ⟨B, off, rfl, hV.kp ((Kp.self g wr).put 1 _) hB hBg, by simpa using hB, hBg⟩, hb⟩, (Kp.self g wr).put 1 _⟩
          · have hzb : (c == 0) = false := by simpa using hz
            rw [if_neg (by omega)] at hs
            have hr : rnumR bs false = (N, bs.drop 4, false) := by rw [rnumR, if_neg (by decide), ← hs]
            go_wp2
            all_goals
              go_ret
              try rw [hr]
              refine ⟨rfl, ?_, (Kp.self g wr).put 0 _⟩
              first | exact rr_endT h1 hV hBg hB hc hm hb 4 (by omega) | exact rr_endT0 h1 hBg hB 4 0 (by omega)
      · have hd : bs.drop 4 = bs[4] :: bs.drop (4 + 1) := List.drop_eq_getElem_cons hl
        have hcell := hV 4 _ (by rw [List.getElem?_map, List.getElem?_eq_getElem hl]; rfl)
        have hcb := hb _ (List.getElem_mem hl)
        generalize bs[4] = c at hd hcell hcb
        obtain ⟨hc0, hc1⟩ := hcb
        rw [hd, nb, if_neg (by decide)] at hs
        obtain ⟨N, hN⟩ : ∃ N : Int, n + c % 128 * 2 ^ (7 * 4) = N := ⟨_, rfl⟩
        have hN' : n + c % 128 * 268435456 = N := by rw [← hN]; rfl
        have hN0 : 0 ≤ N := by rw [← hN']; omega
        have hN1 : N < 2 ^ (7 * 5) := by rw [← hN', show (2 : Int) ^ (7 * 5) = 34359738368 from rfl]; rw [show (2 : Int) ^ (7 * 4) = 268435456 from rfl] at hn1; omega
        rw [hN] at hs
        have hl1 : ((4 : Int) < bs.length) := by omega
        by_cases hg : 128 ≤ c
        · rw [if_pos hg] at hs
          clear hN hd
          go_wp2
          go_roundw
          case rel => exact ⟨5, N, by go_num, by go_num, hs, by decide, by omega, hN0, hN1, trivial⟩
          case measure => simp [intOf]
        · have hg' : c < 128 := by omega
          rw [if_neg hg] at hs
          by_cases hz : c = 0
          · subst hz
            rw [if_pos ⟨rfl, by decide⟩] at hs
            have hr : rnumR bs false = (0, bs, true) := by rw [rnumR, if_neg (by decide), ← hs]
            go_wp2
            go_ret
            try rw [hr]
            exact ⟨rfl, ⟨_, cap, by simpa using h1.set 1 (.bool true), hc, hm, .inr ⟨B, off, rfl, hV.kp ((Kp.self g wr).put 1 _) hB hBg, by simpa using hB, hBg⟩, hb⟩, (Kp.self g wr).put 1 _⟩
          · have hzb : (c == 0) = false := by simpa using hz
            rw [if_neg (by omega)] at hs
            have hr : rnumR bs false = (N, bs.drop 5, false) := by rw [rnumR, if_neg (by decide), ← hs]
            go_wp2
            all_goals
              go_ret
              try rw [hr]
              refine ⟨rfl, ?_, (Kp.self g wr).put 0 _⟩
              first | exact rr_endT h1 hV hBg hB hc hm hb 5 (by omega) | exact rr_endT0 h1 hBg hB 5 0 (by omega)
end Go.Proofs.Ytnlkkcpcjeeplaa

