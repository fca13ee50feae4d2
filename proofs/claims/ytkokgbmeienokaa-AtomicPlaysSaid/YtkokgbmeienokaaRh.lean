/- Rows of bytes compared; the reference's scan; the example. -/
import Derived.Test.YtkokgbmeienokaaRg
set_option linter.unusedVariables false
set_option linter.unusedSimpArgs false
namespace Go.Proofs.Ytkokgbmeienokaa
open Go.RowKit

theorem Bz.cell {w : World} {a : Option Addr} {cap : Nat} {bs : List Int} (h : Bz w a cap bs) (j : Nat) (hj : j < bs.length) : ∃ B off, a = some ⟨B, off, none⟩ ∧ B < w.heap.size ∧ w.cell? ⟨B, off + j, none⟩ = some (.int .u8 (bs[j])) := by
  rcases h with ⟨⟨_, _, rfl⟩ | ⟨B, off, rfl, hV, hB⟩, _⟩ | ⟨rfl, _⟩
  · simp at hj
  · exact ⟨B, off, rfl, hB, hV j _ (by rw [List.getElem?_map, List.getElem?_eq_getElem hj]; rfl)⟩
  · simp at hj

set_option maxRecDepth 100000 in
theorem same26_c (a1 : Option Addr) (c1 : Nat) (a2 : Option Addr) (c2 : Nat) (bs : List Int) (hl : bs.length ≤ 140737488355328) (w : World) (h1 : Bz w a1 c1 bs) (h2 : Bz w a2 c2 bs) :
    Calls Try.prog 26 #[.slice a1 bs.length c1, .slice a2 bs.length c2] w fun e w' => e = .returned (.bool true) ∧ Kp0 w w' := by
  have i1 : (((bs.length : Nat) : Int) != ((bs.length : Nat) : Int)) = false := by simp
  go_enter Try.func26, Try.ntmps26
  go_wp2_with fail
  go_loopw [5] (fun i wr => ∃ j : Nat, j ≤ bs.length ∧ i = .int .i64 j ∧ Kp0 w wr) (fun i _ => (bs.length - intOf i).toNat)
  case atStart => exact ⟨0, by omega, rfl, Kp.refl _ _⟩
  case round =>
    obtain ⟨j, hj, rfl, K⟩ := hrel
    by_cases hlt : j < bs.length
    · obtain ⟨b1, o1, rfl, hb1, d1⟩ := (h1.kp0 K).cell j hlt
      obtain ⟨b2, o2, rfl, hb2, d2⟩ := (h2.kp0 K).cell j hlt
      have z1 : (bs[j] != bs[j]) = false := by simp
      clear h1 h2
      generalize bs[j] = z at *
      go_wp2_with fail
      go_quiet (fail)
      go_wp2
      go_roundw
      case rel => exact ⟨j + 1, by omega, by go_num, K.drewN _⟩
      case measure => simp [intOf]; omega
    · clear h1 h2
      go_wp2
      go_ret
      exact ⟨rfl, K⟩

/-- A value reads as these rows of bytes. -/
def Rv (w : World) (v : Value) (ls : List (List Int)) : Prop :=
  ∃ A0 c0, v = .slice A0 ls.length c0 ∧ ls.length ≤ c0 ∧ c0 ≤ 9223372036854775807 ∧ ∀ j (h : j < ls.length), ∃ b off A c, A0 = some ⟨b, off, none⟩ ∧ b < w.heap.size ∧ w.cell? ⟨b, off + j, none⟩ = some (.slice A (ls[j]).length c) ∧ Bz w A c ls[j] ∧ (ls[j]).length ≤ c ∧ c ≤ 9223372036854775807
theorem Rv.kp0 {w w' : World} {v : Value} {ls : List (List Int)} (h : Rv w v ls) (k : Kp0 w w') : Rv w' v ls := by
  obtain ⟨A0, c0, e, l1, l2, h⟩ := h
  refine ⟨A0, c0, e, l1, l2, fun j hj => ?_⟩
  obtain ⟨b, off, A, c, e1, hb, hc, hz, m1, m2⟩ := h j hj
  exact ⟨b, off, A, c, e1, Nat.lt_of_lt_of_le hb k.size, (k.below0.cell (p := ⟨b, off + j, none⟩) hb).trans hc, hz.kp0 k, m1, m2⟩
theorem Rows.rv {w : World} {v : Value} {ls : List (List Int)} (h : Rows w v ls) : Rv w v ls := by
  obtain ⟨vs, h1, h2, h3⟩ := h
  rcases own_shape h1 with ⟨rfl, h0, _⟩ | ⟨r, cap, rfl, m1, m2, m3, m4⟩
  · obtain rfl := List.length_eq_zero_iff.1 (h2.symm.trans h0)
    exact ⟨none, 0, rfl, Nat.le_refl _, by omega, fun j hj => by simp at hj⟩
  · refine ⟨some ⟨r, 0, none⟩, cap, by rw [h2], by omega, m2, fun j hj => ?_⟩
    obtain ⟨A, c, e, b, n1, n2, _⟩ := h3 j hj
    exact ⟨r, 0, A, c, rfl, m3, by rw [Nat.zero_add, m4 j (by omega)]; exact e, b, n1, n2⟩

set_option maxRecDepth 100000 in
set_option maxHeartbeats 1000000 in
theorem same58_c (v1 v2 : Value) (ls : List (List Int)) (hl : ls.length ≤ 2000000) (hb : ∀ x ∈ ls, x.length ≤ 140737488355328) (w : World) (h1 : Rv w v1 ls) (h2 : Rv w v2 ls) :
    Calls Try.prog 58 #[v1, v2] w fun e w' => e = .returned (.bool true) ∧ Kp0 w w' := by
  obtain ⟨A1, c1, rfl, _, _, h1⟩ := h1
  obtain ⟨A2, c2, rfl, _, _, h2⟩ := h2
  have i1 : (((ls.length : Nat) : Int) != ((ls.length : Nat) : Int)) = false := by simp
  go_enter Try.func58, Try.ntmps58
  go_wp2_with fail
  go_loopw [13] (fun i wr => ∃ j : Nat, j ≤ ls.length ∧ i = .int .i64 j ∧ Kp0 w wr) (fun i _ => (ls.length - intOf i).toNat)
  case atStart => exact ⟨0, by omega, rfl, Kp.refl _ _⟩
  case round =>
    obtain ⟨j, hj, rfl, K⟩ := hrel
    by_cases hlt : j < ls.length
    · obtain ⟨b1, o1, X1, x1, rfl, hb1, d1, z1, _⟩ := h1 j hlt
      obtain ⟨b2, o2, X2, x2, rfl, hb2, d2, z2, _⟩ := h2 j hlt
      have hbl := hb _ (List.getElem_mem hlt)
      generalize ls[j] = x at *
      have hS : ∀ W, Kp0 wr W → W.cell? ⟨b1, o1 + j, none⟩ = some (.slice X1 x.length x1) ∧ W.cell? ⟨b2, o2 + j, none⟩ = some (.slice X2 x.length x2) :=
        fun W k => ⟨((K.then0 k).below0.cell (p := ⟨b1, o1 + j, none⟩) hb1).trans d1, ((K.then0 k).below0.cell (p := ⟨b2, o2 + j, none⟩) hb2).trans d2⟩
      have cS : ∀ W, Kp0 wr W → Calls Try.prog 26 #[.slice X1 x.length x1, .slice X2 x.length x2] W fun e w' => e = .returned (.bool true) ∧ Kp0 wr w' :=
        fun W k => (same26_c X1 x1 X2 x2 x hbl W (z1.kp0 (K.then0 k)) (z2.kp0 (K.then0 k))).mono (by rintro e w' ⟨rfl, k'⟩; exact ⟨rfl, k.then0 k'⟩)
      have K0 : Kp0 wr wr.drew := (Kp.refl _ _).drew
      clear h1 h2 hb d1 d2
      go_upto_region 6 with fail
      go_region_held3 (fun W => W.cell? ⟨b1, o1 + j, none⟩ = some (.slice X1 x.length x1) ∧ W.cell? ⟨b2, o2 + j, none⟩ = some (.slice X2 x.length x2)) (first | exact hS _ K0 | exact hS _ KA) (first | (go_at_call 26; go_fit (cS _ K0); rintro e wA ⟨rfl, KA⟩))
      go_wp2
      go_roundw
      case rel => exact ⟨j + 1, by omega, by go_num, K.then0 KA⟩
      case measure => simp [intOf]; omega
    · clear h1 h2
      go_wp2
      go_ret
      exact ⟨rfl, K⟩

theorem sc_nil : sc [] = ([], 0) := sc_stop (wh_no (.inl rfl))

set_option maxRecDepth 100000 in
set_option maxHeartbeats 1000000 in
theorem wakes59_c (w : World) : Calls Try.prog 59 #[] w fun e w' => e = .returned (.bool true) ∧ Kp0 w w' := by
  have hsc := scan_c none 0 [] w (.inl ⟨.inl ⟨rfl, rfl, rfl⟩, by simp⟩) (by simp) (by simp) (by simp)
  rw [sc_nil] at hsc
  go_enter Try.func59, Try.ntmps59
  go_wp2_with fail
  refine hsc.mono ?_
  rintro e w1 ⟨v, rfl, R, K1, _⟩
  obtain ⟨A, c, rfl⟩ := R.len
  have hpk := pack_c (some ⟨w1.heap.size, 0, none⟩) 1 [7] (w1.alloc (.cells #[.int .u8 7] 5)) (one_bz (blk_new _ _ rfl) (by omega)) (by simp)
  have hp7 : pk [7] = [1, 7, 165] := by rfl
  rw [hp7] at hpk
  clear R hsc
  go_wp2_with fail
  refine hpk.mono ?_
  rintro e w2 ⟨A2, c2, rfl, o2, k2, f2⟩
  have k3 : Kp0 w2 (w2.alloc (.cells #[.int .u8 1, .int .u8 7, .int .u8 165] 5)) := (Kp.refl _ _).alloc _
  have z2 := (bz_own o2 rfl (by simp)).kp0 k3
  have z3 : Bz (w2.alloc (.cells #[.int .u8 1, .int .u8 7, .int .u8 165] 5)) (some ⟨w2.heap.size, 0, none⟩) 3 [1, 7, 165] := .inl ⟨.inr ⟨_, 0, rfl, Vw.of_blk (blk_new _ _ rfl), by simp⟩, by simp⟩
  have hsame := same26_c A2 c2 (some ⟨w2.heap.size, 0, none⟩) 3 [1, 7, 165] (by simp) _ z2 z3
  clear z2 z3 o2 hpk
  go_wp2_with fail
  refine hsame.mono ?_
  rintro e w3 ⟨rfl, k4⟩
  go_wp2
  go_ret
  exact ⟨rfl, (((K1.alloc _).then0 k2).then0 k3).then0 k4⟩
end Go.Proofs.Ytkokgbmeienokaa
