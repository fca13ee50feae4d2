/- Package disk: Rename. -/
import Derived.Test.YtkokgbmeienokaaEa
set_option linter.unusedVariables false
set_option linter.unusedSimpArgs false
namespace Go.Proofs.Ytkokgbmeienokaa
open Go.RowKit

attribute [local go_sem ↓] field90_0

set_option maxRecDepth 100000 in
set_option maxHeartbeats 4000000 in
theorem rename32_c (g n : Nat) (O : Nat → Prop) (d : Dk) (p q : ByteArray) (hp : p.size ≤ 100) (hq : q.size ≤ 100) (hn : n ≤ 1000000) (w : World) (h : DkAt w g n O d) :
    Calls Try.prog 32 #[.pointer (some ⟨g, 0, none⟩), .string p, .string q] w fun e w' => Did w w' g (n + 1) O (d.ren p q) e := by
  have k1 : Kp0 w (w.alloc (.cells #[.string p, .string q] 9)) := (Kp.refl _ _).alloc _
  have hT : Ts (w.alloc (.cells #[.string p, .string q] 9)) w.heap.size [p, q] := ⟨by simp, fun j hj => by
    obtain rfl | rfl : j = 0 ∨ j = 1 := by simp at hj; omega
    · exact Blk.cell (Blk.new _ _ _) 0
    · exact Blk.cell (Blk.new _ _ _) 1⟩
  have hmay := may66_c g n O d w.heap.size 2 [p, q] (by simp) _ (h.kp0 k1) hT
  clear hT
  have hth := there69_c g n O d p hp _ (h.kp0 k1)
  obtain ⟨a, ha⟩ : ∃ a, d.may [p, q] = a := ⟨_, rfl⟩
  obtain ⟨t, ht⟩ : ∃ t, d.there p = t := ⟨_, rfl⟩
  have hren : d.ren p q = if a ≠ 0 then (a, d) else if t ≠ 0 then (t, d) else if d.step.1 ≠ 0 then d.step else (0, (d.step.2.gone p).put q ⟨(d.old p).b, (d.old p).b.length, true⟩) := by unfold Dk.ren; rw [ha, ht]
  have hsome := fun h0 : t = 0 => there_some (ht.trans h0)
  rw [ht] at hth
  rw [ha] at hmay
  clear ht ha
  by_cases ha0 : a = 0
  rotate_left
  · rw [if_pos ha0] at hren
    rw [hren]
    have ha' : (a != 0) = true := by rw [bne_iff_ne]; exact ha0
    clear hren ha0 hsome hth
    go_enter Try.func32, Try.ntmps32
    go_wp2_with fail
    refine hmay.mono ?_
    rintro e w' ⟨rfl, rfl⟩
    go_wp2
    go_ret
    exact Did.same h (by omega) k1
  subst ha0
  rw [if_neg (by simp)] at hren
  by_cases ht0 : t = 0
  rotate_left
  · rw [if_pos ht0] at hren
    rw [hren]
    have ht' : (t != 0) = true := by rw [bne_iff_ne]; exact ht0
    clear hren ht0 hsome
    go_enter Try.func32, Try.ntmps32
    go_wp2_with fail
    refine hmay.mono ?_
    rintro e w' ⟨rfl, rfl⟩
    go_wp2_with fail
    refine hth.mono ?_
    rintro e w' ⟨rfl, k2⟩
    go_wp2
    go_ret
    exact Did.same h (by omega) (k1.then0 k2)
  subst ht0
  obtain ⟨f, hf⟩ := hsome rfl
  rw [if_neg (by simp)] at hren
  have hstep := fun W (k : Kp0 w W) => step67_c g n O d W (h.kp0 k)
  obtain ⟨sF, sK, sQ⟩ := step_files d
  have hfo : d.old p = f := by unfold Dk.old; rw [hf]; rfl
  rw [hfo] at hren
  obtain ⟨s1, d2, hs⟩ : ∃ s1 d2, d.step = (s1, d2) := ⟨_, _, rfl⟩
  simp only [hs] at hstep hren sF sK sQ
  clear hs hfo hsome
  have hog : O g := by obtain ⟨bm, V, h⟩ := h; exact h.og
  by_cases hs0 : s1 = 0
  rotate_left
  · rw [if_pos hs0] at hren
    rw [hren]
    have hs' : (s1 != 0) = true := by rw [bne_iff_ne]; exact hs0
    clear hren hs0
    go_enter Try.func32, Try.ntmps32
    go_wp2_with fail
    refine hmay.mono ?_
    rintro e w' ⟨rfl, rfl⟩
    go_wp2_with fail
    refine hth.mono ?_
    rintro e w2 ⟨rfl, k2⟩
    go_wp2_with fail
    refine (hstep _ (k1.then0 k2)).mono ?_
    rintro e w3 ⟨rfl, h3, k3⟩
    clear hmay hth hstep
    go_wp2
    go_ret
    obtain ⟨bm, V, I⟩ := h3
    exact ⟨O, rfl, ⟨bm, V, { I with mp := I.mp.mono (by omega) }⟩, fun i hi => .inl hi, ((k1.then0 k2).mono (fun _ _ x => x.elim)).trans k3 (fun i _ e => by rw [e]; exact hog)⟩
  subst hs0
  rw [if_neg (by simp)] at hren
  rw [hren]
  clear hren
  go_enter Try.func32, Try.ntmps32
  go_wp2_with fail
  refine hmay.mono ?_
  rintro e w' ⟨rfl, rfl⟩
  go_wp2_with fail
  refine hth.mono ?_
  rintro e w2 ⟨rfl, k2⟩
  go_wp2_with fail
  refine (hstep _ (k1.then0 k2)).mono ?_
  rintro e w3 ⟨rfl, h3, k3⟩
  clear hmay hth hstep
  obtain ⟨bm, V, I⟩ := h3
  have hK3 : Kp O w w3 := ((k1.then0 k2).mono (fun _ _ x => x.elim)).trans k3 (fun i _ e => by rw [e]; exact hog)
  have hf2 : d2.F p = some f := by rw [sF]; exact hf
  have hold : d2.old p = f := by unfold Dk.old; rw [hf2]; rfl
  obtain ⟨v, ev, A, c, rfl, hb, l1, l2, hsy, ho⟩ := I.yes p f hf2
  obtain ⟨fb, fs, ff⟩ := f
  simp only at ev hb l1 hsy ho ⊢
  have hlk : (Instr.lookup 84 (.map (some bm)) (.string p) false).run Try.prog w3 = .ok (.agg #[.slice A fb.length c, .int .i64 (fs : Int), .bool ff]) w3 := by
    have := I.mp.look hp
    rw [ev] at this; exact this
  have cg : w3.cell? ⟨g, 0, none⟩ = some (.map (some bm)) := by simpa using I.cell.cell 0
  have hus := ren_used d2 p q I.nd I.ks
  rw [hold] at hus
  simp only at hus
  have hEnd : ∀ w4, Kp0 w3 w4 → ∀ w5, w4.alloc (.cells #[.slice A fb.length c, .int .i64 (fb.length : Int), .bool true] 90) = w5 → w5.cell? ⟨g, 0, none⟩ = some (.map (some bm)) ∧ MapD w5 bm n V ∧ ∀ w6, MapD w6 bm n (pt V p none) → Kp (· = bm) w5 w6 →
      (w6.cell? ⟨g, 0, none⟩ = some (.map (some bm)) ∧ w6.cell? ⟨w4.heap.size, 0, none⟩ = some (.slice A fb.length c) ∧ w6.cell? ⟨w4.heap.size, 1, none⟩ = some (.int .i64 (fb.length : Int)) ∧ w6.cell? ⟨w4.heap.size, 2, none⟩ = some (.bool true)) ∧ Kp0 w6 w6.drew ∧
      ∀ W, Kp0 w6 W → ∃ w7, (Instr.mapUpdate 84 (.map (some bm)) (.string q) (.agg #[.slice A fb.length c, .int .i64 (fb.length : Int), .bool true])).run Try.prog W = .ok () w7 ∧
        (w7.cell? ⟨g, 0, none⟩ = some (.map (some bm)) ∧ w7.cell? ⟨w4.heap.size, 0, none⟩ = some (.slice A fb.length c) ∧ w7.cell? ⟨w4.heap.size, 1, none⟩ = some (.int .i64 (fb.length : Int)) ∧ w7.cell? ⟨w4.heap.size, 2, none⟩ = some (.bool true)) ∧
        Did w w7 g (n + 1) O (0, (d2.gone p).put q ⟨fb, fb.length, true⟩) (.returned (.int .i64 0)) := by
    rintro w4 k4 w5 rfl
    have k5 : Kp0 w4 (w4.alloc (.cells #[.slice A fb.length c, .int .i64 (fb.length : Int), .bool true] 90)) := (Kp.refl _ _).alloc _
    have B5 : Blk (w4.alloc (.cells #[.slice A fb.length c, .int .i64 (fb.length : Int), .bool true] 90)) w4.heap.size #[.slice A fb.length c, .int .i64 (fb.length : Int), .bool true] 90 := blk_new _ _ rfl
    have k35 := k4.then0 k5
    have I5 := I.kp k35 (fun _ _ x => x)
    generalize w4.alloc (.cells #[.slice A fb.length c, .int .i64 (fb.length : Int), .bool true] 90) = w5 at *
    refine ⟨by simpa using I5.cell.cell 0, I5.mp, fun w6 m6 k6 => ?_⟩
    have hbl := I.lt bm I.om
    have hz4 := k4.size
    have I6 := I5.del m6 k6
    have B6 := B5.kp k6 (fun e => by omega)
    have hgb : bm ≠ g := I.mp.ne I.cell
    have hb6 : Bz w6 A c fb := (hb.kp0 k35).kp k6 (fun hz b hA e => by
      obtain ⟨B, off, eA, _, hc⟩ := (hb.kp0 k35).cell 0 (List.length_pos_iff.2 hz)
      rw [eA] at hA; injection hA with hA; subst hA
      exact I5.mp.cells _ e _ _ hc)
    refine ⟨⟨by simpa using I6.cell.cell 0, B6.cell 0, B6.cell 1, B6.cell 2⟩, (Kp.refl _ _).drew, fun W kW => ?_⟩
    have IW := I6.kp kW (fun _ _ x => x)
    obtain ⟨w7, hrun, m7, k7⟩ := IW.mp.put hn hq (.agg #[.slice A fb.length c, .int .i64 (fb.length : Int), .bool true])
    have B7 := (B6.kp0 kW).kp k7 (fun e => by omega)
    refine ⟨w7, hrun, ⟨by simpa using (IW.cell.kp k7 (fun e => hgb e.symm)).cell 0, B7.cell 0, B7.cell 1, B7.cell 2⟩, O, rfl, ⟨bm, _, IW.put hq m7 k7 ⟨A, c, rfl, (hb6.kp0 kW).kp k7 (fun hz b hA e => ?_), l1, l2, Nat.le_refl _, ho⟩ (fun i hi => hi) (fun i hi => Nat.lt_of_lt_of_le (IW.lt i hi) k7.size) (Nat.le_trans hus I.us)⟩, fun i hi => .inl hi,
      (((hK3.trans k35 (fun _ _ x => x.elim)).trans k6 (fun i _ e => by rw [e]; exact I.om)).trans kW (fun _ _ x => x.elim)).trans k7 (fun i _ e => by rw [e]; exact I.om)⟩
    obtain ⟨B, off, eA, _, hc⟩ := (hb6.kp0 kW).cell 0 (List.length_pos_iff.2 hz)
    rw [eA] at hA; injection hA with hA; subst hA
    exact IW.mp.cells _ e _ _ hc
  have HE := Lib.hid hEnd
  clear hEnd I ev hb l1 l2 hsy ho sF sK sQ hf hf2 hK3 h hog k1 k2 k3 hold hus
  go_wp2_with fail
  refine (whole70_c A fb.length c _).mono ?_
  rintro e w4 ⟨rfl, k4⟩
  obtain ⟨cg5, M5, H5⟩ := HE.out w4 k4 _ rfl
  clear HE hlk cg
  go_upto_region 11 with fail
  generalize w4.alloc (.cells #[.slice A fb.length c, .int .i64 (fb.length : Int), .bool true] 90) = w5 at cg5 M5 H5 ⊢
  have HE := Lib.hid H5
  clear H5
  go_wp2_with (at_delete; refine list_deld rfl (.tmp 41) (.tmp 42) rfl rfl rfl M5 hp ?_)
  intro w6 m6 k6
  obtain ⟨hS6, K0, hW⟩ := HE.out w6 m6 k6
  obtain ⟨w7, hrun, hS7, hdid⟩ := hW _ K0
  have hS0 : w6.drew.cell? ⟨g, 0, none⟩ = some (.map (some bm)) ∧ w6.drew.cell? ⟨w4.heap.size, 0, none⟩ = some (.slice A fb.length c) ∧ w6.drew.cell? ⟨w4.heap.size, 1, none⟩ = some (.int .i64 (fb.length : Int)) ∧ w6.drew.cell? ⟨w4.heap.size, 2, none⟩ = some (.bool true) := hS6
  have HD := Lib.hid hdid
  clear HE M5 m6 k6 hdid hW cg5
  go_wp2_with fail
  go_region_held3 (fun W => W.cell? ⟨g, 0, none⟩ = some (.map (some bm)) ∧ W.cell? ⟨w4.heap.size, 0, none⟩ = some (.slice A fb.length c) ∧ W.cell? ⟨w4.heap.size, 1, none⟩ = some (.int .i64 (fb.length : Int)) ∧ W.cell? ⟨w4.heap.size, 2, none⟩ = some (.bool true)) (first | exact hS0 | exact hS7) (fail)
  go_wp2
  go_ret
  exact HD.out
end Go.Proofs.Ytkokgbmeienokaa
