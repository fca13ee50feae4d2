/- DiskPlays: the walk. -/
import Derived.Test.YtkokgbmeienokaaZm
import Derived.Deep.CutBlock
set_option linter.unusedVariables false
set_option linter.unusedSimpArgs false
namespace Go.Proofs.Ytkokgbmeienokaa
open Go.RowKit

/-- Acts that came in: four numbers and bytes each. -/
def Acts (w : World) (A : Option Addr) (n : Nat) : Prop := ∀ j : Nat, j < n → ∃ b off v0 v1 v2 v3 A' c' bs, A = some ⟨b, off, none⟩ ∧ b < w.heap.size ∧
  w.cell? ⟨b, off + j * 5, none⟩ = some (.int .i64 v0) ∧ w.cell? ⟨b, off + j * 5 + 1, none⟩ = some (.int .i64 v1) ∧ w.cell? ⟨b, off + j * 5 + 2, none⟩ = some (.int .i64 v2) ∧ w.cell? ⟨b, off + j * 5 + 3, none⟩ = some (.int .i64 v3) ∧
  w.cell? ⟨b, off + j * 5 + 4, none⟩ = some (.slice A' bs.length c') ∧ Bz w A' c' bs ∧ bs.length ≤ c' ∧ bs.length ≤ 9223372036854775807
abbrev s8L : List Value := [.string { data := #[97] }, .string { data := #[97, 47, 98] }, .string { data := #[97, 47, 98, 126] }, .string { data := #[98] }, .string { data := #[108, 111, 103, 47, 120] }, .string { data := #[] }]
theorem rem6 (v : Int) : ∃ j : Nat, (v % 23).tmod 6 = (j : Int) ∧ j < 6 := by
  have p0 := Int.emod_nonneg v (show (23 : Int) ≠ 0 by omega)
  refine ⟨((v % 23).tmod 6).toNat, ?_, ?_⟩
  · rw [Int.tmod_eq_emod_of_nonneg p0]; omega
  · rw [Int.tmod_eq_emod_of_nonneg p0]; omega
theorem path6 (W : World) (B j : Nat) (hj : j < 6) (h : Blk W B s8L.toArray 9) : ∃ p : ByteArray, p.size ≤ 100 ∧ ∀ W', Kp0 W W' → W'.cell? ⟨B, j, none⟩ = some (.string p) := by
  obtain rfl | rfl | rfl | rfl | rfl | rfl : j = 0 ∨ j = 1 ∨ j = 2 ∨ j = 3 ∨ j = 4 ∨ j = 5 := by omega
  · exact ⟨{ data := #[97] }, by decide, fun W' k => by rw [(h.kp0 k).cell]; rfl⟩
  · exact ⟨{ data := #[97, 47, 98] }, by decide, fun W' k => by rw [(h.kp0 k).cell]; rfl⟩
  · exact ⟨{ data := #[97, 47, 98, 126] }, by decide, fun W' k => by rw [(h.kp0 k).cell]; rfl⟩
  · exact ⟨{ data := #[98] }, by decide, fun W' k => by rw [(h.kp0 k).cell]; rfl⟩
  · exact ⟨{ data := #[108, 111, 103, 47, 120] }, by decide, fun W' k => by rw [(h.kp0 k).cell]; rfl⟩
  · exact ⟨{ data := #[] }, by decide, fun W' k => by rw [(h.kp0 k).cell]; rfl⟩
set_option maxRecDepth 100000 in
set_option maxHeartbeats 8000000 in
theorem diskPlays_c (quota : Int) (A : Option Addr) (n c : Nat) (w : World) (hA : Acts w A n) :
    Calls Try.prog 8 #[.int .i64 quota, .slice A n c] w fun e' w' => e' = .returned (.bool true) ∧ Kp0 w w' := by
  have HA := Lib.hid hA
  clear hA
  go_enter Try.func8, Try.ntmps8
  go_upto_if 20 with fail
  go_cut [0] from 18 to 188 (fun s0 wx => ∃ q : Int, s0 = .int .i64 q ∧ w = wx)
  case first =>
    have hw := within22_c quota 60 (by omega) (by omega)
    by_cases hq : quota.tmod 7 = 6
    · go_wp2_with fail
      go_meet
      exact ⟨_, rfl, rfl⟩
    · go_wp2_with fail
      refine (hw _).mono ?_
      rintro e w' ⟨rfl, rfl⟩
      go_wp2_with fail
      go_meet
      exact ⟨_, rfl, rfl⟩
  case rest =>
    obtain ⟨q, rfl, rfl⟩ := hcut
    go_wp2_with fail
    refine (new19_c q _).mono ?_
    rintro e w1 ⟨g, O, rfl, D1, hn1, K1⟩
    go_wp2_with fail
    refine (new38_c q _).mono ?_
    rintro e w2 ⟨rfl, R2, K2⟩
    obtain ⟨Q, hQ⟩ : ∃ Q : Nat, (if q < 0 then 0 else if 65536 < q then 65536 else q.toNat) = Q := ⟨_, rfl⟩
    rw [hQ] at D1 R2
    have F0 : Fr2 w w2 w2 (fun i => O i ∨ i = w1.heap.size) g 0 O (dk0 Q) w1.heap.size (· = w1.heap.size) ⟨[], Q, false, false, 0⟩ :=
      ⟨D1.kp0 K2, R2, fun i hi e => by have := D1.olt i hi; omega, hn1, fun i e => by have := K1.size; omega, K1.then0 K2, Kp.refl _ _, fun i hi => .inl hi⟩
    have ka : Kp0 w2 (w2.alloc (.cells s8L.toArray 9)) := (Kp.refl _ _).alloc _
    have BB : Blk (w2.alloc (.cells s8L.toArray 9)) w2.heap.size s8L.toArray 9 := blk_new _ _ rfl
    have H0 : ∀ i, i = w2.heap.size → ¬ O i ∧ ¬ i = w1.heap.size := fun i e => ⟨fun hi => by have := D1.olt i hi; have := K2.size; omega, fun e2 => by have := R2.olt i e2; omega⟩
    have B0 : Bth w w2 (w2.alloc (.cells s8L.toArray 9)) (fun i => O i ∨ i = w1.heap.size) g O (dk0 Q) w1.heap.size (· = w1.heap.size) ⟨[], Q, false, false, 0⟩ 0 := ⟨F0.kp0 ka, start2 Q, by show -((0 : Nat) : Int) ≤ 0; omega, Nat.le_refl _⟩
    have hBs : w2.heap.size < (w2.alloc (.cells s8L.toArray 9)).heap.size := BB.lt
    clear D1 R2 F0 K1 K2 hn1 hQ ka
    go_wp2_with fail
    generalize w1.heap.size = g2 at B0 H0 ⊢
    generalize hB : w2.heap.size = B at BB H0 hBs ⊢
    clear hB
    go_loopw [8] (fun s8 wr => ∃ (I : Nat) (Ox O : Nat → Prop) (d : Dk) (O2 : Nat → Prop) (r : Rk), I ≤ 30 ∧ I ≤ n ∧ s8 = .int .i64 (I : Nat) ∧ (∃ wx, Bth w wx wr Ox g O d g2 O2 r I) ∧ (¬ O B ∧ ¬ O2 B) ∧ Blk wr B s8L.toArray 9) (fun s8 _ => (30 - intOf s8).toNat)
    case atStart => exact ⟨0, _, _, _, _, _, by omega, by omega, rfl, ⟨_, B0⟩, H0 _ rfl, BB⟩
    case round =>
      clear B0 H0 BB hBs
      obtain ⟨I, Ox0, O, d, O2, r, h30, hlen, rfl, ⟨wx0, L0⟩, hOB, BB⟩ := hrel
      have L := L0.base
      clear L0
      by_cases hlt : I < 30 ∧ I < n
      · obtain ⟨i9, i1⟩ := hlt
        have i9' : (I : Int) < 30 := by omega
        have i1' : (I : Int) < (n : Int) := by omega
        have i0 : (0 : Int) ≤ (I : Int) := by omega
        obtain ⟨b, off, v0, v1, v2, v3, A', c', bs, rfl, hb, c0, c1, c2, c3, c4, hz, hz1, hz2⟩ := HA.out I i1
        have kk := L.fr.kp
        have c0 := cell_kp0 kk hb c0
        have c1 := cell_kp0 kk hb c1
        have c2 := cell_kp0 kk hb c2
        have c3 := cell_kp0 kk hb c3
        have c4 := cell_kp0 kk hb c4
        have hz := hz.kp0 kk
        clear kk
        have HC := Lib.hid (show ∀ N : Nat, N ≤ 1000 → ∀ W, Kp0 wr W → _ from fun N hN W k => cutNz_c A' c' bs W (hz.kp0 k) hz2 hz1 N hN)
        obtain ⟨m, hm⟩ : ∃ m, bs.length = m := ⟨_, rfl⟩
        rw [hm] at c4
        have HM := Lib.hid hm
        have HBYT := Lib.hid (show ∀ c ∈ bs.take 20, 0 ≤ c ∧ c ≤ 255 from fun c hc => hz.byt c (List.mem_of_mem_take hc))
        clear hz hz1 hz2 hm
        have ka : Kp0 wr (wr.alloc (.cells #[.int .i64 v0, .int .i64 v1, .int .i64 v2, .int .i64 v3, .slice A' m c'] 53)) := (Kp.refl _ _).alloc _
        have BA : Blk (wr.alloc (.cells #[.int .i64 v0, .int .i64 v1, .int .i64 v2, .int .i64 v3, .slice A' m c'] 53)) wr.heap.size #[.int .i64 v0, .int .i64 v1, .int .i64 v2, .int .i64 v3, .slice A' m c'] 53 := blk_new _ _ rfl
        go_upto_region 11 with fail
        clear c0 c1 c2 c3 c4
        have LA := L.kp0 ka
        have BB := BB.kp0 ka
        have HC2 := Lib.hid (fun (N : Nat) (hN : N ≤ 1000) (W : World) (k : Kp0 (wr.alloc (.cells #[.int .i64 v0, .int .i64 v1, .int .i64 v2, .int .i64 v3, .slice A' m c'] 53)) W) => HC.out N hN W (ka.then0 k))
        have hgO : ¬ O wr.heap.size ∧ ¬ O2 wr.heap.size := ⟨fun h => by have := L.fr.dk.olt _ h; omega, fun h => by have := L.fr.rd.olt _ h; omega⟩
        clear L ka HC
        generalize wr.heap.size = ga at BA hgO ⊢
        generalize wr.alloc (.cells #[.int .i64 v0, .int .i64 v1, .int .i64 v2, .int .i64 v3, .slice A' m c'] 53) = wa at LA BA BB HC2 ⊢
        obtain ⟨j1, ht1, hj1⟩ := rem6 v1
        obtain ⟨j2, ht2, hj2⟩ := rem6 v2
        obtain ⟨p1, hp1, hc1⟩ := path6 wa B j1 hj1 BB
        obtain ⟨p2, hp2, hc2⟩ := path6 wa B j2 hj2 BB
        go_cut [10, 11] from 30 to 187 (fun s10 s11 wx => ∃ W, W = wx ∧ s10 = .string p1 ∧ s11 = .string p2 ∧ Kp0 wa W)
        case first =>
          have d1 := hc1 wa (Kp.refl _ _)
          have d2 := hc2 wa (Kp.refl _ _)
          have b1 : wa.cell? ⟨ga, 1, none⟩ = some (.int .i64 v1) := by rw [BA.cell]; rfl
          have b2 : wa.cell? ⟨ga, 2, none⟩ = some (.int .i64 v2) := by rw [BA.cell]; rfl
          have g1 : (j1 : Int) < 6 ∧ (0 : Int) ≤ (j1 : Int) := by omega
          have g2' : (j2 : Int) < 6 ∧ (0 : Int) ≤ (j2 : Int) := by omega
          clear LA BA BB HC2 HM HA hc1 hc2
          go_quiet (first | (go_at_call 22; exact Calls.quiet_of_same ((within22_c _ 23 (by decide) (by decide) _).mono fun _ _ h => ⟨h.1, h.2.symm⟩)))
          go_wp2_with fail
          go_meet
          exact ⟨_, rfl, rfl, rfl, (Kp.refl _ _).drewN _⟩
        case rest =>
          obtain ⟨wx, rfl, rfl, rfl, kx⟩ := hcut
          have LX := LA.kp0 kx
          have BA := BA.kp0 kx
          have BB := BB.kp0 kx
          have hcut := HC2.out 20 (by decide) _ kx
          have hbyt : ∀ c ∈ bs.take 20, 0 ≤ c ∧ c ≤ 255 := HBYT.out
          have hbl : (bs.take 20).length ≤ 20 := by rw [List.length_take]; omega
          rw [HM.out] at hcut
          clear LA kx HC2 HM HBYT hc1 hc2 ht1 ht2 hj1 hj2
          generalize bs.take 20 = bb at hcut hbyt hbl
          have c4 : wx.cell? ⟨ga, 4, none⟩ = some (.slice A' m c') := by rw [BA.cell]; rfl
          have HBY := Lib.hid hbyt
          clear hbyt
          go_upto_region 12 with fail
          go_wp2_with fail
          refine hcut.mono ?_
          clear hcut c4
          rintro e wc ⟨A2, c2, rfl, o2, kc, f2⟩
          have z2 := bz_own o2 rfl HBY.out
          have y2 : bb ≠ [] → ∀ a, A2 = some a → ¬ (O a.block ∨ O2 a.block) := fun hb0 a ha => by
            obtain ⟨X, cX, eX, _, _, hX⟩ := own_some o2 (List.length_pos_iff.2 hb0)
            injection eX with eX1 eX2 eX3
            subst eX1
            injection ha with ha
            subst ha
            have := f2 X rfl
            rintro (h | h)
            · have := LX.fr.dk.olt _ h; show False; dsimp only at this; omega
            · have := LX.fr.rd.olt _ h; show False; dsimp only at this; omega
          have LC := LX.kp0 kc
          have BA := BA.kp0 kc
          have BB := BB.kp0 kc
          have hld := lend_c A2 c2 bb wc z2 (by omega)
          clear o2 f2 LX kc
          go_wp2_with fail
          refine hld.mono ?_
          clear hld
          rintro e wl ⟨Lb, rfl, hLb, hLent, kl⟩
          have y1 : bb ≠ [] → ∀ a, (some (⟨Lb, 0, none⟩ : Addr)) = some a → ¬ (O a.block ∨ O2 a.block) := fun _ a ha => by
            injection ha with ha
            subst ha
            rintro (h | h)
            · have := LC.fr.dk.olt _ h; show False; dsimp only at this; omega
            · have := LC.fr.rd.olt _ h; show False; dsimp only at this; omega
          have hLO : ¬ (O Lb ∨ O2 Lb) := by
            rintro (h | h)
            · have := LC.fr.dk.olt _ h; omega
            · have := LC.fr.rd.olt _ h; omega
          have LB := (LC.kp0 kl).base
          have BL := BA.kp0 kl
          have BB := BB.kp0 kl
          have z2 := z2.kp0 kl
          have z1 : Bz wl (some ⟨Lb, 0, none⟩) (bb.length + 3) bb := .inl (br_lent hLent HBY.out)
          clear LC BA kl hLb
          have hI : I ≤ 800 := by omega
          obtain ⟨k0, hk0, hk16⟩ : ∃ k : Nat, v0 % 16 = (k : Int) ∧ k < 16 := ⟨(v0 % 16).toNat, by have := Int.emod_nonneg v0 (show (16 : Int) ≠ 0 by omega); omega, by have := Int.emod_lt_of_pos v0 (show (0 : Int) < 16 by omega); omega⟩
          have hw0 := within22_c v0 16 (by omega) (by omega) wl
          rw [hk0] at hw0
          have e0 : wl.cell? ⟨ga, 0, none⟩ = some (.int .i64 v0) := by rw [BL.cell]; rfl
          have e3 : wl.cell? ⟨ga, 3, none⟩ = some (.int .i64 v3) := by rw [BL.cell]; rfl
          go_wp2_with fail
          refine hw0.mono ?_
          rintro e wz ⟨rfl, rfl⟩
          clear hw0 e0 hk0
          go_upto_block 2 with fail
          go_cut [14, 15, 16, 17] from 30 to 187 (fun s14 s15 s16 s17 wyy => ∃ (wy : World), wy = wyy ∧ ∃ (x : Int) (O' : Nat → Prop) (d' : Dk) (O2' : Nat → Prop) (r' : Rk), s14 = .int .i64 x ∧ s15 = .int .i64 x ∧ Bth w wl wy (fun i => O i ∨ O2 i) g O' d' g2 O2' r' (I + 1))
          case first =>
            clear hLent BB HBY HA
            obtain rfl | rfl | rfl | rfl | rfl | rfl | rfl | rfl | rfl | rfl | rfl | rfl | rfl | rfl | rfl | rfl : k0 = 0 ∨ k0 = 1 ∨ k0 = 2 ∨ k0 = 3 ∨ k0 = 4 ∨ k0 = 5 ∨ k0 = 6 ∨ k0 = 7 ∨ k0 = 8 ∨ k0 = 9 ∨ k0 = 10 ∨ k0 = 11 ∨ k0 = 12 ∨ k0 = 13 ∨ k0 = 14 ∨ k0 = 15 := by omega
            · as_aux_lemma =>
                obtain ⟨x, hx⟩ := LB.app hI hp1 (by omega) z1 y1 z2 y2
                go_wp2_with fail
                refine hx.mono ?_
                clear hx
                rintro e wp ⟨rfl, hy⟩
                go_wp2_with fail
                refine hy.mono ?_
                clear hy
                rintro e wq ⟨rfl, O', d', O2', r', LN⟩
                go_wp2_with fail
                go_meet
                exact ⟨_, rfl, x, O', d', O2', r', rfl, rfl, LN⟩
            · as_aux_lemma =>
                obtain ⟨x, hx⟩ := LB.app hI hp1 (by omega) z1 y1 z2 y2
                go_wp2_with fail
                refine hx.mono ?_
                clear hx
                rintro e wp ⟨rfl, hy⟩
                go_wp2_with fail
                refine hy.mono ?_
                clear hy
                rintro e wq ⟨rfl, O', d', O2', r', LN⟩
                go_wp2_with fail
                go_meet
                exact ⟨_, rfl, x, O', d', O2', r', rfl, rfl, LN⟩
            · as_aux_lemma =>
                obtain ⟨x, hx⟩ := LB.app hI hp1 (by omega) z1 y1 z2 y2
                go_wp2_with fail
                refine hx.mono ?_
                clear hx
                rintro e wp ⟨rfl, hy⟩
                go_wp2_with fail
                refine hy.mono ?_
                clear hy
                rintro e wq ⟨rfl, O', d', O2', r', LN⟩
                go_wp2_with fail
                go_meet
                exact ⟨_, rfl, x, O', d', O2', r', rfl, rfl, LN⟩
            · as_aux_lemma =>
                obtain ⟨x, hx⟩ := LB.app hI hp1 (by omega) z1 y1 z2 y2
                go_wp2_with fail
                refine hx.mono ?_
                clear hx
                rintro e wp ⟨rfl, hy⟩
                go_wp2_with fail
                refine hy.mono ?_
                clear hy
                rintro e wq ⟨rfl, O', d', O2', r', LN⟩
                go_wp2_with fail
                go_meet
                exact ⟨_, rfl, x, O', d', O2', r', rfl, rfl, LN⟩
            · as_aux_lemma =>
                obtain ⟨x, hx⟩ := LB.app hI hp1 (by omega) z1 y1 z2 y2
                go_wp2_with fail
                refine hx.mono ?_
                clear hx
                rintro e wp ⟨rfl, hy⟩
                go_wp2_with fail
                refine hy.mono ?_
                clear hy
                rintro e wq ⟨rfl, O', d', O2', r', LN⟩
                go_wp2_with fail
                go_meet
                exact ⟨_, rfl, x, O', d', O2', r', rfl, rfl, LN⟩
            · as_aux_lemma =>
                obtain ⟨x, hx⟩ := LB.syn hI hp1
                go_wp2_with fail
                refine hx.mono ?_
                clear hx
                rintro e wp ⟨rfl, hy⟩
                go_wp2_with fail
                refine hy.mono ?_
                clear hy
                rintro e wq ⟨rfl, O', d', O2', r', LN⟩
                go_wp2_with fail
                go_meet
                exact ⟨_, rfl, x, O', d', O2', r', rfl, rfl, LN⟩
            · as_aux_lemma =>
                obtain ⟨x, hx⟩ := LB.syn hI hp1
                go_wp2_with fail
                refine hx.mono ?_
                clear hx
                rintro e wp ⟨rfl, hy⟩
                go_wp2_with fail
                refine hy.mono ?_
                clear hy
                rintro e wq ⟨rfl, O', d', O2', r', LN⟩
                go_wp2_with fail
                go_meet
                exact ⟨_, rfl, x, O', d', O2', r', rfl, rfl, LN⟩
            · as_aux_lemma =>
                obtain ⟨x, hx⟩ := LB.ren hI hp1 hp2
                go_wp2_with fail
                refine hx.mono ?_
                clear hx
                rintro e wp ⟨rfl, hy⟩
                go_wp2_with fail
                refine hy.mono ?_
                clear hy
                rintro e wq ⟨rfl, O', d', O2', r', LN⟩
                go_wp2_with fail
                go_meet
                exact ⟨_, rfl, x, O', d', O2', r', rfl, rfl, LN⟩
            · as_aux_lemma =>
                obtain ⟨x, hx⟩ := LB.ren hI hp1 hp2
                go_wp2_with fail
                refine hx.mono ?_
                clear hx
                rintro e wp ⟨rfl, hy⟩
                go_wp2_with fail
                refine hy.mono ?_
                clear hy
                rintro e wq ⟨rfl, O', d', O2', r', LN⟩
                go_wp2_with fail
                go_meet
                exact ⟨_, rfl, x, O', d', O2', r', rfl, rfl, LN⟩
            · as_aux_lemma =>
                by_cases hq4 : v3.tmod 5 = 4
                · obtain ⟨x, hx⟩ := LB.cut hI hp1 v3
                  go_wp2_with fail
                  refine hx.mono ?_
                  clear hx
                  rintro e wp ⟨rfl, hy⟩
                  go_wp2_with fail
                  refine hy.mono ?_
                  clear hy
                  rintro e wq ⟨rfl, O', d', O2', r', LN⟩
                  go_wp2_with fail
                  go_meet
                  exact ⟨_, rfl, x, O', d', O2', r', rfl, rfl, LN⟩
                · have hw25 := within22_c v3 25 (by omega) (by omega) wl
                  obtain ⟨kk, hkk⟩ : ∃ kk : Int, IntKind.i64.wrap (v3 % 25 - 1) = kk := ⟨_, rfl⟩
                  obtain ⟨x, hx⟩ := LB.cut hI hp1 kk
                  go_wp2_with fail
                  refine hw25.mono ?_
                  rintro e wp ⟨rfl, rfl⟩
                  go_wp2_with fail
                  refine hx.mono ?_
                  clear hx
                  rintro e wp ⟨rfl, hy⟩
                  go_wp2_with fail
                  refine hy.mono ?_
                  clear hy
                  rintro e wq ⟨rfl, O', d', O2', r', LN⟩
                  go_wp2_with fail
                  go_meet
                  exact ⟨_, rfl, x, O', d', O2', r', rfl, rfl, LN⟩
            · as_aux_lemma =>
                by_cases hq4 : v3.tmod 5 = 4
                · obtain ⟨x, hx⟩ := LB.cut hI hp1 v3
                  go_wp2_with fail
                  refine hx.mono ?_
                  clear hx
                  rintro e wp ⟨rfl, hy⟩
                  go_wp2_with fail
                  refine hy.mono ?_
                  clear hy
                  rintro e wq ⟨rfl, O', d', O2', r', LN⟩
                  go_wp2_with fail
                  go_meet
                  exact ⟨_, rfl, x, O', d', O2', r', rfl, rfl, LN⟩
                · have hw25 := within22_c v3 25 (by omega) (by omega) wl
                  obtain ⟨kk, hkk⟩ : ∃ kk : Int, IntKind.i64.wrap (v3 % 25 - 1) = kk := ⟨_, rfl⟩
                  obtain ⟨x, hx⟩ := LB.cut hI hp1 kk
                  go_wp2_with fail
                  refine hw25.mono ?_
                  rintro e wp ⟨rfl, rfl⟩
                  go_wp2_with fail
                  refine hx.mono ?_
                  clear hx
                  rintro e wp ⟨rfl, hy⟩
                  go_wp2_with fail
                  refine hy.mono ?_
                  clear hy
                  rintro e wq ⟨rfl, O', d', O2', r', LN⟩
                  go_wp2_with fail
                  go_meet
                  exact ⟨_, rfl, x, O', d', O2', r', rfl, rfl, LN⟩
            · as_aux_lemma =>
                obtain ⟨x, hx⟩ := LB.rem hI hp1
                go_wp2_with fail
                refine hx.mono ?_
                clear hx
                rintro e wp ⟨rfl, hy⟩
                go_wp2_with fail
                refine hy.mono ?_
                clear hy
                rintro e wq ⟨rfl, O', d', O2', r', LN⟩
                go_wp2_with fail
                go_meet
                exact ⟨_, rfl, x, O', d', O2', r', rfl, rfl, LN⟩
            · as_aux_lemma =>
                obtain ⟨kk, hkk, hk2⟩ : ∃ kk : Int, v3.tmod 5 = kk ∧ kk ≤ 100 := ⟨_, rfl, by have := tm v3 5 (by omega); omega⟩
                have hx := LB.fuse kk (by omega)
                go_wp2_with fail
                refine hx.mono ?_
                clear hx
                rintro e wp ⟨rfl, KK, hy⟩
                have e3 : wp.cell? ⟨ga, 3, none⟩ = some (.int .i64 v3) := by rw [(BL.kp KK (fun e => hgO.1 e)).cell]; rfl
                go_wp2_with fail
                refine hy.mono ?_
                clear hy e3
                rintro e wq ⟨rfl, O', d', O2', r', LN⟩
                go_wp2_with fail
                go_meet
                exact ⟨_, rfl, 0, O', d', O2', r', rfl, rfl, LN⟩
            · as_aux_lemma =>
                obtain ⟨kk, hkk, hk2⟩ : ∃ kk : Int, v3.tmod 9 = kk ∧ kk ≤ 100 := ⟨_, rfl, by have := tm v3 9 (by omega); omega⟩
                have hx := LB.crash hI kk (by omega)
                go_wp2_with fail
                refine hx.mono ?_
                clear hx
                rintro e wp ⟨rfl, KK, hy⟩
                have e3 : wp.cell? ⟨ga, 3, none⟩ = some (.int .i64 v3) := by rw [(BL.kp KK (fun e => hgO.1 e)).cell]; rfl
                go_wp2_with fail
                refine hy.mono ?_
                clear hy e3
                rintro e wq ⟨rfl, O', d', O2', r', LN⟩
                go_wp2_with fail
                go_meet
                exact ⟨_, rfl, 0, O', d', O2', r', rfl, rfl, LN⟩
            · as_aux_lemma =>
                obtain ⟨kk, hkk, hk2⟩ : ∃ kk : Int, v3.tmod 9 = kk ∧ kk ≤ 100 := ⟨_, rfl, by have := tm v3 9 (by omega); omega⟩
                have hx := LB.crash hI kk (by omega)
                go_wp2_with fail
                refine hx.mono ?_
                clear hx
                rintro e wp ⟨rfl, KK, hy⟩
                have e3 : wp.cell? ⟨ga, 3, none⟩ = some (.int .i64 v3) := by rw [(BL.kp KK (fun e => hgO.1 e)).cell]; rfl
                go_wp2_with fail
                refine hy.mono ?_
                clear hy e3
                rintro e wq ⟨rfl, O', d', O2', r', LN⟩
                go_wp2_with fail
                go_meet
                exact ⟨_, rfl, 0, O', d', O2', r', rfl, rfl, LN⟩
            · as_aux_lemma =>
                go_wp2_with fail
                refine LB.fr.clone.mono ?_
                rintro e wp ⟨gc, OC, rfl, C⟩
                have kC : Kp0 wp (wp.alloc (.cells #[.int .u8 9] 5)) := (Kp.refl _ _).alloc _
                have zC : Bz (wp.alloc (.cells #[.int .u8 9] 5)) (some ⟨wp.heap.size, 0, none⟩) 1 [9] := .inl ⟨.inr ⟨_, 0, rfl, Vw.of_blk (blk_new _ _ rfl), by simp⟩, by simp⟩
                have ha := (C.kp0 kC).app (p := { data := #[97] }) (by decide) (by decide) (by omega) zC (fun _ a ha ho => by injection ha with ha; subst ha; have := C.ck.olt _ ho; exact absurd this (Nat.lt_irrefl _))
                clear C kC zC
                go_wp2_with fail
                refine ha.mono ?_
                clear ha
                rintro e wq ⟨x, OC', dc', rfl, C⟩
                have hc := C.crash (by omega)
                clear C
                go_wp2_with fail
                refine hc.mono ?_
                clear hc
                rintro e wr2 ⟨rfl, F⟩
                have LN : Bth _ _ _ _ _ _ _ _ _ _ _ := ⟨F.mono (m := I + 1) (by omega), LB.rel, by have := LB.nn; omega, by have := LB.ln; omega⟩
                go_wp2_with fail
                go_meet
                exact ⟨_, rfl, 0, _, _, _, _, rfl, rfl, LN⟩
          case rest =>
            obtain ⟨wy, rfl, x, O', d', O2', r', rfl, rfl, LN⟩ := hcut
            have hBl := BB.lt
            have hB2 : ¬ O' B ∧ ¬ O2' B := ⟨fun h => by rcases LN.fr.xo B (.inl h) with h | h; exact h.elim hOB.1 hOB.2; omega, fun h => by rcases LN.fr.xo B (.inr h) with h | h; exact h.elim hOB.1 hOB.2; omega⟩
            have BY := BB.kp LN.fr.kx (fun h => h.elim hOB.1 hOB.2)
            have hLY : Lent wy Lb bb := Blk.kp hLent LN.fr.kx hLO
            have zY := (LN.fr.bz z2 y2).1
            have hsm := LN.same (by omega)
            obtain ⟨ps, hps, hl1, hl2⟩ := LN.lists (by omega) p1
            have nx : (x != x) = false := by simp
            clear hLent BL BB LB z1 z2 y1 y2 e3 HA hLO
            go_wp2_with fail
            refine hsm.mono ?_
            clear hsm
            rintro e wa1 ⟨rfl, k1⟩
            have hl1 := hl1 _ k1
            go_wp2_with fail
            refine hl1.mono ?_
            clear hl1
            rintro e wa2 ⟨A5, c5, rfl, s5, k2⟩
            have hl2 := hl2 _ (k1.then0 k2)
            go_wp2_with fail
            refine hl2.mono ?_
            clear hl2
            rintro e wa3 ⟨A6, c6, rfl, s6, k3⟩
            have hs37 := same37_c A5 c5 A6 c6 ps (by omega) wa3 (s5.kp0 k3) s6
            clear s5 s6
            go_wp2_with fail
            refine hs37.mono ?_
            clear hs37
            rintro e wa4 ⟨rfl, k4⟩
            have K4 := ((k1.then0 k2).then0 k3).then0 k4
            clear k1 k2 k3 k4
            have hin := intact_c Lb A2 c2 bb wa4 (Blk.kp0 hLY K4) (zY.kp0 K4) (by omega)
            clear hLY zY
            go_wp2_with fail
            refine hin.mono ?_
            clear hin
            rintro e wa5 ⟨rfl, k5⟩
            have LN := (LN.kp0 K4).kp0 k5
            have BY := (BY.kp0 K4).kp0 k5
            go_wp2_with fail
            go_roundw
            case rel => exact ⟨I + 1, _, O', d', O2', r', by omega, by omega, by go_num, ⟨_, LN⟩, hB2, BY⟩
            case measure => simp [intOf]; omega
      · have hwk := wakes29_c wr
        have K := L.fr.kp
        clear L BB HA
        by_cases h1 : I < n
        · have h1' : (I : Int) < (n : Int) := by omega
          have h2' : ¬ (I : Int) < 30 := by omega
          go_wp2_with fail
          refine hwk.mono ?_
          rintro e w' ⟨rfl, k⟩
          go_wp2
          go_ret
          exact ⟨rfl, K.then0 k⟩
        · have h1' : ¬ (I : Int) < (n : Int) := by omega
          go_wp2_with fail
          refine hwk.mono ?_
          rintro e w' ⟨rfl, k⟩
          go_wp2
          go_ret
          exact ⟨rfl, K.then0 k⟩
section
open Go.ChangeShapes Go.WideShapes Go.ChangeAt

theorem acts_of {H : Type} {enc : TypeId × Value → H} {W : World} {base : Nat} {a : Option Addr} {len cap : Nat} {d : DataW H} {ps : List MemPlace}
    (h : DataW.Trod enc Try.prog W base (fun _ => true) true 49 (.slice a len cap) d ps) : Acts W a len := by
  intro i hi
  obtain ⟨b, off, A, c, bs, h1, h2, h3, h4, h5⟩ := sl_acts (k := 4) Try.underlying49 (by kernel_rfl) (by kernel_rfl) h i hi
  obtain ⟨n0, e0⟩ := h3 0 (by omega)
  obtain ⟨n1, e1⟩ := h3 1 (by omega)
  obtain ⟨n2, e2⟩ := h3 2 (by omega)
  obtain ⟨n3, e3⟩ := h3 3 (by omega)
  exact ⟨b, off, n0, n1, n2, n3, A, c, bs, h1, h2, by simpa using e0, by simpa [Nat.add_assoc] using e1, by simpa [Nat.add_assoc] using e2, by simpa [Nat.add_assoc] using e3, by simpa [Nat.add_assoc] using h4, h5⟩
theorem diskPlays_w (v0 : Int) (a1 : Option Addr) (len1 cap1 : Nat) (w : World) (h0 : (Lit.int .i64 v0).wf = true) (h1 : Acts w a1 len1) :
    Calls Try.prog 8 #[.int .i64 v0, .slice a1 len1 cap1] w fun e' w' => e' = .returned (.bool true) ∧ Below w.heap.size w w' :=
  (diskPlays_c v0 a1 len1 cap1 w h1).mono fun _ _ h => ⟨h.1, h.2.below0⟩
end
end Go.Proofs.Ytkokgbmeienokaa
