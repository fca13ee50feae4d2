/- AtomicPlays: the walk. -/
import Derived.Test.YtkokgbmeienokaaZm
import Derived.Deep.CutBlock
set_option linter.unusedVariables false
set_option linter.unusedSimpArgs false
namespace Go.Proofs.Ytkokgbmeienokaa
open Go.RowKit

def Act3 (w : World) (A : Option Addr) (n : Nat) : Prop := ∀ j : Nat, j < n → ∃ b off v0 v1 v2 A' c' bs, A = some ⟨b, off, none⟩ ∧ b < w.heap.size ∧
  w.cell? ⟨b, off + j * 4, none⟩ = some (.int .i64 v0) ∧ w.cell? ⟨b, off + j * 4 + 1, none⟩ = some (.int .i64 v1) ∧ w.cell? ⟨b, off + j * 4 + 2, none⟩ = some (.int .i64 v2) ∧
  w.cell? ⟨b, off + j * 4 + 3, none⟩ = some (.slice A' bs.length c') ∧ Bz w A' c' bs ∧ bs.length ≤ c' ∧ bs.length ≤ 9223372036854775807
abbrev s3L : List Value := [.string { data := #[97] }, .string { data := #[98, 47, 99] }, .string { data := #[101, 112, 111, 99, 104] }]
theorem mod3 (v : Int) : ∃ j : Nat, v % 3 = (j : Int) ∧ j < 3 := by
  have p0 := Int.emod_nonneg v (show (3 : Int) ≠ 0 by omega)
  have p1 := Int.emod_lt_of_pos v (show (0 : Int) < 3 by omega)
  exact ⟨(v % 3).toNat, by omega, by omega⟩
theorem path3 (W : World) (B j : Nat) (hj : j < 3) (h : Blk W B s3L.toArray 9) : ∃ p : ByteArray, p.size ≤ 80 ∧ ∀ W', Kp0 W W' → W'.cell? ⟨B, j, none⟩ = some (.string p) := by
  obtain rfl | rfl | rfl : j = 0 ∨ j = 1 ∨ j = 2 := by omega
  · exact ⟨{ data := #[97] }, by decide, fun W' k => by rw [(h.kp0 k).cell]; rfl⟩
  · exact ⟨{ data := #[98, 47, 99] }, by decide, fun W' k => by rw [(h.kp0 k).cell]; rfl⟩
  · exact ⟨{ data := #[101, 112, 111, 99, 104] }, by decide, fun W' k => by rw [(h.kp0 k).cell]; rfl⟩

set_option maxRecDepth 100000 in
set_option maxHeartbeats 8000000 in
theorem atomicPlays_c (quota : Int) (A : Option Addr) (n c : Nat) (w : World) (hA : Act3 w A n) :
    Calls Try.prog 12 #[.int .i64 quota, .slice A n c] w fun e' w' => e' = .returned (.bool true) ∧ Kp0 w w' := by
  have HA := Lib.hid hA
  have hw80 := within22_c quota 80 (by omega) (by omega) w
  clear hA
  go_enter Try.func12, Try.ntmps12
  go_wp2_with fail
  refine hw80.mono ?_
  rintro e w0 ⟨rfl, rfl⟩
  clear hw80
  generalize quota % 80 = q
  go_wp2_with fail
  refine (new19_c q _).mono ?_
  rintro e w1 ⟨g, O, rfl, D1, hn1, K1⟩
  go_wp2_with fail
  refine (new38_c q _).mono ?_
  rintro e w2 ⟨rfl, R2, K2⟩
  obtain ⟨Q, hQ⟩ : ∃ Q : Nat, (if q < 0 then 0 else if 65536 < q then 65536 else q.toNat) = Q := ⟨_, rfl⟩
  rw [hQ] at D1 R2
  have F0 : Fr2 w w2 w2 (fun i => O i ∨ i = w1.heap.size) g 0 O (dk0 Q) w1.heap.size (· = w1.heap.size) ⟨[], Q, false, false, 0⟩ :=
    ⟨D1.kp0 K2, R2, fun i hi e => by have := D1.olt i hi; omega, hn1, fun i e => by have := K1.size; omega, K1.then0 K2, Kp.refl _ _, fun i hi => .inl hi⟩
  have ka : Kp0 w2 (w2.alloc (.cells s3L.toArray 9)) := (Kp.refl _ _).alloc _
  have BB : Blk (w2.alloc (.cells s3L.toArray 9)) w2.heap.size s3L.toArray 9 := blk_new _ _ rfl
  have H0 : ∀ i, i = w2.heap.size → ¬ O i ∧ ¬ i = w1.heap.size := fun i e => ⟨fun hi => by have := D1.olt i hi; have := K2.size; omega, fun e2 => by have := R2.olt i e2; omega⟩
  have B0 : Bt2 w w2 (w2.alloc (.cells s3L.toArray 9)) (fun i => O i ∨ i = w1.heap.size) g O (dk0 Q) w1.heap.size (· = w1.heap.size) ⟨[], Q, false, false, 0⟩ 0 0 := ⟨F0.kp0 ka, start2 Q, by show -((0 : Nat) : Int) ≤ 0; omega, Nat.le_refl _⟩
  have hBs : w2.heap.size < (w2.alloc (.cells s3L.toArray 9)).heap.size := BB.lt
  clear D1 R2 F0 K1 K2 hn1 hQ ka
  go_wp2_with fail
  generalize w1.heap.size = g2 at B0 H0 ⊢
  generalize hB : w2.heap.size = B at BB H0 hBs ⊢
  clear hB
  go_loopw [8] (fun s8 wr => ∃ (I : Nat) (Ox O : Nat → Prop) (d : Dk) (O2 : Nat → Prop) (r : Rk), I ≤ 24 ∧ I ≤ n ∧ s8 = .int .i64 (I : Nat) ∧ (∃ wx, Bt2 w wx wr Ox g O d g2 O2 r (3 * I) (100 * I)) ∧ (¬ O B ∧ ¬ O2 B) ∧ Blk wr B s3L.toArray 9) (fun s8 _ => (24 - intOf s8).toNat)
  case atStart => exact ⟨0, _, _, _, _, _, by omega, by omega, rfl, ⟨_, B0⟩, H0 _ rfl, BB⟩
  case round =>
      clear B0 H0 BB hBs
      obtain ⟨I, Ox0, O, d, O2, r, h24, hlen, rfl, ⟨wx0, L0⟩, hOB, BB⟩ := hrel
      have L := L0.base
      clear L0
      by_cases hlt : I < 24 ∧ I < n
      · obtain ⟨i9, i1⟩ := hlt
        have i9' : (I : Int) < 24 := by omega
        have i1' : (I : Int) < (n : Int) := by omega
        have i0 : (0 : Int) ≤ (I : Int) := by omega
        obtain ⟨b, off, v0, v1, v2, A', c', bs, rfl, hb, c0, c1, c2, c3, hz, hz1, hz2⟩ := HA.out I i1
        have kk := L.fr.kp
        have c0 := cell_kp0 kk hb c0
        have c1 := cell_kp0 kk hb c1
        have c2 := cell_kp0 kk hb c2
        have c3 := cell_kp0 kk hb c3
        have hz := hz.kp0 kk
        clear kk
        have HC := Lib.hid (show ∀ N : Nat, N ≤ 1000 → ∀ W, Kp0 wr W → _ from fun N hN W k => cutNz_c A' c' bs W (hz.kp0 k) hz2 hz1 N hN)
        obtain ⟨m, hm⟩ : ∃ m, bs.length = m := ⟨_, rfl⟩
        rw [hm] at c3
        have HM := Lib.hid hm
        have HBYT := Lib.hid (show ∀ c ∈ bs.take 24, 0 ≤ c ∧ c ≤ 255 from fun c hc => hz.byt c (List.mem_of_mem_take hc))
        clear hz hz1 hz2 hm
        have ka : Kp0 wr (wr.alloc (.cells #[.int .i64 v0, .int .i64 v1, .int .i64 v2, .slice A' m c'] 63)) := (Kp.refl _ _).alloc _
        have BA : Blk (wr.alloc (.cells #[.int .i64 v0, .int .i64 v1, .int .i64 v2, .slice A' m c'] 63)) wr.heap.size #[.int .i64 v0, .int .i64 v1, .int .i64 v2, .slice A' m c'] 63 := blk_new _ _ rfl
        go_upto_region 10 with fail
        clear c0 c1 c2 c3
        have LA := L.kp0 ka
        have BB := BB.kp0 ka
        have HC2 := Lib.hid (fun (N : Nat) (hN : N ≤ 1000) (W : World) (k : Kp0 (wr.alloc (.cells #[.int .i64 v0, .int .i64 v1, .int .i64 v2, .slice A' m c'] 63)) W) => HC.out N hN W (ka.then0 k))
        have hgO : ¬ O wr.heap.size ∧ ¬ O2 wr.heap.size := ⟨fun h => by have := L.fr.dk.olt _ h; omega, fun h => by have := L.fr.rd.olt _ h; omega⟩
        clear L ka HC
        generalize wr.heap.size = ga at BA hgO ⊢
        generalize wr.alloc (.cells #[.int .i64 v0, .int .i64 v1, .int .i64 v2, .slice A' m c'] 63) = wa at LA BA BB HC2 ⊢
        obtain ⟨j1, ht1, hj1⟩ := mod3 v1
        obtain ⟨p1, hp1, hc1⟩ := path3 wa B j1 hj1 BB
        have hps := tl_size p1
        have hcut : ∀ W, Kp0 wa W → _ := HC2.out 24 (by decide)
        have hbl : (bs.take 24).length ≤ 24 := by rw [List.length_take]; omega
        rw [HM.out] at hcut
        have hbyt : ∀ c ∈ bs.take 24, 0 ≤ c ∧ c ≤ 255 := HBYT.out
        clear HBYT
        generalize bs.take 24 = bb at hcut hbyt hbl
        have HBY := Lib.hid hbyt
        clear hbyt HM HC2
        go_cut [10, 11] from 25 to 122 (fun s10 s11 wx => ∃ W A2 c2, W = wx ∧ s10 = .string p1 ∧ s11 = .slice A2 bb.length c2 ∧ Kp0 wa W ∧ Bz W A2 c2 bb ∧ (bb ≠ [] → ∀ a, A2 = some a → ¬ (O a.block ∨ O2 a.block)))
        case first =>
          have K0 : Kp0 wa wa.drew := (Kp.refl _ _).drew
          have hS : ∀ W, Kp0 wa W → W.cell? ⟨ga, 1, none⟩ = some (.int .i64 v1) ∧ W.cell? ⟨ga, 3, none⟩ = some (.slice A' m c') ∧ W.cell? ⟨B, j1, none⟩ = some (.string p1) := fun W k => ⟨by rw [(BA.kp0 k).cell]; rfl, by rw [(BA.kp0 k).cell]; rfl, hc1 W k⟩
          have hw3 : ∀ W, Calls Try.prog 22 #[.int .i64 v1, .int .i64 3] W fun e w' => e = .returned (.int .i64 (j1 : Int)) ∧ W = w' := fun W => by
            have := within22_c v1 3 (by omega) (by omega) W
            rwa [ht1] at this
          have g1 : (j1 : Int) < 3 ∧ (0 : Int) ≤ (j1 : Int) := by omega
          have HO1 := Lib.hid LA.fr.dk.olt
          have HO2 := Lib.hid LA.fr.rd.olt
          clear LA BA BB HA hc1 hbl ht1 hj1
          go_region_held3 (fun W => W.cell? ⟨ga, 1, none⟩ = some (.int .i64 v1) ∧ W.cell? ⟨ga, 3, none⟩ = some (.slice A' m c') ∧ W.cell? ⟨B, j1, none⟩ = some (.string p1)) (exact hS _ (by assumption)) (first | (go_at_call 22; go_fit (hw3 _); rintro e wA ⟨rfl, rfl⟩) | (go_at_call 18; go_fit (hcut _ (by assumption)); rintro e wB ⟨A2, c2, rfl, o2, kB, f2⟩; have KB := K0.then0 kB))
          have z2 := bz_own o2 rfl HBY.out
          have y2 : bb ≠ [] → ∀ a, A2 = some a → ¬ (O a.block ∨ O2 a.block) := fun hb0 a ha => by
            obtain ⟨X, cX, eX, _, _, hX⟩ := own_some o2 (List.length_pos_iff.2 hb0)
            injection eX with eX1 eX2 eX3
            subst eX1
            injection ha with ha
            subst ha
            have h3 := f2 X rfl
            have h4 := K0.size
            rintro (h | h)
            · have := HO1.out _ h; show False; dsimp only at this; omega
            · have := HO2.out _ h; show False; dsimp only at this; omega
          have HZ := Lib.hid z2
          have HY := Lib.hid y2
          clear o2 f2 z2 y2 hw3 hcut hS HO1 HO2
          go_wp2_with fail
          go_meet
          exact ⟨_, _, _, rfl, rfl, rfl, KB, HZ.out, HY.out⟩
        case rest =>
          obtain ⟨wl, A2, c2, rfl, rfl, rfl, kx, z1, y1⟩ := hcut
          have LB := (LA.kp0 kx).base
          have BL := BA.kp0 kx
          have BB := BB.kp0 kx
          clear LA kx BA hc1 ht1 hj1
          have hI : 3 * I ≤ 800 := by omega
          have hm : 100 * I ≤ 100000 := by omega
          obtain ⟨k0, hk0, hk16⟩ : ∃ k : Nat, v0 % 10 = (k : Int) ∧ k < 10 := ⟨(v0 % 10).toNat, by have := Int.emod_nonneg v0 (show (10 : Int) ≠ 0 by omega); omega, by have := Int.emod_lt_of_pos v0 (show (0 : Int) < 10 by omega); omega⟩
          have hw0 := within22_c v0 10 (by omega) (by omega) wl
          rw [hk0] at hw0
          have e0 : wl.cell? ⟨ga, 0, none⟩ = some (.int .i64 v0) := by rw [BL.cell]; rfl
          have e3 : wl.cell? ⟨ga, 2, none⟩ = some (.int .i64 v2) := by rw [BL.cell]; rfl
          have hcat : p1.size + tl.size ≤ 9223372036854775807 := by have : tl.size = 1 := rfl; omega
          go_wp2_with fail
          refine hw0.mono ?_
          rintro e wz ⟨rfl, rfl⟩
          clear hw0 e0 hk0
          go_upto_block 2 with fail
          go_cut [12, 13, 14, 15] from 25 to 122 (fun s12 s13 s14 s15 wyy => ∃ (wy : World), wy = wyy ∧ ∃ (x : Int) (O' : Nat → Prop) (d' : Dk) (O2' : Nat → Prop) (r' : Rk), s12 = .int .i64 x ∧ s13 = .int .i64 x ∧ Bt2 w wl wy (fun i => O i ∨ O2 i) g O' d' g2 O2' r' (3 * (I + 1)) (100 * (I + 1)))
          case first =>
            clear HBY HA
            obtain rfl | rfl | rfl | rfl | rfl | rfl | rfl | rfl | rfl | rfl : k0 = 0 ∨ k0 = 1 ∨ k0 = 2 ∨ k0 = 3 ∨ k0 = 4 ∨ k0 = 5 ∨ k0 = 6 ∨ k0 = 7 ∨ k0 = 8 ∨ k0 = 9 := by omega
            · as_aux_lemma =>
                obtain ⟨is, hrd⟩ := LB.read (p1 ++ tl)
                obtain ⟨x, hx⟩ := LB.wri hI hm (p := p1) (by omega) (by omega) z1 y1 z1 y1
                cases is with
                | true =>
                  clear hx
                  have LM := LB.mono (c' := 3 * (I + 1)) (m' := 100 * (I + 1)) (by omega) (by omega)
                  clear LB
                  go_wp2_with fail
                  refine hrd.mono ?_
                  clear hrd
                  rintro e wp ⟨A5, c5, bl5, rfl, rfl⟩
                  go_wp2_with fail
                  go_roundw
                  case rel => exact ⟨I + 1, _, O, d, O2, r, by omega, by omega, by go_num, ⟨_, LM⟩, hOB, BB⟩
                  case measure => simp [intOf]; omega
                | false =>
                  go_wp2_with fail
                  refine hrd.mono ?_
                  clear hrd
                  rintro e wp ⟨A5, c5, bl5, rfl, rfl⟩
                  go_wp2_with fail
                  refine hx.mono ?_
                  clear hx
                  rintro e wp ⟨rfl, hy⟩
                  go_wp2_with fail
                  refine hy.mono ?_
                  clear hy
                  rintro e wq ⟨rfl, O', d', O2', r', LN⟩
                  go_wp2_with fail
                  go_meet
                  exact ⟨_, rfl, x, O', d', O2', r', rfl, rfl, LN.mono (by omega) (by omega)⟩
            · as_aux_lemma =>
                obtain ⟨is, hrd⟩ := LB.read (p1 ++ tl)
                obtain ⟨x, hx⟩ := LB.wri hI hm (p := p1) (by omega) (by omega) z1 y1 z1 y1
                cases is with
                | true =>
                  clear hx
                  have LM := LB.mono (c' := 3 * (I + 1)) (m' := 100 * (I + 1)) (by omega) (by omega)
                  clear LB
                  go_wp2_with fail
                  refine hrd.mono ?_
                  clear hrd
                  rintro e wp ⟨A5, c5, bl5, rfl, rfl⟩
                  go_wp2_with fail
                  go_roundw
                  case rel => exact ⟨I + 1, _, O, d, O2, r, by omega, by omega, by go_num, ⟨_, LM⟩, hOB, BB⟩
                  case measure => simp [intOf]; omega
                | false =>
                  go_wp2_with fail
                  refine hrd.mono ?_
                  clear hrd
                  rintro e wp ⟨A5, c5, bl5, rfl, rfl⟩
                  go_wp2_with fail
                  refine hx.mono ?_
                  clear hx
                  rintro e wp ⟨rfl, hy⟩
                  go_wp2_with fail
                  refine hy.mono ?_
                  clear hy
                  rintro e wq ⟨rfl, O', d', O2', r', LN⟩
                  go_wp2_with fail
                  go_meet
                  exact ⟨_, rfl, x, O', d', O2', r', rfl, rfl, LN.mono (by omega) (by omega)⟩
            · as_aux_lemma =>
                obtain ⟨is, hrd⟩ := LB.read (p1 ++ tl)
                obtain ⟨x, hx⟩ := LB.wri hI hm (p := p1) (by omega) (by omega) z1 y1 z1 y1
                cases is with
                | true =>
                  clear hx
                  have LM := LB.mono (c' := 3 * (I + 1)) (m' := 100 * (I + 1)) (by omega) (by omega)
                  clear LB
                  go_wp2_with fail
                  refine hrd.mono ?_
                  clear hrd
                  rintro e wp ⟨A5, c5, bl5, rfl, rfl⟩
                  go_wp2_with fail
                  go_roundw
                  case rel => exact ⟨I + 1, _, O, d, O2, r, by omega, by omega, by go_num, ⟨_, LM⟩, hOB, BB⟩
                  case measure => simp [intOf]; omega
                | false =>
                  go_wp2_with fail
                  refine hrd.mono ?_
                  clear hrd
                  rintro e wp ⟨A5, c5, bl5, rfl, rfl⟩
                  go_wp2_with fail
                  refine hx.mono ?_
                  clear hx
                  rintro e wp ⟨rfl, hy⟩
                  go_wp2_with fail
                  refine hy.mono ?_
                  clear hy
                  rintro e wq ⟨rfl, O', d', O2', r', LN⟩
                  go_wp2_with fail
                  go_meet
                  exact ⟨_, rfl, x, O', d', O2', r', rfl, rfl, LN.mono (by omega) (by omega)⟩
            · as_aux_lemma =>
                obtain ⟨is, hrd⟩ := LB.read (p1 ++ tl)
                obtain ⟨x, hx⟩ := LB.wri hI hm (p := p1) (by omega) (by omega) z1 y1 z1 y1
                cases is with
                | true =>
                  clear hx
                  have LM := LB.mono (c' := 3 * (I + 1)) (m' := 100 * (I + 1)) (by omega) (by omega)
                  clear LB
                  go_wp2_with fail
                  refine hrd.mono ?_
                  clear hrd
                  rintro e wp ⟨A5, c5, bl5, rfl, rfl⟩
                  go_wp2_with fail
                  go_roundw
                  case rel => exact ⟨I + 1, _, O, d, O2, r, by omega, by omega, by go_num, ⟨_, LM⟩, hOB, BB⟩
                  case measure => simp [intOf]; omega
                | false =>
                  go_wp2_with fail
                  refine hrd.mono ?_
                  clear hrd
                  rintro e wp ⟨A5, c5, bl5, rfl, rfl⟩
                  go_wp2_with fail
                  refine hx.mono ?_
                  clear hx
                  rintro e wp ⟨rfl, hy⟩
                  go_wp2_with fail
                  refine hy.mono ?_
                  clear hy
                  rintro e wq ⟨rfl, O', d', O2', r', LN⟩
                  go_wp2_with fail
                  go_meet
                  exact ⟨_, rfl, x, O', d', O2', r', rfl, rfl, LN.mono (by omega) (by omega)⟩
            · as_aux_lemma =>
                obtain ⟨x, hx⟩ := LB.cln hI hm
                go_wp2_with fail
                refine hx.mono ?_
                clear hx
                rintro e wp ⟨rfl, hy⟩
                go_wp2_with fail
                refine hy.mono ?_
                clear hy
                rintro e wq ⟨rfl, O', d', O2', r', LN⟩
                go_wp2_with fail
                go_meet
                exact ⟨_, rfl, x, O', d', O2', r', rfl, rfl, LN.mono (by omega) (by omega)⟩
            · as_aux_lemma =>
                obtain ⟨x, hx⟩ := LB.cln hI hm
                go_wp2_with fail
                refine hx.mono ?_
                clear hx
                rintro e wp ⟨rfl, hy⟩
                go_wp2_with fail
                refine hy.mono ?_
                clear hy
                rintro e wq ⟨rfl, O', d', O2', r', LN⟩
                go_wp2_with fail
                go_meet
                exact ⟨_, rfl, x, O', d', O2', r', rfl, rfl, LN.mono (by omega) (by omega)⟩
            · as_aux_lemma =>
                obtain ⟨kk, hkk, hk2⟩ : ∃ kk : Int, v2.tmod 5 = kk ∧ kk ≤ 100 := ⟨_, rfl, by have := tm v2 5 (by omega); omega⟩
                have hx := LB.fuse kk (by omega)
                go_wp2_with fail
                refine hx.mono ?_
                clear hx
                rintro e wp ⟨rfl, KK, hy⟩
                have e3 : wp.cell? ⟨ga, 2, none⟩ = some (.int .i64 v2) := by rw [(BL.kp KK (fun e => hgO.1 e)).cell]; rfl
                go_wp2_with fail
                refine hy.mono ?_
                clear hy e3
                rintro e wq ⟨rfl, O', d', O2', r', LN⟩
                go_wp2_with fail
                go_meet
                exact ⟨_, rfl, 0, O', d', O2', r', rfl, rfl, LN.mono (by omega) (by omega)⟩
            · as_aux_lemma =>
                obtain ⟨kk, hkk, hk2⟩ : ∃ kk : Int, v2.tmod 5 = kk ∧ kk ≤ 100 := ⟨_, rfl, by have := tm v2 5 (by omega); omega⟩
                have hx := LB.fuse kk (by omega)
                go_wp2_with fail
                refine hx.mono ?_
                clear hx
                rintro e wp ⟨rfl, KK, hy⟩
                have e3 : wp.cell? ⟨ga, 2, none⟩ = some (.int .i64 v2) := by rw [(BL.kp KK (fun e => hgO.1 e)).cell]; rfl
                go_wp2_with fail
                refine hy.mono ?_
                clear hy e3
                rintro e wq ⟨rfl, O', d', O2', r', LN⟩
                go_wp2_with fail
                go_meet
                exact ⟨_, rfl, 0, O', d', O2', r', rfl, rfl, LN.mono (by omega) (by omega)⟩
            · as_aux_lemma =>
                obtain ⟨x, hx⟩ := LB.app hI hm (p := p1 ++ tl) (by omega) (by omega) z1 y1 z1 y1
                go_wp2_with fail
                refine hx.mono ?_
                clear hx
                rintro e wp ⟨rfl, hy⟩
                go_wp2_with fail
                refine hy.mono ?_
                clear hy
                rintro e wq ⟨rfl, O', d', O2', r', LN⟩
                go_wp2_with fail
                go_meet
                exact ⟨_, rfl, 0, O', d', O2', r', rfl, rfl, LN.mono (by omega) (by omega)⟩
            · as_aux_lemma =>
                obtain ⟨kk, hkk, hk2⟩ : ∃ kk : Int, v2.tmod 30 = kk ∧ kk ≤ 100 := ⟨_, rfl, by have := tm v2 30 (by omega); omega⟩
                have hx := LB.crash hI hm kk (by omega)
                go_wp2_with fail
                refine hx.mono ?_
                clear hx
                rintro e wp ⟨rfl, KK, hy⟩
                have e3 : wp.cell? ⟨ga, 2, none⟩ = some (.int .i64 v2) := by rw [(BL.kp KK (fun e => hgO.1 e)).cell]; rfl
                go_wp2_with fail
                refine hy.mono ?_
                clear hy e3
                rintro e wq ⟨rfl, O', d', O2', r', LN⟩
                go_wp2_with fail
                go_meet
                exact ⟨_, rfl, 0, O', d', O2', r', rfl, rfl, LN.mono (by omega) (by omega)⟩
          case rest =>
            obtain ⟨wy, rfl, x, O', d', O2', r', rfl, rfl, LN⟩ := hcut
            have hBl := BB.lt
            have hB2 : ¬ O' B ∧ ¬ O2' B := ⟨fun h => by rcases LN.fr.xo B (.inl h) with h | h; exact h.elim hOB.1 hOB.2; omega, fun h => by rcases LN.fr.xo B (.inr h) with h | h; exact h.elim hOB.1 hOB.2; omega⟩
            have BY := BB.kp LN.fr.kx (fun h => h.elim hOB.1 hOB.2)
            have hsm := LN.same (by omega)
            have nx : (x != x) = false := by simp
            clear BL BB LB z1 y1 e3 HA
            go_wp2_with fail
            refine hsm.mono ?_
            clear hsm
            rintro e wa1 ⟨rfl, k1⟩
            have LN := LN.kp0 k1
            have BY := BY.kp0 k1
            go_wp2_with fail
            go_roundw
            case rel => exact ⟨I + 1, _, O', d', O2', r', by omega, by omega, by go_num, ⟨_, LN⟩, hB2, BY⟩
            case measure => simp [intOf]; omega
      · have hwk := wakes51_c wr
        have K := L.fr.kp
        clear L BB HA
        by_cases h1 : I < n
        · have h1' : (I : Int) < (n : Int) := by omega
          have h2' : ¬ (I : Int) < 24 := by omega
          go_wp2_with fail
          refine hwk.mono ?_
          rintro e w' ⟨rfl, k⟩
          go_wp2
          go_ret
          exact ⟨rfl, K.then0 k⟩
        · have h1' : ¬ (I : Int) < (n : Int) := by omega
          go_wp2_with fail
          refine hwk.mono ?_
          rintro e w' ⟨rfl, k⟩
          go_wp2
          go_ret
          exact ⟨rfl, K.then0 k⟩
section
open Go.ChangeShapes Go.WideShapes Go.ChangeAt
theorem act3_of {H : Type} {enc : TypeId × Value → H} {W : World} {base : Nat} {a : Option Addr} {len cap : Nat} {d : DataW H} {ps : List MemPlace}
    (h : DataW.Trod enc Try.prog W base (fun _ => true) true 61 (.slice a len cap) d ps) : Act3 W a len := by
  intro i hi
  obtain ⟨b, off, A, c, bs, h1, h2, h3, h4, h5⟩ := sl_acts (k := 3) Try.underlying61 (by kernel_rfl) (by kernel_rfl) h i hi
  obtain ⟨n0, e0⟩ := h3 0 (by omega)
  obtain ⟨n1, e1⟩ := h3 1 (by omega)
  obtain ⟨n2, e2⟩ := h3 2 (by omega)
  exact ⟨b, off, n0, n1, n2, A, c, bs, h1, h2, by simpa using e0, by simpa [Nat.add_assoc] using e1, by simpa [Nat.add_assoc] using e2, by simpa [Nat.add_assoc] using h4, h5⟩
theorem atomicPlays_w (v0 : Int) (a1 : Option Addr) (len1 cap1 : Nat) (w : World) (h0 : (Lit.int .i64 v0).wf = true) (h1 : Act3 w a1 len1) :
    Calls Try.prog 12 #[.int .i64 v0, .slice a1 len1 cap1] w fun e' w' => e' = .returned (.bool true) ∧ Below w.heap.size w w' :=
  (atomicPlays_c v0 a1 len1 cap1 w h1).mono fun _ _ h => ⟨h.1, h.2.below0⟩
end
end Go.Proofs.Ytkokgbmeienokaa
