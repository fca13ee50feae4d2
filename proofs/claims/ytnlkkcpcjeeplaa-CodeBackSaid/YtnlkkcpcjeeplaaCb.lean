/- The walk of CodeBack. -/
import Derived.Test.YtnlkkcpcjeeplaaCp
import Derived.Test.YtnlkkcpcjeeplaaCs
import Derived.Test.YtnlkkcpcjeeplaaOws
import Derived.Deep.RegionHeld3
set_option linter.unusedVariables false
set_option linter.unusedSimpArgs false
namespace Go.Proofs.Ytnlkkcpcjeeplaa
open Go.RowKit
open Go.Proofs.Ytnlkkcpcjeeplaa.PCodeBack Go.Proofs.YtnlkkcpcjeeplaaW.PrintWords Go.Proofs.YtnlkkcpcjeeplaaW.PrintLast

theorem keepText_c (s : ByteArray) (w : World) :
    Calls Try.prog 22 #[.string s, .int .i64 60] w fun e w' => ∃ r : ByteArray, r.size ≤ 60 ∧ e = .returned (.string r) ∧ Kp0 w w' := by
  have hm : 0 ≤ mn (s.size : Int) 60 ∧ mn (s.size : Int) 60 ≤ (s.size : Int) ∧ mn (s.size : Int) 60 ≤ 60 := by unfold mn; omega
  have h : hostlerkeep_Text.f s 60 = some (s.extract 0 (mn (s.size : Int) 60).toNat) := by
    rw [hostlerkeep_Text.f, if_pos hm.1, if_pos hm.2.1]
  exact (hostlerkeep_Text.calls s 60 _ w h).mono fun e w' hh => ⟨_, by rw [ByteArray.size_extract]; omega, hh.1, Kp.of_below hh.2⟩

theorem types_ne {w : World} {e e' k k' n n' : Nat} {v v' : Value} {xs xs' : List Value} (h : w.ownsRow 0 e k v n xs) (h' : w.ownsRow 0 e' k' v' n' xs') (hne : e ≠ e') : ∀ i, v.ownBlock = some i → v'.ownBlock = some i → False := by
  intro i hi hi'
  obtain ⟨_, ⟨rfl, _⟩ | ⟨g, cap, cur, rfl, _, h3, _⟩⟩ := h
  · cases hi
  obtain ⟨_, ⟨rfl, _⟩ | ⟨g', cap', cur', rfl, _, h3', _⟩⟩ := h'
  · cases hi'
  simp [Value.ownBlock] at hi hi'
  subst hi
  subst hi'
  rw [h3] at h3'
  cases h3'
  exact hne rfl

/-- Numbers, texts, and their bytes, as the law gathers them. -/
structure Gat (w wr : World) (v7 v8 v9 : Value) (es : List Ent) : Prop where
  gd : ∀ e ∈ es, Good e
  nn : wr.ownsRow 0 3 1 v8 es.length (es.map (.int .i64 ·.n))
  tt : wr.ownsRow 0 9 1 v9 es.length (es.map (.string ·.s))
  bb : wr.ownsRow 0 5 1 v7 (cat es).length ((cat es).map (.int .u8 ·))
  f8 : ∀ i, v8.ownBlock = some i → w.heap.size ≤ i
  f9 : ∀ i, v9.ownBlock = some i → w.heap.size ≤ i
  f7 : ∀ i, v7.ownBlock = some i → w.heap.size ≤ i
  k : Kp0 w wr
theorem Gat.kp0 {w wr w1 : World} {v7 v8 v9 : Value} {es : List Ent} (G : Gat w wr v7 v8 v9 es) (k : Kp0 wr w1) : Gat w w1 v7 v8 v9 es :=
  ⟨G.gd, own_kp G.nn k (fun _ _ x => x), own_kp G.tt k (fun _ _ x => x), own_kp G.bb k (fun _ _ x => x), G.f8, G.f9, G.f7, G.k.then0 k⟩

theorem row_shape {w : World} {e n : Nat} {v : Value} {xs : List Value} (h : w.ownsRow 0 e 1 v n xs) : ∃ A c, v = .slice A n c ∧ (∀ k, k < n → ∃ g, A = some ⟨g, 0, none⟩ ∧ w.cell? ⟨g, k, none⟩ = xs[k]?) := by
  rcases own_shape h with ⟨rfl, rfl, _⟩ | ⟨r, cap, rfl, _, _, _, hcell⟩
  · exact ⟨none, 0, rfl, fun k hk => by omega⟩
  · exact ⟨_, _, rfl, fun k hk => ⟨r, rfl, hcell k (by omega)⟩⟩

theorem br_own {w : World} {A : Option Addr} {c : Nat} {bs : List Int} (h : w.ownsRow 0 5 1 (.slice A bs.length c) bs.length (bs.map (.int .u8 ·))) (hb : ∀ c ∈ bs, 0 ≤ c ∧ c ≤ 255) : Br w A c bs := by
  rcases own_shape h with ⟨e, hn, _⟩ | ⟨g, cap, e, _, _, hg, _⟩
  · injection e with e1 e2 e3
    subst e1
    subst e3
    exact ⟨.inl ⟨rfl, rfl, List.eq_nil_of_length_eq_zero hn⟩, hb⟩
  · injection e with e1 e2 e3
    subst e1
    subst e3
    exact ⟨.inr ⟨g, 0, rfl, Vw.of_own h, hg⟩, hb⟩

theorem txt_pos {s : ByteArray} {T : List Int} (h : TxtF s T) : 0 < T.length := by
  cases T with
  | nil =>
    have h1 := h.full []
    have h2 : txtR ([] ++ []) false = (ByteArray.empty, [], true) := rfl
    rw [h2] at h1
    simp at h1
  | cons x t => simp

set_option maxRecDepth 100000 in
set_option maxHeartbeats 16000000 in
theorem back_c (a1 : Option Addr) (len1 cap1 : Nat) (zs : List Int) (a2 : Option Addr) (len2 cap2 : Nat) (V : Nat → ByteArray) (v2 : Int) (w : World)
    (hz : ∀ j : Nat, j < len1 → ∃ b off z, a1 = some ⟨b, off, none⟩ ∧ b < w.heap.size ∧ w.cell? ⟨b, off + j, none⟩ = some (.int .i64 z)) (hc1 : len1 ≤ 9223372036854775807)
    (ht : ∀ j : Nat, j < len2 → ∃ b off s, a2 = some ⟨b, off, none⟩ ∧ b < w.heap.size ∧ w.cell? ⟨b, off + j, none⟩ = some (.string s)) (hc2 : len2 ≤ 9223372036854775807) :
    Calls Try.prog 6 #[.slice a1 len1 cap1, .slice a2 len2 cap2, .int .i64 v2] w fun e' w' => e' = .returned (.bool true) ∧ Kp0 w w' := by
  go_enter Try.func6, Try.ntmps6
  go_wp2_with fail
  go_loopw [7, 8, 9, 10] (fun v7 v8 v9 i wr => ∃ es : List Ent, es.length ≤ 8 ∧ i = .int .i64 es.length ∧ Gat w wr v7 v8 v9 es) (fun _ _ _ i _ => (8 - intOf i).toNat)
  case atStart => exact ⟨[], by decide, rfl, ⟨by simp, World.ownsRow_nil _ _ _ _, World.ownsRow_nil _ _ _ _, World.ownsRow_nil _ _ _ _, by simp [Value.ownBlock], by simp [Value.ownBlock], by simp [Value.ownBlock], Kp.refl _ _⟩⟩
  case round =>
    obtain ⟨es, h8, rfl, G⟩ := hrel
    obtain ⟨A7, c7, rfl, _⟩ := row_shape G.bb
    obtain ⟨A8, c8, rfl, _⟩ := row_shape G.nn
    obtain ⟨A9, c9, rfl, _⟩ := row_shape G.tt
    go_upto_region 5 with fail
    go_cut [30] from 17 to 90 (fun s30 wx => s30 = .bool (decide (es.length < len1 ∧ es.length < len2 ∧ es.length < 8)) ∧ wr = wx)
    case first =>
      by_cases i1 : es.length < len1
      · by_cases i2 : es.length < len2
        · by_cases i3 : es.length < 8
          · go_wp2_with fail
            go_meet
            exact ⟨congrArg Value.bool (by rw [decide_eq_decide]; omega), rfl⟩
          · go_wp2_with fail
            go_meet
            exact ⟨congrArg Value.bool (by rw [decide_eq_decide]; omega), rfl⟩
        · go_wp2_with fail
          go_meet
          exact ⟨congrArg Value.bool (decide_eq_false (fun h => i2 h.2.1)).symm, rfl⟩
      · go_wp2_with fail
        go_meet
        exact ⟨congrArg Value.bool (decide_eq_false (fun h => i1 h.1)).symm, rfl⟩
    case rest =>
    obtain ⟨rfl, rfl⟩ := hcut
    by_cases hin : es.length < len1 ∧ es.length < len2 ∧ es.length < 8
    · rw [decide_eq_true hin]
      obtain ⟨i1, i2, i3⟩ := hin
      obtain ⟨b1, o1, z, rfl, hb1, hcz⟩ := hz _ i1
      obtain ⟨b2, o2, s0, rfl, hb2, hct⟩ := ht _ i2
      have cz := (G.k.below0.cell (p := ⟨b1, _, none⟩) hb1).trans hcz
      have ct := (G.k.below0.cell (p := ⟨b2, _, none⟩) hb2).trans hct
      have hb1' := Nat.lt_of_lt_of_le hb1 G.k.size
      have hb2' := Nat.lt_of_lt_of_le hb2 G.k.size
      clear hcz hct
      obtain ⟨I, hI⟩ : ∃ I, es.length = I := ⟨_, rfl⟩
      rw [hI] at i1 i2 i3 cz ct h8
      simp only [hI]
      go_upto_region 7 with fail
      go_cut [11, 12] from 17 to 90 (fun s11 s12 wx => ∃ (n : Int) (s : ByteArray), 0 ≤ n ∧ n ≤ 34359738367 ∧ s.size ≤ 60 ∧ s11 = .int .i64 n ∧ s12 = .string s ∧ Kp0 wr wx)
      case first =>
        have K0 : Kp0 wr wr.drew := (Kp.refl _ _).drew
        have hk : ∀ W, Kp0 wr W → (W.cell? ⟨b1, o1 + I, none⟩ = some (.int .i64 z) ∧ W.cell? ⟨b2, o2 + I, none⟩ = some (.string s0)) := fun W k => ⟨(k.below0.cell (p := ⟨b1, _, none⟩) hb1').trans cz, (k.below0.cell (p := ⟨b2, _, none⟩) hb2').trans ct⟩
        have cW : ∀ W, Kp0 wr W → Calls Try.prog 15 #[.int .i64 z, .int .i64 34359738368] W fun e w' => ∃ n : Int, 0 ≤ n ∧ n < 34359738368 ∧ e = .returned (.int .i64 n) ∧ Kp0 wr w' := fun W k => (within_x z 34359738368 (by decide) (by decide) W).mono (by rintro e w' ⟨n, h0, h1, rfl, rfl⟩; exact ⟨n, h0, h1, rfl, k⟩)
        have cT : ∀ W, Kp0 wr W → Calls Try.prog 22 #[.string s0, .int .i64 60] W fun e w' => ∃ r : ByteArray, r.size ≤ 60 ∧ e = .returned (.string r) ∧ Kp0 wr w' := fun W k => (keepText_c s0 W).mono (by rintro e w' ⟨r, h0, rfl, k'⟩; exact ⟨r, h0, rfl, k.then0 k'⟩)
        go_region_held3 (fun W => W.cell? ⟨b1, o1 + I, none⟩ = some (.int .i64 z) ∧ W.cell? ⟨b2, o2 + I, none⟩ = some (.string s0)) (first | exact hk _ K0 | exact hk _ KA | exact hk _ KB)
          (first | (go_at_call 15; go_fit (cW _ K0); rintro e wA ⟨n, hn0, hn1, rfl, KA⟩) | (go_at_call 22; go_fit (cT _ KA); rintro e wB ⟨s, hs, rfl, KB⟩))
        go_wp2_with fail
        go_meet
        exact ⟨n, s, hn0, by omega, hs, rfl, rfl, KB⟩
      case rest =>
        obtain ⟨n, s, hn0, hn1, hs, rfl, rfl, kx⟩ := hcut
        have G1 := G.kp0 kx
        clear G cz ct kx
        obtain ⟨R, hR⟩ := numE n hn0 hn1
        obtain ⟨T, hT⟩ := txtE s (by omega)
        subst hI
        have G2 := G1.kp0 ((Kp.refl _ _).alloc (.cells #[.int .i64 n] 3))
        go_wp2_with (at_builtin; refine list_app rfl _ _ 29 3 (.int .i64 0) 1 8 rfl rfl rfl rfl (by decide) (.slice A8 es.length c8) es.length _ rfl wc.heap.size 0 1 1 [.int .i64 n] rfl rfl (by simp [Value.oneCell']) (Vw.of_blk (blk_new _ _ rfl)) G2.nn (by omega) (by omega) ?_)
        intro v81 w2 o81 k2 b2
        obtain ⟨g81, c81, rfl, _, _, _⟩ := own_some o81 (by omega)
        have tt2 := own_kp G2.tt k2 (fun i hi x => types_ne G2.tt G2.nn (by decide) i hi x)
        have bb2 := own_kp G2.bb k2 (fun i hi x => types_ne G2.bb G2.nn (by decide) i hi x)
        have K2 : Kp0 w w2 := G2.k.trans k2 (fun i hi x => by have := G1.f8 i x; omega)
        have f81 : ∀ i, (Value.slice (some ⟨g81, 0, none⟩) (es.length + 1) c81).ownBlock = some i → w.heap.size ≤ i := by
          intro i hi
          rcases b2 with b2 | b2
          · exact G1.f8 i (b2 ▸ hi)
          · rw [b2] at hi; injection hi with hi; have := G1.k.size; (try simp at hi); omega
        clear k2 b2
        have tt2' := own_kp (S := fun _ => False) tt2 ((Kp.refl _ _).alloc (.cells #[.string s] 9)) (fun _ _ x => x)
        have bb2' := own_kp (S := fun _ => False) bb2 ((Kp.refl _ _).alloc (.cells #[.string s] 9)) (fun _ _ x => x)
        have o81' := own_kp (S := fun _ => False) o81 ((Kp.refl _ _).alloc (.cells #[.string s] 9)) (fun _ _ x => x)
        have K2' := K2.alloc (.cells #[.string s] 9)
        go_wp2_with (at_builtin; refine list_app rfl _ _ 30 9 (.string ByteArray.empty) 1 16 rfl rfl rfl rfl (by decide) (.slice A9 es.length c9) es.length _ rfl w2.heap.size 0 1 1 [.string s] rfl rfl (by simp [Value.oneCell']) (Vw.of_blk (blk_new _ _ rfl)) tt2' (by omega) (by omega) ?_)
        intro v91 w3 o91 k3 b3
        obtain ⟨g91, c91, rfl, _, _, _⟩ := own_some o91 (by omega)
        have n83 := own_kp o81' k3 (fun i hi x => types_ne o81' tt2' (by decide) i hi x)
        have bb3 := own_kp bb2' k3 (fun i hi x => types_ne bb2' tt2' (by decide) i hi x)
        have K3 : Kp0 w w3 := K2'.trans k3 (fun i hi x => by have := G1.f9 i x; omega)
        have f91 : ∀ i, (Value.slice (some ⟨g91, 0, none⟩) (es.length + 1) c91).ownBlock = some i → w.heap.size ≤ i := by
          intro i hi
          rcases b3 with b3 | b3
          · exact G1.f9 i (b3 ▸ hi)
          · rw [b3] at hi; injection hi with hi; have := K2.size; (try simp at hi); omega
        have f7 := G1.f7
        have gd := G1.gd
        clear k3 b3 tt2 bb2 o81 tt2' bb2' o81' K2 K2' G2 G1
        go_wp2_with fail
        refine (numb_c n R _ hR.call).mono ?_
        rintro e w4 ⟨A, c, rfl, oR, k4, fR⟩
        go_upto_region 10 with fail
        go_cut [84, 13] from 17 to 90 (fun s84 s13 wx => s84 = .bool false ∧ s13 = .slice A R.length c ∧ wx = w4)
        case first =>
          obtain ⟨k, hk, hk1, hk2, hk3⟩ := hR.len
          have hk4 : k = 0 ∨ k = 1 ∨ k = 2 ∨ k = 3 ∨ k = 4 := by omega
          rcases hk4 with rfl | rfl | rfl | rfl | rfl
          all_goals
            simp only [hk1]
            go_wp2_with fail
            go_meet
            try simp at hk2
            try simp at hk3
            refine ⟨congrArg Value.bool ?_, by rw [hk1], rfl⟩
            simp only [Bool.or_eq_false_iff, beq_eq_false_iff_ne, bne_eq_false_iff_eq, ne_eq]
            omega
        case rest =>
          obtain ⟨rfl, rfl, rfl⟩ := hcut
          obtain ⟨gR, cR, eR, _, _, lR⟩ := own_some oR (by obtain ⟨k, _, hk1, _⟩ := hR.len; omega)
          injection eR with eR1 eR2 eR3
          subst eR1
          subst eR3
          have K4 := K3.then0 k4
          have bb4 := own_kp bb3 k4 (fun _ _ x => x)
          have n84 := own_kp n83 k4 (fun _ _ x => x)
          have t94 := own_kp o91 k4 (fun _ _ x => x)
          have hL := cat_len es gd
          have hRl : R.length ≤ 5 := by obtain ⟨k, _, hk1, _⟩ := hR.len; omega
          clear k4 bb3 n83 o91 K3
          go_wp2_with (at_builtin; refine list_app rfl _ _ 23 5 (.int .u8 0) 1 1 rfl rfl rfl rfl (by decide) (.slice A7 (cat es).length c7) (cat es).length _ rfl gR 0 R.length _ (R.map (.int .u8 ·)) rfl (by simp) (by intro u hu; obtain ⟨c, _, rfl⟩ := List.mem_map.1 hu; rfl) (Vw.of_own oR) bb4 (by omega) (by omega) ?_)
          intro v71 w5 o71 k5 b5
          obtain ⟨A71, c71, rfl, _⟩ := row_shape o71
          have n85 := own_kp n84 k5 (fun i hi x => types_ne n84 bb4 (by decide) i hi x)
          have t95 := own_kp t94 k5 (fun i hi x => types_ne t94 bb4 (by decide) i hi x)
          have K5 : Kp0 w w5 := K4.trans k5 (fun i hi x => by have := f7 i x; omega)
          have f71 : ∀ i, (Value.slice A71 ((cat es).length + R.length) c71).ownBlock = some i → w.heap.size ≤ i := by
            intro i hi
            rcases b5 with b5 | b5
            · exact f7 i (b5 ▸ hi)
            · rw [b5] at hi; injection hi with hi; have := K4.size; (try simp at hi); omega
          clear k5 b5 n84 t94 bb4 K4 oR lR f7 fR
          go_wp2_with fail
          refine (textb_c s T _ hT.call).mono ?_
          rintro e w6 ⟨AT, cT, rfl, oT, k6, _⟩
          obtain ⟨gT, cT', eT, _, _, lT⟩ := own_some oT (txt_pos hT)
          injection eT with eT1 eT2 eT3
          subst eT1
          subst eT3
          have K6 := K5.then0 k6
          have o76 := own_kp o71 k6 (fun _ _ x => x)
          have n86 := own_kp n85 k6 (fun _ _ x => x)
          have t96 := own_kp t95 k6 (fun _ _ x => x)
          have hTl := hT.len
          clear k6 n85 t95 o71 K5
          go_wp2_with (at_builtin; refine list_app rfl _ _ 23 5 (.int .u8 0) 1 1 rfl rfl rfl rfl (by decide) (.slice A71 ((cat es).length + R.length) c71) ((cat es).length + R.length) _ rfl gT 0 T.length _ (T.map (.int .u8 ·)) rfl (by simp) (by intro u hu; obtain ⟨c, _, rfl⟩ := List.mem_map.1 hu; rfl) (Vw.of_own oT) o76 (by omega) (by omega) ?_)
          intro v72 w7 o72 k7 b7
          obtain ⟨A72, c72, rfl, _⟩ := row_shape o72
          have n87 := own_kp n86 k7 (fun i hi x => types_ne n86 o76 (by decide) i hi x)
          have t97 := own_kp t96 k7 (fun i hi x => types_ne t96 o76 (by decide) i hi x)
          have K7 : Kp0 w w7 := K6.trans k7 (fun i hi x => by have := f71 i x; omega)
          have f72 : ∀ i, (Value.slice A72 ((cat es).length + R.length + T.length) c72).ownBlock = some i → w.heap.size ≤ i := by
            intro i hi
            rcases b7 with b7 | b7
            · exact f71 i (b7 ▸ hi)
            · rw [b7] at hi; injection hi with hi; have := K6.size; (try simp at hi); omega
          clear k7 b7 n86 t96 o76 K6 oT lT f71
          have hcl : (cat (es ++ [⟨n, s, R, T⟩])).length = (cat es).length + R.length + T.length := by rw [cat_snoc]; simp; omega
          go_wp2
          go_roundw
          case rel =>
            refine ⟨es ++ [⟨n, s, R, T⟩], by simp; omega, by first | (simp; done) | (simp; go_num), ⟨?_, ?_, ?_, ?_, ?_, ?_, ?_, K7⟩⟩
            · intro x hx
              rcases List.mem_append.1 hx with hx | hx
              · exact gd x hx
              · rw [List.mem_singleton.1 hx]; exact ⟨hR, hT, hs⟩
            · simpa using n87
            · simpa using t97
            · rw [hcl, cat_snoc]; simpa using o72
            · exact f81
            · exact f91
            · exact f72
          case measure => simp [intOf]; omega
    · rw [decide_eq_false hin]
      clear hin hz ht
      go_wp2_with fail
      have hL := cat_len es G.gd
      refine (new_c A7 c7 (cat es) _ (br_own G.bb (cat_byt es G.gd)) (by omega)).mono ?_
      rintro e w1 ⟨g, rfl, hg, hR, k1⟩
      have G1 := G.kp0 k1
      have lt8 : ∀ i, (Value.slice A8 es.length c8).ownBlock = some i → i ≠ g := fun i hi => by have := (G.nn.lt i hi).2; omega
      have lt9 : ∀ i, (Value.slice A9 es.length c9).ownBlock = some i → i ≠ g := fun i hi => by have := (G.tt.lt i hi).2; omega
      have lt7 : ∀ i, (Value.slice A7 (cat es).length c7).ownBlock = some i → i ≠ g := fun i hi => by have := (G.bb.lt i hi).2; omega
      have hgw : w.heap.size ≤ g := Nat.le_trans G.k.size hg
      clear k1 G hg
      go_wp2_with fail
      go_loopw [97] (fun j wx => ∃ k : Nat, k ≤ es.length ∧ j = .int .i64 k ∧ RrAt wx g 112 (cat (es.drop k)) false ∧ Kp (· = g) w1 wx) (fun j _ => (es.length - intOf j).toNat)
      case atStart => exact ⟨0, Nat.zero_le _, rfl, hR, Kp.refl _ _⟩
      case round =>
        clear hR
        obtain ⟨k, hk, rfl, hR, kr⟩ := hrel
        have n1 := own_kp G1.nn kr (fun i hi x => lt8 i hi x)
        have t1 := own_kp G1.tt kr (fun i hi x => lt9 i hi x)
        have b1 := own_kp G1.bb kr (fun i hi x => lt7 i hi x)
        have K1 : Kp0 w wr := G1.k.trans kr (fun i hi x => by subst x; omega)
        by_cases hkl : k < es.length
        · have hd : es.drop k = es[k] :: es.drop (k + 1) := List.drop_eq_getElem_cons hkl
          have he : Good es[k] := G1.gd _ (List.getElem_mem hkl)
          obtain ⟨_, _, e8, r8⟩ := row_shape n1
          cases e8
          obtain ⟨g8, rfl, cn⟩ := r8 k hkl
          obtain ⟨_, _, e9, r9⟩ := row_shape t1
          cases e9
          obtain ⟨g9, rfl, ct⟩ := r9 k hkl
          have l8 := (n1.lt g8 rfl).2
          have l9 := (t1.lt g9 rfl).2
          have ne8 := lt8 g8 rfl
          have ne9 := lt9 g9 rfl
          rw [List.getElem?_map, List.getElem?_eq_getElem hkl] at cn ct
          simp only [Option.map_some] at cn ct
          rw [hd] at hR
          generalize es[k] = e at hR he cn ct hd
          clear r8 r9 n1 t1 b1
          go_upto_region 19 with fail
          go_cut [119, 97] from 97 to 120 (fun s119 s97 wx => s119 = .bool false ∧ s97 = .int .i64 k ∧ RrAt wx g 112 (cat (es.drop (k + 1))) false ∧ Kp (· = g) wr wx)
          case first =>
            have K0 : Kp (· = g) wr wr.drew := (Kp.refl _ _).drew
            have hk9 : ∀ W, Kp (· = g) wr W → (W.cell? ⟨g8, k, none⟩ = some (.int .i64 e.n) ∧ W.cell? ⟨g9, k, none⟩ = some (.string e.s)) := by
              intro W kk
              constructor
              · rw [← cn]; unfold World.cell?; simp only [kk.block g8 l8 ne8]
              · rw [← ct]; unfold World.cell?; simp only [kk.block g9 l9 ne9]
            have cN : Calls Try.prog 27 #[.pointer (some ⟨g, 0, none⟩)] wr.drew fun e' w' => e' = .returned (.int .i64 e.n) ∧ RrAt w' g 112 (e.T ++ cat (es.drop (k + 1))) false ∧ Kp (· = g) wr w' := by
              have := number_c g _ false wr.drew hR
              rw [show cat (e :: es.drop (k + 1)) = e.R ++ (e.T ++ cat (es.drop (k + 1))) from rfl, he.num.full] at this
              exact this.mono fun e' w' hh => ⟨hh.1, hh.2.1, K0.trans hh.2.2 (fun _ _ x => x)⟩
            have cT : ∀ W, RrAt W g 112 (e.T ++ cat (es.drop (k + 1))) false → Kp (· = g) wr W → Calls Try.prog 29 #[.pointer (some ⟨g, 0, none⟩)] W fun e' w' => e' = .returned (.string e.s) ∧ RrAt w' g 112 (cat (es.drop (k + 1))) false ∧ Kp (· = g) wr w' := by
              intro W hW kk
              have := text_c g _ false W hW
              rw [he.txt.full] at this
              exact this.mono fun e' w' hh => ⟨hh.1, hh.2.1, kk.trans hh.2.2 (fun _ _ x => x)⟩
            go_region_held3 (fun W => W.cell? ⟨g8, k, none⟩ = some (.int .i64 e.n) ∧ W.cell? ⟨g9, k, none⟩ = some (.string e.s)) (first | exact hk9 _ K0 | exact hk9 _ KA | exact hk9 _ KB)
              (first | (go_at_call 27; go_fit cN; rintro e' wA ⟨rfl, RA, KA⟩) | (go_at_call 29; go_fit (cT _ RA KA); rintro e' wB ⟨rfl, RB, KB⟩) | (go_at_call 33; go_fit (bad_c g _ false _ RB); rintro e' w' ⟨rfl, rfl⟩))
            go_wp2_with fail
            go_meet
            exact ⟨rfl, rfl, RB, KB⟩
          case rest =>
            obtain ⟨rfl, rfl, hR2, kx⟩ := hcut
            go_wp2
            go_roundw
            case rel => exact ⟨k + 1, hkl, by go_num, hR2, kr.trans kx (fun _ _ x => x)⟩
            case measure => simp [intOf]; omega
        · have hkl' : k = es.length := by omega
          subst hkl'
          rw [List.drop_length] at hR
          clear kr hkl hk
          go_wp2_with fail
          refine (done_c g [] false _ hR).mono ?_
          rintro e w' ⟨rfl, rfl⟩
          go_wp2_with fail
          refine (Calls.mono (number_c g [] false _ hR) ?_)
          rintro e w2 ⟨rfl, hR2, k2⟩
          go_wp2_with fail
          refine (bad_c g [] true _ hR2).mono ?_
          rintro e w' ⟨rfl, rfl⟩
          go_wp2_with fail
          refine (done_c g [] true _ hR2).mono ?_
          rintro e w' ⟨rfl, rfl⟩
          have b2 := own_kp b1 k2 (fun i hi x => lt7 i hi x)
          have K2 : Kp0 w w2 := K1.trans k2 (fun i hi x => by subst x; omega)
          have gd := G1.gd
          clear k2 n1 t1 b1 K1 G1 hR hR2 lt8 lt9
          by_cases hes : es = []
          · have hc0 : (((cat es).length : Int) == 0) = true := by rw [hes]; rfl
            go_wp2_with fail
            refine (wakes3_c _).mono ?_
            rintro e w3 ⟨rfl, k3⟩
            go_wp2
            go_ret
            exact ⟨rfl, K2.then0 k3⟩
          · have hpos := cat_pos es gd hes
            have hc0 : (((cat es).length : Int) == 0) = false := by rw [beq_eq_false_iff_ne]; omega
            obtain ⟨g7, c7', e7, h71, h72, l7⟩ := own_some b2 hpos
            injection e7 with e71 e72 e73
            subst e71
            subst e73
            have hb := cat_byt es gd
            go_wp2_with fail
            refine (within_x v2 ((cat es).length : Int) (by omega) (by omega) _).mono ?_
            rintro e w' ⟨M, hM0, hM1, rfl, rfl⟩
            obtain ⟨m, rfl⟩ := Int.eq_ofNat_of_zero_le hM0
            have hm : m < (cat es).length := by omega
            have hml : ((cat es).take m).length = m := by rw [List.length_take]; omega
            have cn := new_c (some ⟨g7, 0, none⟩) c7 ((cat es).take m) w2 ⟨.inr ⟨g7, 0, rfl, by rw [List.map_take]; exact (Vw.of_own b2).take m, l7⟩, fun c hc => hb c (List.mem_of_mem_take hc)⟩ (by omega)
            rw [hml] at cn
            go_wp2_with fail
            refine cn.mono ?_
            rintro e w3 ⟨c, rfl, hc, hR3, k3⟩
            have K3 := K2.then0 k3
            have hcw : w.heap.size ≤ c := Nat.le_trans K2.size hc
            have hC0 : Cut (es.drop 0) ((cat es).take m) false := .inr ⟨rfl, m, hm, rfl⟩
            clear cn k3 K2 b2 hb l7 lt7 hc
            go_wp2_with fail
            go_loopw [153] (fun j wx => ∃ (k : Nat) (bs : List Int) (bad : Bool), k ≤ es.length ∧ j = .int .i64 k ∧ RrAt wx c 112 bs bad ∧ Cut (es.drop k) bs bad ∧ Kp0 w wx) (fun j _ => (es.length - intOf j).toNat)
            case atStart => exact ⟨0, _, _, Nat.zero_le _, rfl, hR3, hC0, K3⟩
            case round =>
              clear hR3 hC0 K3
              obtain ⟨k, bs, bad, hk, rfl, hR, hC, K⟩ := hrel
              by_cases hkl : k < es.length
              · have hd : es.drop k = es[k] :: es.drop (k + 1) := List.drop_eq_getElem_cons hkl
                have he : Good es[k] := gd _ (List.getElem_mem hkl)
                rw [hd] at hC
                have hM := cut_num _ _ bs bad he hC
                have hT := cut_txt _ _ _ _ he hM
                go_wp2_with fail
                refine (number_c c bs bad _ hR).mono ?_
                rintro e w4 ⟨rfl, hR4, k4⟩
                go_wp2_with fail
                refine (text_c c _ _ _ hR4).mono ?_
                rintro e w5 ⟨rfl, hR5, k5⟩
                go_wp2
                go_roundw
                case rel => exact ⟨k + 1, _, _, hkl, by go_num, hR5, hT, (K.trans k4 (fun i hi x => by subst x; omega)).trans k5 (fun i hi x => by subst x; omega)⟩
                case measure => simp [intOf]; omega
              · have hkl' : k = es.length := by omega
                subst hkl'
                rw [List.drop_length] at hC
                obtain ⟨rfl, rfl⟩ : bad = true ∧ bs = [] := by
                  rcases hC with h | ⟨_, m', hm', _⟩
                  · exact h
                  · simp [cat] at hm'
                clear hC
                go_wp2_with fail
                refine (bad_c c [] true _ hR).mono ?_
                rintro e w' ⟨rfl, rfl⟩
                go_wp2_with fail
                refine (textbad_c c _ hR).mono ?_
                rintro e w4 ⟨rfl, hR4, k4⟩
                go_wp2_with fail
                refine (wakes3_c _).mono ?_
                rintro e w5 ⟨rfl, k5⟩
                go_wp2
                go_ret
                exact ⟨rfl, (K.trans k4 (fun i hi x => by subst x; omega)).then0 k5⟩

theorem ints_read {w : World} {a : Option Addr} {len cap : Nat} {zs : List Int} (hz : IsInts .i64 w a len cap zs) : ∀ j : Nat, j < len → ∃ b off z, a = some ⟨b, off, none⟩ ∧ b < w.heap.size ∧ w.cell? ⟨b, off + j, none⟩ = some (.int .i64 z) := by
  intro j hj
  rcases hz with ⟨_, h, _⟩ | ⟨⟨b, off, p⟩, e, h1, h2, h3, h4, _⟩
  · omega
  · have t0 := h4 0 (by omega)
    have t1 := h4 j (by omega)
    have hp : p = none := by
      cases p with
      | none => rfl
      | some p =>
        exfalso
        rw [Addr.add, if_pos rfl] at t0
        unfold World.cell? at t0
        split at t0 <;> simp at t0
    subst hp
    have t2 : w.cell? ⟨b, off + j, none⟩ = some (.int .i64 (zs.getD j 0)) := by
      rw [← t1]
      unfold Addr.add
      by_cases hj0 : j = 0
      · subst hj0; rfl
      · rw [if_neg hj0]
    exact ⟨b, off, _, e, World.block_lt_of_cell? w ⟨b, _, none⟩ t2, t2⟩

theorem codeBack_w (a1 : Option Addr) (len1 cap1 : Nat) (zs : List Int) (a2 : Option Addr) (len2 cap2 : Nat) (V : Nat → ByteArray) (v2 : Int) (w : World) (hz : IsInts .i64 w a1 len1 cap1 zs) (_ : len1 * 8 ≤ 140737488351232)
    (ht : Sl w a2 len2 cap2 1 (fun i _ => .string (V i))) (_ : (Lit.int .i64 v2).wf = true) :
    Calls Try.prog 6 #[.slice a1 len1 cap1, .slice a2 len2 cap2, .int .i64 v2] w fun e' w' => e' = .returned (.bool true) ∧ Below w.heap.size w w' := by
  refine (back_c a1 len1 cap1 zs a2 len2 cap2 V v2 w (ints_read hz) (by omega) ?_ (by have := ht.1; have := ht.2.1; omega)).mono fun _ _ h => ⟨h.1, h.2.below0⟩
  intro j hj
  rcases ht.2.2 with h | ⟨b, off, rfl, h⟩
  · omega
  · have := h j hj 0 (by omega)
    rw [Nat.mul_one, Nat.add_zero] at this
    exact ⟨b, off, _, rfl, World.block_lt_of_cell? w ⟨b, _, none⟩ this, this⟩
end Go.Proofs.Ytnlkkcpcjeeplaa
