/- The walk of CodeReads. -/
import Derived.Test.YtnlkkcpcjeeplaaCz
import Derived.Test.YtnlkkcpcjeeplaaOws
import Derived.Test.YtnlkkcpcjeeplaaRun
import Derived.Deep.CutRange
import Derived.BigQuiet
import Derived.Laws.AppendOwnNone
set_option linter.unusedVariables false
set_option linter.unusedSimpArgs false
namespace Go.Proofs.Ytnlkkcpcjeeplaa
open Go.RowKit

set_option maxRecDepth 100000 in
set_option maxHeartbeats 16000000 in
theorem reads_c (a0 : Option Addr) (cap0 : Nat) (bs0 : List Int) (a1 : Option Addr) (len1 cap1 : Nat) (a2 : Option Addr) (len2 cap2 : Nat) (a3 : Option Addr) (len3 cap3 : Nat) (raw : Bool) (w : World)
    (hb0 : Bz w a0 cap0 bs0) (hl0 : bs0.length ≤ 140737488351232) (hc0 : bs0.length ≤ cap0)
    (hz : ∀ j : Nat, j < len1 → ∃ b off z, a1 = some ⟨b, off, none⟩ ∧ b < w.heap.size ∧ w.cell? ⟨b, off + j, none⟩ = some (.int .i64 z)) (hc1 : len1 ≤ 9223372036854775807)
    (ht : ∀ j : Nat, j < len2 → ∃ b off s, a2 = some ⟨b, off, none⟩ ∧ b < w.heap.size ∧ w.cell? ⟨b, off + j, none⟩ = some (.string s)) (hc2 : len2 ≤ 9223372036854775807)
    (ha : ∀ j : Nat, j < len3 → ∃ b off z, a3 = some ⟨b, off, none⟩ ∧ b < w.heap.size ∧ w.cell? ⟨b, off + j, none⟩ = some (.int .i64 z)) (hc3 : len3 ≤ 9223372036854775807) :
    Calls Try.prog 4 #[.slice a0 bs0.length cap0, .slice a1 len1 cap1, .slice a2 len2 cap2, .slice a3 len3 cap3, .bool raw] w fun e' w' => e' = .returned (.bool true) ∧ Kp0 w w' := by
  go_enter Try.func4, Try.ntmps4
  go_upto_if 18 with fail
  go_cut [0, 11, 12] from 17 to 52 (fun s0 s11 s12 wx => ∃ A c bs, s0 = .slice A (bs : List Int).length c ∧ Bz wx A c bs ∧ bs.length ≤ 140737488351232 ∧ Kp0 w wx)
  case first =>
    clear ha
    cases raw with
    | true =>
      go_wp2_with fail
      go_meet
      exact ⟨a0, cap0, bs0, rfl, hb0, hl0, Kp.refl _ _⟩
    | false =>
      go_wp2_with fail
      simp only [Bool.not_false]
      go_loopw [11, 12] (fun v11 i wr => ∃ (bs : List Int) (k : Nat), k ≤ 8 ∧ i = .int .i64 k ∧ bs.length ≤ 50 * k ∧ (∀ c ∈ bs, 0 ≤ c ∧ c ≤ 255) ∧ wr.ownsRow 0 5 1 v11 bs.length (bs.map (.int .u8 ·)) ∧ (∀ i, v11.ownBlock = some i → w.heap.size ≤ i) ∧ Kp0 w wr) (fun _ i _ => (8 - intOf i).toNat)
      case atStart => exact ⟨[], 0, by decide, rfl, by simp, by simp, World.ownsRow_nil _ _ _ _, by simp [Value.ownBlock], Kp.refl _ _⟩
      case round =>
        obtain ⟨bs, k, hk, rfl, hbl, hby, o, fr, kr⟩ := hrel
        obtain ⟨A, c, rfl⟩ := row_slice o
        go_upto_region 4 with fail
        go_cut [26] from 19 to 48 (fun s26 wx => s26 = .bool (decide (k < len1 ∧ k < 8)) ∧ wr = wx)
        case first =>
          by_cases i1 : k < len1
          · by_cases i3 : k < 8
            · go_wp2_with fail
              go_meet
              exact ⟨congrArg Value.bool (by rw [decide_eq_decide]; omega), rfl⟩
            · go_wp2_with fail
              go_meet
              exact ⟨congrArg Value.bool (by rw [decide_eq_decide]; omega), rfl⟩
          · go_wp2_with fail
            go_meet
            exact ⟨congrArg Value.bool (decide_eq_false (fun h => i1 h.1)).symm, rfl⟩
        case rest =>
        obtain ⟨rfl, rfl⟩ := hcut
        by_cases hin : k < len1 ∧ k < 8
        · rw [decide_eq_true hin]
          obtain ⟨i1, i3⟩ := hin
          obtain ⟨b1, o1, z, rfl, hb1, hcz⟩ := hz _ i1
          have cz := (kr.below0.cell (p := ⟨b1, _, none⟩) hb1).trans hcz
          clear hcz
          go_wp2_with fail
          refine (within_x z 34359738368 (by decide) (by decide) _).mono ?_
          rintro e w1 ⟨n, hn0, hn1, rfl, rfl⟩
          go_wp2_with fail
          refine (refnum_c n _ hn0 hn1).mono ?_
          rintro e w2 ⟨r, gr, cr, rfl, hr1, hr2, vr, k2⟩
          have o2 := own_kp o k2 (fun _ _ x => x)
          go_wp2_with (at_builtin; refine app_bytes rfl _ _ rfl (.slice A bs.length c) bs.length _ rfl gr 0 r.length cr (r.map (.int .u8 ·)) rfl (by simp) (u8_one r) vr o2 (by omega) ?_)
          intro v3 w3 o3 k3 b3
          have K3 : Kp0 w w3 := (kr.trans k2 (fun _ _ x => x)).trans k3 (fun i hi x => by have := fr i x; omega)
          have fr3 : ∀ i, v3.ownBlock = some i → w.heap.size ≤ i := by
            intro i hi
            rcases b3 with b3 | b3
            · exact fr i (b3 ▸ hi)
            · rw [b3] at hi; injection hi with hi; have := kr.size; have := k2.size; omega
          obtain ⟨A3, c3, rfl⟩ := row_slice o3
          have hby3 : ∀ c ∈ bs ++ r, 0 ≤ c ∧ c ≤ 255 := fun c hc => (List.mem_append.1 hc).elim (hby c) (hr2 c)
          have o3' : w3.ownsRow 0 5 1 (.slice A3 (bs.length + r.length) c3) (bs ++ r).length ((bs ++ r).map (.int .u8 ·)) := by rw [List.map_append, List.length_append]; exact o3
          clear o o2 k2 k3 b3 vr fr kr o3 cz
          obtain ⟨bs3, hbs3⟩ : ∃ l, bs ++ r = l := ⟨_, rfl⟩
          have hl3 : bs.length + r.length = bs3.length := by rw [← hbs3, List.length_append]
          rw [hbs3] at o3' hby3
          rw [hl3] at o3' fr3
          simp only [hl3]
          have hbl3 : bs3.length ≤ 50 * k + 5 := by omega
          clear hbs3 hl3 hby hr2 hbl
          go_upto_region 7 with fail
          by_cases i2 : k < len2
          · obtain ⟨b2, o2, s0, rfl, hb2, hct⟩ := ht _ i2
            have ct := (K3.below0.cell (p := ⟨b2, _, none⟩) hb2).trans hct
            clear hct
            go_wp2_with fail
            refine (keepText40_c s0 _).mono ?_
            rintro e w4 ⟨s, hs, rfl, k4⟩
            go_wp2_with fail
            refine (reftxt_c s _ hs).mono ?_
            rintro e w5 ⟨t, gt, ct', rfl, ht1, ht2, vt, k5⟩
            have o5 := own_kp (own_kp o3' k4 (fun _ _ x => x)) k5 (fun _ _ x => x)
            go_wp2_with (at_builtin; refine app_bytes rfl _ _ rfl (.slice A3 bs3.length c3) bs3.length _ rfl gt 0 t.length ct' (t.map (.int .u8 ·)) rfl (by simp) (u8_one t) vt o5 (by omega) ?_)
            intro v6 w6 o6 k6 b6
            have K6 : Kp0 w w6 := ((K3.then0 k4).then0 k5).trans k6 (fun i hi x => by have := fr3 i x; omega)
            have fr6 : ∀ i, v6.ownBlock = some i → w.heap.size ≤ i := by
              intro i hi
              rcases b6 with b6 | b6
              · exact fr3 i (b6 ▸ hi)
              · rw [b6] at hi; injection hi with hi; have := K3.size; have := k4.size; have := k5.size; omega
            obtain ⟨A6, c6, rfl⟩ := row_slice o6
            go_wp2
            go_roundw
            case rel => exact ⟨bs3 ++ t, k + 1, by omega, by go_num, by rw [List.length_append]; omega, fun c hc => (List.mem_append.1 hc).elim (hby3 c) (ht2 c), by rw [List.map_append, List.length_append]; exact o6, fr6, K6⟩
            case measure => simp [intOf]; omega
          · go_wp2
            go_roundw
            case rel => exact ⟨bs3, k + 1, by omega, by go_num, by omega, hby3, o3', fr3, K3⟩
            case measure => simp [intOf]; omega
        · rw [decide_eq_false hin]
          have B1 := hb0.kp0 kr
          go_wp2_with fail
          refine (cut3z_c a0 cap0 bs0 _ B1 (by omega) hc0).mono ?_
          rintro e w2 ⟨A2, c2, rfl, o2, k2, f2⟩
          have ob := own_kp o k2 (fun _ _ x => x)
          have hb2 : ∀ c ∈ bs0.take 3, 0 ≤ c ∧ c ≤ 255 := fun c hc => hb0.byt c (List.mem_of_mem_take hc)
          have hl2 : (bs0.take 3).length ≤ 3 := by rw [List.length_take]; omega
          have K2 := kr.then0 k2
          rcases own_shape o2 with ⟨e2, hn, _⟩ | ⟨g2, cap2', e2, _, _, _, _⟩
          · injection e2 with e21 e22 e23
            subst e21
            subst e23
            simp only [hn]
            obtain ⟨i5, hi5, _⟩ := Option.map_eq_some_iff.1 info5'
            go_wp2_with (at_builtin; refine wpList_append_own_none rfl _ _ 23 rfl 0 5 i5 1 rfl hi5 (.slice A bs.length c) bs.length _ rfl ob rfl ?_)
            go_wp2_with fail
            go_meet
            exact ⟨A, c, bs, rfl, .inl (br_ownO ob hby), by omega, K2⟩
          · injection e2 with e21 e22 e23
            subst e21
            obtain ⟨t, htt⟩ : ∃ l, bs0.take 3 = l := ⟨_, rfl⟩
            rw [htt] at hb2 hl2 o2
            simp only [htt]
            go_wp2_with (at_builtin; refine app_bytes rfl _ _ rfl (.slice A bs.length c) bs.length _ rfl g2 0 t.length c2 (t.map (.int .u8 ·)) rfl (by simp) (u8_one t) (Vw.of_own o2) ob (by omega) ?_)
            intro v6 w6 o6 k6 b6
            have K6 : Kp0 w w6 := K2.trans k6 (fun i hi x => by have := fr i x; omega)
            obtain ⟨A6, c6, rfl⟩ := row_slice o6
            go_wp2_with fail
            go_meet
            have o6' : w6.ownsRow 0 5 1 (.slice A6 (bs ++ t).length c6) (bs ++ t).length ((bs ++ t).map (.int .u8 ·)) := by rw [List.map_append, List.length_append]; exact o6
            exact ⟨A6, c6, bs ++ t, by rw [List.length_append], .inl (br_ownO o6' (fun c hc => (List.mem_append.1 hc).elim (hby c) (hb2 c))), by rw [List.length_append]; omega, K6⟩
  case rest =>
    clear hz ht hb0 hl0 hc0
    obtain ⟨A, c, bs, rfl, B1, hl, k1⟩ := hcut
    go_wp2_with fail
    refine (lend_c A c bs _ B1 (by omega)).mono ?_
    rintro e w2 ⟨L, rfl, hL, lt2, k2⟩
    have K2 := k1.then0 k2
    have B2 := B1.kp0 k2
    go_wp2_with fail
    refine (newW_c (some ⟨L, 0, none⟩) (bs.length + 3) bs _ (br_lent lt2 B1.byt) (by omega)).mono ?_
    rintro e w3 ⟨g, rfl, hg, R3, k3⟩
    have K3 := K2.then0 k3
    have B3 := B2.kp0 k3
    have lt3 : Lent w3 L bs := Blk.kp0 lt2 k3
    go_wp2_with fail
    refine (copybz_c A c bs _ B3 (by omega)).mono ?_
    rintro e w4 ⟨A4, c4, rfl, o4, k4, _⟩
    have K4 := K3.then0 k4
    have B4 := B3.kp0 k4
    have lt4 : Lent w4 L bs := Blk.kp0 lt3 k4
    have k4a : Kp0 w4 (w4.alloc (.cells #[.slice A4 bs.length c4, .bool false] 38)) := (Kp.refl _ _).alloc _
    have hlt3 : g < w3.heap.size := by obtain ⟨_, _, hb, _⟩ := R3; exact hb.lt
    have R4 : RrAt w4 g 112 bs false := by
      obtain ⟨a, cap, h1, h2, h3, hv, h5⟩ := R3
      refine ⟨a, cap, h1.kp0 k4, h2, h3, ?_, h5⟩
      rcases hv with hv | ⟨B, off, rfl, q1, q2, q3⟩
      · exact .inl hv
      · exact .inr ⟨B, off, rfl, q1.kp0 k4 q2, Nat.lt_of_lt_of_le q2 k4.size, q3⟩
    have X5 : RrAt (w4.alloc (.cells #[.slice A4 bs.length c4, .bool false] 38)) w4.heap.size 38 bs false := rr_newT o4 k4a B1.byt (Blk.new _ _ _) (Nat.le_refl _)
    have D : Rd w (w4.alloc (.cells #[.slice A4 bs.length c4, .bool false] 38)) L g w4.heap.size A c bs bs bs false := by
      refine ⟨?_, X5, fun _ => rfl, Blk.kp0 lt4 k4a, B4.kp0 k4a, K4.alloc _⟩
      obtain ⟨a, cap, h1, h2, h3, hv, h5⟩ := R4
      refine ⟨a, cap, h1.kp0 k4a, h2, h3, ?_, h5⟩
      rcases hv with hv | ⟨B, off, rfl, q1, q2, q3⟩
      · exact .inl hv
      · exact .inr ⟨B, off, rfl, q1.kp0 k4a q2, Nat.lt_of_lt_of_le q2 k4a.size, q3⟩
    have hgh : w4.heap.size ≠ g := by have := k4.size; omega
    have hgw : w.heap.size ≤ g := by have := K2.size; omega
    have hhw : w.heap.size ≤ w4.heap.size := K4.size
    clear k1 k2 k3 k4 k4a K2 K3 K4 B1 B2 B3 B4 lt2 lt3 lt4 R3 R4 X5 o4 hlt3 hg hL
    generalize hH : w4.heap.size = h at D hgh hhw
    go_wp2_with fail
    go_loopw [16] (fun i wr => ∃ (k : Nat) (bsr bsx : List Int) (bad : Bool), k ≤ 24 ∧ i = .int .i64 k ∧ Rd w wr L g h A c bs bsr bsx bad) (fun i _ => (24 - intOf i).toNat)
    case atStart => exact ⟨0, bs, bs, false, by decide, rfl, D⟩
    case round =>
      clear D
      obtain ⟨k, bsr, bsx, bad, hk, rfl, D⟩ := hrel
      go_upto_region 15 with fail
      go_cut [70] from 63 to 102 (fun s70 wx => s70 = .bool (decide (k < len3 ∧ k < 24)) ∧ wr = wx)
      case first =>
        by_cases i1 : k < len3
        · by_cases i3 : k < 24
          · go_wp2_with fail
            go_meet
            exact ⟨congrArg Value.bool (by rw [decide_eq_decide]; omega), rfl⟩
          · go_wp2_with fail
            go_meet
            exact ⟨congrArg Value.bool (by rw [decide_eq_decide]; omega), rfl⟩
        · go_wp2_with fail
          go_meet
          exact ⟨congrArg Value.bool (decide_eq_false (fun h => i1 h.1)).symm, rfl⟩
      case rest =>
      obtain ⟨rfl, rfl⟩ := hcut
      by_cases hin : k < len3 ∧ k < 24
      · rw [decide_eq_true hin]
        obtain ⟨i1, i3⟩ := hin
        obtain ⟨b1, o1, z, rfl, hb1, hcz⟩ := ha _ i1
        have cz := (D.k.below0.cell (p := ⟨b1, _, none⟩) hb1).trans hcz
        clear hcz
        go_upto_region 17 with fail
        go_upto_if 78 with fail
        go_cut [78] from 63 to 102 (fun s78 wx => ∃ (bsr' bsx' : List Int) (bad' : Bool), Rd w wx L g h A c bs bsr' bsx' bad')
        case first =>
          by_cases hm : Int.tmod z 2 = 0
          · obtain ⟨l1, l2, l3⟩ := like_num D.like
            go_wp2_with fail
            refine (number_c g bsr bad _ D.r).mono ?_
            rintro e w5 ⟨rfl, r5, k5⟩
            have x5 := D.x.other D.r hgh k5
            have b5 := D.b.other D.r k5
            have lt5 := D.lent.other D.r (by decide) k5
            have K5 := D.k.new k5 hgw
            go_wp2_with fail
            refine (rnumber_c h bsx bad _ x5).mono ?_
            rintro e w6 ⟨rfl, x6, k6⟩
            rw [← l1]
            rw [← l2] at x6
            have r6 := r5.other x5 (Ne.symm hgh) k6
            have b6 := b5.other x5 k6
            have lt6 := lt5.other x5 (by decide) k6
            have K6 := K5.new k6 hhw
            go_wp2_with fail
            go_meet
            exact ⟨_, _, _, r6, x6, l3, lt6, b6, K6⟩
          · obtain ⟨l1, l2, l3⟩ := like_txt D.like
            go_wp2_with fail
            refine (text_c g bsr bad _ D.r).mono ?_
            rintro e w5 ⟨rfl, r5, k5⟩
            have x5 := D.x.other D.r hgh k5
            have b5 := D.b.other D.r k5
            have lt5 := D.lent.other D.r (by decide) k5
            have K5 := D.k.new k5 hgw
            go_wp2_with fail
            refine (rtext_c h bsx bad _ x5).mono ?_
            rintro e w6 ⟨rfl, x6, k6⟩
            rw [← l1]
            rw [← l2] at x6
            have r6 := r5.other x5 (Ne.symm hgh) k6
            have b6 := b5.other x5 k6
            have lt6 := lt5.other x5 (by decide) k6
            have K6 := K5.new k6 hhw
            go_wp2_with fail
            go_meet
            exact ⟨_, _, _, r6, x6, l3, lt6, b6, K6⟩
        case rest =>
          clear D cz
          obtain ⟨bsr1, bsx1, bad1, D1⟩ := hcut
          have hdn : (!bad1 && (bsr1.length == 0)) = (!bad1 && (bsx1.length == 0)) := by
            cases bad1 with
            | true => rfl
            | false => rw [D1.like rfl]
          generalize hd : (!bad1 && (bsx1.length == 0)) = dn at hdn
          have cb : wc.cell? ⟨h, 1, none⟩ = some (.bool bad1) := by
            obtain ⟨a, cap, hb, _⟩ := D1.x
            rw [hb.cell]; rfl
          have tdn : (dn != dn) = false := by simp
          have tbd : (bad1 != bad1) = false := by simp
          go_wp2_with fail
          go_quiet (first
            | (go_at_call 31; exact Calls.quiet_of_same ((done_c g _ _ _ (D1.drewN _).r).mono fun _ _ h => ⟨h.1.trans (by rw [hdn]), h.2.symm⟩))
            | (go_at_call 32; exact Calls.quiet_of_same ((rdone_c h _ _ _ (D1.drewN _).x).mono fun _ _ h => ⟨h.1.trans (by rw [hd]), h.2.symm⟩))
            | (go_at_call 33; exact Calls.quiet_of_same ((bad_c g _ _ _ (D1.drewN _).r).mono fun _ _ h => ⟨h.1, h.2.symm⟩)))
          go_wp2
          go_roundw
          case rel => exact ⟨k + 1, _, _, _, by omega, by go_num, D1.drewN _⟩
          case measure => simp [intOf]; omega
      · rw [decide_eq_false hin]
        go_wp2_with fail
        refine (intact_c L A c bs _ D.lent D.b (by omega)).mono ?_
        rintro e w5 ⟨rfl, k5⟩
        go_wp2_with fail
        refine (wakes3_c _).mono ?_
        rintro e w6 ⟨rfl, k6⟩
        go_wp2
        go_ret
        exact ⟨rfl, (D.k.then0 k5).then0 k6⟩
end Go.Proofs.Ytnlkkcpcjeeplaa
