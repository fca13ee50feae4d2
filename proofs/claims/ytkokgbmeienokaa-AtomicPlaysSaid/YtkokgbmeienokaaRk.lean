/- RecordForms: the walk. -/
import Derived.Test.YtkokgbmeienokaaRj
set_option linter.unusedVariables false
set_option linter.unusedSimpArgs false
namespace Go.Proofs.Ytkokgbmeienokaa
open Go.RowKit

theorem own_cap {w : World} {b e size n m c : Nat} {A : Option Addr} {xs : List Value} (h : w.ownsRow b e size (.slice A m c) n xs) : m ≤ c ∧ c ≤ 9223372036854775807 := by
  rcases own_shape h with ⟨e, h0, _⟩ | ⟨r, cp, e, h1, h2, _⟩ <;> injection e with e1 e2 e3 <;> omega

theorem made201 (w : World) : ∃ w', (Instr.makeSlice 22 (.int .i64 201) (.int .i64 201)).run Try.prog w = .ok (.slice (some ⟨w.heap.size, 0, none⟩) 201 201) w' ∧ Bz w' (some ⟨w.heap.size, 0, none⟩) 201 (List.replicate 201 0) ∧ Kp0 w w' := by
  obtain ⟨i0, hi, hzz⟩ := Option.map_eq_some_iff.1 info5'
  simp only [Prod.mk.injEq] at hzz
  obtain ⟨hz0, hz1, hz2⟩ := hzz
  obtain ⟨w', h1, h2, h3⟩ := run_make_full (P := Try.prog) w 0 22 5 i0 (.int .u8 0) 1 Try.underlying22 hi hz0 hz1 .i64 .i64 201 (by rw [hz2]; decide) (by unfold maxLen; decide) (Nat.zero_le _)
  refine ⟨w', h1, bz_own (n := 201) (bs := List.replicate 201 0) ?_ (by rw [List.length_replicate]) (by intro c hc; rw [List.mem_replicate] at hc; omega), (Kp.refl _ _).grown h3 (fun k hk _ => by cases hk)⟩
  have e : (madeCells (Value.int .u8 0).cells (201 * 1)).toList = u8s (List.replicate 201 0) := by
    show (madeCells #[Value.int .u8 0] (201 * 1)).toList = _
    rw [toList_madeCells_one, u8s, List.map_replicate]
  rw [e] at h2
  rw [List.length_replicate]
  exact h2

theorem run_cuthi {w : World} {a : Option Addr} {cap : Nat} {bs : List Int} (hr : Bz w a cap bs) (hc : bs.length ≤ cap) (hm : cap ≤ 9223372036854775807) (hi : Nat) (h2 : hi ≤ bs.length) :
    ∃ A c, (∀ W, (Instr.sliceAt 22 (.slice a bs.length cap) none (some (.int .i64 (hi : Int))) none).run Try.prog W = .ok (.slice A hi c) W) ∧ Bz w A c (bs.take hi) ∧ hi ≤ c ∧ c ≤ cap := by
  obtain ⟨A, c, e, hb, hcc⟩ := bz_cut hr hc 0 hi (Nat.zero_le _) h2
  have hu : Try.prog.underlying 22 = some (.slice (Try.prog.elem 22)) := by kernel_rfl
  have hs : ∀ W, (sizeOf (Try.prog.elem 22)).run Try.prog W = .ok 1 W := fun W => by kernel_rfl
  simp only [Nat.sub_zero, List.drop_zero] at e hb hcc
  refine ⟨A, c, fun W => ?_, hb, hcc, ?_⟩
  · rw [run_sliceAt_slice _ _ _ _ _ _ hu, run_slice_h _ _ _ _ _ hu _ _ (by omega) (by omega), hs W]
    simp only [Result.andThen, Int.toNat_natCast, e]
  · unfold sliced at e; injection e with _ _ e3; omega

theorem run_rowshi {w : World} {v : Value} {ls : List (List Int)} (h : Rv w v ls) (hi : Nat) (h2 : hi ≤ ls.length) :
    ∃ v', (∀ W, (Instr.sliceAt 67 v none (some (.int .i64 (hi : Int))) none).run Try.prog W = .ok v' W) ∧ Rv w v' (ls.take hi) := by
  obtain ⟨A0, c0, rfl, l1, l2, h⟩ := h
  have hu : Try.prog.underlying 67 = some (.slice (Try.prog.elem 67)) := by kernel_rfl
  have hs : ∀ W, (sizeOf (Try.prog.elem 67)).run Try.prog W = .ok 1 W := fun W => by kernel_rfl
  refine ⟨sliced A0 0 hi c0 1, fun W => ?_, ?_⟩
  · rw [run_sliceAt_slice _ _ _ _ _ _ hu, run_slice_h _ _ _ _ _ hu _ _ (by omega) (by omega), hs W]
    simp only [Result.andThen, Int.toNat_natCast]
  · have hlt : (ls.take hi).length = hi := by rw [List.length_take]; omega
    have hA : (if c0 = 0 then A0 else A0.map (·.add (0 * 1))) = A0 := by
      split
      · rfl
      · cases A0 with
        | none => rfl
        | some a => simp [Addr.add]
    refine ⟨A0, c0, ?_, by omega, l2, fun j hj => ?_⟩
    · unfold sliced; rw [hA, hlt]; rfl
    · obtain ⟨b, off, A, c, e1, hb, hc, hz, m1, m2⟩ := h j (by omega)
      have e : (ls.take hi)[j] = ls[j]'(by omega) := List.getElem_take
      rw [e]
      exact ⟨b, off, A, c, e1, hb, hc, hz, m1, m2⟩

theorem Ar.kp0 {w w' : World} {a : Option Addr} {len : Nat} (h : Ar w a len) (k : Kp0 w w') : Ar w' a len := by
  intro j hj
  obtain ⟨b, off, A, c, bs, e1, hb, hc, hz, m1, m2⟩ := h j hj
  exact ⟨b, off, A, c, bs, e1, Nat.lt_of_lt_of_le hb k.size, (k.below0.cell (p := ⟨b, off + j, none⟩) hb).trans hc, hz.kp0 k, m1, m2⟩

set_option maxRecDepth 100000 in
set_option maxHeartbeats 8000000 in
theorem recordForms_c (a0 : Option Addr) (len0 cap0 : Nat) (v1 : Int) (w : World) (hz : Ar w a0 len0) (hc0 : len0 ≤ 9223372036854775807) :
    Calls Try.prog 13 #[.slice a0 len0 cap0, .int .i64 v1] w fun e' w' => e' = .returned (.bool true) ∧ Kp0 w w' := by
  have F0 : Fm w w (.slice none 0 0) (.slice none 0 0) (.slice none 0 0) [] :=
    ⟨World.ownsRow_nil _ _ _ _, ⟨[], ⟨World.ownsRow_nil _ _ _ _, rfl, fun j h => by simp at h⟩, Av.nil _⟩, World.ownsRow_nil _ _ _ _, by simp, by simp, by simp [Value.ownBlock], by simp [Value.ownBlock], by simp [Value.ownBlock], Kp.refl _ _⟩
  go_enter Try.func13, Try.ntmps13
  go_wp2_with fail
  go_loopw [5, 6, 7, 8] (fun vb vw ve i wr => ∃ (k : Nat) (xs : List (List Int)), k ≤ 8 ∧ xs.length = k ∧ i = .int .i64 k ∧ Fm w wr vb vw ve xs) (fun _ _ _ i _ => (8 - intOf i).toNat)
  case atStart => exact ⟨0, [], by decide, rfl, rfl, F0⟩
  case round =>
    obtain ⟨k, xs, hk, rfl, rfl, F⟩ := hrel
    clear F0
    have hflx := fl_len xs F.len
    obtain ⟨Ab, cb, rfl⟩ := own_sl F.rb
    obtain ⟨Ae, ce, rfl⟩ := own_sl F.re
    obtain ⟨vs, R, V⟩ := F.rw_
    obtain ⟨Aw, cw, hvw⟩ := own_sl R.1
    have hvl : vs.length = xs.length := R.2.1
    rw [hvl] at hvw
    subst hvw
    go_upto_region 5 with fail
    go_cut [27] from 20 to 72 (fun s27 wx => s27 = .bool (decide (xs.length < len0 ∧ xs.length < 8)) ∧ wr = wx)
    case first =>
      clear F R V
      by_cases i1 : xs.length < len0
      · by_cases i2 : xs.length < 8
        · go_wp2_with fail
          go_meet
          exact ⟨congrArg Value.bool (by rw [decide_eq_decide]; omega), rfl⟩
        · go_wp2_with fail
          go_meet
          exact ⟨congrArg Value.bool (by rw [decide_eq_decide]; omega), rfl⟩
      · go_wp2_with fail
        go_meet
        exact ⟨congrArg Value.bool (decide_eq_false (fun h => i1 h.1)).symm, rfl⟩
    case rest =>
    obtain ⟨rfl, rfl⟩ := hcut
    by_cases hin : xs.length < len0 ∧ xs.length < 8
    · rw [decide_eq_true hin]
      obtain ⟨i1, i2⟩ := hin
      obtain ⟨b1, o1, A1, c1, bs, rfl, hb1, hcz, hbz, m1, m2⟩ := (hz.kp0 F.k) _ i1
      have hcut := cutNz_c A1 c1 bs wr hbz (by omega) m1 200 (by decide)
      have hbyt : ∀ c ∈ bs.take 200, 0 ≤ c ∧ c ≤ 255 := fun c hc => hbz.byt c (List.mem_of_mem_take hc)
      have hxl : (bs.take 200).length ≤ 200 := by rw [List.length_take]; omega
      generalize bs.take 200 = x at hcut hbyt hxl
      clear hz
      go_wp2_with fail
      refine hcut.mono ?_
      rintro e w1 ⟨A, c, rfl, q1, K1, f1⟩
      have hpk := pack_c A c x w1 (bz_own q1 rfl hbyt) (by omega)
      have hpl := pk_len hxl
      have hpo := pk_ok hxl
      clear hcz hcut hbz
      go_wp2_with fail
      refine hpk.mono ?_
      rintro e w2 ⟨P, pc, rfl, q2, K2, f2⟩
      clear hpk
      have zp := bz_own q2 rfl (pk_byt hbyt)
      obtain ⟨PB, po, hPe, hPB, d0⟩ := zp.cell 0 (by omega)
      obtain ⟨PB', po', hPe', hPB', d1⟩ := zp.cell (x.length + 1) (by omega)
      subst hPe
      injection hPe' with hPe'
      injection hPe' with e1 e2 _
      subst e1; subst e2
      have g0 : (pk x)[0]'(by omega) = (x.length : Int) := by simp [hpo]
      have g1 : (pk x)[x.length + 1]'(by omega) = 165 := by simp [hpo]
      rw [g0] at d0
      rw [g1] at d1
      rw [Nat.add_zero] at d0
      have q2' := q2
      rw [hpl] at q2
      have hl1 : IntKind.i64.wrap ((x.length : Int) + 2 - 1) = ((x.length + 1 : Nat) : Int) := by rw [IntKind.wrap_i64]; omega
      have t1 : (((x.length + 2 : Nat) : Int) != (x.length : Int) + 2) = false := by simp
      have t2 : ((x.length : Int) != (x.length : Int)) = false := by simp
      have HPL := Lib.hid hpl
      try rw [hpl]
      clear hpl hpo g0 g1 q2' zp
      have ob := own_kp F.rb (K1.then0 K2) (fun _ _ h => h)
      have zp2 := bz_own (bs := pk x) (by rw [HPL.out]; exact q2) (by rw [HPL.out]) (pk_byt hbyt)
      have hpl3 : (pk x).length = x.length + 2 := HPL.out
      go_wp2_with (at_builtin; refine app_any rfl (.tmp 61) (.tmp 62) rfl (.slice Ab (fl xs).length cb) (fl xs).length _ rfl (some ⟨PB, po, none⟩) (x.length + 2) pc (pk x) rfl hpl3 zp2 ob (by omega) ?_)
      intro vb3 w3 o3 K3 b3
      rw [← hpl3] at o3
      obtain ⟨Ab3, cb3, rfl⟩ := own_sl o3
      obtain ⟨N, hN⟩ : ∃ N, (fl xs).length + (pk x).length = N := ⟨_, rfl⟩
      have hNb : N ≤ 2000 := by omega
      have o3' := o3
      have b3' := b3
      rw [hN] at o3' b3' ⊢
      have HN := Lib.hid hN
      clear hN o3 b3
      have k4 : Kp0 w3 (w3.alloc (.cells #[.slice A x.length c] 22)) := (Kp.refl _ _).alloc _
      have K13 : Kp (fun i => (Value.slice Ab (fl xs).length cb).ownBlock = some i) wr w3 := ((K1.then0 K2).mono (S' := fun i => (Value.slice Ab (fl xs).length cb).ownBlock = some i) (fun _ _ x => x.elim)).trans K3 (fun _ _ h => h)
      have bw := own_apart F.rb R.1 (by decide)
      have ow4 := own_kp (own_kp R.1 K13 (fun i hi hb => bw i hb hi)) k4 (fun _ _ h => h)
      rw [hvl] at ow4
      clear d0 d1 zp2 ob q2 hl1 t1 t2 HPL bw
      go_wp2_with (at_builtin; refine list_app rfl (.tmp 64) (.tmp 66) 67 22 (.slice none 0 0) 1 24 rfl Try.underlying67 info22 rfl (by decide) (.slice Aw xs.length cw) xs.length vs rfl w3.heap.size 0 1 1 [.slice A x.length c] rfl rfl (by simp [Value.oneCell']) (Vw.of_blk (blk_new _ _ rfl)) ow4 (by omega) (by omega) ?_)
      intro vw5 w5 o5 K5 b5
      obtain ⟨Aw5, cw5, rfl⟩ := own_sl o5
      have k6 : Kp0 w5 (w5.alloc (.cells #[.int .i64 (N : Int)] 3)) := (Kp.refl _ _).alloc _
      have K15 : Kp (fun i => (Value.slice Ab (fl xs).length cb).ownBlock = some i ∨ (Value.slice Aw xs.length cw).ownBlock = some i) wr w5 := ((K13.mono (S' := fun i => (Value.slice Ab (fl xs).length cb).ownBlock = some i ∨ (Value.slice Aw xs.length cw).ownBlock = some i) (fun _ _ h => .inl h)).then0 k4).trans K5 (fun _ _ h => .inr h)
      have be := own_apart F.rb F.re (by decide)
      have we := own_apart R.1 F.re (by decide)
      have oe6 := own_kp (own_kp F.re K15 (fun i hi hb => hb.elim (fun h => be i h hi) (fun h => we i h hi))) k6 (fun _ _ h => h)
      have HP := Lib.hid hpl3
      clear be we K15 K13 ow4 hpl3
      go_wp2_with (at_builtin; refine list_app rfl (.tmp 68) (.tmp 71) 68 3 (.int .i64 0) 1 8 rfl Try.underlying68 info3' rfl (by decide) (.slice Ae xs.length ce) xs.length _ rfl w5.heap.size 0 1 1 [.int .i64 (N : Int)] rfl rfl (by simp [Value.oneCell']) (Vw.of_blk (blk_new _ _ rfl)) oe6 (by omega) (by omega) ?_)
      intro ve7 w7 o7 K7 b7
      obtain ⟨Ae7, ce7, rfl⟩ := own_sl o7
      have F7 : Fm w w7 (.slice Ab3 N cb3) (.slice Aw5 (xs.length + 1) cw5) (.slice Ae7 (xs.length + 1) ce7) (xs ++ [x]) :=
        F.next hxl hbyt R V q1 K1 f1 K2 (by rw [HN.out]; exact o3') K3 b3' o5 k4 K5 (by simpa using b5) k6 (by rw [HN.out]; exact o7) K7 (by simpa using b7)
      have hlen : (xs ++ [x]).length = xs.length + 1 := by simp
      have HL := Lib.hid hlen
      clear F R V q1 K1 f1 K2 o3' K3 b3' o5 k4 K5 b5 k6 o7 K7 b7 oe6 f2 hlen
      go_wp2
      go_roundw
      case rel => exact ⟨xs.length + 1, xs ++ [x], by omega, HL.out, by go_num, F7⟩
      case measure => simp [intOf]; omega
    · rw [decide_eq_false hin]
      clear hz hin
      have hlx := F.len
      have hbx := F.byt
      have FK := F.k
      have hcb := own_cap F.rb
      have hsc := scan_c Ab cb (fl xs) wr (bz_own F.rb rfl (fl_byt xs hbx)) (by omega) hcb.1 hcb.2
      rw [sc_all xs hlx] at hsc
      have hall : ∀ y ∈ xs, y.length ≤ 140737488355328 := fun y hy => by have := hlx y hy; omega
      obtain ⟨L, hL⟩ : ∃ L, (fl xs).length = L := ⟨_, rfl⟩
      have tL : ((L : Int) != (L : Int)) = false := by simp
      rw [hL] at hsc hflx hcb ⊢
      have HL := Lib.hid hL
      clear hL
      go_wp2_with fail
      refine hsc.mono ?_
      rintro e w1 ⟨v, rfl, R1, K1, _⟩
      have hsame := same58_c v _ xs (by omega) hall w1 R1.rv (Rows.rv ⟨vs, R.kp0 K1⟩)
      clear R1 hsc
      go_wp2_with fail
      refine hsame.mono ?_
      rintro e w2 ⟨rfl, K2⟩
      clear hsame
      have K12 := K1.then0 K2
      go_wp2_with fail
      refine (within22_x v1 _ (by omega) (by omega) _).mono ?_
      rintro e w' ⟨c, hc, rfl, rfl⟩
      have re2 := own_kp F.re K12 (fun _ _ h => h)
      go_wp2_with fail
      go_loopw [13, 14] (fun s13 s14 wx => ∃ k : Nat, k ≤ xs.length ∧ s13 = .int .i64 k ∧ s14 = .int .i64 ((fl (xs.take k)).length : Nat) ∧ (fl (xs.take k)).length ≤ c ∧ w2 = wx) (fun s13 _ _ => (xs.length - intOf s13).toNat)
      case atStart => exact ⟨0, by omega, rfl, by simp [fl_nil], by simp [fl_nil], rfl⟩
      case round =>
        obtain ⟨k, hk, rfl, rfl, hkc, rfl⟩ := hrel
        have hPle : ∀ j, (fl (xs.take j)).length ≤ xs.length * 202 := fun j => by
          have := fl_len (xs.take j) (fun y hy => hlx y (List.mem_of_mem_take hy))
          have : (xs.take j).length ≤ xs.length := by rw [List.length_take]; omega
          have := Nat.mul_le_mul_right 202 this
          omega
        have hp0 := hPle k
        have hp1 := hPle (k + 1)
        have hcell : k < xs.length → ∃ r, Ae = some ⟨r, 0, none⟩ ∧ w2.cell? ⟨r, k, none⟩ = some (.int .i64 ((fl (xs.take (k + 1))).length : Nat)) := by
          intro hlt
          rcases own_shape re2 with ⟨_, h0, _⟩ | ⟨r, cap, e1, p1, p2, p3, p4⟩
          · omega
          · injection e1 with e1
            refine ⟨r, e1, ?_⟩
            rw [p4 k (by omega), List.getElem?_map, en_get xs k hlt]
            rfl
        obtain ⟨P0, hP0⟩ : ∃ P0, (fl (xs.take k)).length = P0 := ⟨_, rfl⟩
        obtain ⟨P1, hP1⟩ : ∃ P1, (fl (xs.take (k + 1))).length = P1 := ⟨_, rfl⟩
        rw [hP0] at hkc hp0 ⊢
        rw [hP1] at hcell hp1
        have H0 := Lib.hid hP0
        have H1 := Lib.hid hP1
        clear hP0 hP1 hPle
        go_upto_region 18 with fail
        go_cut [104] from 93 to 110 (fun s104 wx => s104 = .bool (decide (k < xs.length ∧ P1 ≤ c)) ∧ w2 = wx)
        case first =>
          clear F R V re2
          by_cases i1 : k < xs.length
          · obtain ⟨r, rfl, hcr⟩ := hcell i1
            clear hcell
            by_cases i2 : P1 ≤ c
            · go_wp2_with fail
              go_meet
              exact ⟨congrArg Value.bool (decide_eq_true (p := k < xs.length ∧ P1 ≤ c) ⟨i1, i2⟩).symm, rfl⟩
            · go_wp2_with fail
              go_meet
              exact ⟨congrArg Value.bool (decide_eq_false (p := k < xs.length ∧ P1 ≤ c) (fun h => i2 h.2)).symm, rfl⟩
          · clear hcell
            go_wp2_with fail
            go_meet
            exact ⟨congrArg Value.bool (decide_eq_false (fun h => i1 h.1)).symm, rfl⟩
        case rest =>
        obtain ⟨rfl, rfl⟩ := hcut
        by_cases hin : k < xs.length ∧ P1 ≤ c
        · rw [decide_eq_true hin]
          obtain ⟨r, rfl, hcr⟩ := hcell hin.1
          clear hcell F R V re2
          go_wp2
          go_roundw
          case rel => exact ⟨k + 1, by omega, by go_num, by rw [H1.out], by rw [H1.out]; exact hin.2, by simp⟩
          case measure => simp [intOf]; omega
        · rw [decide_eq_false hin]
          have hcL : c ≤ L := by omega
          have hcut := sc_cut xs k c hlx hk (by rw [H0.out]; exact hkc) (by rw [H1.out]; omega)
          rw [H0.out] at hcut
          have zb := (bz_own F.rb rfl (fl_byt xs hbx)).kp0 K12
          obtain ⟨A3, c3, hsl, hb3, hc3, hc3'⟩ := run_cuthi zb (by rw [HL.out]; exact hcb.1) hcb.2 c (by rw [HL.out]; exact hcL)
          have hlt : ((fl xs).take c).length = c := by rw [List.length_take, HL.out]; omega
          have hsc2 := scan_c A3 c3 ((fl xs).take c) w2 hb3 (by omega) (by omega) (by omega)
          rw [hcut, hlt] at hsc2
          rw [HL.out] at hsl
          obtain ⟨v3, hsl2, hv3⟩ := run_rowshi (Rows.rv ⟨vs, R.kp0 K12⟩) k hk
          have tP : ((P0 : Int) != (P0 : Int)) = false := by simp
          clear hin hcell hb3 hcut hlt
          go_wp2_with fail
          refine hsc2.mono ?_
          rintro e w3 ⟨v4, rfl, R4, K3, _⟩
          have hsame := same58_c v4 v3 (xs.take k) (by rw [List.length_take]; omega) (fun y hy => hall y (List.mem_of_mem_take hy)) w3 R4.rv (hv3.kp0 K3)
          clear R4 hsc2 hv3 hsl
          go_wp2_with fail
          refine hsame.mono ?_
          rintro e w4 ⟨rfl, K4⟩
          clear hsame hsl2
          have K34 := K3.then0 K4
          cases xs with
          | nil =>
            have hL0 : L = 0 := by rw [← HL.out]; rfl
            subst hL0
            clear F R V re2
            go_wp2_with fail
            refine (wakes59_c _).mono ?_
            rintro e w5 ⟨rfl, K5⟩
            go_wp2
            go_ret
            exact ⟨rfl, ((FK.then0 K12).then0 K34).then0 K5⟩
          | cons x r =>
            have hxl : x.length ≤ 200 := hlx x (by simp)
            have hfl : fl (x :: r) = pk x ++ fl r := fl_cons x r
            have hLn : x.length + 2 ≤ L := by rw [← HL.out, hfl, List.length_append, pk_len hxl]; omega
            have tz : ((L : Int) == 0) = false := by rw [beq_eq_false_iff_ne]; omega
            have hcp := copybz_c Ab cb (fl (x :: r)) w4 (zb.kp0 K34) (by rw [HL.out]; omega)
            rw [HL.out] at hcp
            have re4 := own_kp re2 K34 (fun _ _ h => h)
            have hbyt := fl_byt (x :: r) hbx
            clear F R V re2 zb
            go_wp2_with fail
            refine hcp.mono ?_
            rintro e w5 ⟨A5, c5, rfl, o5, K5, f5⟩
            have re5 := own_kp re4 K5 (fun _ _ h => h)
            obtain ⟨re, ree, hce⟩ : ∃ q, Ae = some ⟨q, 0, none⟩ ∧ w5.cell? ⟨q, 0, none⟩ = some (.int .i64 ((x.length : Int) + 2)) := by
              rcases own_shape re5 with ⟨_, h0, _⟩ | ⟨q, cap, e1, p1, p2, p3, p4⟩
              · simp at h0
              · injection e1 with e1
                refine ⟨q, e1, ?_⟩
                rw [p4 0 (by simp), List.getElem?_map, en_get _ 0 (by simp)]
                simp [fl_cons, fl_nil, pk_len hxl]
            subst ree
            rcases own_shape o5 with ⟨_, h0, _⟩ | ⟨q, cap, e1, p1, p2, p3, p4⟩
            · omega
            injection e1 with e1 e2 e3
            subst e1; subst e3
            have hcq : w5.cell? ⟨q, x.length + 1, none⟩ = some (.int .u8 165) := by
              rw [p4 (x.length + 1) (by omega), List.getElem?_map, hfl, pk_ok hxl]
              simp
            have hfq := o5.frozenAt (x.length + 1)
            have o6 := (o5.stored (x.length + 1) (.int .u8 166)).1
            have K6 : Kp0 w (w5.setCell ⟨q, x.length + 1, none⟩ (.int .u8 166)) := (((FK.then0 K12).then0 K34).then0 K5).setCell (p := ⟨q, x.length + 1, none⟩) (fun h => by have := f5 q (by simp [Value.ownBlock]); have := ((FK.then0 K12).then0 K34).size; simp at h; omega) _
            have em : (u8s (fl (x :: r))).set (x.length + 1) (.int .u8 166) = u8s ((fl (x :: r)).set (x.length + 1) 166) := by rw [u8s, u8s, List.map_set]
            rw [em] at o6
            have hln : ((fl (x :: r)).set (x.length + 1) 166).length = L := by rw [List.length_set]; exact HL.out
            have hb6 : ∀ c ∈ (fl (x :: r)).set (x.length + 1) 166, 0 ≤ c ∧ c ≤ 255 := by
              intro c hc
              rcases List.mem_or_eq_of_mem_set hc with h | h
              · exact hbyt c h
              · subst h; decide
            have zb6 := bz_own (n := L) (bs := (fl (x :: r)).set (x.length + 1) 166) (by rw [hln]; exact o6) hln.symm hb6
            have hsc3 := scan_c _ c5 _ _ zb6 (by rw [hln]; omega) (by rw [hln]; exact p1) p2
            rw [hln] at hsc3
            have hsp : sc ((fl (x :: r)).set (x.length + 1) 166) = ([], 0) := by rw [hfl]; exact sc_spoilt hxl
            rw [hsp] at hsc3
            obtain ⟨n, hn⟩ : ∃ n, x.length = n := ⟨_, rfl⟩
            rw [hn] at hce hcq hfq hsc3 hLn hxl K6
            have hw1 : IntKind.i64.wrap ((n : Int) + 2 - 1) = ((n + 1 : Nat) : Int) := by rw [IntKind.wrap_i64]; omega
            clear o6 em hln hb6 zb6 hsp o5 p4 re5 re4 hbyt hn hcp
            go_wp2_with fail
            refine hsc3.mono ?_
            rintro e w7 ⟨v7, rfl, R7, K7, _⟩
            obtain ⟨A7, c7, rfl⟩ := R7.len
            obtain ⟨w8, hmk, z8, K8⟩ := made201 w7
            have hpk := pack_c _ 201 (List.replicate 201 0) w8 z8 (by rw [List.length_replicate]; omega)
            have hp0 : pk (List.replicate 201 0) = [] := by unfold pk; rw [if_neg (by rw [List.length_replicate]; omega)]
            rw [hp0, List.length_replicate] at hpk
            clear R7 hsc3 z8 hp0
            go_wp2_with fail
            refine hpk.mono ?_
            rintro e w9 ⟨A9, c9, rfl, _, K9, _⟩
            clear hpk hmk
            go_wp2_with fail
            refine (wakes59_c _).mono ?_
            rintro e w10 ⟨rfl, K10⟩
            go_wp2
            go_ret
            exact ⟨rfl, (((K6.then0 K7).then0 K8).then0 K9).then0 K10⟩
end Go.Proofs.Ytkokgbmeienokaa
