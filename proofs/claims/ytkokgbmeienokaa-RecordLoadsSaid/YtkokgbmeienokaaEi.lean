/- RecordLoads: plain law, walk. -/
import Derived.Test.YtkokgbmeienokaaEh
import Derived.Test.YtkokgbmeienokaaEd
set_option linter.unusedVariables false
set_option linter.unusedSimpArgs false
set_option linter.unnecessarySimpa false
namespace Go.Proofs.Ytkokgbmeienokaa
open Go.RowKit

theorem sc_junk : ∀ (xs : List (List Int)) (r : List Int), (∀ x ∈ xs, x.length ≤ 200) → wh r = 0 → sc (fl xs ++ r) = (xs, (fl xs).length)
  | [], r, _, h => by rw [fl_nil, List.nil_append, sc_stop h]; rfl
  | x :: xs, r, hx, h => by
    have hl := hx x (by simp)
    rw [fl_cons, List.append_assoc, sc_rec hl, sc_junk xs r (fun y hy => hx y (by simp [hy])) h, List.length_append, pk_len hl]
theorem wh_200 (b : List Int) (h : b.length ≤ 30) : wh (200 :: b) = 0 := by
  apply wh_no
  refine .inr (.inr (.inl ?_))
  simp
  omega
theorem bs_addu (q : Nat) (xs : List (List Int)) (b : List Int) (hb : b.length ≤ 200) (h : (fl xs).length + (pk b).length ≤ q) : (bs_ q xs).add lo b = (0, bs_ q (xs ++ [b])) := by
  unfold Dk.add
  rw [if_neg (by omega)]
  cases xs with
  | nil =>
    show (if ((dk0 q).app lo (pk b)).1 ≠ 0 then _ else _) = _
    rw [show bs_ q [] = dk0 q from rfl, zero_app lo_ne (by simp [fl_nil] at h; exact h), if_neg (by simp), one_syn lo_ne, ← bs_snoc]
    simp [fl_nil]
  | cons x r =>
    rw [show bs_ q (x :: r) = one q lo ⟨fl (x :: r), (fl (x :: r)).length, true⟩ from rfl, one_app lo_ne h, if_neg (by simp), one_syn lo_ne, ← bs_snoc]
theorem bs_appu (q : Nat) (xs : List (List Int)) (r : List Int) (h : (fl xs).length + r.length ≤ q) : (bs_ q xs).app lo r = (0, one q lo ⟨fl xs ++ r, (fl xs).length, !xs.isEmpty⟩) := by
  cases xs with
  | nil => rw [show bs_ q [] = dk0 q from rfl, zero_app lo_ne (by simp [fl_nil] at h; exact h)]; simp [fl_nil]
  | cons x r => rw [show bs_ q (x :: r) = one q lo ⟨fl (x :: r), (fl (x :: r)).length, true⟩ from rfl, one_app lo_ne h]; rfl

/-- What is behind the last record is cut away, once. -/
theorem loads_law (q : Nat) (xs : List (List Int)) (b : List Int) (hx : ∀ x ∈ xs, x.length ≤ 200) (hb : b.length ≤ 30) (hq : (fl xs).length + 40 ≤ q) :
    ∃ d1 d2 d4, (bs_ q xs).app lo (200 :: b) = (0, d1) ∧ d1.syn lo = (0, d2) ∧ d2.load lo = (0, xs, one q lo ⟨fl xs, (fl xs).length, true⟩) ∧
      (one q lo ⟨fl xs, (fl xs).length, true⟩).load lo = (0, xs, one q lo ⟨fl xs, (fl xs).length, true⟩) ∧ ¬ (sc ((one q lo ⟨fl xs, (fl xs).length, true⟩).old lo).b).2 < ((one q lo ⟨fl xs, (fl xs).length, true⟩).old lo).b.length ∧
      (one q lo ⟨fl xs, (fl xs).length, true⟩).add lo [] = (0, d4) := by
  have hs := sc_junk xs (200 :: b) hx (wh_200 b hb)
  have hl : ls_ q (fl xs ++ 200 :: b) (one q lo ⟨fl xs ++ 200 :: b, (fl xs ++ 200 :: b).length, true⟩) := .inr rfl
  have h2 : ls_ q (fl xs) (one q lo ⟨fl xs, (fl xs).length, true⟩) := .inr rfl
  have hload := ls_load hl
  rw [hs, if_pos (show (xs, (fl xs).length).2 < _ by rw [List.length_append]; simp)] at hload
  have hload2 := ls_load h2
  rw [sc_all xs hx, if_neg (show ¬ (xs, (fl xs).length).2 < _ by simp)] at hload2
  obtain ⟨d4, h4⟩ := ls_add [] h2 (by simp) (by rw [show (pk []).length = 2 from by decide]; omega)
  refine ⟨_, _, d4, bs_appu q xs (200 :: b) (by simp; omega), one_syn lo_ne, ?_, hload2, by rw [ls_old h2, sc_all xs hx]; exact Nat.lt_irrefl _, h4⟩
  rw [hload]
  show (0, xs, one q lo ⟨(fl xs ++ 200 :: b).take (fl xs).length, (fl xs).length, true⟩) = _
  rw [List.take_left]

set_option maxRecDepth 100000 in
set_option maxHeartbeats 8000000 in
theorem recordLoads_c (a0 : Option Addr) (len0 cap0 : Nat) (a1 : Option Addr) (ca : Nat) (us : List Int) (w : World) (hz : Ar w a0 len0) (hc0 : len0 ≤ 9223372036854775807) (ha : Bz w a1 ca us) (la : us.length ≤ 140737488355328) (ka : us.length ≤ ca) :
    Calls Try.prog 16 #[.slice a0 len0 cap0, .slice a1 us.length ca] w fun e' w' => e' = .returned (.bool true) ∧ Kp0 w w' := by
  have h00 : (dk0 3000).load lo = (0, [], dk0 3000) := by
    have := ls_load (q := 3000) (bs := []) (.inl ⟨rfl, rfl⟩)
    rw [sc_nil] at this
    rw [this]; rfl
  have hl0 : (dk0 3000).lst = [] := by
    have := lst_len (dk0 3000)
    exact List.length_eq_zero_iff.1 this
  go_enter Try.func16, Try.ntmps16
  go_wp2_with fail
  refine (new19_c 3000 w).mono ?_
  rintro e w1 ⟨g, O, rfl, h1, hO, k1⟩
  have h1 : Fd w w1 g 0 O (dk0 3000) := ⟨h1, hO, k1⟩
  clear k1 hO
  go_wp2_with fail
  refine (fd_load h1 (p := lo) (by decide) (by omega) h00).mono ?_
  rintro e w2 ⟨v2, rfl, R2, f2, O2, F2, K2, hO2, _⟩
  obtain ⟨A2, c2, rfl⟩ := R2.len
  clear R2 f2 h1 K2 hO2
  have hls := list35_c g _ O2 _ (by omega) w2 F2.at_
  rw [hl0] at hls
  go_wp2_with fail
  refine hls.mono ?_
  rintro e w3 ⟨v3, rfl, o3, k3, _⟩
  obtain ⟨A3, c3, rfl⟩ := own_sl o3
  have F3 := F2.kp0 k3
  clear hls o3 F2 k3
  go_wp2_with fail
  go_loopw [8, 9] (fun s8 i wr => ∃ (xs : List (List Int)) (n : Nat) (O : Nat → Prop), xs.length ≤ 8 ∧ xs.length ≤ len0 ∧ i = .int .i64 (xs.length : Nat) ∧ s8 = .int .i64 ((fl xs).length : Nat) ∧ n ≤ 2 * xs.length + 1 ∧ Fd w wr g n O (bs_ 3000 xs) ∧ (∀ x ∈ xs, x.length ≤ 40)) (fun _ i _ => (8 - intOf i).toNat)
  case atStart => exact ⟨[], 0 + 1, O2, by simp, by simp, rfl, rfl, by simp, F3, by simp⟩
  case round =>
    obtain ⟨xs, n, O', hk, hk2, rfl, rfl, hn', F, hx40⟩ := hrel
    clear F3
    have hx : ∀ x ∈ xs, x.length ≤ 200 := fun x h => by have := hx40 x h; omega
    have hflx := fl_len xs hx
    go_upto_region 9 with fail
    go_cut [45] from 38 to 61 (fun s45 wx => s45 = .bool (decide (xs.length < len0 ∧ xs.length < 8)) ∧ wr = wx)
    case first =>
      clear F
      by_cases i1 : xs.length < len0
      · by_cases i2 : xs.length < 8
        · go_wp2_with fail
          go_meet
          exact ⟨congrArg Value.bool (by rw [decide_eq_decide]; omega), rfl⟩
        · go_wp2_with fail
          go_meet
          exact ⟨congrArg Value.bool (by rw [decide_eq_decide]; omega), rfl⟩
      · go_wp2_with fail
        go_meet
        exact ⟨congrArg Value.bool (decide_eq_false (fun h => i1 h.1)).symm, rfl⟩
    case rest =>
    obtain ⟨rfl, rfl⟩ := hcut
    by_cases hin : xs.length < len0 ∧ xs.length < 8
    · rw [decide_eq_true hin]
      obtain ⟨i1, i2⟩ := hin
      obtain ⟨b1, o1, A1, c1, bs, rfl, hb1, hcz, hbz, m1, m2⟩ := (hz.kp0 F.kp) _ i1
      have hcut := cutNz_c A1 c1 bs wr hbz (by omega) m1 40 (by decide)
      have hbyt : ∀ c ∈ bs.take 40, 0 ≤ c ∧ c ≤ 255 := fun c hc => hbz.byt c (List.mem_of_mem_take hc)
      have hxl : (bs.take 40).length ≤ 40 := by rw [List.length_take]; omega
      generalize bs.take 40 = x at hcut hbyt hxl
      clear hz
      go_wp2_with fail
      refine hcut.mono ?_
      rintro e w1 ⟨A, c, rfl, q1, K1, f1⟩
      have z1 := bz_own q1 rfl hbyt
      have F1 := F.kp0 K1
      have hpl := pk_len (show x.length ≤ 200 by omega)
      have hlen : (xs ++ [x]).length = xs.length + 1 := by simp
      have hfs : (fl (xs ++ [x])).length = (fl xs).length + (x.length + 2) := by rw [fl_snoc, List.length_append, hpl]
      have hx5 : ∀ y ∈ xs ++ [x], y.length ≤ 40 := fun y hy => by
        rcases List.mem_append.1 hy with h | h
        · exact hx40 y h
        · rw [List.mem_singleton.1 h]; exact hxl
      have he := bs_addu 3000 xs x (by omega) (by omega)
      obtain ⟨P, hP⟩ : ∃ P, (fl xs).length = P := ⟨_, rfl⟩
      rw [hP] at hfs hflx
      have hw1 : IntKind.i64.wrap ((x.length : Int) + 2) = (x.length : Int) + 2 := by rw [IntKind.wrap_i64]; omega
      have hw2 : IntKind.i64.wrap ((P : Int) + ((x.length : Int) + 2)) = ((P + (x.length + 2) : Nat) : Int) := by rw [IntKind.wrap_i64]; omega
      have HL := Lib.hid hlen
      have HP := Lib.hid hP
      have HFS := Lib.hid hfs
      try rw [hP]
      clear hcut hcz hbz q1 F K1 f1 hP hlen hfs hpl
      go_wp2_with fail
      refine (fd_add F1 (p := lo) (by decide) (by omega) (by omega) z1 he).mono ?_
      rintro e w3 ⟨rfl, O3, F3, _, _⟩
      clear F1 z1 he
      go_wp2
      go_roundw
      case rel => exact ⟨xs ++ [x], n + 2, O3, by rw [HL.out]; omega, by rw [HL.out]; omega, by rw [HL.out]; go_num, by rw [HFS.out]; simp, by rw [HL.out]; omega, F3, hx5⟩
      case measure => simp [intOf]; omega
    · rw [decide_eq_false hin]
      have hxl : xs.length = min len0 8 := by omega
      clear hz hin
      have ka' := ha.kp0 F.kp
      have ka4 : Kp0 wr (wr.alloc (.cells #[.int .u8 200] 5)) := (Kp.refl _ _).alloc _
      have B4 : Blk (wr.alloc (.cells #[.int .u8 200] 5)) wr.heap.size #[.int .u8 200] 5 := blk_new _ _ rfl
      have hcut := cutNz_c a1 ca us _ (ka'.kp0 ka4) (by omega) ka 30 (by decide)
      have hbyt : ∀ c ∈ us.take 30, 0 ≤ c ∧ c ≤ 255 := fun c hc => ha.byt c (List.mem_of_mem_take hc)
      have hjl : (us.take 30).length ≤ 30 := by rw [List.length_take]; omega
      generalize us.take 30 = j at hcut hbyt hjl
      have hfl2 : (fl xs).length ≤ 336 := by
        have : ∀ ys : List (List Int), (∀ y ∈ ys, y.length ≤ 40) → (fl ys).length ≤ ys.length * 42 := by
          intro ys hy
          induction ys with
          | nil => simp [fl_nil]
          | cons y ys ih =>
            have h1 := hy y (by simp)
            rw [fl_cons, List.length_append, pk_len (by omega), List.length_cons]
            have := ih (fun z hz => hy z (by simp [hz]))
            omega
        have := this xs hx40
        omega
      obtain ⟨d1, d2, d4, e1, e2, e3, e4, e5, e6⟩ := loads_law 3000 xs j hx hjl (by omega)
      have hall : ∀ y ∈ xs, y.length ≤ 140737488355328 := fun y hy => by have := hx y hy; omega
      have hused : (one 3000 lo ⟨fl xs, (fl xs).length, true⟩).used = (fl xs).length := one_used _ _ _
      have hF : (one 3000 lo ⟨fl xs, (fl xs).length, true⟩).F lo = some ⟨fl xs, (fl xs).length, true⟩ := one_F _ _ _
      have hfb : ∀ c ∈ fl xs, 0 ≤ c ∧ c ≤ 255 := by
        obtain ⟨bm, V, I⟩ := F.at_
        intro c hc
        cases xs with
        | nil => simp [fl_nil] at hc
        | cons x r =>
          obtain ⟨v, _, A, c', _, hb, _⟩ := I.yes lo ⟨fl (x :: r), (fl (x :: r)).length, true⟩ (one_F 3000 lo _)
          exact hb.byt c hc
      generalize one 3000 lo ⟨fl xs, (fl xs).length, true⟩ = dF at *
      have E1 := Lib.hid e1
      have E2 := Lib.hid e2
      have E3 := Lib.hid e3
      have E4 := Lib.hid e4
      have E5 := Lib.hid e5
      have E6 := Lib.hid e6
      have HU := Lib.hid hused
      have HF := Lib.hid hF
      have HX := Lib.hid hxl
      clear e1 e2 e3 e4 e5 e6 hused hF hxl ka' ha
      obtain ⟨jj, hjj⟩ : ∃ jj, 200 :: j = jj := ⟨_, rfl⟩
      have e9 : [Value.int .u8 200] ++ u8s j = u8s jj := by rw [← hjj]; rfl
      have hN : 1 + j.length = jj.length := by rw [← hjj]; simp; omega
      have hjb : ∀ c ∈ jj, 0 ≤ c ∧ c ≤ 255 := fun c hc => by
        rw [← hjj] at hc
        rcases List.mem_cons.1 hc with rfl | h
        · decide
        · exact hbyt c h
      rw [hjj] at E1
      have hO1 : ∀ i, O' i → i < wr.heap.size := F.at_.olt
      clear hjj hflx
      obtain ⟨P, hP⟩ : ∃ P, (fl xs).length = P := ⟨_, rfl⟩
      rw [hP] at hfl2
      have HP := Lib.hid hP
      try rw [hP]
      clear hP
      go_wp2_with fail
      refine hcut.mono ?_
      rintro e w5 ⟨A, c, rfl, q5, k5, f5⟩
      have z5 := bz_own q5 rfl hbyt
      have B5 := B4.kp0 k5
      clear hcut q5 f5
      go_wp2_with (at_builtin; refine app_any rfl (.tmp 62) (.tmp 64) rfl (.slice (some ⟨wr.heap.size, 0, none⟩) 1 1) 1 [.int .u8 200] rfl A j.length c j rfl rfl z5 (own_one B5) (by omega) ?_)
      intro v9 w9 o9 K9 b9
      obtain ⟨A9, c9, rfl⟩ := own_sl o9
      try rw [e9] at o9
      try rw [hN] at o9
      try rw [hN] at b9
      try rw [hN]
      have z9 := bz_own o9 rfl hjb
      have k39 : Kp0 wr w9 := (ka4.then0 k5).trans K9 (fun i hi e => by simp [Value.ownBlock] at e; omega)
      have hz5 := ka4.size
      have hz5' := k5.size
      have hO9 : ∀ b, A9 = some b → ¬ O' b.block := fun b hb h => by
        subst hb
        have := hO1 _ h
        rcases b9 with b9 | b9 <;> simp [Value.ownBlock] at b9 <;> omega
      have F9 := F.kp0 k39
      have hjl2 : jj.length ≤ 1000 := by omega
      clear F o9 K9 b9 k39 ka4 k5 z5 B4 B5 e9 hN hO1
      go_wp2_with fail
      refine (fd_app F9 (p := lo) (x := 0) (d2 := d1) (by decide) (by omega) (by omega) z9 (fun _ => hO9) E1.out).mono ?_
      rintro e w10 ⟨rfl, O10, F10⟩
      clear F9 z9 hO9
      go_wp2_with fail
      refine (fd_syn F10 (p := lo) (x := 0) (d2 := d2) (by decide) (by omega) E2.out).mono ?_
      rintro e w11 ⟨rfl, O11, F11⟩
      clear F10
      go_wp2_with fail
      refine (fd_load F11 (p := lo) (by decide) (by omega) E3.out).mono ?_
      rintro e w12 ⟨v12, rfl, L12, _, O12, F12, _, _, _⟩
      obtain ⟨A12, c12, rfl⟩ := L12.len
      clear F11
      have hrd := fd_read F12 (p := lo) (by decide) (fl xs) true (.inr ⟨_, HF.out, rfl, rfl⟩) (by rw [HP.out]; omega) hfb
      rw [HP.out] at hrd
      go_wp2_with fail
      refine hrd.mono ?_
      rintro e w13 ⟨A13, c13, rfl, _, F13, k13, _⟩
      have L13 := L12.kp0 k13
      clear F12 L12 k13 hrd
      go_upto_region 20 with fail
      have hxm := HX.out
      go_cut [104] from 85 to 104 (fun s wx => s = .bool false ∧ w13 = wx)
      case first =>
        clear F13 L13
        rcases Nat.lt_or_ge 8 len0 with h8 | h8
        · have hmin : ∀ W, (Builtin.min_ #[3, 3] 3 #[.int .i64 (len0 : Int), .int .i64 8]).run Try.prog W = .ok (.int .i64 8) W := fun W => by rw [run_min_int2, if_pos (by omega)]
          have ht : (((xs.length : Nat) : Int) != 8) = false := by rw [bne_eq_false_iff_eq]; omega
          clear h8 hxm hk2 h00 hl0 hk hn' hx40 hx hall hfb hjb hbyt hjl hfl2 hjl2 E1 E2 E3 E4 E5 E6 HU HF HX HP h1 la ka
          go_wp2_with fail
          go_meet
          exact ⟨rfl, rfl⟩
        · obtain rfl : len0 = xs.length := by omega
          have hmin : ∀ W, (Builtin.min_ #[3, 3] 3 #[.int .i64 (xs.length : Int), .int .i64 8]).run Try.prog W = .ok (.int .i64 (xs.length : Int)) W := fun W => by rw [run_min_int2, if_neg (by omega)]
          clear h8 hxm hk2 h00 hl0 hk hn' hx40 hx hall hfb hjb hbyt hjl hfl2 hjl2 E1 E2 E3 E4 E5 E6 HU HF HX HP h1 la ka
          go_wp2_with fail
          go_meet
          exact ⟨rfl, rfl⟩
      case rest =>
      obtain ⟨rfl, rfl⟩ := hcut
      clear hxm
      go_wp2_with fail
      refine (fd_load F13 (p := lo) (by decide) (by omega) E4.out).mono ?_
      rintro e w14 ⟨v14, rfl, L14, _, O14, F14, _, _, K14⟩
      have k14 := K14 E5.out
      have hsame := same58_c _ _ xs (by omega) hall w14 (L13.kp0 k14).rv L14.rv
      obtain ⟨A14, c14, rfl⟩ := L14.len
      clear F13 L13 L14 k14 K14
      go_wp2_with fail
      refine hsame.mono ?_
      rintro e w15 ⟨rfl, k15⟩
      have F15 := F14.kp0 k15
      clear hsame F14 k15
      have hus := used27_c g _ _ _ w15 F15.at_
      rw [HU.out, HP.out] at hus
      go_wp2_with fail
      refine hus.mono ?_
      rintro e w16 ⟨rfl, k16⟩
      have F16 := F15.kp0 k16
      clear hus F15 k16
      go_wp2_with fail
      refine (fd_add F16 (p := lo) (bs := []) (by decide) (by simp) (by omega) (.inl ⟨.inl ⟨rfl, rfl, rfl⟩, by simp⟩) E6.out).mono ?_
      rintro e w17 ⟨rfl, O17, F17, _, _⟩
      clear F16
      go_wp2_with fail
      refine (wakes59_c _).mono ?_
      rintro e w18 ⟨rfl, k18⟩
      have K := F17.kp.then0 k18
      clear F17 k18
      go_wp2
      go_ret
      exact ⟨rfl, K⟩

theorem recordLoads_w (a0 : Option Addr) (len0 cap0 : Nat) (a1 : Option Addr) (len1 cap1 : Nat) (z1 : List Int) (w : World) (h0 : Ar w a0 len0) (l0 : len0 ≤ 9223372036854775807) (h1 : IsInts .u8 w a1 len1 cap1 z1) (l1 : len1 * 1 ≤ 140737488351232) :
    Calls Try.prog 16 #[.slice a0 len0 cap0, .slice a1 len1 cap1] w fun e' w' => e' = .returned (.bool true) ∧ Below w.heap.size w w' := by
  obtain ⟨us, rfl, c1, b1⟩ := br_ints h1
  exact (recordLoads_c a0 len0 cap0 a1 cap1 us w h0 l0 b1 (by omega) c1).mono fun _ _ h => ⟨h.1, h.2.below0⟩
end Go.Proofs.Ytkokgbmeienokaa
