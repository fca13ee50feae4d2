/- RecordKept: the walk. -/
import Derived.Test.YtkokgbmeienokaaEc
import Derived.Test.YtkokgbmeienokaaDy
set_option linter.unusedVariables false
set_option linter.unusedSimpArgs false
set_option linter.unnecessarySimpa false
namespace Go.Proofs.Ytkokgbmeienokaa
open Go.RowKit

theorem Fd.seq {w w1 w2 : World} {g n m : Nat} {O O' : Nat → Prop} {d d2 : Dk} (h : Fd w w1 g n O d) (h1 : DkAt w2 g m O' d2) (h2 : ∀ i, O' i → O i ∨ w1.heap.size ≤ i) (k : Kp O w1 w2) : Fd w w2 g m O' d2 := by
  refine ⟨h1, fun i hi => ?_, h.kp.trans k (fun i hi e => by have := h.new i e; omega)⟩
  rcases h2 i hi with h3 | h3
  · exact h.new i h3
  · exact Nat.le_trans h.kp.size h3
theorem fd_add {w w1 : World} {g n : Nat} {O : Nat → Prop} {d d2 : Dk} {p : ByteArray} {x : Int} (h : Fd w w1 g n O d) (hp : p.size ≤ 100) {A : Option Addr} {c : Nat} {bs : List Int} (hl : bs.length ≤ 1000000) (hn : n ≤ 900000) (hb : Bz w1 A c bs) (he : d.add p bs = (x, d2)) :
    Calls Try.prog 62 #[.pointer (some ⟨g, 0, none⟩), .string p, .slice A bs.length c] w1 fun e w' => e = .returned (.int .i64 x) ∧ ∃ O', Fd w w' g (n + 2) O' d2 ∧ Kp O w1 w' ∧ (∀ i, O' i → O i ∨ w1.heap.size ≤ i) := by
  refine (add62_c g n O d p hp A c bs hl hn w1 h.at_ hb).mono ?_
  rintro e w' D
  rw [he] at D
  obtain ⟨O', rfl, h1, h2, k⟩ := D
  exact ⟨rfl, O', h.seq h1 h2 k, k, h2⟩
theorem fd_load {w w1 : World} {g n : Nat} {O : Nat → Prop} {d d2 : Dk} {p : ByteArray} {x : Int} {zs : List (List Int)} (h : Fd w w1 g n O d) (hp : p.size ≤ 100) (hn : n ≤ 900000) (he : d.load p = (x, zs, d2)) :
    Calls Try.prog 63 #[.pointer (some ⟨g, 0, none⟩), .string p] w1 fun e w' => ∃ v, e = .returned (.tuple #[v, .int .i64 x]) ∧ Rows w' v zs ∧ (∀ i, v.ownBlock = some i → w1.heap.size ≤ i) ∧ ∃ O', Fd w w' g (n + 1) O' d2 ∧ Kp O w1 w' ∧ (∀ i, O' i → O i ∨ w1.heap.size ≤ i) ∧ (¬ (sc (d.old p).b).2 < (d.old p).b.length → Kp0 w1 w') := by
  refine (load63_c g n O d p hp hn w1 h.at_).mono ?_
  rintro e w' ⟨L, k0⟩
  rw [he] at L
  obtain ⟨O', v, rfl, R, f, h1, h2, k⟩ := L
  exact ⟨v, rfl, R, f, O', h.seq h1 h2 k, k, h2, k0⟩
theorem own_zero {w : World} {B : Nat} {T : TypeId} (h : Blk w B #[] T) : w.ownsRow 0 T 1 (.slice (some ⟨B, 0, none⟩) 0 0) 0 [] :=
  ⟨by simp, .inr ⟨B, 0, #[], rfl, Nat.zero_le _, h, Nat.le_refl _, by unfold maxLen; omega, by simp, by simp⟩⟩
theorem lt_crash (d : Dk) (j k : Nat) : (lt d j).crash k = d.crash k := rfl
theorem dy_crash (d : Dk) (k : Nat) : (dy d).crash k = d.crash k := rfl
theorem s4 (xs : List (List Int)) (x : List Int) (hk : xs.length ≤ 10) (hx : ∀ x ∈ xs, x.length ≤ 200) (hx2 : x.length ≤ 30) : (fl xs).length + (pk x).length + 3 ≤ 4000 := by
  have := fl_len xs hx
  have := pk_len (show x.length ≤ 200 by omega)
  omega
/-- One more: it is added well, or it was the last one. -/
theorem kept_add (N : Nat) (xs : List (List Int)) (x : List Int) (hk : xs.length ≤ 10) (hx : ∀ x ∈ xs, x.length ≤ 200) (hx2 : x.length ≤ 30) :
    (∃ m, N = m + 2 ∧ (lt (bs_ 4000 xs) N).add lo x = (0, lt (bs_ 4000 (xs ++ [x])) m)) ∨
    ∃ d1, (lt (bs_ 4000 xs) N).add lo x = (7, d1) ∧ ∀ k, ∃ zs d2 d3 d4, (zs = xs ∨ zs = xs ++ [x]) ∧ (d1.crash k).load lo = (0, zs, d2) ∧ d2.load lo = (0, zs, d3) ∧ d3.add lo [5] = (0, d4) ∧ ¬ (sc (d2.old lo).b).2 < (d2.old lo).b.length := by
  have h4 := s4 xs x hk hx hx2
  obtain _ | _ | m := N
  · refine .inr ⟨_, bs_add0 4000 xs x (by omega) (by omega), fun k => ?_⟩
    obtain ⟨d2, d3, d4, h⟩ := kept_bs 4000 xs k hx (by omega)
    exact ⟨xs, d2, d3, d4, .inl rfl, h⟩
  · refine .inr ⟨_, bs_add1 4000 xs x (by omega) (by omega), fun k => ?_⟩
    exact kept_md 4000 xs x k hx (by omega) h4
  · exact .inl ⟨m, rfl, bs_add 4000 xs x m (by omega) (by omega)⟩

set_option maxRecDepth 100000 in
set_option maxHeartbeats 8000000 in
theorem recordKept_c (a0 : Option Addr) (len0 cap0 : Nat) (v1 v2 : Int) (w : World) (hz : Ar w a0 len0) (hc0 : len0 ≤ 9223372036854775807) :
    Calls Try.prog 15 #[.slice a0 len0 cap0, .int .i64 v1, .int .i64 v2] w fun e' w' => e' = .returned (.bool true) ∧ Kp0 w w' := by
  have heq : ∀ (w : World) (a : Option Addr) (n c : Nat), (binOp .eql 22 (.slice a n c) (.slice none 0 0)).run Try.prog w = .ok (.bool a.isNone) w := fun w a n c => Lib.run_eql_slice_nil w 22 5 a n c 0 0 rfl
  go_enter Try.func15, Try.ntmps15
  go_wp2_with fail
  refine (new19_c 4000 w).mono ?_
  rintro e w1 ⟨g, O, rfl, h1, hO, k1⟩
  have h1 : Fd w w1 g 0 O (dk0 4000) := ⟨h1, hO, k1⟩
  clear k1 hO
  go_wp2_with fail
  refine (within22_x v1 24 (by omega) (by omega) _).mono ?_
  rintro e w' ⟨N, hN, rfl, rfl⟩
  go_wp2_with fail
  refine (fd_fuse h1 N (by omega)).mono ?_
  rintro e w2 ⟨rfl, h2⟩
  clear h1
  go_wp2_with fail
  go_loopw [8, 10] (fun vw i wr => ∃ (xs : List (List Int)) (n : Nat) (O : Nat → Prop) (vs : List Value), xs.length ≤ 10 ∧ i = .int .i64 (xs.length : Nat) ∧ n ≤ 2 * xs.length ∧ (∃ m, Fd w wr g n O (lt (bs_ 4000 xs) m)) ∧ (∀ x ∈ xs, x.length ≤ 30) ∧ RowsAt wr vw xs vs ∧ Av vs xs O ∧ (∀ i, vw.ownBlock = some i → ¬ O i ∧ w.heap.size ≤ i)) (fun _ i _ => (10 - intOf i).toNat)
  case atStart => exact ⟨[], 0, O, [], by simp, rfl, by simp, ⟨N, h2⟩, by simp, ⟨World.ownsRow_nil _ _ _ _, rfl, fun j h => by simp at h⟩, Av.nil _, by simp [Value.ownBlock]⟩
  case round =>
    obtain ⟨xs, n, O', vs, hk, rfl, hn', ⟨m, F⟩, hx30, R, V, hvo⟩ := hrel
    clear h2
    have hx : ∀ x ∈ xs, x.length ≤ 200 := fun x h => by have := hx30 x h; omega
    have hall : ∀ y ∈ xs, y.length ≤ 140737488355328 := fun y hy => by have := hx y hy; omega
    obtain ⟨Aw, cw, hvw⟩ := own_sl R.1
    have hvl : vs.length = xs.length := R.2.1
    rw [hvl] at hvw
    subst hvw
    go_upto_region 8 with fail
    go_cut [31] from 24 to 52 (fun s31 wx => s31 = .bool (decide (xs.length < len0 ∧ xs.length < 10)) ∧ wr = wx)
    case first =>
      clear F R V
      by_cases i1 : xs.length < len0
      · by_cases i2 : xs.length < 10
        · go_wp2_with fail
          go_meet
          exact ⟨congrArg Value.bool (by rw [decide_eq_decide]; omega), rfl⟩
        · go_wp2_with fail
          go_meet
          exact ⟨congrArg Value.bool (by rw [decide_eq_decide]; omega), rfl⟩
      · go_wp2_with fail
        go_meet
        exact ⟨congrArg Value.bool (decide_eq_false (fun h => i1 h.1)).symm, rfl⟩
    case rest =>
    obtain ⟨rfl, rfl⟩ := hcut
    by_cases hin : xs.length < len0 ∧ xs.length < 10
    · rw [decide_eq_true hin]
      obtain ⟨i1, i2⟩ := hin
      obtain ⟨b1, o1, A1, c1, bs, rfl, hb1, hcz, hbz, m1, m2⟩ := (hz.kp0 F.kp) _ i1
      have hcut := cutNz_c A1 c1 bs wr hbz (by omega) m1 30 (by decide)
      have hbyt : ∀ c ∈ bs.take 30, 0 ≤ c ∧ c ≤ 255 := fun c hc => hbz.byt c (List.mem_of_mem_take hc)
      have hxl : (bs.take 30).length ≤ 30 := by rw [List.length_take]; omega
      generalize bs.take 30 = x at hcut hbyt hxl
      clear hz
      go_wp2_with fail
      refine hcut.mono ?_
      rintro e w1 ⟨A, c, rfl, q1, K1, f1⟩
      have z1 := bz_own q1 rfl hbyt
      have F1 := F.kp0 K1
      have R1 := R.kp0 K1
      have hO1 : ∀ i, O' i → i < wr.heap.size := F.at_.olt
      have lt1 := q1.lt
      have hAx : ∀ b, A = some b → wr.heap.size ≤ b.block ∧ b.block < w1.heap.size ∧ Aw.map (·.block) ≠ some b.block := fun b hb => by
        subst hb
        have h1 := f1 b.block (by simp [Value.ownBlock])
        have h2 := (lt1 b.block (by simp [Value.ownBlock])).2
        refine ⟨h1, h2, fun e => ?_⟩
        cases Aw with
        | none => simp at e
        | some aw =>
          simp at e
          have := (R.1.lt aw.block (by simp [Value.ownBlock])).2
          omega
      have hcp := own_cap q1
      clear hcut hcz hbz q1
      rcases kept_add m xs x (by omega) hx hxl with ⟨m', hm', he⟩ | ⟨d1, he, hkept⟩
      · go_wp2_with fail
        refine (fd_add F1 (p := lo) (by decide) (by omega) (by omega) z1 he).mono ?_
        rintro e w3 ⟨rfl, O3, F3, K3, hO3⟩
        have hvA : ∀ i, (Value.slice Aw xs.length cw).ownBlock = some i → ¬ O' i := fun i hi => (hvo i hi).1
        have R3 := R1.kp K3 hvA V
        have zx3 := z1.kp K3 (fun _ b hb h => by have := hO1 _ h; have := (hAx b hb).1; omega)
        have V3 := V.more R1 hO3
        have k4 : Kp0 w3 (w3.alloc (.cells #[.slice A x.length c] 22)) := (Kp.refl _ _).alloc _
        have R4 := R3.kp0 k4
        have zx4 := zx3.kp0 k4
        have ow4 := R4.1
        rw [hvl] at ow4
        clear he hm' R3 zx3
        go_wp2_with (at_builtin; refine list_app rfl (.tmp 49) (.tmp 51) 67 22 (.slice none 0 0) 1 24 rfl Try.underlying67 info22 rfl (by decide) (.slice Aw xs.length cw) xs.length vs rfl w3.heap.size 0 1 1 [.slice A x.length c] rfl rfl (by simp [Value.oneCell']) (Vw.of_blk (blk_new _ _ rfl)) ow4 (by omega) (by omega) ?_)
        intro vw5 w5 o5 K5 b5
        obtain ⟨Aw5, cw5, rfl⟩ := own_sl o5
        have hvi : ∀ i, (Value.slice Aw xs.length cw).ownBlock = some i → w.heap.size ≤ i ∧ i < wr.heap.size := fun i hi => ⟨(hvo i hi).2, (R.1.lt i hi).2⟩
        have z13 := K1.size
        have z3 := K3.size
        have z4 := k4.size
        have hnO : ∀ i, (Value.slice Aw xs.length cw).ownBlock = some i → ¬ O3 i := fun i hi h => by
          rcases hO3 i h with h | h
          · exact hvA i hi h
          · have := (hvi i hi).2; omega
        have F5 : ∃ m, Fd w w5 g (n + 2) O3 (lt (bs_ 4000 (xs ++ [x])) m) := ⟨m', ⟨(F3.at_.kp0 k4).kp K5 (fun i h hi => hnO i hi h), F3.new, (F3.kp.then0 k4).trans K5 (fun i hi h => by have := (hvi i h).1; omega)⟩⟩
        have R5 := R4.snoc zx4 hcp.1 hcp.2 (fun b _ hb hv => (hAx b hb).2.2 (by
          cases Aw with
          | none => simp [Value.ownBlock] at hv
          | some aw => simp [Value.ownBlock] at hv; simp [hv])) rfl o5 K5 (by simpa using b5)
        have V5 : Av (vs ++ [.slice A x.length c]) (xs ++ [x]) O3 := V3.snoc R.2.1 (fun _ b hb h => by
          have := hAx b hb
          rcases hO3 _ h with h | h
          · have := hO1 _ h; omega
          · omega)
        have hvo5 : ∀ i, (Value.slice Aw5 (xs.length + 1) cw5).ownBlock = some i → ¬ O3 i ∧ w.heap.size ≤ i := fun i hi => by
          rcases b5 with b5 | b5
          · rw [b5] at hi
            exact ⟨hnO i hi, (hvi i hi).1⟩
          · rw [b5] at hi
            injection hi with hi
            subst hi
            have h3 := F3.at_.olt
            have h4 := F3.kp.size
            exact ⟨fun h => by have := h3 _ h; omega, by omega⟩
        have hlen : (xs ++ [x]).length = xs.length + 1 := by simp
        have hx5 : ∀ y ∈ xs ++ [x], y.length ≤ 30 := fun y hy => by
          rcases List.mem_append.1 hy with h | h
          · exact hx30 y h
          · rw [List.mem_singleton.1 h]; exact hxl
        have HL := Lib.hid hlen
        clear F F1 R R1 V K1 f1 z1 R4 zx4 ow4 o5 K5 b5 hlen hAx lt1 hvo hvi hnO hO3 K3 V3 k4 F3 hx30 hx hall hvA hO1 hbyt
        go_wp2
        go_roundw
        case rel => exact ⟨xs ++ [x], n + 2, O3, _, by rw [HL.out]; omega, by rw [HL.out]; go_num, by rw [HL.out]; omega, F5, hx5, R5, V5, hvo5⟩
        case measure => simp [intOf]; omega
      · go_wp2_with fail
        refine (fd_add F1 (p := lo) (by decide) (by omega) (by omega) z1 he).mono ?_
        rintro e w3 ⟨rfl, O3, F3, K3, hO3⟩
        have hvA : ∀ i, (Value.slice Aw xs.length cw).ownBlock = some i → ¬ O' i := fun i hi => (hvo i hi).1
        have R3 := R1.kp K3 hvA V
        have zx3 := z1.kp K3 (fun _ b hb h => by have := hO1 _ h; have := (hAx b hb).1; omega)
        have V3 := V.more R1 hO3
        have hvB : ∀ i, (Value.slice Aw xs.length cw).ownBlock = some i → ¬ O3 i := fun i hi h => by
          rcases hO3 i h with h | h
          · exact hvA i hi h
          · have := (R1.1.lt i hi).2; omega
        have k4 : Kp0 w3 (w3.alloc (.cells #[] 5)) := (Kp.refl _ _).alloc _
        have B4 : Blk (w3.alloc (.cells #[] 5)) w3.heap.size #[] 5 := blk_new _ _ rfl
        have zx4 := zx3.kp0 k4
        have hO3l := F3.at_.olt
        clear he F F1 R R1 V K1 f1 z1 lt1 hvo hvA hO3 K3 hO1 hx30 hAx zx3
        go_wp2_with (at_builtin; refine app_any rfl (.tmp 46) (.tmp 47) rfl (.slice (some ⟨w3.heap.size, 0, none⟩) 0 0) 0 [] rfl A x.length c x rfl rfl zx4 (own_zero B4) (by omega) ?_)
        intro v9 w9 o9 K9 b9
        try simp only [Nat.zero_add, List.nil_append] at o9
        have hlast : ∃ b c9, v9 = .slice (some b) x.length c9 ∧ w3.heap.size ≤ b.block := by
          obtain ⟨A9, c9, rfl⟩ := own_sl o9
          cases A9 with
          | none => rcases b9 with b9 | b9 <;> simp [Value.ownBlock] at b9
          | some b =>
            refine ⟨b, c9, rfl, ?_⟩
            rcases b9 with b9 | b9 <;> simp [Value.ownBlock] at b9 <;> omega
        obtain ⟨b9', c9, rfl, hb9⟩ := hlast
        have zl := bz_own o9 rfl hbyt
        have K39 : Kp0 w3 w9 := k4.trans K9 (fun i hi e => by simp [Value.ownBlock] at e; omega)
        have F9 := F3.kp0 K39
        have R9 := R3.kp0 K39
        have hlO : ∀ b, some b9' = some b → ¬ O3 b.block := fun b hb h => by injection hb with hb; subst hb; have := hO3l _ h; omega
        have hl9 : b9'.block < w9.heap.size := (o9.lt b9'.block (by simp [Value.ownBlock])).2
        clear F3 R3 B4 k4 K9 b9 o9 K39 hO3l zx4
        go_wp2_with fail
        refine (within22_x v2 50 (by omega) (by omega) _).mono ?_
        rintro e w' ⟨kk, hkk, rfl, rfl⟩
        obtain ⟨zs, d2, d3, d4, hzs, e2, e3, e4, hno⟩ := hkept kk
        clear hkept
        have HNO := Lib.hid hno
        have HE2 := Lib.hid e2
        have HE3 := Lib.hid e3
        have HE4 := Lib.hid e4
        clear hno e2 e3 e4
        have HZ := Lib.hid hzs
        clear hzs
        go_wp2_with fail
        refine (fd_crash F9 kk (by omega) (by omega) rfl).mono ?_
        rintro e w13 ⟨rfl, O13, F13, K13, hO13⟩
        have R13 := R9.kp K13 hvB V3
        have V13 := V3.more R9 hO13
        have hvC : ∀ i, (Value.slice Aw xs.length cw).ownBlock = some i → ¬ O13 i := fun i hi h => by
          rcases hO13 i h with h | h
          · exact hvB i hi h
          · have := (R9.1.lt i hi).2; omega
        have zl13 := zl.kp K13 (fun _ b hb h => hlO b hb h)
        have hlO13 : ∀ b, some b9' = some b → ¬ O13 b.block := fun b hb h => by
          rcases hO13 _ h with h' | h'
          · exact hlO b hb h'
          · injection hb with hb; subst hb; omega
        clear zl hlO
        clear F9 R9 V3 K13 hO13
        go_wp2_with fail
        refine (fd_load F13 (p := lo) (by decide) (by omega) HE2.out).mono ?_
        rintro e w14 ⟨v14, rfl, L14, f14, O14, F14, K14, hO14, _⟩
        have R14 := R13.kp K14 hvC V13
        have zl14 := zl13.kp K14 (fun _ b hb h => hlO13 b hb h)
        clear zl13 hlO13
        obtain ⟨A14, c14, rfl⟩ := L14.len
        clear F13 R13 V13 hvC K14 hO14 f14
        go_wp2_with fail
        refine (fd_load F14 (p := lo) (by decide) (by omega) HE3.out).mono ?_
        rintro e w15 ⟨v15, rfl, L15, f15, O15, F15, _, _, K15⟩
        have k15 := K15 HNO.out
        obtain ⟨A15, c15, rfl⟩ := L15.len
        have R15 := R14.kp0 k15
        have L15' := L14.kp0 k15
        have zl15 := zl14.kp0 k15
        clear zl14
        clear F14 L14 R14 k15 K15 f15 HNO HE2 HE3
        rcases HZ.out with hzz | hzz
        · replace hzz := hzz.symm
          subst hzz
          have hallz := hall
          have hzl : xs.length ≤ 2000000 := by omega
          have hle : xs.length ≤ xs.length := Nat.le_refl _
          have htk : xs.take xs.length = xs := List.take_length ..
          clear HZ
          clear zl15
          have hall2 : ∀ y ∈ xs, y.length ≤ 140737488355328 := hallz
          have hsame := same58_c _ _ xs hzl hall2 w15 L15'.rv L15.rv
          obtain ⟨v16, hsl, hv16⟩ := run_rowshi L15'.rv xs.length hle
          rw [htk] at hv16
          have hw1 : IntKind.i64.wrap ((xs.length : Int) + 1) = (xs.length : Int) + 1 := by rw [IntKind.wrap_i64]; omega
          have hvr := Rows.rv ⟨vs, R15⟩
          clear L15 L15' R15 hall2
          obtain ⟨L, hL⟩ : ∃ L, xs.length = L := ⟨_, rfl⟩
          have HL := Lib.hid hL
          rw [hL] at hw1 hsl hk hn' hsame hvr ⊢
          clear hL
          go_wp2_with fail
          refine hsame.mono ?_
          rintro e w16 ⟨rfl, k16⟩
          have hsame2 := same58_c v16 _ xs (by rw [HL.out]; omega) hall w16 (hv16.kp0 k16) (hvr.kp0 k16)
          have F16 := F15.kp0 k16
          clear hsame hv16 hvr F15 k16
          go_wp2_with fail
          refine hsame2.mono ?_
          rintro e w17 ⟨rfl, k17⟩
          have F17 := F16.kp0 k17
          clear hsame2 F16 k17 hsl
          have F18 := F17
          clear F17
          go_wp2_with fail
          have k19 : Kp0 w17 (w17.alloc (.cells #[.int .u8 5] 5)) := (Kp.refl _ _).alloc _
          refine (fd_add (F18.kp0 k19) (p := lo) (bs := [5]) (by decide) (by simp) (by omega) (one_bz (blk_new _ _ rfl) (by omega)) HE4.out).mono ?_
          rintro e w20 ⟨rfl, O20, F20, _, _⟩
          clear F18 k19 HE4
          go_wp2_with fail
          refine (wakes59_c _).mono ?_
          rintro e w21 ⟨rfl, k21⟩
          have K := F20.kp.then0 k21
          clear F20 k21
          go_wp2
          go_ret
          exact ⟨rfl, K⟩
        · replace hzz := hzz.symm
          subst hzz
          have hlen2 : (xs ++ [x]).length = xs.length + 1 := by simp
          have hallz : ∀ y ∈ xs ++ [x], y.length ≤ 140737488355328 := fun y hy => by
            rcases List.mem_append.1 hy with h | h
            · exact hall y h
            · rw [List.mem_singleton.1 h]; omega
          have hzl : (xs ++ [x]).length ≤ 2000000 := by omega
          have hle : xs.length ≤ (xs ++ [x]).length := by omega
          have htk : (xs ++ [x]).take xs.length = xs := by simp
          clear HZ
          have hall2 : ∀ y ∈ (xs ++ [x]), y.length ≤ 140737488355328 := hallz
          have hsame := same58_c _ _ (xs ++ [x]) hzl hall2 w15 L15'.rv L15.rv
          obtain ⟨v16, hsl, hv16⟩ := run_rowshi L15'.rv xs.length hle
          rw [htk] at hv16
          have hw1 : IntKind.i64.wrap ((xs.length : Int) + 1) = (xs.length : Int) + 1 := by rw [IntKind.wrap_i64]; omega
          obtain ⟨A0, c0, he0, _, _, hrow⟩ := L15'.rv
          injection he0 with he0 _ hcc
          subst hcc
          obtain ⟨b0, off0, A20, c20, hA0, hb0, hcell, hz20, m20, _⟩ := hrow xs.length (by simp)
          have hget : (xs ++ [x])[xs.length]'(by simp) = x := by simp
          rw [hget] at hcell hz20 m20
          subst he0
          subst hA0
          clear hrow hget
          have hvr := Rows.rv ⟨vs, R15⟩
          clear L15 L15' R15 hall2
          rw [hlen2] at hsame hsl ⊢
          obtain ⟨L, hL⟩ : ∃ L, xs.length = L := ⟨_, rfl⟩
          have HL := Lib.hid hL
          rw [hL] at hw1 hsl hk hn' hsame hvr ⊢
          rw [hL] at hcell
          clear hL
          go_wp2_with fail
          go_fit hsame
          rintro e w16 ⟨rfl, k16⟩
          have hsame2 := same58_c v16 _ xs (by rw [HL.out]; omega) hall w16 (hv16.kp0 k16) (hvr.kp0 k16)
          have F16 := F15.kp0 k16
          have hcell16 : w16.cell? ⟨b0, off0 + L, none⟩ = some (.slice A20 x.length c20) := (k16.below0.cell (p := ⟨b0, off0 + L, none⟩) hb0).trans hcell
          have zx16 := hz20.kp0 k16
          have zl16 := zl15.kp0 k16
          have hb016 := Nat.lt_of_lt_of_le hb0 k16.size
          clear hcell hz20 zl15
          clear hsame hv16 hvr F15 k16
          go_wp2_with fail
          refine hsame2.mono ?_
          rintro e w17 ⟨rfl, k17⟩
          have F17 := F16.kp0 k17
          have hcell17 : w17.cell? ⟨b0, off0 + L, none⟩ = some (.slice A20 x.length c20) := (k17.below0.cell (p := ⟨b0, off0 + L, none⟩) hb016).trans hcell16
          have hsame3 := same26_c A20 c20 (some b9') c9 x (by omega) w17 (zx16.kp0 k17) (zl16.kp0 k17)
          clear hcell16 zx16 zl16
          clear hsame2 F16 k17 hsl
          go_wp2_with fail
          refine hsame3.mono ?_
          rintro e w18 ⟨rfl, k18⟩
          have F18 := F17.kp0 k18
          clear hsame3 F17 k18 hcell17
          go_wp2_with fail
          have k19 : Kp0 w18 (w18.alloc (.cells #[.int .u8 5] 5)) := (Kp.refl _ _).alloc _
          refine (fd_add (F18.kp0 k19) (p := lo) (bs := [5]) (by decide) (by simp) (by omega) (one_bz (blk_new _ _ rfl) (by omega)) HE4.out).mono ?_
          rintro e w20 ⟨rfl, O20, F20, _, _⟩
          clear F18 k19 HE4
          go_wp2_with fail
          refine (wakes59_c _).mono ?_
          rintro e w21 ⟨rfl, k21⟩
          have K := F20.kp.then0 k21
          clear F20 k21
          go_wp2
          go_ret
          exact ⟨rfl, K⟩
    · rw [decide_eq_false hin]
      clear hz hin
      have hkept := fun k => kept_bs 4000 xs k hx (by have := fl_len xs hx; omega)
      have hvB : ∀ i, (Value.slice Aw xs.length cw).ownBlock = some i → ¬ O' i := fun i hi => (hvo i hi).1
      go_wp2_with fail
      refine (within22_x v2 50 (by omega) (by omega) _).mono ?_
      rintro e w' ⟨kk, hkk, rfl, rfl⟩
      obtain ⟨d2, d3, d4, e2, e3, e4, hno⟩ := hkept kk
      clear hkept
      have HNO := Lib.hid hno
      have HE2 := Lib.hid e2
      have HE3 := Lib.hid e3
      have HE4 := Lib.hid e4
      clear hno e2 e3 e4
      go_wp2_with fail
      refine (fd_crash F kk (by omega) (by omega) rfl).mono ?_
      rintro e w13 ⟨rfl, O13, F13, K13, hO13⟩
      have R13 := R.kp K13 hvB V
      have V13 := V.more R hO13
      have hvC : ∀ i, (Value.slice Aw xs.length cw).ownBlock = some i → ¬ O13 i := fun i hi h => by
        rcases hO13 i h with h | h
        · exact hvB i hi h
        · have := (R.1.lt i hi).2; omega
      clear F R V K13 hO13
      go_wp2_with fail
      refine (fd_load F13 (p := lo) (by decide) (by omega) HE2.out).mono ?_
      rintro e w14 ⟨v14, rfl, L14, f14, O14, F14, K14, hO14, _⟩
      have R14 := R13.kp K14 hvC V13
      obtain ⟨A14, c14, rfl⟩ := L14.len
      clear F13 R13 V13 hvC K14 hO14 f14
      go_wp2_with fail
      refine (fd_load F14 (p := lo) (by decide) (by omega) HE3.out).mono ?_
      rintro e w15 ⟨v15, rfl, L15, f15, O15, F15, _, _, K15⟩
      have k15 := K15 HNO.out
      obtain ⟨A15, c15, rfl⟩ := L15.len
      have R15 := R14.kp0 k15
      have L15' := L14.kp0 k15
      clear F14 L14 R14 k15 K15 f15 HNO HE2 HE3
      have hallz := hall
      have hzl : xs.length ≤ 2000000 := by omega
      have hle : xs.length ≤ xs.length := Nat.le_refl _
      have htk : xs.take xs.length = xs := List.take_length ..
      have hall2 : ∀ y ∈ xs, y.length ≤ 140737488355328 := hallz
      have hsame := same58_c _ _ xs hzl hall2 w15 L15'.rv L15.rv
      obtain ⟨v16, hsl, hv16⟩ := run_rowshi L15'.rv xs.length hle
      rw [htk] at hv16
      have hw1 : IntKind.i64.wrap ((xs.length : Int) + 1) = (xs.length : Int) + 1 := by rw [IntKind.wrap_i64]; omega
      have hvr := Rows.rv ⟨vs, R15⟩
      clear L15 L15' R15 hall2
      obtain ⟨L, hL⟩ : ∃ L, xs.length = L := ⟨_, rfl⟩
      have HL := Lib.hid hL
      rw [hL] at hw1 hsl hk hn' hsame hvr ⊢
      clear hL
      go_wp2_with fail
      refine hsame.mono ?_
      rintro e w16 ⟨rfl, k16⟩
      have hsame2 := same58_c v16 _ xs (by rw [HL.out]; omega) hall w16 (hv16.kp0 k16) (hvr.kp0 k16)
      have F16 := F15.kp0 k16
      clear hsame hv16 hvr F15 k16
      go_wp2_with fail
      refine hsame2.mono ?_
      rintro e w17 ⟨rfl, k17⟩
      have F17 := F16.kp0 k17
      clear hsame2 F16 k17 hsl
      have F18 := F17
      clear F17
      go_wp2_with fail
      have k19 : Kp0 w17 (w17.alloc (.cells #[.int .u8 5] 5)) := (Kp.refl _ _).alloc _
      refine (fd_add (F18.kp0 k19) (p := lo) (bs := [5]) (by decide) (by simp) (by omega) (one_bz (blk_new _ _ rfl) (by omega)) HE4.out).mono ?_
      rintro e w20 ⟨rfl, O20, F20, _, _⟩
      clear F18 k19 HE4
      go_wp2_with fail
      refine (wakes59_c _).mono ?_
      rintro e w21 ⟨rfl, k21⟩
      have K := F20.kp.then0 k21
      clear F20 k21
      go_wp2
      go_ret
      exact ⟨rfl, K⟩

theorem recordKept_w (a0 : Option Addr) (len0 cap0 : Nat) (v1 v2 : Int) (w : World) (h0 : Ar w a0 len0) (l0 : len0 ≤ 9223372036854775807) (h1 : (Lit.int .i64 v1).wf = true) (h2 : (Lit.int .i64 v2).wf = true) :
    Calls Try.prog 15 #[.slice a0 len0 cap0, .int .i64 v1, .int .i64 v2] w fun e' w' => e' = .returned (.bool true) ∧ Below w.heap.size w w' :=
  (recordKept_c a0 len0 cap0 v1 v2 w h0 l0).mono fun _ _ h => ⟨h.1, h.2.below0⟩
end Go.Proofs.Ytkokgbmeienokaa
