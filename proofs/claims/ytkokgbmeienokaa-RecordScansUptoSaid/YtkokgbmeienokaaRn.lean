/- RecordScans: the walk. -/
import Derived.Test.YtkokgbmeienokaaRk
import Derived.Test.YtkokgbmeienokaaRm
set_option linter.unusedVariables false
set_option linter.unusedSimpArgs false
namespace Go.Proofs.Ytkokgbmeienokaa
open Go.RowKit

theorem own_cut {w : World} {A : Option Addr} {n m c : Nat} {bs : List Int} (h : w.ownsRow 0 5 1 (.slice A n c) n (u8s bs)) (hm : m ≤ n) : w.ownsRow 0 5 1 (.slice A m c) m (u8s (bs.take m)) := by
  have hl : bs.length = n := by have := h.1; simpa using this
  obtain ⟨h1, ⟨e, h2⟩ | ⟨g, cap, cur, e, h6, h3, h4, h5, h7, h8⟩⟩ := h
  · injection e with e1 e2 e3
    subst e1; subst e3
    obtain rfl : n = 0 := e2
    obtain rfl : m = 0 := by omega
    simpa using World.ownsRow_nil w 0 5 1
  · injection e with e1 e2 e3
    subst e1; subst e3
    refine ⟨by simp; omega, .inr ⟨g, c, cur, rfl, h6, h3, by omega, h5, h7, ?_⟩⟩
    have h8' : cur.toList.take (n * 1) = bs.map (Value.int .u8 ·) := h8
    rw [u8s, List.map_take, ← h8', List.take_take]
    congr 1
    omega

theorem run_hi22 (a : Option Addr) (len cap hi : Nat) (h : hi ≤ cap) (hm : cap ≤ 9223372036854775807) : ∀ W, (Instr.sliceAt 22 (.slice a len cap) none (some (.int .i64 (hi : Int))) none).run Try.prog W = .ok (.slice a hi cap) W := by
  intro W
  have hu : Try.prog.underlying 22 = some (.slice (Try.prog.elem 22)) := by kernel_rfl
  have hs : (sizeOf (Try.prog.elem 22)).run Try.prog W = .ok 1 W := by kernel_rfl
  rw [run_sliceAt_slice _ _ _ _ _ _ hu, run_slice_h _ _ _ _ _ hu _ _ (by omega) (by omega), hs]
  simp only [Result.andThen, Int.toNat_natCast]
  have hA : (if cap = 0 then a else a.map (·.add (0 * 1))) = a := by
    split
    · rfl
    · cases a with
      | none => rfl
      | some a => simp [Addr.add]
  unfold sliced
  rw [hA]
  rfl

theorem xor_rng {y b : Int} (h1 : 0 ≤ y) (h2 : y ≤ 255) (h3 : 0 ≤ b) (h4 : b < 256) : 0 ≤ bits .xor .u8 y b ∧ bits .xor .u8 y b ≤ 255 := by
  rw [u8_xor y b h1 (by omega) h3 h4]
  have := Nat.xor_lt_two_pow (x := y.toNat) (y := b.toNat) (n := 8) (by omega) (by omega)
  omega

theorem own_len (A : Option Addr) (n m c c' : Nat) : (Value.slice A n c).ownBlock = (Value.slice A m c').ownBlock := by cases A <;> rfl

theorem made_n (k : Nat) (hk : k ≤ 1000) (w : World) : ∃ w', (Instr.makeSlice 22 (.int .i64 (k : Int)) (.int .i64 (k : Int))).run Try.prog w = .ok (.slice (some ⟨w.heap.size, 0, none⟩) k k) w' ∧ Bz w' (some ⟨w.heap.size, 0, none⟩) k (List.replicate k 0) ∧ Kp0 w w' := by
  obtain ⟨i0, hi, hzz⟩ := Option.map_eq_some_iff.1 info5'
  simp only [Prod.mk.injEq] at hzz
  obtain ⟨hz0, hz1, hz2⟩ := hzz
  obtain ⟨w', h1, h2, h3⟩ := run_make_full (P := Try.prog) w 0 22 5 i0 (.int .u8 0) 1 Try.underlying22 hi hz0 hz1 .i64 .i64 k (by rw [hz2]; omega) (by unfold maxLen; omega) (Nat.zero_le _)
  refine ⟨w', h1, bz_own (n := k) (bs := List.replicate k 0) ?_ (by rw [List.length_replicate]) (by intro c hc; rw [List.mem_replicate] at hc; omega), (Kp.refl _ _).grown h3 (fun k hk _ => by cases hk)⟩
  have e : (madeCells (Value.int .u8 0).cells (k * 1)).toList = u8s (List.replicate k 0) := by
    show (madeCells #[Value.int .u8 0] (k * 1)).toList = _
    rw [toList_madeCells_one, u8s, List.map_replicate, Nat.mul_one]
  rw [e] at h2
  rw [List.length_replicate]
  exact h2

theorem sc_sum (bs : List Int) : (sc bs).1.length ≤ bs.length ∧ (sc bs).2 ≤ bs.length ∧ ∀ x ∈ (sc bs).1, x.length ≤ bs.length := by
  suffices h : ∀ n, ∀ bs : List Int, bs.length = n → (sc bs).1.length ≤ bs.length ∧ (sc bs).2 ≤ bs.length ∧ ∀ x ∈ (sc bs).1, x.length ≤ bs.length from h _ bs rfl
  intro n
  induction n using Nat.strongRecOn with
  | _ n ih =>
    intro bs hb
    have hw := wh_bd bs
    by_cases hz : wh bs = 0
    · rw [sc_stop hz]; simp
    · have h2 := hw.2 hz
      obtain ⟨a1, a2, a3⟩ := ih (bs.drop (wh bs)).length (by rw [List.length_drop]; omega) _ rfl
      rw [List.length_drop] at a1 a2 a3
      rw [sc_go hz]
      refine ⟨by simp only [List.length_cons]; omega, by show wh bs + _ ≤ _; omega, fun x hx => ?_⟩
      rcases List.mem_cons.1 hx with rfl | hx
      · rw [List.length_drop, List.length_take]; omega
      · have := a3 x hx; omega

structure Cs (w wr : World) (v : Value) (cs : List Int) (B : Nat) : Prop where
  row : wr.ownsRow 0 5 1 v cs.length (u8s cs)
  byt : ∀ c ∈ cs, 0 ≤ c ∧ c ≤ 255
  len : cs.length ≤ B
  fr : ∀ i, v.ownBlock = some i → w.heap.size ≤ i
  k : Kp0 w wr

set_option maxRecDepth 100000 in
set_option maxHeartbeats 8000000 in
theorem recordScans_c (a0 : Option Addr) (len0 cap0 : Nat) (a1 : Option Addr) (cap1 : Nat) (bs1 : List Int) (v2 v3 : Int) (raw : Bool) (v5 : Int) (w : World) (hz : Ar w a0 len0) (hc0 : len0 ≤ 9223372036854775807)
    (hb1 : Bz w a1 cap1 bs1) (hl1 : bs1.length ≤ 1048576) (hc1 : bs1.length ≤ cap1) (hm1 : cap1 ≤ 9223372036854775807) :
    Calls Try.prog 14 #[.slice a0 len0 cap0, .slice a1 bs1.length cap1, .int .i64 v2, .int .i64 v3, .bool raw, .int .i64 v5] w fun e' w' => e' = .returned (.bool true) ∧ Kp0 w w' := by
  go_enter Try.func14, Try.ntmps14
  go_upto_if 24 with fail
  go_cut [1, 24] from 13 to 81 (fun s1 s24 wx => s24 = .bool (!raw) ∧ ∃ A c bs, s1 = .slice A bs.length c ∧ Bz wx A c bs ∧ bs.length ≤ 1048576 ∧ bs.length ≤ c ∧ c ≤ 9223372036854775807 ∧ Kp0 w wx)
  case first =>
    cases raw with
    | true =>
      go_wp2_with fail
      go_meet
      exact ⟨rfl, a1, cap1, bs1, rfl, hb1, hl1, hc1, hm1, Kp.refl _ _⟩
    | false =>
      rw [Bool.not_false]
      go_wp2_with fail
      go_loopw [13, 14] (fun v i wr => ∃ (k : Nat) (cs : List Int), k ≤ 8 ∧ i = .int .i64 k ∧ Cs w wr v cs (k * 32)) (fun _ i _ => (8 - intOf i).toNat)
      case atStart => exact ⟨0, [], by decide, rfl, World.ownsRow_nil _ _ _ _, by simp, by simp, by simp [Value.ownBlock], Kp.refl _ _⟩
      case round =>
        obtain ⟨k, cs, hk, rfl, C⟩ := hrel
        obtain ⟨Ac, cc, rfl⟩ := own_sl C.row
        have hcl := C.len
        go_upto_region 4 with fail
        go_cut [32] from 25 to 42 (fun s32 wx => s32 = .bool (decide (k < len0 ∧ k < 8)) ∧ wr = wx)
        case first =>
          clear C
          by_cases i1 : k < len0
          · by_cases i2 : k < 8
            · go_wp2_with fail
              go_meet
              exact ⟨congrArg Value.bool (by rw [decide_eq_decide]; omega), rfl⟩
            · go_wp2_with fail
              go_meet
              exact ⟨congrArg Value.bool (by rw [decide_eq_decide]; omega), rfl⟩
          · go_wp2_with fail
            go_meet
            exact ⟨congrArg Value.bool (decide_eq_false (fun h => i1 h.1)).symm, rfl⟩
        case rest =>
        obtain ⟨rfl, rfl⟩ := hcut
        by_cases hin : k < len0 ∧ k < 8
        · rw [decide_eq_true hin]
          obtain ⟨i1, i2⟩ := hin
          obtain ⟨b1, o1, A1, c1, bs, rfl, hbb, hcz, hbz, m1, m2⟩ := (hz.kp0 C.k) _ i1
          have hcut := cutNz_c A1 c1 bs wr hbz (by omega) m1 30 (by decide)
          have hbyt : ∀ c ∈ bs.take 30, 0 ≤ c ∧ c ≤ 255 := fun c hc => hbz.byt c (List.mem_of_mem_take hc)
          have hxl : (bs.take 30).length ≤ 30 := by rw [List.length_take]; omega
          generalize bs.take 30 = x at hcut hbyt hxl
          clear hz hb1
          go_wp2_with fail
          refine hcut.mono ?_
          rintro e w1 ⟨A, c, rfl, q1, K1, f1⟩
          have hpk := record_c A c x w1 (bz_own q1 rfl hbyt) (by omega)
          have hpl := pk_len (x := x) (by omega)
          clear hcz hcut hbz q1
          go_wp2_with fail
          refine hpk.mono ?_
          rintro e w2 ⟨P, pc, rfl, q2, K2, f2⟩
          have zp := bz_own q2 rfl (pk_byt hbyt)
          have ob := own_kp C.row (K1.then0 K2) (fun _ _ h => h)
          have HPL := Lib.hid hpl
          clear hpk q2 hpl
          go_wp2_with (at_builtin; refine app_any rfl (.tmp 35) (.tmp 41) rfl (.slice Ac cs.length cc) cs.length _ rfl P (pk x).length pc (pk x) rfl rfl zp ob (by have := HPL.out; omega) ?_)
          intro vb3 w3 o3 K3 b3
          have C3 : Cs w w3 vb3 (cs ++ pk x) ((k + 1) * 32) := by
            refine ⟨by rw [List.length_append, u8s, List.map_append]; exact o3, fun c hc => ?_, by rw [List.length_append, HPL.out]; omega, fun i hi => ?_, ?_⟩
            · rcases List.mem_append.1 hc with h | h
              · exact C.byt c h
              · exact pk_byt hbyt c h
            · rcases b3 with b | b
              · exact C.fr i (b ▸ hi)
              · rw [b] at hi; injection hi with hi; have := ((C.k.then0 K1).then0 K2).size; omega
            · exact ((C.k.then0 K1).then0 K2).trans K3 (fun i hi h => by have := C.fr i h; omega)
          clear C K1 K2 K3 b3 o3 ob zp f1 f2 HPL
          go_wp2
          go_roundw
          case rel => exact ⟨k + 1, _, by omega, by go_num, C3⟩
          case measure => simp [intOf]; omega
        · rw [decide_eq_false hin]
          clear hz hin
          have hcl2 : cs.length ≤ 256 := by omega
          go_wp2_with fail
          refine (within22_x v2 _ (by omega) (by omega) _).mono ?_
          rintro e w' ⟨n1, hn1, rfl, rfl⟩
          go_upto_if 52 with fail
          go_cut [13] from 53 to 55 (fun s13 wx => ∃ A c cs', s13 = .slice A cs'.length c ∧ Cs w wx (.slice A cs'.length c) cs' 256 ∧ wr = wx)
          case first =>
            have hcap := own_cap C.row
            by_cases hlt : n1 < cs.length
            · have hhi := run_hi22 Ac cs.length cc n1 (by omega) hcap.2
              have hlen : (cs.take n1).length = n1 := by rw [List.length_take]; omega
              have HL := Lib.hid hlen
              have row2 := own_cut C.row (m := n1) (by omega)
              have C2 : Cs w wr (.slice Ac (cs.take n1).length cc) (cs.take n1) 256 := ⟨by rw [hlen]; exact row2, fun c hc => C.byt c (List.mem_of_mem_take hc), by rw [hlen]; omega, fun i hi => C.fr i ((own_len Ac cs.length (cs.take n1).length cc cc).trans hi), C.k⟩
              clear hlen row2 C
              go_wp2_with fail
              go_meet
              exact ⟨Ac, cc, cs.take n1, by rw [HL.out], C2, rfl⟩
            · have C2 : Cs w wr (.slice Ac cs.length cc) cs 256 := ⟨C.row, C.byt, hcl2, C.fr, C.k⟩
              clear C
              go_wp2_with fail
              go_meet
              exact ⟨Ac, cc, cs, rfl, C2, rfl⟩
          case rest =>
            clear C hcl hcl2 hn1
            obtain ⟨Ac, cc, cs, rfl, C, rfl⟩ := hcut
            have hcl2 := C.len
            have hcap := own_cap C.row
            go_wp2_with fail
            refine (within22_x v3 _ (by omega) (by omega) _).mono ?_
            rintro e w' ⟨n2, hn2, rfl, rfl⟩
            go_upto_if 66 with fail
            go_cut [13] from 56 to 77 (fun s13 wx => ∃ cs', s13 = .slice Ac cs'.length cc ∧ Cs w wx (.slice Ac cs'.length cc) cs' 256)
            case first =>
              by_cases hlt : n2 < 8 * cs.length
              · obtain ⟨j, hj⟩ : ∃ j : Nat, n2 / 8 = j := ⟨_, rfl⟩
                obtain ⟨r, hr⟩ : ∃ r : Nat, n2 % 8 = r := ⟨_, rfl⟩
                have hjl : j < cs.length := by omega
                have hr8 : r < 8 := by omega
                have hd : (n2 : Int) / 8 = (j : Int) := by omega
                have hmm : (n2 : Int) % 8 = (r : Int) := by omega
                have hlt' : (n2 : Int) < 8 * (cs.length : Int) := by omega
                rcases own_shape C.row with ⟨_, h0, _⟩ | ⟨q, cap, e1, p1, p2, p3, p4⟩
                · omega
                injection e1 with e1 e2 e3
                subst e1; subst e3
                have hcq : wr.cell? ⟨q, j, none⟩ = some (.int .u8 (cs[j])) := by
                  rw [p4 j (by omega), List.getElem?_map, List.getElem?_eq_getElem hjl]; rfl
                have hby := C.byt _ (List.getElem_mem hjl)
                have hfq := C.row.frozenAt j
                have hEnd : ∀ z : Int, 0 ≤ z → z ≤ 255 → ∃ cs' : List Int, Value.slice (some ⟨q, 0, none⟩) cs.length cc = .slice (some ⟨q, 0, none⟩) cs'.length cc ∧ Cs w (wr.setCell ⟨q, j, none⟩ (.int .u8 z)) (.slice (some ⟨q, 0, none⟩) cs'.length cc) cs' 256 := by
                  intro z hz0 hz1
                  have em : (u8s cs).set j (.int .u8 z) = u8s (cs.set j z) := by rw [u8s, u8s, List.map_set]
                  have o6 := (C.row.stored j (.int .u8 z)).1
                  rw [em] at o6
                  refine ⟨cs.set j z, by rw [List.length_set], by rw [List.length_set]; exact o6, fun c hc => ?_, by rw [List.length_set]; exact C.len, fun i hi => C.fr i (by simpa [Value.ownBlock] using hi), C.k.setCell (p := ⟨q, j, none⟩) (fun h => by have := C.fr q (by simp [Value.ownBlock]); simp at h; omega) _⟩
                  rcases List.mem_or_eq_of_mem_set hc with h | h
                  · exact C.byt c h
                  · subst h; exact ⟨hz0, hz1⟩
                have HE := Lib.hid hEnd
                clear hEnd C p4 hj hr
                generalize cs[j] = y at hcq hby
                obtain ⟨hy0, hy1⟩ := hby
                obtain rfl | rfl | rfl | rfl | rfl | rfl | rfl | rfl : r = 0 ∨ r = 1 ∨ r = 2 ∨ r = 3 ∨ r = 4 ∨ r = 5 ∨ r = 6 ∨ r = 7 := by omega
                all_goals
                  go_wp2_with fail
                  go_meet
                  exact HE.out _ (xor_rng hy0 hy1 (by decide) (by decide)).1 (xor_rng hy0 hy1 (by decide) (by decide)).2
              · have hlt' : ¬ (n2 : Int) < 8 * (cs.length : Int) := by omega
                clear hcl2
                go_wp2_with fail
                go_meet
                exact ⟨cs, rfl, C⟩
            case rest =>
              clear C hcl2 hn2
              obtain ⟨cs', rfl, C⟩ := hcut
              have hcl2 := C.len
              have hcut4 := cutNz_c a1 cap1 bs1 _ (hb1.kp0 C.k) (by omega) hc1 4 (by decide)
              have hbyt : ∀ c ∈ bs1.take 4, 0 ≤ c ∧ c ≤ 255 := fun c hc => hb1.byt c (List.mem_of_mem_take hc)
              have hxl : (bs1.take 4).length ≤ 4 := by rw [List.length_take]; omega
              generalize bs1.take 4 = x at hcut4 hbyt hxl
              clear hb1
              go_wp2_with fail
              refine hcut4.mono ?_
              rintro e w1 ⟨A, c, rfl, q1, K1, f1⟩
              have zp := bz_own q1 rfl hbyt
              have ob := own_kp C.row K1 (fun _ _ h => h)
              clear hcut4 q1
              go_wp2_with (at_builtin; refine app_any rfl (.tmp 78) (.tmp 80) rfl (.slice Ac cs'.length cc) cs'.length _ rfl A x.length c x rfl rfl zp ob (by omega) ?_)
              intro vb3 w3 o3 K3 b3
              obtain ⟨A3, c3, rfl⟩ := own_sl o3
              have hll : (cs' ++ x).length = cs'.length + x.length := List.length_append
              have HL := Lib.hid hll
              have hb3 : ∀ c ∈ cs' ++ x, 0 ≤ c ∧ c ≤ 255 := fun c hc => (List.mem_append.1 hc).elim (C.byt c) (hbyt c)
              have bz3 := bz_own (n := cs'.length + x.length) (bs := cs' ++ x) (by rw [HL.out, u8s, List.map_append]; exact o3) HL.out.symm hb3
              have K3' : Kp0 w w3 := (C.k.then0 K1).trans K3 (fun i hi h => by have := C.fr i h; omega)
              have hcp := own_cap o3
              clear hll C K1 K3 b3 o3 ob zp f1
              go_wp2_with fail
              go_meet
              exact ⟨rfl, A3, c3, cs' ++ x, by rw [HL.out], bz3, by rw [HL.out]; omega, by rw [HL.out]; exact hcp.1, hcp.2, K3'⟩
  case rest =>
    obtain ⟨rfl, A, c, bs, rfl, hb, hl, hc, hm, K⟩ := hcut
    clear hz hb1
    have hbyt := hb.byt
    have hlend := lend_c A c bs wc hb (by omega)
    go_wp2_with fail
    refine hlend.mono ?_
    rintro e w1 ⟨L, rfl, hL, hLent, K1⟩
    have hsc := scan_c (some ⟨L, 0, none⟩) (bs.length + 3) bs w1 (.inl (br_lent hLent hbyt)) (by omega) (by omega) (by omega)
    have hb1 := hb.kp0 K1
    clear hlend hb
    go_wp2_with fail
    refine hsc.mono ?_
    rintro e w2 ⟨v1, rfl, R1, K2, _⟩
    have hrs := rscan_c A c bs w2 (hb1.kp0 K2) (by omega) hc hm
    have hb2 := hb1.kp0 K2
    have hL2 : Lent w2 L bs := Blk.kp0 hLent K2
    clear hsc hb1 hLent
    go_wp2_with fail
    refine hrs.mono ?_
    rintro e w3 ⟨v2', rfl, R2, K3, _⟩
    have hb3 := hb2.kp0 K3
    have hL3 : Lent w3 L bs := Blk.kp0 hL2 K3
    have R13 := R1.kp0 K3
    clear hrs hb2 hL2 R1
    go_wp2_with fail
    refine (within22_x v5 240 (by decide) (by decide) _).mono ?_
    rintro e w' ⟨k, hk, rfl, rfl⟩
    obtain ⟨w4, hmk, z4, K4⟩ := made_n k (by omega) w3
    obtain ⟨s1, s2, s3⟩ := sc_sum bs
    have hsame := same58_c v1 v2' (sc bs).1 (by omega) (fun x hx => by have := s3 x hx; omega) w4 (R13.kp0 K4).rv (R2.kp0 K4).rv
    have ht := hL3
    have hb4 := hb3.kp0 K4
    have hL4 : Lent w4 L bs := Blk.kp0 hL3 K4
    have tN : (((sc bs).2 : Int) == ((sc bs).2 : Int)) = true := by simp
    generalize (sc bs).2 = N at *
    clear R13 R2 hb3 hL3 ht s1 s2 s3
    go_wp2_with fail
    refine hsame.mono ?_
    rintro e w5 ⟨rfl, K5⟩
    have hin := intact_c L A c bs w5 (Blk.kp0 hL4 K5) (hb4.kp0 K5) (by omega)
    clear hsame hmk hb4 hL4
    go_wp2_with fail
    refine hin.mono ?_
    rintro e w6 ⟨rfl, K6⟩
    have z6 := (z4.kp0 K5).kp0 K6
    have hlr : (List.replicate k (0 : Int)).length = k := List.length_replicate
    have hpk := pack_c _ k (List.replicate k 0) w6 z6 (by rw [hlr]; omega)
    rw [hlr] at hpk
    clear hin
    go_wp2_with fail
    refine hpk.mono ?_
    rintro e w7 ⟨A7, c7, rfl, o7, K7, _⟩
    have hbr := pk_byt (bs := List.replicate k 0) (by intro c hc; rw [List.mem_replicate] at hc; omega)
    have hrc := record_c _ k (List.replicate k 0) w7 (z6.kp0 K7) (by rw [hlr]; omega)
    rw [hlr] at hrc
    have y7 := bz_own o7 rfl hbr
    clear hpk o7
    go_wp2_with fail
    refine hrc.mono ?_
    rintro e w8 ⟨A8, c8, rfl, o8, K8, _⟩
    have hpl : (pk (List.replicate k 0)).length ≤ 1000 := by unfold pk; split <;> simp <;> omega
    have h26 := same26_c A7 c7 A8 c8 (pk (List.replicate k 0)) (by omega) w8 (y7.kp0 K8) (bz_own o8 rfl hbr)
    clear hrc o8 y7
    go_wp2_with fail
    refine h26.mono ?_
    rintro e w9 ⟨rfl, K9⟩
    clear h26
    go_wp2_with fail
    refine (wakes59_c _).mono ?_
    rintro e w10 ⟨rfl, K10⟩
    go_wp2
    go_ret
    exact ⟨rfl, (((((((((K.then0 K1).then0 K2).then0 K3).then0 K4).then0 K5).then0 K6).then0 K7).then0 K8).then0 K9).then0 K10⟩
end Go.Proofs.Ytkokgbmeienokaa
