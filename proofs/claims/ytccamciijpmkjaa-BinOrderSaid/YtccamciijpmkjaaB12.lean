/- BinOrder: the walk. -/
import Derived.Test.YtccamciijpmkjaaB11
import Derived.Test.YtccamciijpmkjaaSc
import Derived.Test.YtccamciijpmkjaaOwn
import Derived.BigQuiet
import Derived.Deep.CutRange
import Derived.Deep.CutBlock
import Derived.Deep.DeepCutAuto
set_option linter.unusedVariables false
set_option linter.unusedSimpArgs false
namespace Go.Proofs.Ytccamciijpmkjaa
open Go.RowKit

set_option maxRecDepth 100000 in
set_option maxHeartbeats 8000000 in
theorem binOrder_c (A : Option Addr) (len cap : Nat) (V : Nat → Nat → Int) (v1 v2 : Int) (w : World) (hs : Sl w A len cap 5 (fun i j => .int .i64 (V i j))) :
    Calls Try.prog 9 #[.slice A len cap, .int .i64 v1, .int .i64 v2] w fun e w' => e = .returned (.bool true) ∧ Kp0 w w' := by
  obtain ⟨hl, hc, hz⟩ := hs
  go_enter Try.func9, Try.ntmps9
  go_wp2_with fail
  refine (bin_new_c w).mono ?_
  rintro e w1 ⟨rfl, C0, K0⟩
  have L0 : Bo w w1 w.heap.size (· = w.heap.size) [] := ⟨C0, List.Pairwise.nil, List.Pairwise.nil, by simp, K0, fun i e => by subst e; exact ⟨Nat.le_refl _, C0.lt⟩⟩
  generalize hgg : w.heap.size = g at C0 L0 ⊢
  clear C0 K0 hgg
  go_wp2_with fail
  go_loopw [8, 9] (fun s8 s9 wr => ∃ (l : List Bx) (O : Nat → Prop), l.length ≤ 20 ∧ l.length ≤ len ∧ s8 = .int .i64 (l.length : Nat) ∧ s9 = .int .i64 (l.length : Nat) ∧ Bo w wr g O l) (fun _ s9 _ => (20 - intOf s9).toNat)
  case atStart => exact ⟨[], _, by simp, by simp, rfl, rfl, L0⟩
  case round =>
    clear L0
    obtain ⟨l, O, h20, hlen, rfl, rfl, L⟩ := hrel
    by_cases hlt : l.length < 20 ∧ l.length < len
    · obtain ⟨i9, i1⟩ := hlt
      have i9' : (l.length : Int) < 20 := by omega
      have i1' : (l.length : Int) < (len : Int) := by omega
      have i0 : (0 : Int) ≤ (l.length : Int) := by omega
      have hz' := hz.resolve_left (by omega)
      obtain ⟨b, off, rfl, hcell⟩ := hz'
      clear hz
      have hb : b < w.heap.size := World.block_lt_of_cell? w ⟨b, _, none⟩ (hcell l.length i1 0 (by omega))
      have c4 : wr.cell? ⟨b, off + l.length * 5 + 4, none⟩ = some (.int .i64 (V l.length 4)) := cell_kp0 L.kp hb (hcell l.length i1 4 (by omega))
      obtain ⟨n, hn⟩ : ∃ n : Int, n = 1 + (l.length : Nat) := ⟨_, rfl⟩
      have q1 : IntKind.i64.wrap (1 + (l.length : Int)) = n := by rw [IntKind.wrap_i64]; omega
      have HN := Lib.hid hn
      clear hcell
      clear hn
      go_wp2_with fail
      refine (within13_x (V l.length 4) 15 (by omega) (by omega) wr).mono ?_
      rintro e w' ⟨s, s0, s1, rfl, rfl⟩
      have hA := add_new_c g O l sf sx n s wr L.cr (srt_up L.srt) (by omega) (fun x hx => isB_n (by have := (L.mem x hx).1; have := HN.out; omega))
      go_wp2_with fail
      refine hA.mono ?_
      rintro e w2 ⟨rfl, O', C2, k2, h2⟩
      have L2 := L.add HN.out s0 s1 C2 k2 h2
      have hA2 := add_there_c g O' _ sf sx n 3 w2 C2 (by rw [addB_len]; omega) ⟨⟨sf, sx, n, s⟩, (addB_mem _ _ _).2 (.inl rfl), isB_t _ _ _ _⟩
      have hlen2 := addB_len l ⟨sf, sx, n, s⟩
      generalize addB l ⟨sf, sx, n, s⟩ = l2 at L2 C2 hA2 hlen2
      clear hA L C2 k2 h2 c4
      go_wp2_with fail
      refine hA2.mono ?_
      rintro e w3 ⟨rfl, k3⟩
      have L3 := L2.then0 k3
      clear hA2 L2 k3
      go_wp2_with fail
      go_roundw
      case rel => exact ⟨l2, O', by omega, by omega, by rw [hlen2]; go_num, by rw [hlen2]; go_num, L3⟩
      case measure => simp [intOf]; omega
    · have hend : ((l.length : Int) < (len : Int) ∧ ¬ (l.length : Int) < 20) ∨ ¬ (l.length : Int) < (len : Int) := by omega
      have hmin : ∀ W, (Builtin.min_ #[3, 3] 3 #[.int .i64 (len : Int), .int .i64 20]).run Try.prog W = .ok (.int .i64 (l.length : Nat)) W := fun W => by
        rw [run_min_int2]
        split
        · rw [show (20 : Int) = (l.length : Nat) by omega]
        · rw [show (len : Int) = (l.length : Nat) by omega]
      have hB := all37_c g O l wr L.cr (by omega)
      clear hz hl hc hlt hlen
      go_upto_region 6 with fail
      go_cut [27] from 20 to 45 (fun s27 wx => s27 = .bool false ∧ wx = wr)
      case first =>
        rcases hend with ⟨e1, e2⟩ | e1
        all_goals
          go_wp2_with fail
          go_meet
          exact ⟨rfl, rfl⟩
      case rest =>
      obtain ⟨rfl, rfl⟩ := hcut
      clear hend
      go_wp2_with fail
      refine hB.mono ?_
      rintro e w2 ⟨v, rfl, o2, k2⟩
      obtain ⟨A10, c10, rfl, m1, m2⟩ := rb_shape o2
      have hfr : ∀ i, (Value.slice A10 l.length c10).ownBlock = some i → ¬ O i := fun i e hO => by have := (o2.lt i e).1; have := (L.lo i hO).2; omega
      have L2 := L.then0 k2
      clear hB
      go_wp2_with fail
      refine (within13_x v1 20 (by omega) (by omega) w2).mono ?_
      rintro e w' ⟨nw, n0, n1, rfl, rfl⟩
      go_wp2_with fail
      refine (within13_x v2 10 (by omega) (by omega) w2).mono ?_
      rintro e w' ⟨dl, d0, d1, rfl, rfl⟩
      clear hmin
      go_wp2_with fail
      go_loopw [65, 11] (fun s65 s11 wx => ∃ k : Nat, k ≤ l.length ∧ s65 = .int .i64 (k : Nat) ∧ s11 = .int .i64 ((dueL (l.take k) (nw - dl)).length : Nat) ∧ Kp0 w2 wx) (fun s65 _ _ => (l.length - intOf s65).toNat)
      case atStart => exact ⟨0, by omega, rfl, rfl, Kp.refl _ _⟩
      case round =>
        obtain ⟨k, hk, rfl, rfl, kx⟩ := hrel
        by_cases hkl : k < l.length
        · obtain ⟨b10, rfl, hb, c0, c1, c2, c3⟩ := rb_row (own_kp o2 kx (fun _ _ x => x)) k hkl
          have hds := due_snoc l (nw - dl) k hkl
          have hsb := due_le (l.take k) (nw - dl)
          have hsb : (dueL (l.take k) (nw - dl)).length ≤ 20 := Nat.le_trans hsb (by rw [List.length_take]; omega)
          generalize (dueL (l.take k) (nw - dl)).length = kk at hds hsb ⊢
          have HDS := Lib.hid hds
          have hx := L.mem l[k] (List.getElem_mem hkl)
          have hprev : ∀ k', k = k' + 1 → ∃ p q : Int, wr.cell? ⟨b10, k' * 4 + 2, none⟩ = some (.int .i64 q) ∧ wr.cell? ⟨b10, k' * 4 + 3, none⟩ = some (.int .i64 p) ∧ (p < (l[k]).s ∨ (p = (l[k]).s ∧ q < (l[k]).n)) := fun k' e => by
            obtain ⟨b', e', _, _, _, d2, d3⟩ := rb_row (own_kp o2 kx (fun _ _ x => x)) k' (by omega)
            have eb : b10 = b' := by injection e' with e'; injection e'
            subst eb
            refine ⟨(l[k']'(by omega)).s, (l[k']'(by omega)).n, d2, d3, ?_⟩
            have h := List.pairwise_iff_getElem.1 L.srt k' k (by omega) hkl (by omega)
            rcases h with h | ⟨h1, h2⟩
            · exact .inl h
            · exact .inr ⟨h1, h2⟩
          clear hds
          generalize hff : (l[k]).f = ff at c0
          generalize hee : (l[k]).e = ee at c1
          generalize hnn : (l[k]).n = nn at c2 hx hprev
          generalize hss : (l[k]).s = ss at c3 hx hprev HDS
          clear hff hee hnn hss
          have hkl' : (k : Int) < (l.length : Int) ∧ (0 : Int) ≤ (k : Int) := by omega
          have hw2 : IntKind.i64.wrap (ss + dl) = ss + dl := by rw [IntKind.wrap_i64]; omega
          have ka : Kp0 wr (wr.alloc (.cells #[.string ff, .string ee, .int .i64 nn, .int .i64 ss] 63)) := (Kp.refl _ _).alloc _
          have BX : Blk (wr.alloc (.cells #[.string ff, .string ee, .int .i64 nn, .int .i64 ss] 63)) wr.heap.size #[.string ff, .string ee, .int .i64 nn, .int .i64 ss] 63 := blk_new _ _ rfl
          have kxa := kx.then0 ka
          have x2 := BX.cell 2
          have x3 := BX.cell 3
          go_upto_region 20 with fail
          have hcond : ∃ d, decide (ss + dl ≤ nw) = d ∧ (dueL (l.take (k + 1)) (nw - dl)).length = kk + if d = true then 1 else 0 := by
            refine ⟨_, rfl, ?_⟩
            rw [HDS.out]
            congr 2
            rw [decide_eq_decide.2 (show ss ≤ nw - dl ↔ ss + dl ≤ nw by omega)]
          obtain ⟨d, hd, hdn⟩ := hcond
          have HDN := Lib.hid hdn
          clear hdn HDS c0 c1 c2 c3
          obtain rfl | ⟨k', hk'⟩ : k = 0 ∨ ∃ k', k = k' + 1 := by
            rcases k with _ | k'
            · exact .inl rfl
            · exact .inr ⟨k', rfl⟩
          · clear hprev hx ka BX
            generalize wr.alloc (.cells #[.string ff, .string ee, .int .i64 nn, .int .i64 ss] 63) = wa at x2 x3 kxa ⊢
            generalize wr.heap.size = xa at x2 x3 ⊢
            simp at x2 x3
            as_aux_lemma =>
              go_wp2_with fail
              go_quiet (fail)
              cases d
              all_goals
                go_wp2_with fail
                go_roundw
                case rel => exact ⟨0 + 1, by omega, by go_num, by rw [HDN.out]; go_num, kxa.drewN _⟩
                case measure => simp [intOf]; omega
          · obtain ⟨p, q, d2, d3, hpq⟩ := hprev k' hk'
            have d2 := cell_kp0 ka hb d2
            have d3 := cell_kp0 ka hb d3
            have hw1 : IntKind.i64.wrap ((k : Int) - 1) = (k' : Nat) := by rw [IntKind.wrap_i64]; omega
            have hk0 : (0 : Int) < (k : Int) ∧ 0 < k := by omega
            have hk2 : decide ((k : Int) > 0) = true ∧ decide (0 < k) = true := by simp; omega
            have hk1 : (k' : Int) < (l.length : Int) ∧ (0 : Int) ≤ (k' : Int) := by omega
            clear hprev hx ka BX hk'
            generalize wr.alloc (.cells #[.string ff, .string ee, .int .i64 nn, .int .i64 ss] 63) = wa at x2 x3 d2 d3 kxa ⊢
            generalize wr.heap.size = xa at x2 x3 ⊢
            simp at x2 x3
            have hlt1 : decide (ss < p) = false := decide_eq_false (by omega)
            obtain ⟨t1, ht⟩ | ⟨t1, t2⟩ : ((ss == p) = false ∧ True) ∨ ((ss == p) = true ∧ decide (nn ≤ q) = false) := by
              rcases hpq with h | ⟨h1, h2⟩
              · exact .inl ⟨by rw [beq_eq_false_iff_ne]; omega, trivial⟩
              · exact .inr ⟨by rw [beq_iff_eq]; omega, decide_eq_false (by omega)⟩
            all_goals
              clear hpq
              as_aux_lemma =>
                go_wp2_with fail
                go_quiet (fail)
                cases d
                all_goals
                  go_wp2_with fail
                  go_roundw
                  case rel => exact ⟨k + 1, by omega, by go_num, by rw [HDN.out]; go_num, kxa.drewN _⟩
                  case measure => simp [intOf]; omega
        · obtain rfl : k = l.length := by omega
          rw [List.take_length]
          have o3 := own_kp o2 kx (fun _ _ x => x)
          have L3 := L2.then0 kx
          clear L L2 o2 kx k2 hkl hk
          have hD1 := due38_c g O l nw dl wr L3.cr (by omega) (by omega) (by omega)
          go_wp2_with fail
          refine hD1.mono ?_
          rintro e w4 ⟨v, rfl, o4, k4, f4⟩
          obtain ⟨A14, c14, rfl, m3, m4⟩ := rb_shape o4
          have hfd : ∀ i, (Value.slice A14 (dueL l (nw - dl)).length c14).ownBlock = some i → ¬ O i := fun i e hO => by have := f4 i e; have := (L3.lo i hO).2; omega
          have L4 := L3.then0 k4
          have oa4 := own_kp o3 k4 (fun _ _ x => x)
          have hq1 := due_mono (show nw - dl ≤ nw + 1 - dl by omega) l
          have hq2 := due_mono (show nw - (dl + 1) ≤ nw - dl by omega) l
          have hDt := Lib.hid (due_take (t := nw - dl) L4.srt)
          have hDr := due_rest (t := nw - dl) L4.srt
          have hDl := due_le l (nw - dl)
          have hD2 := due38_c g O l (nw + 1) dl w4 L4.cr (by omega) (by omega) (by omega)
          have hw1 : IntKind.i64.wrap (nw + 1) = nw + 1 := by rw [IntKind.wrap_i64]; omega
          have hw2 : IntKind.i64.wrap (dl + 1) = dl + 1 := by rw [IntKind.wrap_i64]; omega
          have hdl2 : 0 ≤ dl + 1 ∧ dl + 1 ≤ 1000000 := by omega
          have hnw2 : 0 ≤ nw ∧ nw ≤ 1000000 := by omega
          have hdl : 0 ≤ dl ∧ dl ≤ 1000000 := by omega
          clear hD1 o3 k4 f4 L3 n0 n1 d0 d1
          generalize dueL l (nw - dl) = D at o4 hq1 hq2 hDt hDr hDl hfd m3 m4 ⊢
          go_wp2_with fail
          refine hD2.mono ?_
          rintro e w5 ⟨v, rfl, o5, k5, _⟩
          obtain ⟨A5, c5, rfl⟩ := row_any o5
          have L5 := L4.then0 k5
          have oa5 := own_kp oa4 k5 (fun _ _ x => x)
          have od5 := own_kp o4 k5 (fun _ _ x => x)
          generalize (dueL l (nw + 1 - dl)).length = n5 at hq1 ⊢
          have hD3 := due38_c g O l nw (dl + 1) w5 L5.cr (by omega) hnw2 hdl2
          have hq3 : decide ((n5 : Int) < (D.length : Int)) = false ∧ decide (n5 < D.length) = false ∧ ¬ n5 < D.length := by simp; omega
          clear hD2 o4 oa4 o5 k5 L4 hq1
          go_wp2_with fail
          refine hD3.mono ?_
          rintro e w6 ⟨v, rfl, o6, k6, _⟩
          obtain ⟨A6, c6, rfl⟩ := row_any o6
          have L6 := L5.then0 k6
          have oa6 := own_kp oa5 k6 (fun _ _ x => x)
          have od6 := own_kp od5 k6 (fun _ _ x => x)
          generalize (dueL l (nw - (dl + 1))).length = n6 at hq2 ⊢
          have hq4 : decide ((n6 : Int) > (D.length : Int)) = false ∧ decide (D.length < n6) = false ∧ ¬ D.length < n6 := by simp; omega
          clear hD3 od5 oa5 o6 k6 L5 hq2
          go_wp2_with fail
          clear hq3 hq4
          go_loopw [144] (fun s144 wx => ∃ k : Nat, k ≤ D.length ∧ s144 = .int .i64 (k : Nat) ∧ BinAt wx g O (l.drop k) ∧ Kp O w6 wx) (fun s144 _ => (D.length - intOf s144).toNat)
          case atStart => exact ⟨0, by omega, rfl, L6.cr, Kp.refl _ _⟩
          case round =>
            obtain ⟨k, hk, rfl, C, kx⟩ := hrel
            by_cases hkd : k < D.length
            · have hkl : k < l.length := by omega
              obtain ⟨bd, rfl, hbd, c0, c1, c2, c3⟩ := rb_row (own_kp od6 kx hfd) k hkd
              obtain ⟨b10, rfl, hb10, e0, e1, e2, e3⟩ := rb_row (own_kp oa6 kx hfr) k hkl
              have hDk : D[k] = l[k] := by
                have e := hDt.out
                have h1 : D[k]? = (l.take D.length)[k]? := by rw [← e]
                rw [List.getElem?_eq_getElem hkd, List.getElem?_take_of_lt hkd, List.getElem?_eq_getElem hkl] at h1
                exact Option.some.inj h1
              rw [hDk] at c0 c1 c2 c3
              have hx6 := kx.size
              have hOs : ∀ i, O i → i < wr.heap.size := fun i hi => by have := (L6.lo i hi).2; omega
              have hb10O : ¬ O b10 := hfr b10 rfl
              obtain ⟨f1, f2⟩ := drop_find l k hkl
              have hdl' : (l.drop k).length ≤ 100000 := by rw [List.length_drop]; omega
              have hdl'' : (l.drop (k + 1)).length ≤ 100000 := by rw [List.length_drop]; omega
              have hT1 : ∀ W, Kp0 wr W → Calls Try.prog 39 #[pt g, .string (l[k]).f, .string (l[k]).e, .int .i64 (l[k]).n] W fun e' w' => e' = .returned (.bool true) ∧ BinAt w' g O (l.drop (k + 1)) ∧ Kp O W w' := fun W kk => by
                have h := take_some_c g O (l.drop k) _ _ _ 0 W (C.kp kk (fun _ _ x => x)) hdl' f1
                rw [f2] at h
                exact h
              have hT2 : ∀ W, BinAt W g O (l.drop (k + 1)) → Calls Try.prog 39 #[pt g, .string (l[k]).f, .string (l[k]).e, .int .i64 (l[k]).n] W fun e' w' => e' = .returned (.bool false) ∧ Kp0 W w' := fun W CC =>
                take_none_c g O _ _ _ _ W CC hdl'' (drop_none L6.dis k hkl)
              clear f1 f2 hdl' hdl'' C hDk
              generalize (l[k]).f = ff at c0 e0 hT1 hT2
              generalize (l[k]).e = ee at c1 e1 hT1 hT2
              generalize (l[k]).n = nn at c2 e2 hT1 hT2
              generalize (l[k]).s = ss at c3 e3
              have hne : ∀ W, (binOp .neq 63 (.agg #[.string ff, .string ee, .int .i64 nn, .int .i64 ss]) (.agg #[.string ff, .string ee, .int .i64 nn, .int .i64 ss])).run Try.prog W = .ok (.bool false) W := fun W => neq63 ⟨ff, ee, nn, ss⟩ W
              have hkl' : (k : Int) < (l.length : Int) ∧ (0 : Int) ≤ (k : Int) ∧ (k : Int) < (D.length : Int) := by omega
              have ka : Kp0 wr (wr.alloc (.cells #[.string ff, .string ee, .int .i64 nn, .int .i64 ss] 63)) := (Kp.refl _ _).alloc _
              have BX : Blk (wr.alloc (.cells #[.string ff, .string ee, .int .i64 nn, .int .i64 ss] 63)) wr.heap.size #[.string ff, .string ee, .int .i64 nn, .int .i64 ss] 63 := blk_new _ _ rfl
              have hT1 := fun W (kk : Kp0 (wr.alloc (.cells #[.string ff, .string ee, .int .i64 nn, .int .i64 ss] 63)) W) => hT1 W (ka.then0 kk)
              have hxO : ¬ O wr.heap.size := fun h => by have := hOs _ h; omega
              have hS : ∀ W, Kp O (wr.alloc (.cells #[.string ff, .string ee, .int .i64 nn, .int .i64 ss] 63)) W → (W.cell? ⟨wr.heap.size, 0, none⟩ = some (.string ff) ∧ W.cell? ⟨wr.heap.size, 1, none⟩ = some (.string ee) ∧ W.cell? ⟨wr.heap.size, 2, none⟩ = some (.int .i64 nn) ∧ W.cell? ⟨wr.heap.size, 3, none⟩ = some (.int .i64 ss) ∧
                  W.cell? ⟨b10, k * 4, none⟩ = some (.string ff) ∧ W.cell? ⟨b10, k * 4 + 1, none⟩ = some (.string ee) ∧ W.cell? ⟨b10, k * 4 + 2, none⟩ = some (.int .i64 nn) ∧ W.cell? ⟨b10, k * 4 + 3, none⟩ = some (.int .i64 ss)) := fun W kk => by
                have B := BX.kp kk hxO
                have hb' : b10 < (wr.alloc (.cells #[.string ff, .string ee, .int .i64 nn, .int .i64 ss] 63)).heap.size := Nat.lt_of_lt_of_le hb10 ka.size
                exact ⟨by rw [B.cell]; rfl, by rw [B.cell]; rfl, by rw [B.cell]; rfl, by rw [B.cell]; rfl, cell_kp kk hb' hb10O (cell_kp0 ka hb10 e0), cell_kp kk hb' hb10O (cell_kp0 ka hb10 e1), cell_kp kk hb' hb10O (cell_kp0 ka hb10 e2), cell_kp kk hb' hb10O (cell_kp0 ka hb10 e3)⟩
              clear BX hxO hOs hx6 e0 e1 e2 e3 L6 od6 oa6 hDr hfd hfr hb10O
              go_upto_region 31 with fail
              clear c0 c1 c2 c3
              generalize wr.alloc (.cells #[.string ff, .string ee, .int .i64 nn, .int .i64 ss] 63) = wa at ka hT1 hS ⊢
              generalize wr.heap.size = xa at hS ⊢
              as_aux_lemma =>
                refine heldStart (by kernel_rfl) (fun W kx => hS _ ((Kp.refl _ _).then0 kx)) (fun W0 kq hH0 => ?_)
                have k0_0 : Kp O wa W0 := (Kp.refl _ _).then0 kq
                have zz0 := k0_0.size
                refine wpAnyH_take (i := 0) (v := ?_) rfl (by kernel_rfl) (by kernel_rfl) (by kernel_rfl) (fun _ _ _ h => h) (Or.inl ⟨by rfl, ?_⟩) hH0 ?_
                rotate_left
                · (intro w hSw; (try dsimp only at hSw); go_simp); first | done | with_reducible rfl
                rotate_left
                try simp only [Act.put, List.getElem_toArray, List.getElem_cons_zero, List.getElem_cons_succ, List.setIfInBounds_toArray, List.set_cons_zero, List.set_cons_succ]
                refine wpAnyH_take (i := 1) (v := ?_) rfl (by kernel_rfl) (by kernel_rfl) (by kernel_rfl) (fun _ _ _ h => h) (Or.inl ⟨by rfl, ?_⟩) hH0 ?_
                rotate_left
                · (intro w hSw; (try dsimp only at hSw); go_simp); first | done | with_reducible rfl
                rotate_left
                try simp only [Act.put, List.getElem_toArray, List.getElem_cons_zero, List.getElem_cons_succ, List.setIfInBounds_toArray, List.set_cons_zero, List.set_cons_succ]
                refine wpAnyH_take (i := 2) (v := ?_) rfl (by kernel_rfl) (by kernel_rfl) (by kernel_rfl) (fun _ _ _ h => h) (Or.inl ⟨by rfl, ?_⟩) hH0 ?_
                rotate_left
                · (intro w hSw; (try dsimp only at hSw); go_simp); first | done | with_reducible rfl
                rotate_left
                try simp only [Act.put, List.getElem_toArray, List.getElem_cons_zero, List.getElem_cons_succ, List.setIfInBounds_toArray, List.set_cons_zero, List.set_cons_succ]
                refine wpAnyH_take (i := 3) (v := ?_) rfl (by kernel_rfl) (by kernel_rfl) (by kernel_rfl) (fun _ _ _ h => h) (Or.inl ⟨by rfl, ?_⟩) hH0 ?_
                rotate_left
                · (intro w hSw; (try dsimp only at hSw); go_simp); first | done | with_reducible rfl
                rotate_left
                try simp only [Act.put, List.getElem_toArray, List.getElem_cons_zero, List.getElem_cons_succ, List.setIfInBounds_toArray, List.set_cons_zero, List.set_cons_succ]
                refine wpAnyH_take (i := 4) (v := ?_) rfl (by kernel_rfl) (by kernel_rfl) (by kernel_rfl) (fun _ _ _ h => h) (Or.inl ⟨by rfl, ?_⟩) hH0 ?_
                rotate_left
                · (intro w hSw; (try dsimp only at hSw); go_simp); first | done | with_reducible rfl
                rotate_left
                try simp only [Act.put, List.getElem_toArray, List.getElem_cons_zero, List.getElem_cons_succ, List.setIfInBounds_toArray, List.set_cons_zero, List.set_cons_succ]
                refine wpAnyH_take (i := 5) (v := ?_) rfl (by kernel_rfl) (by kernel_rfl) (by kernel_rfl) (fun _ _ _ h => h) (Or.inl ⟨by rfl, ?_⟩) hH0 ?_
                rotate_left
                · (intro w hSw; (try dsimp only at hSw); go_simp); first | done | with_reducible rfl | exact hne w
                rotate_left
                try simp only [Act.put, List.getElem_toArray, List.getElem_cons_zero, List.getElem_cons_succ, List.setIfInBounds_toArray, List.set_cons_zero, List.set_cons_succ]
                refine wpAnyH_take (i := 6) (v := ?_) rfl (by kernel_rfl) (by kernel_rfl) (by kernel_rfl) (fun _ _ _ h => h) (Or.inl ⟨by rfl, ?_⟩) hH0 ?_
                rotate_left
                · (intro w hSw; (try dsimp only at hSw); go_simp); first | done | with_reducible rfl
                rotate_left
                try simp only [Act.put, List.getElem_toArray, List.getElem_cons_zero, List.getElem_cons_succ, List.setIfInBounds_toArray, List.set_cons_zero, List.set_cons_succ]
                refine wpAnyH_take (i := 7) (v := ?_) rfl (by kernel_rfl) (by kernel_rfl) (by kernel_rfl) (fun _ _ _ h => h) (Or.inl ⟨by kernel_rfl, ?_⟩) hH0 ?_
                rotate_left
                · (intro w hSw; (try dsimp only at hSw); go_simp); first | done | with_reducible rfl
                rotate_left
                try simp only [Act.put, List.getElem_toArray, List.getElem_cons_zero, List.getElem_cons_succ, List.setIfInBounds_toArray, List.set_cons_zero, List.set_cons_succ]
                refine wpAnyH_take (i := 8) (v := ?_) rfl (by kernel_rfl) (by kernel_rfl) (by kernel_rfl) (fun _ _ _ h => h) (Or.inl ⟨by kernel_rfl, ?_⟩) hH0 ?_
                rotate_left
                · (intro w hSw; (try dsimp only at hSw); go_simp); first | done | with_reducible rfl
                rotate_left
                try simp only [Act.put, List.getElem_toArray, List.getElem_cons_zero, List.getElem_cons_succ, List.setIfInBounds_toArray, List.set_cons_zero, List.set_cons_succ]
                refine wpAnyH_take (i := 9) (v := ?_) rfl (by kernel_rfl) (by kernel_rfl) (by kernel_rfl) (fun _ _ _ h => h) (Or.inl ⟨by kernel_rfl, ?_⟩) hH0 ?_
                rotate_left
                · (intro w hSw; (try dsimp only at hSw); go_simp); first | done | with_reducible rfl
                rotate_left
                try simp only [Act.put, List.getElem_toArray, List.getElem_cons_zero, List.getElem_cons_succ, List.setIfInBounds_toArray, List.set_cons_zero, List.set_cons_succ]
                refine wpAnyH_take (i := 10) (v := ?_) rfl (by kernel_rfl) (by kernel_rfl) (by kernel_rfl) (fun _ _ _ h => h) (Or.inl ⟨by kernel_rfl, ?_⟩) hH0 ?_
                rotate_left
                · (intro w hSw; (try dsimp only at hSw); go_simp); first | done | with_reducible rfl
                rotate_left
                try simp only [Act.put, List.getElem_toArray, List.getElem_cons_zero, List.getElem_cons_succ, List.setIfInBounds_toArray, List.set_cons_zero, List.set_cons_succ]
                refine wpAnyH_take (i := 11) (v := ?_) rfl (by kernel_rfl) (by kernel_rfl) (by kernel_rfl) (fun _ _ _ h => h) (Or.inl ⟨by kernel_rfl, ?_⟩) hH0 ?_
                rotate_left
                · (intro w hSw; (try dsimp only at hSw); go_simp); first | done | with_reducible rfl
                rotate_left
                try simp only [Act.put, List.getElem_toArray, List.getElem_cons_zero, List.getElem_cons_succ, List.setIfInBounds_toArray, List.set_cons_zero, List.set_cons_succ]
                refine wpAnyH_take (i := 12) (v := ?_) rfl (by kernel_rfl) (by kernel_rfl) (by kernel_rfl) (fun _ _ _ h => h) (Or.inl ⟨by kernel_rfl, ?_⟩) hH0 ?_
                rotate_left
                · (intro w hSw; (try dsimp only at hSw); go_simp); first | done | with_reducible rfl
                rotate_left
                try simp only [Act.put, List.getElem_toArray, List.getElem_cons_zero, List.getElem_cons_succ, List.setIfInBounds_toArray, List.set_cons_zero, List.set_cons_succ]
                refine wpAnyH_take (i := 13) (v := ?_) rfl (by kernel_rfl) (by kernel_rfl) (by kernel_rfl) (fun _ _ _ h => h) (Or.inl ⟨by kernel_rfl, ?_⟩) hH0 ?_
                rotate_left
                · (intro w hSw; (try dsimp only at hSw); go_simp); first | done | with_reducible rfl
                rotate_left
                try simp only [Act.put, List.getElem_toArray, List.getElem_cons_zero, List.getElem_cons_succ, List.setIfInBounds_toArray, List.set_cons_zero, List.set_cons_succ]
                refine wpAnyH_ready (rs := [14]) (by kernel_rfl) (by simp) ?_
                refine (AllReadyH.cons rfl (fun K hK => ?_) AllReadyH.nil)
                go_simp
                go_wp2_with (go_at_call 39; refine (hT1 _ kq).mono ?_; rintro e W1 ⟨rfl, C1, kt1⟩)
                have k1_0 := k0_0.trans kt1 (fun _ _ x => x)
                have zz1 : W0.heap.size ≤ W1.heap.size := kt1.size
                refine hK.out _ _ (hS _ k1_0) (fun hH1 => ?_)
                clear hK K
                try simp only [Act.put, List.getElem_toArray, List.getElem_cons_zero, List.getElem_cons_succ, List.setIfInBounds_toArray, List.set_cons_zero, List.set_cons_succ]
                refine wpAnyH_take (i := 15) (v := ?_) rfl (by kernel_rfl) (by kernel_rfl) (by kernel_rfl) (fun _ _ _ h => h) (Or.inl ⟨by kernel_rfl, ?_⟩) hH1 ?_
                rotate_left
                · (intro w hSw; (try dsimp only at hSw); go_simp); first | done | with_reducible rfl
                rotate_left
                try simp only [Act.put, List.getElem_toArray, List.getElem_cons_zero, List.getElem_cons_succ, List.setIfInBounds_toArray, List.set_cons_zero, List.set_cons_succ]
                refine wpAnyH_take (i := 16) (v := ?_) rfl (by kernel_rfl) (by kernel_rfl) (by kernel_rfl) (fun _ _ _ h => h) (Or.inl ⟨by rfl, ?_⟩) hH1 ?_
                rotate_left
                · (intro w hSw; (try dsimp only at hSw); go_simp); first | done | with_reducible rfl
                rotate_left
                try simp only [Act.put, List.getElem_toArray, List.getElem_cons_zero, List.getElem_cons_succ, List.setIfInBounds_toArray, List.set_cons_zero, List.set_cons_succ]
                refine wpAnyH_take (i := 17) (v := ?_) rfl (by kernel_rfl) (by kernel_rfl) (by kernel_rfl) (fun _ _ _ h => h) (Or.inl ⟨by rfl, ?_⟩) hH1 ?_
                rotate_left
                · (intro w hSw; (try dsimp only at hSw); go_simp); first | done | with_reducible rfl
                rotate_left
                try simp only [Act.put, List.getElem_toArray, List.getElem_cons_zero, List.getElem_cons_succ, List.setIfInBounds_toArray, List.set_cons_zero, List.set_cons_succ]
                refine wpAnyH_take (i := 18) (v := ?_) rfl (by kernel_rfl) (by kernel_rfl) (by kernel_rfl) (fun _ _ _ h => h) (Or.inl ⟨by kernel_rfl, ?_⟩) hH1 ?_
                rotate_left
                · (intro w hSw; (try dsimp only at hSw); go_simp); first | done | with_reducible rfl
                rotate_left
                try simp only [Act.put, List.getElem_toArray, List.getElem_cons_zero, List.getElem_cons_succ, List.setIfInBounds_toArray, List.set_cons_zero, List.set_cons_succ]
                refine wpAnyH_take (i := 19) (v := ?_) rfl (by kernel_rfl) (by kernel_rfl) (by kernel_rfl) (fun _ _ _ h => h) (Or.inl ⟨by kernel_rfl, ?_⟩) hH1 ?_
                rotate_left
                · (intro w hSw; (try dsimp only at hSw); go_simp); first | done | with_reducible rfl
                rotate_left
                try simp only [Act.put, List.getElem_toArray, List.getElem_cons_zero, List.getElem_cons_succ, List.setIfInBounds_toArray, List.set_cons_zero, List.set_cons_succ]
                refine wpAnyH_take (i := 20) (v := ?_) rfl (by kernel_rfl) (by kernel_rfl) (by kernel_rfl) (fun _ _ _ h => h) (Or.inl ⟨by kernel_rfl, ?_⟩) hH1 ?_
                rotate_left
                · (intro w hSw; (try dsimp only at hSw); go_simp); first | done | with_reducible rfl
                rotate_left
                try simp only [Act.put, List.getElem_toArray, List.getElem_cons_zero, List.getElem_cons_succ, List.setIfInBounds_toArray, List.set_cons_zero, List.set_cons_succ]
                refine wpAnyH_take (i := 21) (v := ?_) rfl (by kernel_rfl) (by kernel_rfl) (by kernel_rfl) (fun _ _ _ h => h) (Or.inl ⟨by kernel_rfl, ?_⟩) hH1 ?_
                rotate_left
                · (intro w hSw; (try dsimp only at hSw); go_simp); first | done | with_reducible rfl
                rotate_left
                try simp only [Act.put, List.getElem_toArray, List.getElem_cons_zero, List.getElem_cons_succ, List.setIfInBounds_toArray, List.set_cons_zero, List.set_cons_succ]
                refine wpAnyH_take (i := 22) (v := ?_) rfl (by kernel_rfl) (by kernel_rfl) (by kernel_rfl) (fun _ _ _ h => h) (Or.inl ⟨by kernel_rfl, ?_⟩) hH1 ?_
                rotate_left
                · (intro w hSw; (try dsimp only at hSw); go_simp); first | done | with_reducible rfl
                rotate_left
                try simp only [Act.put, List.getElem_toArray, List.getElem_cons_zero, List.getElem_cons_succ, List.setIfInBounds_toArray, List.set_cons_zero, List.set_cons_succ]
                refine wpAnyH_take (i := 23) (v := ?_) rfl (by kernel_rfl) (by kernel_rfl) (by kernel_rfl) (fun _ _ _ h => h) (Or.inl ⟨by kernel_rfl, ?_⟩) hH1 ?_
                rotate_left
                · (intro w hSw; (try dsimp only at hSw); go_simp); first | done | with_reducible rfl
                rotate_left
                try simp only [Act.put, List.getElem_toArray, List.getElem_cons_zero, List.getElem_cons_succ, List.setIfInBounds_toArray, List.set_cons_zero, List.set_cons_succ]
                refine wpAnyH_take (i := 24) (v := ?_) rfl (by kernel_rfl) (by kernel_rfl) (by kernel_rfl) (fun _ _ _ h => h) (Or.inl ⟨by kernel_rfl, ?_⟩) hH1 ?_
                rotate_left
                · (intro w hSw; (try dsimp only at hSw); go_simp); first | done | with_reducible rfl
                rotate_left
                try simp only [Act.put, List.getElem_toArray, List.getElem_cons_zero, List.getElem_cons_succ, List.setIfInBounds_toArray, List.set_cons_zero, List.set_cons_succ]
                refine wpAnyH_ready (rs := [25]) (by kernel_rfl) (by simp) ?_
                refine (AllReadyH.cons rfl (fun K hK => ?_) AllReadyH.nil)
                go_simp
                go_wp2_with (go_at_call 39; refine (hT2 _ C1).mono ?_; rintro e W2 ⟨rfl, kt2⟩)
                have k2_0 := k1_0.trans (Kp.mono (S' := O) kt2 (fun _ _ x => x.elim)) (fun _ _ x => x)
                have zz2 : W1.heap.size ≤ W2.heap.size := (Kp.mono (S' := O) kt2 (fun _ _ x => x.elim)).size
                refine hK.out _ _ (hS _ k2_0) (fun hH2 => ?_)
                clear hK K
                try simp only [Act.put, List.getElem_toArray, List.getElem_cons_zero, List.getElem_cons_succ, List.setIfInBounds_toArray, List.set_cons_zero, List.set_cons_succ]
                refine wpAnyH_take (i := 26) (v := ?_) rfl (by kernel_rfl) (by kernel_rfl) (by kernel_rfl) (fun _ _ _ h => h) (Or.inl ⟨by rfl, ?_⟩) hH2 ?_
                rotate_left
                · (intro w hSw; (try dsimp only at hSw); go_simp); first | done | with_reducible rfl
                rotate_left
                try simp only [Act.put, List.getElem_toArray, List.getElem_cons_zero, List.getElem_cons_succ, List.setIfInBounds_toArray, List.set_cons_zero, List.set_cons_succ]
                refine wpAnyH_done (by kernel_rfl) ?_ _
                go_wp2_with fail
                go_roundw
                case rel => exact ⟨k + 1, by omega, by go_num, C1.kp kt2 (fun _ _ x => x), (kx.then0 ka).trans k2_0 (fun _ _ x => x)⟩
                case measure => simp [intOf]; omega
            · obtain rfl : k = D.length := by omega
              have K7 : Kp0 w wr := L6.kp.trans kx (fun i hi e => by have := L6.lo i e; omega)
              have hB2 := all37_c g O (l.drop D.length) wr C (by rw [List.length_drop]; omega)
              have hN : ∃ N : Nat, (l.drop D.length).length = N ∧ IntKind.i64.wrap ((l.length : Int) - (D.length : Int)) = (N : Int) := ⟨_, rfl, by rw [List.length_drop, IntKind.wrap_i64]; omega⟩
              obtain ⟨N, hN1, hN2⟩ := hN
              have hN3 : N ≤ 100000 := by rw [← hN1, List.length_drop]; omega
              have hD4 : ∀ W, BinAt W g O (l.drop D.length) → Calls Try.prog 38 #[pt g, .int .i64 nw, .int .i64 dl] W fun e' w' => ∃ A c, e' = .returned (.slice A 0 c) ∧ Kp0 W w' := fun W CC => by
                have h := due38_c g O (l.drop D.length) nw dl W CC (by omega) hnw2 hdl
                rw [hDr] at h
                refine h.mono ?_
                rintro e w' ⟨v, rfl, o, k, _⟩
                obtain ⟨A, c, rfl⟩ := row_any o
                exact ⟨A, c, rfl, k⟩
              generalize l.drop D.length = lr at C hB2 hN1 hD4
              rw [hN1] at hB2
              clear hDt hDr L6 kx od6 oa6
              as_aux_lemma =>
              go_wp2_with fail
              refine hB2.mono ?_
              rintro e w8 ⟨v, rfl, o8, k8⟩
              obtain ⟨A8, c8, rfl⟩ := row_any o8
              have C8 := C.kp k8 (fun _ _ x => x)
              clear o8
              go_wp2_with fail
              refine (hD4 _ C8).mono ?_
              rintro e w9 ⟨A9, c9, rfl, k9⟩
              go_wp2_with fail
              refine (wakes34_c _).mono ?_
              rintro e w10 ⟨rfl, k10⟩
              go_wp2
              go_ret
              exact ⟨rfl, ((K7.then0 k8).then0 k9).then0 k10⟩
theorem binOrder_w (a0 : Option Addr) (len0 cap0 : Nat) (z0 : Nat → Nat → Int) (v1 v2 : Int) (w : World) (h0 : Sl w a0 len0 cap0 5 (fun i j => .int .i64 (z0 i j))) (_ : ∀ i, i < len0 → ∀ j, j < 5 → (Lit.int .i64 (z0 i j)).wf = true) (_ : (Lit.int .i64 v1).wf = true) (_ : (Lit.int .i64 v2).wf = true) :
    Calls Try.prog 9 #[.slice a0 len0 cap0, .int .i64 v1, .int .i64 v2] w fun e w' => e = .returned (.bool true) ∧ Below w.heap.size w w' :=
  (binOrder_c a0 len0 cap0 z0 v1 v2 w h0).mono fun _ _ h => ⟨h.1, h.2.below0⟩
end Go.Proofs.Ytccamciijpmkjaa

