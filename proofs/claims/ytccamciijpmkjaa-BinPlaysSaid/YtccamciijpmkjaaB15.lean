/- The reference's bin: All, by age. -/
import Derived.Test.YtccamciijpmkjaaB14
set_option linter.unusedVariables false
set_option linter.unusedSimpArgs false
namespace Go.Proofs.Ytccamciijpmkjaa
open Go.RowKit

theorem addB_snoc (p : List Bx) (y x : Bx) : addB (p ++ [y]) x = if x.s < y.s then addB p x ++ [y] else p ++ [y, x] := by
  unfold addB
  rw [List.reverse_append, List.reverse_singleton, List.singleton_append, insR]
  by_cases h : x.s < y.s
  · rw [if_pos h, if_pos h, List.reverse_cons]
  · rw [if_neg h, if_neg h]; simp
theorem addB_split (x : Bx) (l : List Bx) : ∀ j, j ≤ l.length → (∀ (h : 0 < j) (h' : j - 1 < l.length), l[j - 1].s ≤ x.s) → (∀ i (h : i < l.length), j ≤ i → x.s < l[i].s) → addB l x = l.take j ++ x :: l.drop j := by
  induction l using snoc_ind with
  | h0 => intro j hj _ _; obtain rfl : j = 0 := by simpa using hj
          rfl
  | h1 o y ih =>
    intro j hj h1 h2
    rw [addB_snoc]
    rw [List.length_append] at hj
    by_cases hjo : j ≤ o.length
    · have hy := h2 o.length (by simp) hjo
      rw [List.getElem_append_right (Nat.le_refl _)] at hy
      simp only [Nat.sub_self, List.getElem_cons_zero] at hy
      rw [if_pos hy, ih j hjo (fun h h' => by have := h1 h (by simp; omega); rwa [List.getElem_append_left (by omega)] at this) (fun i h hji => by have := h2 i (by simp; omega) hji; rwa [List.getElem_append_left h] at this)]
      rw [List.take_append_of_le_length hjo, List.drop_append_of_le_length hjo, List.append_assoc, List.cons_append]
    · obtain rfl : j = o.length + 1 := by simp at hj; omega
      have hy := h1 (by omega) (by simp)
      simp only [Nat.add_sub_cancel] at hy
      rw [List.getElem_append_right (Nat.le_refl _)] at hy
      simp only [Nat.sub_self, List.getElem_cons_zero] at hy
      rw [if_neg (by omega), List.take_of_length_le (by simp), List.drop_eq_nil_of_le (by simp)]
      simp

/-- Nothing is appended. -/
theorem step_app0 {P : Program} {ops : Array Oper} {o : Oper} {a : Act} {Q : Exit → Act → World → Prop} {K : Act → World → Prop} {W : World} {E : Prop}
    (hg : o.guard = none) (s x : Operand) (t e : TypeId) (size : Nat)
    (ho : o.op = .call { callee := .builtin .append, args := #[s, x], argTypes := #[t, t] })
    (ht : P.underlying t = some (.slice e)) (hinfo : (P.info? e).isSome = true)
    (v : Value) (n : Nat) (xs : List Value) (hs : a.eval s = v) (hx : a.eval x = .slice none 0 0)
    (HO : W.ownsRow 0 e size v n xs) (h : K (a.put o.dst v) W) :
    if Region.wanted o (yielded ops a.tmps) = true then Oper.wp P o a W K Q else E := by
  have hw : Region.wanted o (yielded ops a.tmps) = true := by simp [Region.wanted, hg]
  obtain ⟨i0, hi⟩ := Option.isSome_iff_exists.1 hinfo
  rw [if_pos hw]
  have hr := run_append_owned_none (P := P) W 0 t o.type e i0 size ht hi v n xs HO
  unfold Oper.wp execOp
  simp only [ho, resolve, invoke, builtin, Sem.run_bind, Sem.run_pure, Result.andThen_ok, List.map_toArray, List.map_cons, List.map_nil, hs, hx, hr]
  exact h

/-- append that grows, as a step of a region. -/
theorem step_grow {P : Program} {ops : Array Oper} {o : Oper} {a : Act} {Q : Exit → Act → World → Prop} {K : Act → World → Prop} {W : World} {E : Prop}
    (hg : o.guard = none) (s x : Operand) (t e : TypeId) (z : Value) (size bytes : Nat)
    (ho : o.op = .call { callee := .builtin .append, args := #[s, x], argTypes := #[t, t] })
    (ht : P.underlying t = some (.slice e)) (hinfo : (P.info? e).map (fun i => (i.zero, i.size, i.bytes)) = some (some z, size, bytes)) (hz : z.cells.size = size) (hs0 : 0 < size)
    (r n cap : Nat) (olds : List Value) (hs : a.eval s = .slice (some ⟨r, 0, none⟩) n cap) (hlo : olds.length = n * size) (holds : Vw W r 0 olds)
    (b off m c : Nat) (ys : List Value) (hx : a.eval x = .slice (some ⟨b, off, none⟩) m c) (hys : ys.length = m * size) (h1 : ∀ u ∈ ys, u.oneCell' = true)
    (hb : Vw W b off ys) (hfull : cap < n + m) (hn : n + m ≤ 1000000) (hl : (n + m) * bytes ≤ 140737488355328)
    (h : ∀ v1 w1, w1.ownsRow 0 e size v1 (n + m) (olds ++ ys) → Kp0 W w1 → (∀ i, v1.ownBlock = some i → W.heap.size ≤ i) → K (a.put o.dst v1) w1) :
    if Region.wanted o (yielded ops a.tmps) = true then Oper.wp P o a W K Q else E := by
  obtain ⟨i0, hi, hzz⟩ := Option.map_eq_some_iff.1 hinfo
  simp only [Prod.mk.injEq] at hzz
  obtain ⟨hz0, hz1, hz2⟩ := hzz
  refine step_append_grows hg s x t ho e i0 z size bytes ht hi hz0 hz1 hz2 hz hs0 (some ⟨r, 0, none⟩) n cap olds hs (fun h => by cases h) hlo (fun b hb => ?_) ⟨b, off, none⟩ m c ys hx hys hb.add h1 hfull (by simp only [maxLen]; omega) hl ?_
  · obtain rfl := Option.some.inj hb
    exact holds.add
  · intro v1 w1 ho1 hg1
    exact h v1 w1 (own_base ho1) ((Kp.refl _ _).grown hg1 (fun k hk _ => by cases hk)) (fun i hi => (ho1.lt i hi).1)

/-- What All has, so far. -/
structure AllI (w wr : World) (v : Value) (out : List Bx) (k : Nat) : Prop where
  len : out.length = k
  ow : wr.ownsRow 0 90 4 v k (rb out)
  kp : Kp0 w wr
  fr : ∀ i, v.ownBlock = some i → w.heap.size ≤ i

set_option maxRecDepth 100000 in
set_option maxHeartbeats 2000000 in
theorem rall45_c (g : Nat) (O : Nat → Prop) (l : List Bx) (w : World) (h : RbAt w g O l) (hl : l.length ≤ 1000) :
    Calls Try.prog 45 #[pt g] w fun e' w' => ∃ v, e' = .returned v ∧ AllI w w' v (allR l) l.length := by
  obtain ⟨hg, v, hB, ho, hO⟩ := h
  obtain ⟨A, c, rfl, m1, m2, hrow⟩ := bx_row ho
  have H := Lib.hid hrow
  have cB := hB.cell 0
  simp at cB
  clear hrow ho hO hB
  go_enter Try.func45, Try.ntmps45
  go_wp2_with fail
  clear cB
  go_loopw [3, 12] (fun s3 s12 wr => ∃ k : Nat, k ≤ l.length ∧ s12 = .int .i64 (k : Nat) ∧ AllI w wr s3 (allR (l.take k)) k) (fun _ s12 _ => (l.length - intOf s12).toNat)
  case atStart => exact ⟨0, by omega, rfl, rfl, World.ownsRow_nil _ _ _ _, Kp.refl _ _, fun i hi => by simp [Value.ownBlock] at hi⟩
  case round =>
    obtain ⟨k, hk, rfl, I⟩ := hrel
    by_cases hkl : k < l.length
    · obtain ⟨b, rfl, hc⟩ := H.out k hkl
      obtain ⟨c0, c1, c2, c3⟩ := hc _ I.kp
      have hkl' : (k : Int) < (l.length : Int) ∧ (0 : Int) ≤ (k : Int) := by omega
      have hk1 : k + 1 ≤ 1000 := by omega
      have hsn : allR (l.take (k + 1)) = addB (allR (l.take k)) l[k] := by
        rw [List.take_add_one, List.getElem?_eq_getElem hkl]
        exact allR_snoc _ _
      have HS := Lib.hid hsn
      clear hsn hc
      generalize allR (l.take k) = out at I HS
      obtain ⟨A3, cp3, hv3, n1, n2, hrow3⟩ := bx_row (l := out) (by rw [I.len]; exact I.ow)
      subst hv3
      have H3 := Lib.hid hrow3
      clear hrow3
      have hlo := I.len
      have ka : Kp0 wr (wr.alloc (.cells #[.string (l[k]).f, .string (l[k]).e, .int .i64 (l[k]).n, .int .i64 (l[k]).s] 90)) := (Kp.refl _ _).alloc _
      have BX : Blk (wr.alloc (.cells #[.string (l[k]).f, .string (l[k]).e, .int .i64 (l[k]).n, .int .i64 (l[k]).s] 90)) wr.heap.size #[.string (l[k]).f, .string (l[k]).e, .int .i64 (l[k]).n, .int .i64 (l[k]).s] 90 := blk_new _ _ rfl
      generalize hx : l[k] = x at *
      rcases x with ⟨xf, xe, xn, sx⟩
      dsimp only at c0 c1 c2 c3 ka BX
      have HIL := I.len
      subst HIL
      go_upto_region 5 with fail
      generalize wr.alloc (.cells #[.string xf, .string xe, .int .i64 xn, .int .i64 sx] 90) = wa at ka BX ⊢
      generalize wr.heap.size = X at BX ⊢
      clear c0 c1 c2 c3
      have hx3 : wa.cell? ⟨X, 3, none⟩ = some (.int .i64 sx) := by rw [BX.cell]; rfl
      have HI := Lib.hid I
      clear I hx
      go_upto_block 2 with fail
      go_cut [6] from 18 to 32 (fun s6 wx => ∃ j : Nat, j ≤ out.length ∧ s6 = .int .i64 (j : Nat) ∧ (∀ (h : 0 < j) (h' : j - 1 < out.length), out[j - 1].s ≤ sx) ∧ (∀ i (h : i < out.length), j ≤ i → sx < out[i].s) ∧ Kp0 wa wx)
      case first =>
        clear hkl' BX
        go_wp2_with fail
        go_loopw [6] (fun s6 wx => ∃ j : Nat, j ≤ out.length ∧ s6 = .int .i64 (j : Nat) ∧ (∀ i (h : i < out.length), j ≤ i → sx < out[i].s) ∧ Kp0 wa wx) (fun s6 _ => (intOf s6).toNat)
        case atStart => exact ⟨out.length, by omega, rfl, fun i h hi => by omega, Kp.refl _ _⟩
        case round =>
          obtain ⟨j, hj, rfl, hgt, kx⟩ := hrel
          have HG := Lib.hid hgt
          clear hgt
          rcases j with _ | j
          · go_wp2_with fail
            go_quiet (fail)
            go_wp2_with fail
            go_meet
            exact ⟨0, by omega, rfl, fun h => absurd h (by omega), HG.out, kx.drewN _⟩
          · obtain ⟨b3, rfl, hq⟩ := H3.out j (by omega)
            obtain ⟨_, _, _, q3⟩ := hq _ (ka.then0 kx)
            have hx3' : wr.cell? ⟨X, 3, none⟩ = some (.int .i64 sx) := cell_kp0 kx (World.block_lt_of_cell? _ ⟨X, 3, none⟩ hx3) hx3
            have hw1 : IntKind.i64.wrap (((j + 1 : Nat) : Int) - 1) = (j : Nat) := by rw [IntKind.wrap_i64]; omega
            have hj0 : (0 : Int) < ((j + 1 : Nat) : Int) ∧ (0 : Int) ≤ (j : Int) ∧ (j : Int) < (out.length : Int) := by omega
            have hd : decide ((((j + 1 : Nat) : Int)) > 0) = true := by simp
            obtain ⟨so, hso⟩ : ∃ so, (out[j]'(by omega)).s = so := ⟨_, rfl⟩
            rw [hso] at q3
            have HSO := Lib.hid hso
            clear hso hq hx3
            cases hdd : decide (sx < so) with
            | true =>
              have HD := Lib.hid hdd
              have hdd' : decide (so > sx) = true := hdd
              clear hdd
              go_wp2_with fail
              go_quiet (fail)
              go_wp2_with fail
              go_roundw
              case rel => exact ⟨j, by omega, rfl, fun i h hi => by
                by_cases e : i = j
                · subst e; rw [HSO.out]; simpa using HD.out
                · exact HG.out i h (by omega), kx.drewN _⟩
              case measure => simp [intOf]
            | false =>
              have HD := Lib.hid hdd
              have hdd' : decide (so > sx) = false := hdd
              clear hdd
              go_wp2_with fail
              go_quiet (fail)
              go_wp2_with fail
              go_meet
              exact ⟨j + 1, by omega, rfl, fun h h' => by
                simp only [Nat.add_sub_cancel]
                rw [HSO.out]
                have := HD.out
                simp at this
                omega, HG.out, kx.drewN _⟩
      case rest =>
      obtain ⟨j, hj, rfl, h1, h2, kx⟩ := hcut
      have hsp := addB_split ⟨xf, xe, xn, sx⟩ out j hj h1 h2
      have HSP := Lib.hid (HS.out.trans hsp)
      have B2 := BX.kp0 kx
      have K2 := ka.then0 kx
      have o2 := own_kp HI.out.ow K2 (fun _ _ x => x)
      have hKw := HI.out.kp.then0 K2
      clear h1 h2 hsp HS BX kx hx3 H H3 HI ka K2
      obtain ⟨B, hB⟩ : ∃ B, wc.heap.size = B := ⟨_, rfl⟩
      have hx0 : wc.cell? ⟨X, 0, none⟩ = some (.string xf) := by rw [B2.cell]; rfl
      have hx1 : wc.cell? ⟨X, 1, none⟩ = some (.string xe) := by rw [B2.cell]; rfl
      have hx2 : wc.cell? ⟨X, 2, none⟩ = some (.int .i64 xn) := by rw [B2.cell]; rfl
      have hx3 : wc.cell? ⟨X, 3, none⟩ = some (.int .i64 sx) := by rw [B2.cell]; rfl
      have hj' : (0 : Int) ≤ (j : Int) ∧ (j : Int) ≤ (out.length : Int) ∧ (j : Int) ≤ (cp3 : Int) := by omega
      have hj2 : j ≤ cp3 := by omega
      have hlit := fun W : World => World.ownsRow_lit (base := 0) (e := 90) (size := 4) W #[.string xf, .string xe, .int .i64 xn, .int .i64 sx] 1 (Nat.zero_le _) (by decide) rfl
      have kl : ∀ W : World, Kp0 wc W → Kp0 wc (W.alloc (.cells #[.string xf, .string xe, .int .i64 xn, .int .i64 sx] 90)) := fun W k => k.alloc _
      have hy1 : ((rb out).take (j * 4)).length = j * 4 := by rw [List.length_take, rb_len]; omega
      have hy2 : ((rb out).drop (j * 4)).length = (out.length - j) * 4 := by rw [List.length_drop, rb_len]; omega
      have h11 : ∀ u ∈ (rb out).take (j * 4), u.oneCell' = true := fun u hu => rb_one u (List.mem_of_mem_take hu)
      have h12 : ∀ u ∈ (rb out).drop (j * 4), u.oneCell' = true := fun u hu => rb_one u (List.mem_of_mem_drop hu)
      have hrb : rb (out.take j ++ ⟨xf, xe, xn, sx⟩ :: out.drop j) = (rb out).take (j * 4) ++ ([.string xf, .string xe, .int .i64 xn, .int .i64 sx] ++ (rb out).drop (j * 4)) := by
        rw [rb_take out j hj, rb_drop out j hj, rb_app]; rfl
      have hone : ∀ u ∈ [.string xf, .string xe, .int .i64 xn, .int .i64 sx] ++ (rb out).drop (j * 4), u.oneCell' = true := fun u hu => by
        rcases List.mem_append.1 hu with hu | hu
        · exact cs_one ⟨xf, xe, xn, sx⟩ u hu
        · exact h12 u hu
      have FIN : ∀ (v : Value) (W : World) (n : Nat), n = out.length + 1 → W.ownsRow 0 90 4 v n ((rb out).take (j * 4) ++ ([.string xf, .string xe, .int .i64 xn, .int .i64 sx] ++ (rb out).drop (j * 4))) → Kp0 wc W → (∀ i, v.ownBlock = some i → w.heap.size ≤ i) → AllI w W v (allR (l.take (out.length + 1))) (out.length + 1) := fun v W n hn o k f => by
        subst hn
        rw [HSP.out]
        exact ⟨by simp [List.length_drop, List.length_take]; omega, by rw [hrb]; exact o, hKw.then0 k, f⟩
      have FIN := Lib.hid FIN
      rcases own_shape o2 with ⟨e, e0, _⟩ | ⟨r, cap, e, q1, q2, q3, q4⟩
      · obtain rfl := List.eq_nil_of_length_eq_zero e0
        obtain rfl : j = 0 := by simpa using hj
        injection e with e1 e2 e3
        subst e1
        subst e3
        go_upto_region 8 with fail
        go_region_law (first
          | (refine step_app0 rfl (.tmp 38) (.tmp 41) 70 90 4 rfl rfl rfl (.slice (some ⟨wc.heap.size, 0, none⟩) 1 1) 1 [.string xf, .string xe, .int .i64 xn, .int .i64 sx] (by simp [Act.eval, Act.put]) (by simp [Act.eval, Act.put]) (hlit _) ?_)
          | (refine step_app rfl (.tmp 36) (.tmp 42) 70 90 (.agg #[.string ByteArray.empty, .string ByteArray.empty, .int .i64 0, .int .i64 0]) 4 48 rfl rfl rfl rfl (by decide) (.slice none 0 0) 0 [] (by simp [Act.eval, Act.put]) wc.heap.size 0 1 1 [.string xf, .string xe, .int .i64 xn, .int .i64 sx] (by simp [Act.eval, Act.put]) rfl (fun u hu => cs_one ⟨xf, xe, xn, sx⟩ u hu) (Vw.of_own (hlit _)) (World.ownsRow_nil _ _ _ _) (by omega) (by omega) ?_; intro v5 w5 o5 k5 b5; have K5 : Kp0 wc w5 := (kl _ ((Kp.refl _ _).drew)).trans k5 (fun i hi e => by simp [Value.ownBlock] at e)))
        have HF := FIN.out v5 w5 1 rfl o5 K5 (fun i hi => by
          rcases b5 with b5 | b5
          · rw [b5] at hi; simp [Value.ownBlock] at hi
          · rw [b5] at hi; have := hKw.size; injection hi with hi; simp at hi; omega)
        have HF := Lib.hid HF
        clear FIN o5 K5 k5 b5 hKw o2
        go_wp2_with fail
        go_roundw
        case rel => exact ⟨0 + 1, by omega, by go_num, HF.out⟩
        case measure => simp [intOf]; omega
      · injection e with e1 e2 e3
        subst e1
        subst e3
        have V := Vw.of_own o2
        have V1 : ∀ W, Kp0 wc W → Vw W r 0 ((rb out).take (j * 4)) := fun W k => (V.take (j * 4)).kp0 k q3
        have V2 : ∀ W, Kp0 wc W → Vw W r (j * 4) ((rb out).drop (j * 4)) := fun W k => by
          have := (V.drop (j * 4)).kp0 k q3
          rwa [Nat.zero_add] at this
        have V3 : cp3 = j → ∀ W, Kp0 wc W → Vw W r 0 ((rb out).drop (j * 4)) := fun hc W k => by
          rw [List.drop_eq_nil_of_le (by rw [rb_len]; omega)]
          intro i u hu
          simp at hu
        have hlast := FIN
        by_cases hc : cp3 = j
        · subst hc
          have hnil : (rb out).drop (cp3 * 4) = [] := List.drop_eq_nil_of_le (by rw [rb_len]; omega)
          clear V2 V3 q4 o2
          go_upto_region 8 with fail
          go_region_law (refine step_grow rfl (.tmp 36) (.tmp 42) 70 90 (.agg #[.string ByteArray.empty, .string ByteArray.empty, .int .i64 0, .int .i64 0]) 4 48 rfl rfl rfl rfl (by decide) r cp3 cp3 ((rb out).take (cp3 * 4)) (by simp [Act.eval, Act.put]) hy1 (V1 _ (kl _ ((Kp.refl _ _).drew))) wc.heap.size 0 1 1 [.string xf, .string xe, .int .i64 xn, .int .i64 sx] (by simp [Act.eval, Act.put]) rfl (fun u hu => cs_one ⟨xf, xe, xn, sx⟩ u hu) (Vw.of_own (hlit _)) (by omega) (by omega) (by omega) ?_; intro v5 w5 o5 k5 f5; have K5 : Kp0 wc w5 := (kl _ ((Kp.refl _ _).drew)).then0 k5)
          have HF := FIN.out v5 w5 (cp3 + 1) (by omega) (by rw [hnil]; exact o5) K5 (fun i hi => by have h9 : wc.heap.size ≤ i := Nat.le_trans ((kl _ ((Kp.refl _ _).drew)).size) (f5 i hi); have := hKw.size; omega)
          have HF := Lib.hid HF
          clear FIN hlast o5 K5 k5 f5 hKw
          go_wp2_with fail
          go_roundw
          case rel => exact ⟨out.length + 1, by omega, by go_num, HF.out⟩
          case measure => simp [intOf]; omega
        · have hc' : ¬ j = cp3 := fun e => hc e.symm
          clear V3 q4 o2
          go_upto_region 8 with fail
          go_region_law (first
            | (refine step_app rfl (.tmp 38) (.tmp 41) 70 90 (.agg #[.string ByteArray.empty, .string ByteArray.empty, .int .i64 0, .int .i64 0]) 4 48 rfl rfl rfl rfl (by decide) (.slice (some ⟨wc.heap.size, 0, none⟩) 1 1) 1 [.string xf, .string xe, .int .i64 xn, .int .i64 sx] (by simp [Act.eval, Act.put]) r (j * 4) (out.length - j) (cp3 - j) ((rb out).drop (j * 4)) (by simp [Act.eval, Act.put]) hy2 h12 (V2 _ (kl _ ((Kp.refl _ _).drew))) (hlit _) (by omega) (by omega) ?_; intro v1 w4 o4 k4 b4; have K4 : Kp0 wc w4 := (kl _ ((Kp.refl _ _).drew)).trans k4 (fun i hi e => by simp [Value.ownBlock] at e; omega); obtain ⟨b5, c5, rfl, p1, p2, p3⟩ := own_some o4 (by omega))
            | (refine step_grow rfl (.tmp 36) (.tmp 42) 70 90 (.agg #[.string ByteArray.empty, .string ByteArray.empty, .int .i64 0, .int .i64 0]) 4 48 rfl rfl rfl rfl (by decide) r j j ((rb out).take (j * 4)) (by simp [Act.eval, Act.put]) hy1 (V1 _ K4) b5 0 (1 + (out.length - j)) c5 _ (by simp [Act.eval, Act.put]) o4.1 hone (Vw.of_own o4) (by omega) (by omega) (by omega) ?_; intro v5 w5 o5 k5 f5; have K5 : Kp0 wc w5 := K4.then0 k5))
          have HF := FIN.out v5 w5 (j + (1 + (out.length - j))) (by omega) o5 K5 (fun i hi => by have := f5 i hi; have := hKw.size; have := K4.size; omega)
          have HF := Lib.hid HF
          clear FIN hlast o5 K5 k5 f5 hKw o4 K4 b4
          go_wp2_with fail
          go_roundw
          case rel => exact ⟨out.length + 1, by omega, by go_num, HF.out⟩
          case measure => simp [intOf]; omega
    · obtain rfl : k = l.length := by omega
      rw [List.take_length] at I
      go_wp2
      go_ret
      exact ⟨_, rfl, I⟩
end Go.Proofs.Ytccamciijpmkjaa
