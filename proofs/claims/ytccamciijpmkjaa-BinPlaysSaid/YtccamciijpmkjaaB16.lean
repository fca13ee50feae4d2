/- The reference's bin: Due, Take; boxes of both kinds compared. -/
import Derived.Test.YtccamciijpmkjaaB15
import Derived.Laws.StructEq
set_option linter.unusedVariables false
set_option linter.unusedSimpArgs false
namespace Go.Proofs.Ytccamciijpmkjaa
open Go.RowKit

theorem neq90 (x : Bx) (W : World) : (binOp .neq 90 x.ag x.ag).run Try.prog W = .ok (.bool false) W := by
  rw [run_neq_struct, run_equalIn_agg _ _ _ _ _ (by kernel_rfl) (by kernel_rfl)]
  simp only [Program.fieldsOf, Try.underlying90]
  simp [Op.eqFields, go_sem]

set_option maxRecDepth 100000 in
theorem same44_c (v1 v2 : Value) (l : List Bx) (hl : l.length ≤ 100000) (w : World) (h1 : w.ownsRow 0 63 4 v1 l.length (rb l)) (h2 : w.ownsRow 0 90 4 v2 l.length (rb l)) :
    Calls Try.prog 44 #[v1, v2] w fun e w' => e = .returned (.bool true) ∧ Kp0 w w' := by
  obtain ⟨A1, c1, rfl, _, _, g1⟩ := bx_row h1
  obtain ⟨A2, c2, rfl, _, _, g2⟩ := bx_row h2
  have G1 := Lib.hid g1
  have G2 := Lib.hid g2
  clear g1 g2 h1 h2
  go_enter Try.func44, Try.ntmps44
  go_wp2_with fail
  go_loopw [13] (fun s5 wr => ∃ k : Nat, k ≤ l.length ∧ s5 = .int .i64 (k : Nat) ∧ Kp0 w wr) (fun s5 _ => (l.length - intOf s5).toNat)
  case atStart => exact ⟨0, by omega, rfl, Kp.refl _ _⟩
  case round =>
    obtain ⟨k, hk, rfl, kx⟩ := hrel
    by_cases hkl : k < l.length
    · obtain ⟨b1, rfl, q1⟩ := G1.out k hkl
      obtain ⟨b2, rfl, q2⟩ := G2.out k hkl
      have hkl' : (k : Int) < (l.length : Int) ∧ (0 : Int) ≤ (k : Int) := by omega
      have ne := neq90 l[k]
      obtain ⟨x0, x1, x2, x3⟩ := q1 _ kx
      obtain ⟨y0, y1, y2, y3⟩ := q2 _ kx
      generalize l[k] = x at *
      clear q1 q2 G1 G2
      go_wp2_with fail
      go_quiet (fail)
      go_wp2
      go_roundw
      case rel => exact ⟨k + 1, by omega, by go_num, kx.drewN _⟩
      case measure => simp [intOf]; omega
    · obtain rfl : k = l.length := by omega
      go_wp2
      go_ret
      exact ⟨rfl, kx⟩

theorem due_snocL (l : List Bx) (t : Int) (k : Nat) (hk : k < l.length) : dueL (l.take (k + 1)) t = dueL (l.take k) t ++ if decide (l[k].s ≤ t) = true then [l[k]] else [] := by
  unfold dueL
  rw [List.take_add_one, List.getElem?_eq_getElem hk, List.filter_append]
  congr 1
  cases h : decide (l[k].s ≤ t) <;> simp [h]

set_option maxRecDepth 100000 in
theorem rdue46_c (g : Nat) (O : Nat → Prop) (l : List Bx) (now delay : Int) (w : World) (h : RbAt w g O l) (hl : l.length ≤ 1000) (hn : 0 ≤ now ∧ now ≤ 1000000) (hd : 0 ≤ delay ∧ delay ≤ 1000000) :
    Calls Try.prog 46 #[pt g, .int .i64 now, .int .i64 delay] w fun e' w' => ∃ v, e' = .returned v ∧ w'.ownsRow 0 90 4 v (dueL (allR l) (now - delay)).length (rb (dueL (allR l) (now - delay))) ∧ Kp0 w w' := by
  have hA := rall45_c g O l w h hl
  have hlen := allR_len l
  clear h
  generalize allR l = L at hA hlen ⊢
  go_enter Try.func46, Try.ntmps46
  go_wp2_with fail
  refine hA.mono ?_
  rintro e' w1 ⟨v, rfl, I⟩
  obtain ⟨A, c, rfl, m1, m2, hrow⟩ := bx_row (l := L) (by rw [hlen]; exact I.ow)
  have H := Lib.hid hrow
  have K1 := I.kp
  clear hrow hA I
  rw [hlen] at m1
  rw [hlen]
  have HL := Lib.hid hlen
  have hw : IntKind.i64.wrap (now - delay) = now - delay := by rw [IntKind.wrap_i64]; omega
  clear hlen
  go_wp2_with fail
  go_loopw [7, 13] (fun s7 s13 wr => ∃ k : Nat, k ≤ l.length ∧ s13 = .int .i64 (k : Nat) ∧ wr.ownsRow 0 90 4 s7 (dueL (L.take k) (now - delay)).length (rb (dueL (L.take k) (now - delay))) ∧ (∀ i, s7.ownBlock = some i → w1.heap.size ≤ i) ∧ Kp0 w1 wr) (fun _ s13 _ => (l.length - intOf s13).toNat)
  case atStart => exact ⟨0, by omega, rfl, World.ownsRow_nil _ _ _ _, fun i hi => by simp [Value.ownBlock] at hi, Kp.refl _ _⟩
  case round =>
    obtain ⟨k, hk, rfl, o, f, kx⟩ := hrel
    by_cases hkl : k < l.length
    · have hkL : k < L.length := by rw [HL.out]; exact hkl
      obtain ⟨b, rfl, hc⟩ := H.out k hkL
      obtain ⟨c0, c1, c2, c3⟩ := hc _ kx
      have hkl' : (k : Int) < (l.length : Int) ∧ (0 : Int) ≤ (k : Int) := by omega
      have hsn := due_snocL L (now - delay) k hkL
      have hdl : (dueL (L.take k) (now - delay)).length ≤ 1000 := Nat.le_trans (due_le _ _) (by rw [List.length_take]; omega)
      have HS := Lib.hid hsn
      clear hsn hc
      generalize dueL (L.take k) (now - delay) = D at o HS hdl
      generalize hx : L[k] = x at *
      rcases x with ⟨xf, xe, xn, sx⟩
      dsimp only at c0 c1 c2 c3 HS
      cases hdd : decide (sx ≤ now - delay) with
      | false =>
        rw [hdd] at HS
        go_wp2_with fail
        go_roundw
        case rel =>
          refine ⟨k + 1, by omega, by go_num, ?_, f, kx.alloc _⟩
          rw [HS.out, if_neg (by simp), List.append_nil]
          exact own_kp o ((Kp.refl _ _).alloc _) (fun _ _ x => x)
        case measure => simp [intOf]; omega
      | true =>
        rw [hdd] at HS
        have ka : Kp0 wr (wr.alloc (.cells #[.string xf, .string xe, .int .i64 xn, .int .i64 sx] 90)) := (Kp.refl _ _).alloc _
        have BX : Blk (wr.alloc (.cells #[.string xf, .string xe, .int .i64 xn, .int .i64 sx] 90)) wr.heap.size #[.string xf, .string xe, .int .i64 xn, .int .i64 sx] 90 := blk_new _ _ rfl
        go_upto_region 6 with fail
        have o2 := own_kp o ka (fun _ _ x => x)
        have fa := ka.size
        generalize wr.alloc (.cells #[.string xf, .string xe, .int .i64 xn, .int .i64 sx] 90) = wa at ka BX o2 fa ⊢
        generalize wr.heap.size = X at BX ⊢
        clear c0 c1 c2 c3
        have c0 : wa.cell? ⟨X, 0, none⟩ = some (.string xf) := by rw [BX.cell]; rfl
        have c1 : wa.cell? ⟨X, 1, none⟩ = some (.string xe) := by rw [BX.cell]; rfl
        have c2 : wa.cell? ⟨X, 2, none⟩ = some (.int .i64 xn) := by rw [BX.cell]; rfl
        have c3 : wa.cell? ⟨X, 3, none⟩ = some (.int .i64 sx) := by rw [BX.cell]; rfl
        have kb : Kp0 wa (wa.alloc (.cells #[.string xf, .string xe, .int .i64 xn, .int .i64 sx] 90)) := (Kp.refl _ _).alloc _
        have o3 := own_kp o2 kb (fun _ _ x => x)
        have hsx := kx.size
        have hsa := ka.size
        have hsb := kb.size
        clear BX o o2
        obtain ⟨A7, c7, hv7⟩ := row_any o3
        subst hv7
        go_wp2_with (at_builtin; refine list_app rfl _ _ 70 90 (.agg #[.string ByteArray.empty, .string ByteArray.empty, .int .i64 0, .int .i64 0]) 4 48 rfl rfl rfl rfl (by decide) (.slice A7 D.length c7) D.length (rb D) rfl wa.heap.size 0 1 1 [.string xf, .string xe, .int .i64 xn, .int .i64 sx] rfl rfl (by simp [Value.oneCell']) (Vw.of_blk (blk_new _ _ rfl)) o3 (by omega) (by omega) ?_)
        intro v5 w5 o5 k5 b5
        have fin : w5.ownsRow 0 90 4 v5 (dueL (L.take (k + 1)) (now - delay)).length (rb (dueL (L.take (k + 1)) (now - delay))) ∧ (∀ i, v5.ownBlock = some i → w1.heap.size ≤ i) ∧ Kp0 w1 w5 := by
          rw [HS.out, if_pos trivial, rb_app, List.length_append]
          refine ⟨o5, fun i hi => ?_, ((kx.then0 ka).then0 kb).trans k5 (fun i hi e => by have := f i e; omega)⟩
          rcases b5 with b5 | b5
          · exact f i (b5 ▸ hi)
          · rw [b5] at hi; injection hi with hi; omega
        have FIN := Lib.hid fin
        clear fin o5 b5 k5 o3
        go_wp2_with fail
        go_roundw
        case rel => exact ⟨k + 1, by omega, by go_num, FIN.out⟩
        case measure => simp [intOf]; omega
    · obtain rfl : k = l.length := by omega
      have : L.take l.length = L := List.take_of_length_le (by rw [HL.out]; exact Nat.le_refl _)
      rw [this] at o
      go_wp2
      go_ret
      exact ⟨_, rfl, o, K1.then0 kx⟩

set_option maxRecDepth 100000 in
theorem rtake_none (g : Nat) (O : Nat → Prop) (l : List Bx) (f e : ByteArray) (n : Int) (w : World) (h : RbAt w g O l) (hl : l.length ≤ 100000) (hf : ∀ x ∈ l, isB f e n x = false) :
    Calls Try.prog 43 #[pt g, .string f, .string e, .int .i64 n] w fun e' w' => e' = .returned (.bool false) ∧ Kp0 w w' := by
  obtain ⟨hg, v, hB, ho, hO⟩ := h
  obtain ⟨A, c, rfl, m1, m2, hrow⟩ := bx_row ho
  have H := Lib.hid hrow
  have cB := hB.cell 0
  simp at cB
  have HF := Lib.hid hf
  clear hrow hf ho hO hB
  go_enter Try.func43, Try.ntmps43
  go_wp2_with fail
  clear cB
  go_loopw [16] (fun s16 wr => ∃ k : Nat, k ≤ l.length ∧ s16 = .int .i64 (k : Nat) ∧ Kp0 w wr) (fun s16 _ => (l.length - intOf s16).toNat)
  case atStart => exact ⟨0, by omega, rfl, Kp.refl _ _⟩
  case round =>
    obtain ⟨k, hk, rfl, kx⟩ := hrel
    by_cases hkl : k < l.length
    · obtain ⟨b, rfl, hc⟩ := H.out k hkl
      obtain ⟨c0, c1, c2, c3⟩ := hc _ kx
      have hkl' : (k : Int) < (l.length : Int) ∧ (0 : Int) ≤ (k : Int) := by omega
      have e1 := tl_beq (l[k]).f f
      have e2 := tl_beq (l[k]).e e
      have hi : isB f e n l[k] = (decide ((l[k]).f = f) && decide ((l[k]).e = e) && ((l[k]).n == n)) := rfl
      rw [HF.out _ (List.getElem_mem hkl)] at hi
      have HI := Lib.hid hi
      clear hi hc
      generalize decide ((l[k]).f = f) = d1 at *
      generalize decide ((l[k]).e = e) = d2 at *
      generalize hd3 : ((l[k]).n == n) = d3 at *
      generalize (l[k]).f = ff at *
      generalize (l[k]).e = ee at *
      generalize (l[k]).n = nn at *
      generalize (l[k]).s = ss at *
      cases d1 with
      | true =>
        cases d2 with
        | true =>
          cases d3 with
          | true => exact absurd HI.out (by simp)
          | false =>
            go_wp2_with fail
            go_roundw
            case rel => exact ⟨k + 1, by omega, by go_num, kx.alloc _⟩
            case measure => simp [intOf]; omega
        | false =>
          go_wp2_with fail
          go_roundw
          case rel => exact ⟨k + 1, by omega, by go_num, kx.alloc _⟩
          case measure => simp [intOf]; omega
      | false =>
        go_wp2_with fail
        go_roundw
        case rel => exact ⟨k + 1, by omega, by go_num, kx.alloc _⟩
        case measure => simp [intOf]; omega
    · obtain rfl : k = l.length := by omega
      go_wp2
      go_ret
      exact ⟨rfl, kx⟩

set_option maxRecDepth 100000 in
set_option maxHeartbeats 2000000 in
theorem rtake_some (g : Nat) (O : Nat → Prop) (l : List Bx) (f e : ByteArray) (n : Int) (i : Nat) (w : World) (h : RbAt w g O l) (hl : l.length ≤ 1000) (hi : l.findIdx? (isB f e n) = some i) :
    Calls Try.prog 43 #[pt g, .string f, .string e, .int .i64 n] w fun e' w' => e' = .returned (.bool true) ∧ ∃ O', RbAt w' g O' (l.eraseIdx i) ∧ Kp O w w' ∧ ∀ j, O' j → O j ∨ (w.heap.size ≤ j ∧ j < w'.heap.size) := by
  obtain ⟨hg, v, hB, ho, hO⟩ := h
  rw [List.findIdx?_eq_some_iff_getElem] at hi
  obtain ⟨hil, hip, hno⟩ := hi
  obtain ⟨A, c, rfl, m1, m2, hrow⟩ := bx_row ho
  have H := Lib.hid hrow
  have cB := hB.cell 0
  simp at cB
  have HN := Lib.hid hno
  have HP := Lib.hid hip
  have hE : rb (l.eraseIdx i) = (rb l).take (i * 4) ++ (rb l).drop ((i + 1) * 4) := by
    rw [rb_take l i (by omega), rb_drop l (i + 1) (by omega), ← rb_app, List.eraseIdx_eq_take_drop_succ]
  have hEl : (l.eraseIdx i).length = l.length - 1 := List.length_eraseIdx_of_lt hil
  have HE := Lib.hid hE
  have HEL := Lib.hid hEl
  clear hrow hno hip hE hEl
  go_enter Try.func43, Try.ntmps43
  go_wp2_with fail
  clear cB
  go_loopw [16] (fun s16 wr => ∃ k : Nat, k ≤ i ∧ s16 = .int .i64 (k : Nat) ∧ Kp0 w wr) (fun s16 _ => (i + 1 - intOf s16).toNat)
  case atStart => exact ⟨0, by omega, rfl, Kp.refl _ _⟩
  case round =>
    obtain ⟨k, hk, rfl, kx⟩ := hrel
    have hkl : k < l.length := by omega
    obtain ⟨b, rfl, hc⟩ := H.out k hkl
    obtain ⟨c0, c1, c2, c3⟩ := hc _ kx
    have hkl' : (k : Int) < (l.length : Int) ∧ (0 : Int) ≤ (k : Int) := by omega
    have e1 := tl_beq (l[k]).f f
    have e2 := tl_beq (l[k]).e e
    have hi : isB f e n l[k] = (decide ((l[k]).f = f) && decide ((l[k]).e = e) && ((l[k]).n == n)) := rfl
    by_cases hki : k = i
    · subst hki
      rw [HP.out] at hi
      have HI := Lib.hid hi
      clear hi hc
      generalize decide ((l[k]).f = f) = d1 at *
      generalize decide ((l[k]).e = e) = d2 at *
      generalize hd3 : ((l[k]).n == n) = d3 at *
      have hd : d1 = true ∧ d2 = true ∧ d3 = true := by
        have := HI.out
        cases d1 <;> cases d2 <;> cases d3 <;> simp at this ⊢
      obtain ⟨rfl, rfl, rfl⟩ := hd
      generalize (l[k]).f = ff at *
      generalize (l[k]).e = ee at *
      generalize (l[k]).n = nn at *
      generalize (l[k]).s = ss at *
      have ka : Kp0 wr (wr.alloc (.cells #[.string ff, .string ee, .int .i64 nn, .int .i64 ss] 90)) := (Kp.refl _ _).alloc _
      have B3 := (hB.kp0 kx).kp0 ka
      have o3 := own_kp (own_kp ho kx (fun _ _ x => x)) ka (fun _ _ x => x)
      have K3 := kx.then0 ka
      have hgl := hB.lt
      have hOb := hO b rfl
      go_upto_region 5 with fail
      generalize wr.alloc (.cells #[.string ff, .string ee, .int .i64 nn, .int .i64 ss] 90) = wa at B3 o3 K3 ⊢
      generalize wr.heap.size = X
      clear c0 c1 c2 c3 hd3 e1 e2 hB ho hO ka kx HI HP HN
      have V := Vw.of_own o3
      have hbl : b < wa.heap.size := (o3.lt b rfl).2
      have hy1 : ((rb l).take (k * 4)).length = k * 4 := by rw [List.length_take, rb_len]; omega
      have hy2 : ((rb l).drop ((k + 1) * 4)).length = (l.length - (k + 1)) * 4 := by rw [List.length_drop, rb_len]; omega
      have h11 : ∀ u ∈ (rb l).take (k * 4), u.oneCell' = true := fun u hu => rb_one u (List.mem_of_mem_take hu)
      have h12 : ∀ u ∈ (rb l).drop ((k + 1) * 4), u.oneCell' = true := fun u hu => rb_one u (List.mem_of_mem_drop hu)
      have hic : k ≤ c ∧ k + 1 ≤ c ∧ k + 1 ≤ l.length ∧ k ≤ l.length := by omega
      obtain ⟨hic1, hic2, hic3, hic4⟩ := hic
      have hi10 : (0 : Int) ≤ (k : Int) + 1 ∧ (k : Int) ≤ (k : Int) + 1 ∧ (k : Int) + 1 ≤ (l.length : Int) ∧ (k : Int) + 1 ≤ (c : Int) := by omega
      have hw1 : IntKind.i64.wrap ((k : Int) + 1) = (k : Int) + 1 := by rw [IntKind.wrap_i64]; omega
      have HB1 : ∀ W, Kp0 wa W → Vw W b 0 ((rb l).take (k * 4)) := fun W kk => (V.take (k * 4)).kp0 kk hbl
      obtain ⟨off, hoff⟩ : ∃ off : Nat, off = (if c = k + 1 then 0 else (k + 1) * 4) := ⟨_, rfl⟩
      have HB2 : ∀ W, Kp0 wa W → Vw W b off ((rb l).drop ((k + 1) * 4)) := fun W kk => by
        by_cases hc : c = k + 1
        · rw [List.drop_eq_nil_of_le (by rw [rb_len]; omega)]
          intro i u hu
          simp at hu
        · rw [hoff, if_neg hc]
          have := (V.drop ((k + 1) * 4)).kp0 kk hbl
          rwa [Nat.zero_add] at this
      have cG : ∀ W, Kp0 wa W → W.cell? ⟨g, 0, none⟩ = some (.slice (some ⟨b, 0, none⟩) l.length c) := fun W kk => by rw [(B3.kp0 kk).cell]; rfl
      have fG : ∀ W, Kp0 wa W → W.frozen? ⟨g, 0, none⟩ = false := fun W kk => (B3.kp0 kk).free 0
      have FIN : ∀ (v1 v2 : Value) (w4 w5 : World), w5.ownsRow 0 90 4 v2 (0 + k + (l.length - (k + 1))) ([] ++ (rb l).take (k * 4) ++ (rb l).drop ((k + 1) * 4)) → Kp0 wa w4 → Kp (fun j => v1.ownBlock = some j) w4 w5 → (v1.ownBlock = (Value.slice none 0 0).ownBlock ∨ v1.ownBlock = some wa.heap.size) → (v2.ownBlock = v1.ownBlock ∨ v2.ownBlock = some w4.heap.size) →
          Kp0 wa w5 ∧ Hid (∃ O', RbAt (w5.setCell ⟨g, 0, none⟩ v2) g O' (l.eraseIdx k) ∧ Kp O w (w5.setCell ⟨g, 0, none⟩ v2) ∧ ∀ j, O' j → O j ∨ (w.heap.size ≤ j ∧ j < (w5.setCell ⟨g, 0, none⟩ v2).heap.size)) := fun v1 v2 w4 w5 o5 K4 k5 b1 b2 => by
        have hs1 := K3.size
        have hs2 := K4.size
        have hv1 : ∀ j, v1.ownBlock = some j → wa.heap.size ≤ j := fun j hj => by
          rcases b1 with b1 | b1
          · rw [b1] at hj; simp [Value.ownBlock] at hj
          · rw [b1] at hj; injection hj with hj; omega
        have K5 : Kp0 wa w5 := K4.trans k5 (fun j hj e => by have := hv1 j e; omega)
        have hv2 : ∀ j, v2.ownBlock = some j → wa.heap.size ≤ j := fun j hj => by
          rcases b2 with b2 | b2
          · exact hv1 j (b2 ▸ hj)
          · rw [b2] at hj; injection hj with hj; omega
        have B5 := B3.kp0 K5
        have o6 := own_kp o5 ((Kp.refl (· = g) w5).setCell (p := ⟨g, 0, none⟩) (fun _ => rfl) v2) (fun j hj e => by subst e; have := hv2 _ hj; omega)
        have K6 : Kp O w w5 := (K3.then0 K5).mono (fun _ _ x => x.elim)
        refine ⟨K5, Lib.hid ⟨fun j => j = g ∨ v2.ownBlock = some j, ⟨.inl rfl, v2, by simpa using B5.set 0 v2, ?_, fun j hj => ⟨.inr hj, fun e => by subst e; have := hv2 _ hj; omega⟩⟩, K6.setCell (p := ⟨g, 0, none⟩) (fun _ => hg) _, fun j hj => ?_⟩⟩
        · rw [HE.out, HEL.out]
          rw [show 0 + k + (l.length - (k + 1)) = l.length - 1 by omega, List.nil_append] at o6
          exact o6
        · rcases hj with rfl | hj
          · exact .inl hg
          · have h1 := (o5.lt j hj).2
            have h2 := hv2 j hj
            exact .inr ⟨by omega, by simpa [World.setCell] using h1⟩
      have FIN := Lib.hid FIN
      have C0 := cG _ ((Kp.refl _ _).drew)
      clear V o3 K3 B3 HE HEL hOb hy1 
      have hy1 : ((rb l).take (k * 4)).length = k * 4 := by rw [List.length_take, rb_len]; omega
      by_cases hc : c = k + 1
      · subst hc
        rw [if_pos rfl] at hoff
        subst hoff
        go_region_law (first
          | (refine step_app rfl (.const (.slice none 0 0)) (.tmp 43) 70 90 (.agg #[.string ByteArray.empty, .string ByteArray.empty, .int .i64 0, .int .i64 0]) 4 48 rfl rfl rfl rfl (by decide) (.slice none 0 0) 0 [] (by simp [Act.eval, Act.put]) b 0 k (k + 1) ((rb l).take (k * 4)) (by simp [Act.eval, Act.put]) hy1 h11 (HB1 _ ((Kp.refl _ _).drew)) (World.ownsRow_nil _ _ _ _) (by omega) (by omega) ?_; intro v1' w4 o1 k4 b1; have K4 : Kp0 wa w4 := ((Kp.refl _ _).drew).trans k4 (fun _ _ e => absurd e (by simp [Value.ownBlock])); have C4 := cG _ K4)
          | (refine step_app rfl (.tmp 44) (.tmp 51) 70 90 (.agg #[.string ByteArray.empty, .string ByteArray.empty, .int .i64 0, .int .i64 0]) 4 48 rfl rfl rfl rfl (by decide) v1' (0 + k) _ (by simp [Act.eval, Act.put]) b 0 (l.length - (k + 1)) (k + 1 - (k + 1)) ((rb l).drop ((k + 1) * 4)) (by simp [Act.eval, Act.put] <;> omega) hy2 h12 (HB2 _ K4) o1 (by omega) (by omega) ?_; intro v2' w5 o2 k5 b2; obtain ⟨A9, c9, rfl⟩ := row_any o2; obtain ⟨K5, F5⟩ := FIN.out v1' _ w4 w5 o2 K4 k5 b1 b2; have C5 := cG _ K5; have f5 := fG _ K5))
        all_goals
          clear o1 o2 k4 k5 b1 b2
          go_wp2_with fail
          go_ret
          refine ⟨rfl, ?_⟩
          have h := F5.out
          first
            | (rw [Nat.zero_add] at h; exact h)
            | (rw [show 0 + k + (l.length - (k + 1)) = k by omega] at h; exact h)
      · have hc' : ¬ k + 1 = c := fun e => hc e.symm
        rw [if_neg hc] at hoff
        subst hoff
        go_region_law (first
          | (refine step_app rfl (.const (.slice none 0 0)) (.tmp 43) 70 90 (.agg #[.string ByteArray.empty, .string ByteArray.empty, .int .i64 0, .int .i64 0]) 4 48 rfl rfl rfl rfl (by decide) (.slice none 0 0) 0 [] (by simp [Act.eval, Act.put]) b 0 k c ((rb l).take (k * 4)) (by simp [Act.eval, Act.put]) hy1 h11 (HB1 _ ((Kp.refl _ _).drew)) (World.ownsRow_nil _ _ _ _) (by omega) (by omega) ?_; intro v1' w4 o1 k4 b1; have K4 : Kp0 wa w4 := ((Kp.refl _ _).drew).trans k4 (fun _ _ e => absurd e (by simp [Value.ownBlock])); have C4 := cG _ K4)
          | (refine step_app rfl (.tmp 44) (.tmp 51) 70 90 (.agg #[.string ByteArray.empty, .string ByteArray.empty, .int .i64 0, .int .i64 0]) 4 48 rfl rfl rfl rfl (by decide) v1' (0 + k) _ (by simp [Act.eval, Act.put]) b ((k + 1) * 4) (l.length - (k + 1)) (c - (k + 1)) ((rb l).drop ((k + 1) * 4)) (by simp [Act.eval, Act.put]) hy2 h12 (HB2 _ K4) o1 (by omega) (by omega) ?_; intro v2' w5 o2 k5 b2; obtain ⟨A9, c9, rfl⟩ := row_any o2; obtain ⟨K5, F5⟩ := FIN.out v1' _ w4 w5 o2 K4 k5 b1 b2; have C5 := cG _ K5; have f5 := fG _ K5))
        all_goals
          clear o1 o2 k4 k5 b1 b2
          go_wp2_with fail
          go_ret
          refine ⟨rfl, ?_⟩
          have h := F5.out
          first
            | (rw [Nat.zero_add] at h; exact h)
            | (rw [show 0 + k + (l.length - (k + 1)) = k by omega] at h; exact h)
    · have hkk : k < i := by omega
      rw [show isB f e n l[k] = false by have := HN.out k hkk; simpa using this] at hi
      have HI := Lib.hid hi
      clear hi hc
      generalize decide ((l[k]).f = f) = d1 at *
      generalize decide ((l[k]).e = e) = d2 at *
      generalize hd3 : ((l[k]).n == n) = d3 at *
      generalize (l[k]).f = ff at *
      generalize (l[k]).e = ee at *
      generalize (l[k]).n = nn at *
      generalize (l[k]).s = ss at *
      clear ho hO hB HP HN
      cases d1 with
      | true =>
        cases d2 with
        | true =>
          cases d3 with
          | true => exact absurd HI.out (by simp)
          | false =>
            go_wp2_with fail
            go_roundw
            case rel => exact ⟨k + 1, by omega, by go_num, kx.alloc _⟩
            case measure => simp [intOf]; omega
        | false =>
          go_wp2_with fail
          go_roundw
          case rel => exact ⟨k + 1, by omega, by go_num, kx.alloc _⟩
          case measure => simp [intOf]; omega
      | false =>
        go_wp2_with fail
        go_roundw
        case rel => exact ⟨k + 1, by omega, by go_num, kx.alloc _⟩
        case measure => simp [intOf]; omega
end Go.Proofs.Ytccamciijpmkjaa
