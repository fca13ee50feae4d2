/- MasterAcks: the walk. -/
import Derived.Test.YtgilnhagddihcaaMg
import Derived.Test.YtgilnhagddihcaaOwn
set_option linter.unusedVariables false
set_option linter.unusedSimpArgs false
namespace Go.Proofs.Ytgilnhagddihcaa
open Go.RowKit

set_option maxRecDepth 100000 in
theorem wakes22_c (w : World) : Calls Try.prog 49 #[] w fun e w' => e = .returned (.bool true) ∧ Kp0 w w' := by
  go_enter Try.func49, Try.ntmps49
  go_wp2_with fail
  refine (new_c _).mono ?_
  rintro e w1 ⟨g, O, rfl, h, hO, hg, K1⟩
  go_wp2_with fail
  refine (hear10_c g es es es 0 0 0 1 (.slice none 0 0) _).mono ?_
  rintro e w2 ⟨r, rfl, B2, hr, K2⟩
  have c0 := B2.cell 0
  simp [mcs] at c0
  have h2 := h.kp0 K2
  clear h B2
  go_wp2_with fail
  refine (state_c g 0 O _ _ (⟨#[102]⟩, ⟨#[97]⟩) ⟨by decide, by decide⟩ _ h2).mono ?_
  rintro e w3 ⟨rfl, K3⟩
  go_wp2
  go_ret
  exact ⟨rfl, (K1.then0 K2).then0 K3⟩

/-- What MasterAcks carries. -/
structure Ak (w wr : World) (g B : Nat) (F T : ByteArray) (v9 : Value) (k : Nat) (O : Nat → Prop) (L : Key → List Int) (S : Key → Int) (l : List Int) : Prop where
  ms : MsAt wr g O (2 * k) L S
  at_ : L (F, T) = l
  no : ∀ p, p ≠ (F, T) → L p = []
  row : wr.ownsRow 0 3 1 v9 l.length (ints l)
  len : l.length ≤ k
  fr : ∀ i, O i → w.heap.size ≤ i
  vf : ∀ i, v9.ownBlock = some i → w.heap.size ≤ i ∧ ¬ O i
  key : Blk wr B #[.string F, .string T] 52
  kO : ¬ O B
  kf : w.heap.size ≤ B
  k : Kp0 w wr

theorem Ak.next {w wr w4 w7 : World} {g B : Nat} {F T : ByteArray} {v9 v7 : Value} {k : Nat} {O O4 : Nat → Prop} {L : Key → List Int} {S : Key → Int} {l : List Int} {n st : Int}
    (G : Ak w wr g B F T v9 k O L S l) (h4 : MsAt w4 g O4 (2 * k + 2) (upd L (F, T) (hl (L (F, T)) n)) (upd S (F, T) st)) (hO4 : ∀ i, O4 i → O i ∨ wr.heap.size ≤ i) (K4 : Kp O wr w4)
    (K7 : Kp (fun i => v9.ownBlock = some i) w4 w7) (r7 : w7.ownsRow 0 3 1 v7 (hl l n).length (ints (hl l n))) (b7 : v7.ownBlock = v9.ownBlock ∨ ∃ i, v7.ownBlock = some i ∧ w4.heap.size ≤ i) :
    Ak w w7 g B F T v7 (k + 1) O4 (upd L (F, T) (hl (L (F, T)) n)) (upd S (F, T) st) (hl l n) := by
  have hv4 : ∀ i, v9.ownBlock = some i → ¬ O4 i := by
    intro i hi ho
    rcases hO4 i ho with h | h
    · exact (G.vf i hi).2 h
    · have := (G.row.lt i hi).2; omega
  have hB4 : ¬ O4 B := by
    intro ho
    rcases hO4 B ho with h | h
    · exact G.kO h
    · have := G.key.lt; omega
  refine ⟨?_, ?_, ?_, r7, ?_, ?_, ?_, ?_, hB4, G.kf, ?_⟩
  · have e : 2 * (k + 1) = 2 * k + 2 := by omega
    rw [e]
    exact h4.kp K7 (fun i h1 h2 => hv4 i h2 h1)
  · rw [upd_same, G.at_]
  · intro p hp; rw [upd_other _ _ hp]; exact G.no p hp
  · have := G.len; unfold hl; split <;> simp <;> omega
  · intro i hi
    rcases hO4 i hi with h | h
    · exact G.fr i h
    · have := G.k.size; omega
  · intro i hi
    rcases b7 with b | ⟨j, b, hj⟩
    · exact ⟨(G.vf i (b ▸ hi)).1, hv4 i (b ▸ hi)⟩
    · rw [b] at hi; injection hi with hi; subst hi
      refine ⟨?_, fun ho => ?_⟩
      · have := G.k.size; have := K4.size; omega
      · have := h4.olt _ ho; omega
  · exact (G.key.kp K4 G.kO).kp K7 (fun h => own_ne G.key G.row (by decide) B h rfl)
  · refine (G.k.trans K4 (fun i hi h => ?_)).trans K7 (fun i hi h => ?_)
    · have := G.fr i h; omega
    · have := (G.vf i h).1; omega

set_option maxRecDepth 100000 in
set_option maxHeartbeats 8000000 in
theorem masterAcks_c (a0 : Option Addr) (len0 cap0 : Nat) (v1 v2 : Int) (w : World)
    (hz : ∀ j : Nat, j < len0 → ∃ b off z, a0 = some ⟨b, off, none⟩ ∧ b < w.heap.size ∧ w.cell? ⟨b, off + j, none⟩ = some (.int .i64 z)) (hc0 : len0 ≤ 9223372036854775807) :
    Calls Try.prog 12 #[.slice a0 len0 cap0, .int .i64 v1, .int .i64 v2] w fun e' w' => e' = .returned (.bool true) ∧ Kp0 w w' := by
  go_enter Try.func12, Try.ntmps12
  go_wp2_with fail
  refine (new_c _).mono ?_
  rintro e w1 ⟨g, O0, rfl, h1, hO1, hg1, K1⟩
  go_wp2_with fail
  refine (within_x v1 9 (by decide) (by decide) _).mono ?_
  rintro e w' ⟨ep, hep0, hep1, rfl, rfl⟩
  go_wp2_with fail
  refine (task_c v2 _).mono ?_
  rintro e w2 ⟨rfl, K2⟩
  obtain ⟨T, hT⟩ : ∃ T, tk (v2 % 8) = T := ⟨_, rfl⟩
  have hp : Small (⟨#[102]⟩, T) := ⟨by show (1 : Nat) ≤ 100; omega, by rw [← hT]; exact tk_size _⟩
  rw [hT]
  clear hT
  have G0 : Ak w (w2.alloc (.cells #[.string ⟨#[102]⟩, .string T] 52)) g w2.heap.size ⟨#[102]⟩ T (.slice none 0 0) 0 O0 (fun _ => []) (fun _ => 0) [] :=
    ⟨(h1.kp0 K2).kp0 ((Kp.refl _ _).alloc _), rfl, fun _ _ => rfl, World.ownsRow_nil _ _ _ _, Nat.le_refl _, hO1, by simp [Value.ownBlock], blk_new _ _ rfl, fun h => by have := h1.olt _ h; have := K2.size; omega, by have := (K1.then0 K2).size; omega, (K1.then0 K2).alloc _⟩
  clear h1 hO1 hg1 K1 K2
  generalize hB : w2.heap.size = B at *
  go_wp2_with fail
  go_loopw [9, 10] (fun v9 i wr => ∃ (k : Nat) (O : Nat → Prop) (L : Key → List Int) (S : Key → Int) (l : List Int), k ≤ 20 ∧ i = .int .i64 k ∧ Ak w wr g B ⟨#[102]⟩ T v9 k O L S l) (fun _ i _ => (20 - intOf i).toNat)
  case atStart => exact ⟨0, _, _, _, _, by decide, rfl, G0⟩
  case round =>
    obtain ⟨k, O, L, S, l, hk, rfl, G⟩ := hrel
    clear G0
    obtain ⟨A9, c9, rfl⟩ := row_sl G.row
    go_upto_region 8 with fail
    go_cut [32] from 25 to 87 (fun s32 wx => s32 = .bool (decide (k < len0 ∧ k < 20)) ∧ wr = wx)
    case first =>
      by_cases i1 : k < len0
      · by_cases i2 : k < 20
        · go_wp2_with fail
          go_meet
          exact ⟨congrArg Value.bool (by rw [decide_eq_decide]; omega), rfl⟩
        · go_wp2_with fail
          go_meet
          exact ⟨congrArg Value.bool (by rw [decide_eq_decide]; omega), rfl⟩
      · go_wp2_with fail
        go_meet
        exact ⟨congrArg Value.bool (decide_eq_false (fun h => i1 h.1)).symm, rfl⟩
    case rest =>
    obtain ⟨rfl, rfl⟩ := hcut
    by_cases hin : k < len0 ∧ k < 20
    · rw [decide_eq_true hin]
      obtain ⟨i1, i2⟩ := hin
      obtain ⟨b1, o1, z1, rfl, hb1, hcz⟩ := hz _ i1
      have cz := (G.k.below0.cell (p := ⟨b1, _, none⟩) hb1).trans hcz
      have kc0 := G.key.cell 0
      have kc1 := G.key.cell 1
      simp at kc0 kc1
      clear hcz hz
      go_wp2_with fail
      refine (within_x z1 3 (by decide) (by decide) _).mono ?_
      rintro e w' ⟨r, hr0, hr1, rfl, rfl⟩
      go_wp2_with fail
      refine (hear11_c _ _ _ _ _ _ _ _ hp _ _ _ _ _ _ G.ms (by omega)).mono ?_
      rintro e w4 ⟨r4, O4, rfl, B4, hr4, h4, hn4, hO4, K4⟩
      have hOg : ¬ O g ∨ True := .inr trivial
      have key4 := G.key.kp K4 G.kO
      have row4 := own_kp G.row K4 (fun i hi => (G.vf i hi).2)
      have kc2 := key4.cell 0
      have kc3 := key4.cell 1
      simp at kc2 kc3
      go_wp2_with fail
      refine (msgs1_c r4 _ 4 _ es _ 0 0 _ _ _ (B4.kp0 ((Kp.refl _ _).alloc _)) (blk_new _ _ rfl)).mono ?_
      rintro e w5 ⟨rfl, K5⟩
      have K45 : Kp0 w4 w5 := ((Kp.refl _ _).alloc _).then0 K5
      have kc4 := (key4.kp0 K45).cell 0
      have kc5 := (key4.kp0 K45).cell 1
      simp at kc4 kc5
      go_wp2_with fail
      refine (state_c _ _ _ _ _ _ hp _ (h4.kp0 K45)).mono ?_
      rintro e w6 ⟨rfl, K6⟩
      rw [upd_same]
      have row6 := own_kp row4 (K45.then0 K6) (fun _ _ x => x)
      have K46 := K45.then0 K6
      clear kc0 kc1 kc2 kc3 kc4 kc5 K45 K5 K6 row4 key4 B4
      have hl2 : l.length ≤ 20 := by have := G.len; omega
      go_upto_region 15 with fail
      go_cut [9, 83] from 25 to 87 (fun s9 s83 wx => s9 = .slice A9 l.length c9 ∧ s83 = .bool (nw l (1 + r)) ∧ w6 = wx)
      case first =>
        clear G h4 K4 K46
        rcases own_shape row6 with ⟨e1, h0, _⟩ | ⟨q, cap, e1, q1, q2, q3, q4⟩ <;> injection e1 with e3 e4 e5 <;> subst e3 <;> subst e5
        · rw [h0]
          have e2 : nw l (1 + r) = true := by rw [List.length_eq_zero_iff.1 h0]; exact nw_nil _
          have HE := Lib.hid e2
          clear e2
          go_wp2_with fail
          go_meet
          exact ⟨by rw [h0], by rw [HE.out], rfl⟩
        · rcases Nat.eq_zero_or_pos l.length with h0 | h0
          · have e2 : nw l (1 + r) = true := by rw [List.length_eq_zero_iff.1 h0]; exact nw_nil _
            rw [h0]
            have HE := Lib.hid e2
            clear e2
            go_wp2_with fail
            go_meet
            exact ⟨by rw [h0], by rw [HE.out], rfl⟩
          · have e2 := nw_last l (1 + r) h0
            have q5 := q4 (l.length - 1) (by omega)
            rw [ints_get l _ (by omega)] at q5
            obtain ⟨z, hz⟩ : ∃ z, l[l.length - 1] = z := ⟨_, rfl⟩
            rw [hz] at q5 e2
            obtain ⟨m, hm⟩ : ∃ m, l.length = m + 1 := ⟨l.length - 1, by omega⟩
            rw [hm] at q1 hl2 ⊢
            simp [hm] at q5
            have HE := Lib.hid e2
            clear e2 hz row6 q4
            have w1 : IntKind.i64.wrap ((m : Int) + 1 - 1) = m := by rw [IntKind.wrap_i64]; omega
            have w2 : ((((m + 1 : Nat) : Int)) == 0) = false := by rw [beq_eq_false_iff_ne]; omega
            have w3 : (((m : Int) + 1) == 0) = false := by rw [beq_eq_false_iff_ne]; omega
            go_wp2_with fail
            go_meet
            exact ⟨by simp [hm], by rw [HE.out], rfl⟩
      case rest =>
        obtain ⟨rfl, rfl, rfl⟩ := hcut
        cases hb : nw l (1 + r) with
        | false =>
          have hf : hl l (1 + r) = l := by unfold hl; rw [hb]; rfl
          clear hb
          have G7 := G.next h4 hO4 K4 (K46.mono (fun _ _ x => x.elim)) (v7 := .slice A9 l.length c9) (by rw [hf]; exact row6) (.inl rfl)
          rw [hf] at G7
          clear hf G h4 hO4 K4 K46 row6
          go_wp2
          go_roundw
          case rel => exact ⟨k + 1, _, _, _, l, by omega, by go_num, G7⟩
          case measure => simp [intOf]; omega
        | true =>
          have hf : hl l (1 + r) = l ++ [1 + r] := by unfold hl; rw [hb]; rfl
          clear hb
          have k7 : Kp0 w6 (w6.alloc (.cells #[.int .i64 (1 + r)] 3)) := (Kp.refl _ _).alloc _
          have o7 := own_kp row6 k7 (fun _ _ x => x)
          have K47 := K46.then0 k7
          go_wp2_with (at_builtin; refine list_app rfl _ _ 41 3 (.int .i64 0) 1 8 rfl rfl rfl rfl (by decide) (.slice A9 l.length c9) l.length _ rfl w6.heap.size 0 1 1 [.int .i64 (1 + r)] rfl rfl (by simp [Value.oneCell']) (Vw.of_blk (blk_new _ _ rfl)) o7 (by omega) (by omega) ?_)
          intro v8 w8 o8 k8 b8
          have G8 := G.next h4 hO4 K4 ((K47.mono (S' := fun i => (Value.slice A9 l.length c9).ownBlock = some i) (fun _ _ x => x.elim)).trans k8 (fun _ _ h => h)) (v7 := v8) (by rw [hf]; simpa [ints] using o8) (b8.imp id (fun h => ⟨_, h, by have := K46.size; omega⟩))
          rw [hf] at G8
          clear hf G h4 hO4 K4 K46 row6 o7 K47 k7 k8 o8 b8
          go_wp2
          go_roundw
          case rel => exact ⟨k + 1, _, _, _, _, by omega, by go_num, G8⟩
          case measure => simp [intOf]; omega
    · rw [decide_eq_false hin]
      clear hz hin
      have kc0 := G.key.cell 0
      have kc1 := G.key.cell 1
      simp at kc0 kc1
      have hl2 : l.length ≤ 20 := by have := G.len; omega
      go_wp2_with fail
      refine (heard_c g (2 * k) O L S _ hp _ G.ms (by omega)).mono ?_
      rintro e w4 ⟨vh, rfl, oh, Kh, fh⟩
      rw [G.at_] at oh
      have row4 := own_kp G.row Kh (fun _ _ x => x)
      clear kc0 kc1
      go_wp2_with fail
      refine (same48_c vh _ l (by omega) _ (Ns.of_own oh) (Ns.of_own row4)).mono ?_
      rintro e w5 ⟨rfl, K5⟩
      have oh5 := own_kp oh K5 (fun _ _ x => x)
      obtain ⟨Ah, ch, rfl⟩ := row_sl oh
      have ms5 := G.ms.kp0 (Kh.then0 K5)
      have key5 := G.key.kp0 (Kh.then0 K5)
      have row5 := own_kp G.row (Kh.then0 K5) (fun _ _ x => x)
      have fh5 : ∀ i, (Value.slice Ah l.length ch).ownBlock = some i → wr.heap.size ≤ i := fh
      have olt := G.ms.olt
      have no := G.no
      have at_ := G.at_
      have vlt := G.row.lt
      have klt := G.key.lt
      have K05 : Kp0 w w5 := (G.k.then0 Kh).then0 K5
      have hwr := G.k.size
      have ht : (⟨#[103]⟩, T) ≠ ((⟨#[102]⟩ : ByteArray), T) := by intro h; have := congrArg Prod.fst h; simp at this
      have hg0 := no _ ht
      clear G oh row4 Kh K5 no fh
      obtain ⟨wo, rfl⟩ : ∃ wo : World, wo = wr := ⟨_, rfl⟩
      go_wp2_with fail
      go_loopw [97] (fun i wx => ∃ (j : Nat) (xs : List Value), j ≤ l.length ∧ i = .int .i64 j ∧ wx.ownsRow 0 3 1 (.slice Ah l.length ch) l.length xs ∧ Kp (fun i => (Value.slice Ah l.length ch).ownBlock = some i) w5 wx) (fun i _ => (l.length - intOf i).toNat)
      case atStart => exact ⟨0, _, by omega, rfl, oh5, Kp.refl _ _⟩
      case round =>
        obtain ⟨j, xs, hj, rfl, ox, Kx⟩ := hrel
        by_cases hlt : j < l.length
        · rcases own_shape ox with ⟨_, h0, _⟩ | ⟨q, cap, e1, q1, q2, q3, q4⟩
          · omega
          injection e1 with e3 e4 e5
          subst e3
          subst e5
          have cx : ∃ u, wr.cell? ⟨q, j, none⟩ = some u := ⟨xs[j]'(by have := ox.1; omega), by rw [q4 j (by omega), List.getElem?_eq_getElem]⟩
          obtain ⟨u, cx⟩ := cx
          have fx := ox.frozenAt j
          have sx := (ox.stored j (.int .i64 99)).1
          have kx : Kp (fun i => (Value.slice (some ⟨q, 0, none⟩) l.length ch).ownBlock = some i) w5 (wr.setCell ⟨q, j, none⟩ (.int .i64 99)) := Kx.setCell (p := ⟨q, j, none⟩) (fun _ => rfl) _
          clear q4 ox Kx ms5 key5 row5 oh5
          go_wp2
          go_roundw
          case rel => exact ⟨j + 1, _, by omega, by go_num, sx, kx⟩
          case measure => simp [intOf]; omega
        · have hq : ∀ i, (Value.slice Ah l.length ch).ownBlock = some i → ¬ O i := fun i hi ho => by have := olt i ho; have := fh5 i hi; omega
          have ms6 := ms5.kp Kx (fun i h1 h2 => hq i h2 h1)
          have key6 := key5.kp Kx (fun h => by have := fh5 _ h; omega)
          have row6 := own_kp row5 Kx (fun i hi h => by have := (vlt i hi).2; have := fh5 _ h; omega)
          have K06 : Kp0 w wr := K05.trans Kx (fun i hi h => by have := fh5 _ h; omega)
          have kc0 := key6.cell 0
          have kc1 := key6.cell 1
          simp at kc0 kc1
          clear ms5 key5 row5 oh5 Kx ox K05
          go_wp2_with fail
          refine (heard_c g (2 * k) O L S _ hp _ ms6 (by omega)).mono ?_
          rintro e w7 ⟨vh, rfl, oh, Kh, fh⟩
          rw [at_] at oh
          have row7 := own_kp row6 Kh (fun _ _ x => x)
          have ms7 := ms6.kp0 Kh
          have kc2 := (key6.kp0 Kh).cell 1
          simp at kc2
          clear kc0 kc1
          go_wp2_with fail
          refine (same48_c vh _ l (by omega) _ (Ns.of_own oh) (Ns.of_own row7)).mono ?_
          rintro e w8 ⟨rfl, K8⟩
          have kc3 := ((key6.kp0 Kh).kp0 K8).cell 1
          simp at kc3
          clear kc2
          have hp2 : Small (⟨#[103]⟩, T) := ⟨by show (1 : Nat) ≤ 100; omega, hp.2⟩
          go_wp2_with fail
          refine (heard_c g (2 * k) O L S _ hp2 _ (ms7.kp0 K8) (by omega)).mono ?_
          rintro e w9 ⟨v9, rfl, o9, K9, f9⟩
          rw [hg0] at o9
          obtain ⟨A9', c9', rfl⟩ := row_sl o9
          clear o9 f9 oh fh row7 ms7 kc3
          go_wp2_with fail
          refine (hear0_c g 12 (by decide) (by decide) _ _ _ _ _ _ _ _ _).mono ?_
          rintro e w10 ⟨rfl, K10⟩
          go_wp2_with fail
          refine (wakes22_c _).mono ?_
          rintro e w11 ⟨rfl, K11⟩
          go_wp2
          go_ret
          exact ⟨rfl, ((((K06.then0 Kh).then0 K8).then0 K9).then0 K10).then0 K11⟩
theorem ints_cells {k : IntKind} {w : World} {a : Option Addr} {len cap : Nat} {zs : List Int} (hz : IsInts k w a len cap zs) : ∀ j : Nat, j < len → ∃ b off z, a = some ⟨b, off, none⟩ ∧ b < w.heap.size ∧ w.cell? ⟨b, off + j, none⟩ = some (.int k z) := by
  intro j hj
  rcases hz with ⟨_, h, _⟩ | ⟨⟨b, off, p⟩, e, h1, h2, h3, h4, _⟩
  · omega
  · have t0 := h4 0 (by omega)
    have t1 := h4 j (by omega)
    have hp : p = none := by
      cases p with
      | none => rfl
      | some p =>
        exfalso
        rw [Addr.add, if_pos rfl] at t0
        unfold World.cell? at t0
        split at t0 <;> simp at t0
    subst hp
    have t2 : w.cell? ⟨b, off + j, none⟩ = some (.int k (zs.getD j 0)) := by
      rw [← t1]
      unfold Addr.add
      by_cases hj0 : j = 0
      · subst hj0; rfl
      · rw [if_neg hj0]
    exact ⟨b, off, _, e, World.block_lt_of_cell? w ⟨b, _, none⟩ t2, t2⟩

theorem masterAcks_w (a0 : Option Addr) (len0 cap0 : Nat) (zs0 : List Int) (v1 v2 : Int) (w : World)
    (h0 : IsInts .i64 w a0 len0 cap0 zs0) (l0 : len0 * 8 ≤ 140737488351232) (h2 : (Lit.int .i64 v1).wf = true) (h3 : (Lit.int .i64 v2).wf = true) :
    Calls Try.prog 12 #[.slice a0 len0 cap0, .int .i64 v1, .int .i64 v2] w fun e' w' => e' = .returned (.bool true) ∧ Below w.heap.size w w' :=
  (masterAcks_c a0 len0 cap0 v1 v2 w (ints_cells h0) (by omega)).mono fun _ _ h => ⟨h.1, h.2.below0⟩
end Go.Proofs.Ytgilnhagddihcaa
