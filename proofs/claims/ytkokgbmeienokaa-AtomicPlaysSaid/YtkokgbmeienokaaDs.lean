/- Package disk: Crash. -/
import Derived.Test.YtkokgbmeienokaaDr
import Derived.Test.YtkokgbmeienokaaRk
set_option linter.unusedVariables false
set_option linter.unusedSimpArgs false
namespace Go.Proofs.Ytkokgbmeienokaa
open Go.RowKit

set_option maxRecDepth 100000 in
set_option maxHeartbeats 2000000 in
theorem crash24_c (g n : Nat) (O : Nat → Prop) (d : Dk) (k : Nat) (hk : k ≤ 9223372036854775807) (hn : n ≤ 1000000) (w : World) (h : DkAt w g n O d) :
    Calls Try.prog 24 #[.pointer (some ⟨g, 0, none⟩), .int .i64 (k : Int)] w fun e w' => e = .returned (.tuple #[]) ∧ ∃ O', DkAt w' g n O' (d.crash k) ∧ (∀ i, O' i → O i ∨ w.heap.size ≤ i) ∧ Kp O w w' := by
  obtain ⟨bm, V0, h⟩ := h
  have c0 := h.cell.cell 0
  simp at c0
  have hus : d.used ≤ 65536 := Nat.le_trans h.us h.qu
  have hgl := h.cell.lt
  go_enter Try.func24, Try.ntmps24
  go_wp2_with (refine list_range rfl (.tmp 10) rfl rfl h.mp ?_)
  intro w1 cnt R1 K1 hs1 hcn
  have hst := CrI.start (k := k) h R1 K1
  go_wp2_with fail
  go_loopw [6] (fun s wx => ∃ (O' : Nat → Prop) (V : ByteArray → Option Value) (left : ByteArray → Bool) (cnt : Nat), CrI w wx g bm w.heap.size n O O' V d k left cnt) (fun _ wx => wx.rangeLeft bm w.heap.size)
  case atStart => exact ⟨_, _, _, _, hst⟩
  case round =>
    obtain ⟨O', V, left, cnt, I⟩ := hrel
    have HC := Lib.hid I.mp.left_eq
    have cc := I.cell.cell 0
    simp at cc
    go_wp2_with (at_next; refine list_next rfl _ rfl rfl I.mp ?_ ?_)
    · intro hc0 hno
      have c2 := I.cell.cell 2
      have c3 := I.cell.cell 3
      have c4 := I.cell.cell 4
      have f2 := I.cell.free 2
      have f3 := I.cell.free 3
      have f4 := I.cell.free 4
      simp at c2 c3 c4
      have B := ((I.cell.set 2 (.bool false)).set 3 (.bool false)).set 4 (.int .i64 0)
      have K := ((((Kp.self g wr).put 2 (.bool false)).put 3 (.bool false)).put 4 (.int .i64 0))
      have hfin := I.done h hno K (by simpa using B)
      clear I B K hno h R1 hst c0
      go_wp2
      go_end0
      exact ⟨rfl, O', hfin⟩
    · intro p v w2 cnt2 hp hl hF R2 hlt hk2 hen
      have hfp := I.fits p hp
      rw [if_pos hl] at hfp
      obtain ⟨f, hf⟩ : ∃ f, d.F p = some f := by
        cases hF2 : d.F p with
        | none => rw [hfp.1 hF2] at hF; cases hF
        | some f => exact ⟨f, rfl⟩
      obtain ⟨v', e1, hfv⟩ := hfp.2 f hf
      rw [hF] at e1
      injection e1 with e1
      subst e1
      obtain ⟨A, c, rfl, hb, l1, l2, hsy, ho⟩ := hfv
      have hlen : f.b.length ≤ 65536 := by
        have := len_le_used d p h.ks
        unfold Dk.len at this
        rw [hf] at this
        exact Nat.le_trans this hus
      obtain ⟨fb, fs, ff⟩ := f
      simp only at hb l1 hsy ho hlen hF hen
      go_upto_region 3 with fail
      have Ka : Kp0 w2 (w2.alloc (.cells #[.slice A fb.length c, .int .i64 (fs : Int), .bool ff] 90)) := (Kp.refl _ _).alloc _
      have B3 : Blk (w2.alloc (.cells #[.slice A fb.length c, .int .i64 (fs : Int), .bool ff] 90)) w2.heap.size #[.slice A fb.length c, .int .i64 (fs : Int), .bool ff] 90 := blk_new _ _ rfl
      have R3 := R2.kp0 Ka
      have hb3 := (hb.kp hk2 (fun hz b hA e => by
        obtain ⟨B, off, eA, _, hc⟩ := hb.cell 0 (List.length_pos_iff.2 hz)
        rw [eA] at hA; injection hA with hA; subst hA
        exact I.mp.cells_r _ e _ _ hc)).kp0 Ka
      have cg3 := ((I.cell.kp hk2 (fun e => by omega)).kp0 Ka)
      obtain ⟨M, hM⟩ : ∃ M, kept k ⟨fb, fs, ff⟩ = M := ⟨_, rfl⟩
      have hMe : M = fs + min k (fb.length - fs) := by rw [← hM]; rfl
      have q0 := B3.cell 0
      have q1 := B3.cell 1
      have q2 := B3.cell 2
      simp only [List.getElem?_toArray, List.getElem?_cons_zero, List.getElem?_cons_succ] at q0 q1 q2
      generalize hw3 : w2.alloc (.cells #[.slice A fb.length c, .int .i64 (fs : Int), .bool ff] 90) = w3 at *
      go_cut [6] from 17 to 28 (fun s wx => s = .int .i64 (M : Nat) ∧ w3 = wx)
      case first =>
        clear hM hb hb3 R3 cg3 B3 Ka hk2 R2 I hfp hf h hst R1 ho hF hen
        generalize fb.length = L at *
        have hw1 : IntKind.i64.wrap ((L : Int) - (fs : Int)) = (L : Int) - fs := by rw [IntKind.wrap_i64]; omega
        have HM := Lib.hid hMe
        clear hMe
        go_wp2_with fail
        all_goals
          go_meet
          have := HM.out
          refine ⟨congrArg (Value.int .i64) ?_, rfl⟩
          first | omega | (rw [IntKind.wrap_i64]; omega) | (trace_state; omega)
      case rest =>
        obtain ⟨rfl, rfl⟩ := hcut
        have hcr : (d.F p).bind (crF k) = if M = 0 ∧ ff = false then none else some ⟨fb.take M, M, true⟩ := by
          rw [hf]
          show crF k ⟨fb, fs, ff⟩ = _
          unfold crF
          rw [hM]
        have cg0 := cg3.cell 0
        simp only [List.getElem?_toArray, List.getElem?_cons_zero] at cg0
        have hMl : M ≤ fb.length := by omega
        have hgL := hgl
        have hHS : w.heap.size ≤ w.heap.size := Nat.le_refl _
        by_cases hdel : M = 0 ∧ ff = false
        · obtain ⟨rfl, rfl⟩ := hdel
          rw [if_pos ⟨rfl, rfl⟩] at hcr
          have hfin := fun w6 cnt3 (R6 : MapR w6 bm w.heap.size n (pt V p none) (pt (pt left p false) p false) cnt3) (k6 : Kp (· = bm) w3 w6) => I.del hHS hgL h.om hk2 Ka R3 R6 k6 hcr
          have HF := Lib.hid hfin
          clear hfin hcr hM hMe hMl hb hb3 cg3 B3 I hfp hf h hst R1 ho hF hen R2 hk2 Ka c0 cc
          go_wp2_with (at_delete; refine list_delm rfl (.tmp 39) (.tmp 40) rfl rfl rfl R3 hp ?_)
          intro w6 cnt3 R6 hle k6
          have I6 := HF.out w6 cnt3 R6 k6
          have HL := Lib.hid R6.left_eq
          clear HF
          go_wp2
          go_roundw
          case rel => exact ⟨_, _, _, _, I6⟩
          case measure => rw [HL.out, HC.out]; omega
        · rw [if_neg hdel] at hcr
          obtain ⟨A1, c1, hsl, hb1, m1, m2⟩ := run_cuthi hb3 l1 l2 M hMl
          have htk : (fb.take M).length = M := by rw [List.length_take]; omega
          have hcl : ∀ W, Kp0 w3 W → Calls Try.prog 71 #[.slice A1 M c1] W fun e w' => ∃ A c, e = .returned (.slice A M c) ∧ w'.ownsRow 0 5 1 (.slice A M c) M (u8s (fb.take M)) ∧ Kp0 w3 w' ∧ (∀ i, (Value.slice A M c).ownBlock = some i → w3.heap.size ≤ i) := fun W kW => by
            have := clone_c A1 c1 (fb.take M) W (hb1.kp0 kW) (by rw [htk]; omega)
            unfold Fr at this
            rw [htk] at this
            exact this.mono (by rintro e w' ⟨A, c, e1, e2, e3, e4⟩; exact ⟨A, c, e1, e2, kW.then0 e3, fun i hi => Nat.le_trans kW.size (e4 i hi)⟩)
          have hwh : ∀ W, Kp0 w3 W → ∀ A c, Calls Try.prog 70 #[.slice A M c] W fun e w' => e = .returned (.agg #[.slice A M c, .int .i64 (M : Int), .bool true]) ∧ Kp0 w3 w' ∧ Kp0 W w' := fun W kW A c => (whole70_c A M c W).mono (by rintro e w' ⟨rfl, k'⟩; exact ⟨rfl, kW.then0 k', k'⟩)
          have hS : ∀ W, Kp0 w3 W → W.cell? ⟨g, 0, none⟩ = some (.map (some bm)) ∧ W.cell? ⟨w2.heap.size, 0, none⟩ = some (.slice A fb.length c) := fun W kW => ⟨by simpa using (cg3.kp0 kW).cell 0, by simpa using (B3.kp0 kW).cell 0⟩
          have hw2 : w.heap.size ≤ w2.heap.size := Nat.le_trans I.kp.size hk2.size
          have hbl : bm < w.heap.size := h.lt bm h.om
          have hbg : bm ≠ g := h.mp.ne h.cell
          have hw23 : w2.heap.size < w3.heap.size := B3.lt
          have hEnd : ∀ A2 c2 wA wB, wA.ownsRow 0 5 1 (.slice A2 M c2) M (u8s (fb.take M)) → Kp0 w3 wA → (∀ i, (Value.slice A2 M c2).ownBlock = some i → w3.heap.size ≤ i) → Kp0 wA wB →
              ∃ w6, (Instr.mapUpdate 84 (.map (some bm)) (.string p) (.agg #[.slice A2 M c2, .int .i64 (M : Int), .bool true])).run Try.prog wB = .ok () w6 ∧ (w6.cell? ⟨g, 0, none⟩ = some (.map (some bm)) ∧ w6.cell? ⟨w2.heap.size, 0, none⟩ = some (.slice A fb.length c)) ∧
                ∃ O2 V2, CrI w w6 g bm w.heap.size n O O2 V2 d k (pt left p false) cnt2 := by
            intro A2 c2 wA wB o2 kA f2 kB
            have k3B := kA.then0 kB
            obtain ⟨w6, hrun, R6, k6⟩ := (R3.kp0 k3B).put_old hn hp (by rw [hF]; rfl) (.agg #[.slice A2 M c2, .int .i64 (M : Int), .bool true])
            have o2' : wA.ownsRow 0 5 1 (.slice A2 M c2) (fb.take M).length (u8s (fb.take M)) := by rw [htk]; exact o2
            have b2 := bz_own o2' htk.symm (fun x hx => hb.byt x (List.mem_of_mem_take hx))
            have hA2 : ∀ b, A2 = some b → w3.heap.size ≤ b.block ∧ b.block < wA.heap.size := fun b hA => by
              subst hA
              rcases own_shape o2 with ⟨e, _, _⟩ | ⟨r, cap, e, _, _, hr, _⟩
              · cases e
              · injection e with e1 _ _
                injection e1 with e1
                subst e1
                exact ⟨f2 r (by simp [Value.ownBlock]), hr⟩
            have hcap : M ≤ c2 ∧ c2 ≤ 9223372036854775807 := by
              rcases own_shape o2 with ⟨e, e0, _⟩ | ⟨r, cap, e, e1, e2, _⟩
              · injection e with _ _ e3
                subst e3; omega
              · injection e with _ _ e3
                subst e3; exact ⟨e1, e2⟩
            have b6 := (b2.kp0 kB).kp k6 (fun hz b hA e => by have := (hA2 b hA).1; omega)
            have hz6 : wA.heap.size ≤ w6.heap.size := Nat.le_trans kB.size k6.size
            refine ⟨w6, hrun, ⟨by simpa using ((cg3.kp0 k3B).kp k6 (fun e => hbg e.symm)).cell 0, by simpa using ((B3.kp0 k3B).kp k6 (fun e => by omega)).cell 0⟩,
              fun i => O' i ∨ (Value.slice A2 M c2).ownBlock = some i, _, I.put hHS hgL h.om hk2 (Ka.then0 k3B) (R3.kp0 k3B) R6 k6 hcr ⟨A2, c2, by rw [htk], b6, by rw [htk]; exact hcap.1, hcap.2, by simp [htk], ?_⟩ (fun i hi => .inl hi) ?_ ?_⟩
            · rintro _ b rfl; exact .inr rfl
            · rintro i (hi | hi)
              · exact .inl hi
              · have := f2 i hi
                exact .inr (by omega)
            · rintro i (hi | hi)
              · exact Nat.lt_of_lt_of_le (I.lt i hi) (Nat.le_trans hk2.size (Nat.le_trans Ka.size (Nat.le_trans k3B.size k6.size)))
              · rcases own_shape o2 with ⟨e, _, _⟩ | ⟨r, cap, e, _, _, hr, _⟩
                · rw [e] at hi; simp [Value.ownBlock] at hi
                · rw [e] at hi; simp [Value.ownBlock] at hi
                  omega
          have HE := Lib.hid hEnd
          have K0 : Kp0 w3 w3.drew := (Kp.refl _ _).drew
          have hM0 : 0 ≤ (M : Int) := by omega
          have hMc : (M : Int) ≤ (c : Int) := by omega
          clear hEnd hcr hM hMe hb hb1 hb3 cg3 B3 I hfp hf h hst R1 R3 ho hF hen R2 hk2 Ka c0 cc htk
          go_upto_region 4 with fail
          go_cut [35] from 29 to 35 (fun s wx => s = .bool false ∧ w3 = wx)
          case first =>
            clear hS hcl hwh hsl HE
            by_cases hz : M = 0
            · subst hz
              have hff : ff = true := by
                cases ff with
                | true => rfl
                | false => exact absurd ⟨rfl, rfl⟩ hdel
              subst hff
              go_wp2_with fail
              go_meet
              exact ⟨rfl, rfl⟩
            · have hz' : ((M : Int) == 0) = false := by rw [beq_eq_false_iff_ne]; omega
              go_wp2_with fail
              go_meet
              exact ⟨rfl, rfl⟩
          case rest =>
            obtain ⟨rfl, rfl⟩ := hcut
            go_wp2_with fail
            go_region_held3 (fun W => W.cell? ⟨g, 0, none⟩ = some (.map (some bm)) ∧ W.cell? ⟨w2.heap.size, 0, none⟩ = some (.slice A fb.length c)) (first | exact hS _ K0 | exact hS _ KA | exact hS _ KB | exact hS6) (first | (go_at_call 71; go_fit (hcl _ K0); rintro e wA ⟨A2, c2, rfl, o2, KA, f2⟩) | (go_at_call 70; go_fit (hwh _ KA A2 c2); rintro e wB ⟨rfl, KB, kab⟩; obtain ⟨w6, hrun, hS6, O2, V2, I6⟩ := HE.out A2 c2 wA wB o2 KA f2 kab))
            have HL := Lib.hid I6.mp.left_eq
            go_wp2
            go_roundw
            case rel => exact ⟨_, _, _, _, I6⟩
            case measure => rw [HL.out, HC.out]; exact hlt
end Go.Proofs.Ytkokgbmeienokaa
