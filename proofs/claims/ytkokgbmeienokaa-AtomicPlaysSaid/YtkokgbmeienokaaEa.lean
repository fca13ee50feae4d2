/- Package disk: Cut. -/
import Derived.Test.YtkokgbmeienokaaDz
set_option linter.unusedVariables false
set_option linter.unusedSimpArgs false
namespace Go.Proofs.Ytkokgbmeienokaa
open Go.RowKit

attribute [local go_sem ↓] field90_0

def NoB (w : World) (S : Nat → Prop) : Prop := ∀ i, S i → ∀ j x, w.cell? ⟨i, j, none⟩ ≠ some (.int .u8 x)
/-- An act that turned no byte's cell. -/
def NoBy (w w' : World) (O : Nat → Prop) : Prop := ∃ S, Kp S w w' ∧ (∀ i, S i → O i) ∧ NoB w S
theorem NoBy.none {w w' : World} {O : Nat → Prop} (k : Kp0 w w') : NoBy w w' O := ⟨fun _ => False, k.mono (fun _ _ x => x), fun _ x => x.elim, fun _ x => x.elim⟩
theorem NoBy.step {w w1 w2 : World} {g n : Nat} {O : Nat → Prop} {d : Dk} (h : DkAt w g n O d) (k1 : Kp0 w w1) (k2 : Kp (· = g) w1 w2) : NoBy w w2 O := by
  obtain ⟨bm, V, I⟩ := h
  exact ⟨(· = g), (k1.mono (fun _ _ x => x.elim)).trans k2 (fun _ _ h => h), fun i e => by rw [e]; exact I.og, I.cells_g⟩

theorem cut_err {d : Dk} {p : ByteArray} {m : Int} (t : Int) (ht : d.there p = t) : d.cut p m = if t ≠ 0 then (t, d) else if m < 0 ∨ (d.len p : Int) < m then (1, d) else if d.step.1 ≠ 0 then d.step else (0, d.step.2.put p ⟨(d.old p).b.take m.toNat, m.toNat, true⟩) := by unfold Dk.cut; rw [ht]

set_option maxRecDepth 100000 in
set_option maxHeartbeats 4000000 in
theorem cut33_c (g n : Nat) (O : Nat → Prop) (d : Dk) (p : ByteArray) (hp : p.size ≤ 100) (m : Int) (hn : n ≤ 1000000) (w : World) (h : DkAt w g n O d) :
    Calls Try.prog 33 #[.pointer (some ⟨g, 0, none⟩), .string p, .int .i64 m] w fun e w' => Did w w' g (n + 1) O (d.cut p m) e ∧ NoBy w w' O := by
  have hth := there69_c g n O d p hp w h
  obtain ⟨t, ht⟩ : ∃ t, d.there p = t := ⟨_, rfl⟩
  have hcut := cut_err (m := m) t ht
  have hsome := fun h0 : t = 0 => there_some (ht.trans h0)
  rw [ht] at hth
  clear ht
  by_cases ht0 : t = 0
  · subst ht0
    obtain ⟨f, hf⟩ := hsome rfl
    rw [if_neg (by simp)] at hcut
    clear hsome
    have hlen : d.len p = f.b.length := by unfold Dk.len; rw [hf]
    have hfo : d.old p = f := by unfold Dk.old; rw [hf]; rfl
    rw [hlen, hfo] at hcut
    obtain ⟨bm0, V0, I0⟩ := id h
    have hlb : f.b.length ≤ 65536 := by
      rw [← hlen]
      have := len_le_used d p I0.ks
      have := I0.us
      have := I0.qu
      omega
    obtain ⟨v0, ev0, A0, c0, rfl, hb0, l10, l20, hsy0, ho0⟩ := I0.yes p f hf
    have hpre : ∀ W, Kp0 w W → W.cell? ⟨g, 0, none⟩ = some (.map (some bm0)) ∧ (Instr.lookup 84 (.map (some bm0)) (.string p) false).run Try.prog W = .ok (.agg #[.slice A0 f.b.length c0, .int .i64 (f.sy : Int), .bool f.firm]) W := fun W k => ⟨by simpa using (I0.cell.kp0 k).cell 0, by
      have := (I0.mp.kp0 k).look hp
      rw [ev0] at this; exact this⟩
    clear I0 ev0 hb0 l10 l20 hsy0 ho0
    obtain ⟨fb, fs, ff⟩ := f
    simp only at hcut hlb hpre
    by_cases hneg : m < 0
    · rw [if_pos (.inl hneg)] at hcut
      rw [hcut]
      clear hcut hfo hlen hf
      go_enter Try.func33, Try.ntmps33
      go_wp2_with fail
      refine hth.mono ?_
      rintro e w' ⟨rfl, k1⟩
      clear hth hpre
      go_wp2
      go_ret
      exact ⟨Did.same h (by omega) k1, .none k1⟩
    · obtain ⟨M, rfl⟩ : ∃ M : Nat, m = M := ⟨m.toNat, by omega⟩
      by_cases hbig : (fb.length : Int) < (M : Int)
      · rw [if_pos (.inr hbig)] at hcut
        rw [hcut]
        clear hcut hfo hlen hf
        go_enter Try.func33, Try.ntmps33
        go_wp2_with fail
        refine hth.mono ?_
        rintro e w' ⟨rfl, k1⟩
        obtain ⟨c00, hlk⟩ := hpre _ k1
        clear hth hpre
        generalize fb.length = L at *
        go_wp2
        go_ret
        exact ⟨Did.same h (by omega) k1, .none k1⟩
      · rw [if_neg (by omega)] at hcut
        have hstep := fun W (k : Kp0 w W) => step67_c g n O d W (h.kp0 k)
        obtain ⟨sF, sK, sQ⟩ := step_files d
        obtain ⟨s1, d2, hs⟩ : ∃ s1 d2, d.step = (s1, d2) := ⟨_, _, rfl⟩
        simp only [hs, Int.toNat_natCast] at hstep hcut sF sK sQ
        clear hs hfo
        have hog : O g := by obtain ⟨bm, V, h⟩ := h; exact h.og
        have hMl : M ≤ fb.length := by omega
        by_cases hs0 : s1 = 0
        · subst hs0
          rw [if_neg (by simp)] at hcut
          rw [hcut]
          clear hcut
          have hcg := fun (w1 w3 : World) (k1 : Kp0 w w1) (k3 : Kp (· = g) w1 w3) => NoBy.step h k1 k3
          go_enter Try.func33, Try.ntmps33
          go_wp2_with fail
          refine hth.mono ?_
          rintro e w' ⟨rfl, k1⟩
          obtain ⟨c00, hlk⟩ := hpre _ k1
          have HF := Lib.hid hf
          have HSF := Lib.hid sF
          clear hth hpre hf sF sK sQ hlen
          go_upto_region 4 with fail
          go_cut [28] from 15 to 28 (fun s wx => s = .bool false ∧ w' = wx)
          case first =>
            clear hstep hcg h HF HSF
            generalize fb.length = L at *
            go_wp2_with fail
            go_meet
            refine ⟨congrArg Value.bool ?_, rfl⟩
            first | rfl | (simp; omega)
          case rest =>
          obtain ⟨rfl, rfl⟩ := hcut
          clear hlk c00
          go_wp2_with fail
          refine (hstep _ k1).mono ?_
          rintro e w3 ⟨rfl, h3, k3⟩
          clear hstep
          obtain ⟨bm, V, I⟩ := h3
          have hK3 : Kp O w w3 := (k1.mono (fun _ _ x => x.elim)).trans k3 (fun i _ e => by rw [e]; exact hog)
          have hf2 : d2.F p = some ⟨fb, fs, ff⟩ := by rw [HSF.out]; exact HF.out
          obtain ⟨v, ev, A, c, rfl, hb, l1, l2, hsy, ho⟩ := I.yes p _ hf2
          simp only at ev hb l1 hsy ho
          have hlk : ∀ W, Kp0 w3 W → (Instr.lookup 84 (.map (some bm)) (.string p) false).run Try.prog W = .ok (.agg #[.slice A fb.length c, .int .i64 (fs : Int), .bool ff]) W := fun W k => by
            have := (I.mp.kp0 k).look hp
            rw [ev] at this; exact this
          have hS : ∀ W, Kp0 w3 W → W.cell? ⟨g, 0, none⟩ = some (.map (some bm)) ∧ (Instr.lookup 84 (.map (some bm)) (.string p) false).run Try.prog W = .ok (.agg #[.slice A fb.length c, .int .i64 (fs : Int), .bool ff]) W := fun W k => ⟨by simpa using (I.cell.kp0 k).cell 0, hlk W k⟩
          obtain ⟨A1, c1, hsl, hb1, m1, m2⟩ := run_cuthi hb l1 l2 M hMl
          have htk : (fb.take M).length = M := by rw [List.length_take]; omega
          have hbyt : ∀ x ∈ fb.take M, 0 ≤ x ∧ x ≤ 255 := fun x hx => hb.byt x (List.mem_of_mem_take hx)
          have hcl : ∀ W, Kp0 w3 W → Calls Try.prog 71 #[.slice A1 M c1] W fun e w' => ∃ A c, e = .returned (.slice A M c) ∧ w'.ownsRow 0 5 1 (.slice A M c) M (u8s (fb.take M)) ∧ Kp0 w3 w' ∧ (∀ i, (Value.slice A M c).ownBlock = some i → w3.heap.size ≤ i) := fun W kW => by
            have := clone_c A1 c1 (fb.take M) W (hb1.kp0 kW) (by rw [htk]; omega)
            unfold Fr at this
            rw [htk] at this
            exact this.mono (by rintro e w' ⟨A, c, e1, e2, e3, e4⟩; exact ⟨A, c, e1, e2, kW.then0 e3, fun i hi => Nat.le_trans kW.size (e4 i hi)⟩)
          have hwh : ∀ W, Kp0 w3 W → ∀ A c, Calls Try.prog 70 #[.slice A M c] W fun e w' => e = .returned (.agg #[.slice A M c, .int .i64 (M : Int), .bool true]) ∧ Kp0 w3 w' ∧ Kp0 W w' := fun W kW A c => (whole70_c A M c W).mono (by rintro e w' ⟨rfl, k'⟩; exact ⟨rfl, kW.then0 k', k'⟩)
          have hup := used_put d2 p ⟨fb.take M, M, true⟩ I.nd I.ks
          have hol : d2.len p = fb.length := by unfold Dk.len; rw [hf2]
          have hne : bm ≠ g := I.mp.ne I.cell
          have hnbS : NoBy w w3 O := hcg _ _ k1 k3
          have hbm : ∀ j x, w.cell? ⟨bm, j, none⟩ ≠ some (.int .u8 x) := fun j x hc => by
            have hlt : bm < w.heap.size := World.block_lt_of_cell? w ⟨bm, j, none⟩ hc
            have kk : Kp (· = g) w w3 := (k1.mono (fun _ _ x => x.elim)).trans k3 (fun _ _ h => h)
            have := (kk.block bm hlt hne)
            refine I.mp.cells bm rfl j x ?_
            unfold World.cell? at hc ⊢
            rw [this]; exact hc
          have hEnd : ∀ A2 c2 wA wB, wA.ownsRow 0 5 1 (.slice A2 M c2) M (u8s (fb.take M)) → Kp0 w3 wA → (∀ i, (Value.slice A2 M c2).ownBlock = some i → w3.heap.size ≤ i) → Kp0 wA wB →
              ∃ w6, (Instr.mapUpdate 84 (.map (some bm)) (.string p) (.agg #[.slice A2 M c2, .int .i64 (M : Int), .bool true])).run Try.prog wB = .ok () w6 ∧
                (w6.cell? ⟨g, 0, none⟩ = some (.map (some bm)) ∧ (Instr.lookup 84 (.map (some bm)) (.string p) false).run Try.prog w6 = .ok (.agg #[.slice A2 M c2, .int .i64 (M : Int), .bool true]) w6) ∧
                Did w w6 g (n + 1) O (0, d2.put p ⟨fb.take M, M, true⟩) (.returned (.int .i64 0)) ∧ NoBy w w6 O := by
            intro A2 c2 wA wB o2 kA f2 kB
            have k3B := kA.then0 kB
            have I5 := I.kp k3B (fun _ _ x => x)
            obtain ⟨w6, hrun, m6, k6⟩ := I5.mp.put hn hp (.agg #[.slice A2 M c2, .int .i64 (M : Int), .bool true])
            have hl6 := m6.look hp
            rw [pt_same] at hl6
            have o2' : wA.ownsRow 0 5 1 (.slice A2 M c2) (fb.take M).length (u8s (fb.take M)) := by rw [htk]; exact o2
            have b2 := bz_own o2' htk.symm hbyt
            have hA2 : ∀ b, A2 = some b → w3.heap.size ≤ b.block ∧ b.block < wA.heap.size := fun b hA => by
              subst hA
              rcases own_shape o2 with ⟨e, _, _⟩ | ⟨r, cap, e, _, _, hr, _⟩
              · cases e
              · injection e with e1 _ _
                injection e1 with e1
                subst e1
                exact ⟨f2 r (by simp [Value.ownBlock]), hr⟩
            have hcap : M ≤ c2 ∧ c2 ≤ 9223372036854775807 := own_cap o2
            have hbl := I.lt bm I.om
            have b6 := (b2.kp0 kB).kp k6 (fun hz b hA e => by have := (hA2 b hA).1; omega)
            have hz6 : wA.heap.size ≤ w6.heap.size := Nat.le_trans kB.size k6.size
            have hz0 : w.heap.size ≤ w3.heap.size := hK3.size
            refine ⟨w6, hrun, ⟨by simpa using (I5.cell.kp k6 (fun e => hne e.symm)).cell 0, hl6⟩, ⟨fun i => O i ∨ (Value.slice A2 M c2).ownBlock = some i, rfl, ⟨bm, _, I5.put hp m6 k6 ⟨A2, c2, by rw [htk], b6, by rw [htk]; exact hcap.1, hcap.2, by simp [htk], ?_⟩ (fun i hi => .inl hi) ?_ ?_⟩, ?_, ?_⟩, ?_⟩
            · rintro _ b rfl; exact .inr rfl
            · rintro i (hi | hi)
              · exact Nat.lt_of_lt_of_le (I5.lt i hi) k6.size
              · rcases own_shape o2 with ⟨e, _, _⟩ | ⟨r, cap, e, _, _, hr, _⟩
                · rw [e] at hi; simp [Value.ownBlock] at hi
                · rw [e] at hi; simp [Value.ownBlock] at hi
                  omega
            · have := I.us
              have e : (d2.put p ⟨fb.take M, M, true⟩).used + fb.length = d2.used + M := by rw [← hol]; rw [hup, htk]
              show (d2.put p ⟨fb.take M, M, true⟩).used ≤ d2.quota
              omega
            · rintro i (hi | hi)
              · exact .inl hi
              · exact .inr (Nat.le_trans hz0 (f2 i hi))
            · exact (hK3.trans k3B (fun _ _ x => x.elim)).trans k6 (fun i _ e => by rw [e]; exact I.om)
            · obtain ⟨S, kS, hSO, hn⟩ := hnbS
              refine ⟨fun i => S i ∨ i = bm, ((kS.mono (fun _ _ h => .inl h)).trans k3B (fun _ _ x => x.elim)).trans k6 (fun i _ e => .inr e), fun i hi => ?_, fun i hi => ?_⟩
              · rcases hi with hi | rfl
                · exact hSO i hi
                · exact I.om
              · rcases hi with hi | rfl
                · exact hn i hi
                · exact hbm
          have K0 : Kp0 w3 w3.drew := (Kp.refl _ _).drew
          have HE := Lib.hid hEnd
          have hM0 : 0 ≤ (M : Int) := by omega
          have hMc : (M : Int) ≤ (c : Int) := by omega
          have hlk0 := hlk _ K0
          clear hEnd hlk I ev hb l1 l2 hsy ho HF HSF hf2 hK3 h hog k1 k3 hb1 htk hup hol hnbS hbm hcg hbyt
          go_upto_region 9 with fail
          go_region_held3 (fun W => W.cell? ⟨g, 0, none⟩ = some (.map (some bm))) (first | exact (hS _ K0).1 | exact (hS _ KA).1 | exact (hS _ KB).1 | exact hl6.1) (first | (go_at_call 71; go_fit (hcl _ K0); rintro e wA ⟨A2, c2, rfl, o2, KA, f2⟩) | (go_at_call 70; go_fit (hwh _ KA A2 c2); rintro e wB ⟨rfl, KB, kab⟩; obtain ⟨w6, hrun, hl6, hdid, hnb⟩ := HE.out A2 c2 wA wB o2 KA f2 kab))
          go_wp2
          go_ret
          exact ⟨hdid, hnb⟩
        · rw [if_pos hs0] at hcut
          rw [hcut]
          have hs' : (s1 != 0) = true := by rw [bne_iff_ne]; exact hs0
          clear hcut hs0
          go_enter Try.func33, Try.ntmps33
          go_wp2_with fail
          refine hth.mono ?_
          rintro e w' ⟨rfl, k1⟩
          obtain ⟨c00, hlk⟩ := hpre _ k1
          clear hth hpre hf sF sK sQ hlen
          have HH := Lib.hid h
          go_upto_region 4 with fail
          go_cut [28] from 15 to 28 (fun s wx => s = .bool false ∧ w' = wx)
          case first =>
            clear hstep h HH
            generalize fb.length = L at *
            go_wp2_with fail
            go_meet
            refine ⟨congrArg Value.bool ?_, rfl⟩
            first | rfl | (simp; omega)
          case rest =>
          obtain ⟨rfl, rfl⟩ := hcut
          clear hlk c00
          go_wp2_with fail
          refine (hstep _ k1).mono ?_
          rintro e w3 ⟨rfl, h3, k3⟩
          clear hstep
          go_wp2
          go_ret
          have hnb := NoBy.step HH.out k1 k3
          obtain ⟨bm, V, I⟩ := h3
          exact ⟨⟨O, rfl, ⟨bm, V, { I with mp := I.mp.mono (by omega) }⟩, fun i hi => .inl hi, (k1.mono (fun _ _ x => x.elim)).trans k3 (fun i _ e => by rw [e]; exact hog)⟩, hnb⟩
  · rw [if_pos ht0] at hcut
    rw [hcut]
    have ht' : (t != 0) = true := by rw [bne_iff_ne]; exact ht0
    clear hcut ht0 hsome
    go_enter Try.func33, Try.ntmps33
    go_wp2_with fail
    refine hth.mono ?_
    rintro e w' ⟨rfl, k1⟩
    go_wp2
    go_ret
    exact ⟨Did.same h (by omega) k1, .none k1⟩
end Go.Proofs.Ytkokgbmeienokaa
