/- Package disk: Clone: another disk, whose files' bytes are the first one's. -/
import Derived.Test.YtkokgbmeienokaaFa
import Derived.Test.YtkokgbmeienokaaSh
set_option linter.unusedVariables false
set_option linter.unusedSimpArgs false
namespace Go.Proofs.Ytkokgbmeienokaa
open Go.RowKit

/-- An act of another disk, that turned none of its bytes' cells, leaves this one. -/
theorem DkIn.nob {w w' : World} {g bm n : Nat} {O O2 : Nat → Prop} {V : ByteArray → Option Value} {d : Dk} (h : DkIn w g bm n O V d) (k : NoBy w w' O2) (h1 : ¬ O2 g) (h2 : ¬ O2 bm) : DkIn w' g bm n O V d := by
  obtain ⟨S, k, hS, hN⟩ := k
  exact ⟨h.cell.kp k (fun e => h1 (hS _ e)), h.mp.kp k (fun e => h2 (hS _ e)), h.no, fun p f hf => by obtain ⟨v, e, hv⟩ := h.yes p f hf; exact ⟨v, e, hv.kp' k hN⟩, h.nd, h.ks, h.sz, h.us, h.qu, h.fu, h.og, h.om, fun i hi => Nat.lt_of_lt_of_le (h.lt i hi) k.size⟩

/-- A disk beside another one, whose blocks (but bytes) are not its own. -/
def Twin (w : World) (g n : Nat) (O : Nat → Prop) (d : Dk) (O2 : Nat → Prop) : Prop := ∃ bm V, DkIn w g bm n O V d ∧ ¬ O2 g ∧ ¬ O2 bm
theorem Twin.at_ {w : World} {g n : Nat} {O O2 : Nat → Prop} {d : Dk} (h : Twin w g n O d O2) : DkAt w g n O d := by
  obtain ⟨bm, V, h, _⟩ := h
  exact ⟨bm, V, h⟩
theorem Twin.kp0 {w w' : World} {g n : Nat} {O O2 : Nat → Prop} {d : Dk} (h : Twin w g n O d O2) (k : Kp0 w w') : Twin w' g n O d O2 := by
  obtain ⟨bm, V, h, h1, h2⟩ := h
  exact ⟨bm, V, h.kp k (fun _ _ x => x), h1, h2⟩
theorem Twin.nob {w w' : World} {g n : Nat} {O O2 O3 : Nat → Prop} {d : Dk} (h : Twin w g n O d O2) (k : NoBy w w' O2) (hO : ∀ i, O3 i → O2 i ∨ w.heap.size ≤ i) : Twin w' g n O d O3 := by
  obtain ⟨bm, V, h, h1, h2⟩ := h
  have hg := h.lt g h.og
  have hm := h.lt bm h.om
  refine ⟨bm, V, h.nob k h1 h2, fun e => ?_, fun e => ?_⟩
  · rcases hO _ e with e | e
    · exact h1 e
    · omega
  · rcases hO _ e with e | e
    · exact h2 e
    · omega

set_option maxRecDepth 100000 in
theorem clone34_c (g n : Nat) (O : Nat → Prop) (d : Dk) (w : World) (h : DkAt w g n O d) :
    Calls Try.prog 34 #[.pointer (some ⟨g, 0, none⟩)] w fun e w' => ∃ g' O', e = .returned (.pointer (some ⟨g', 0, none⟩)) ∧ DkAt w' g' n O' d ∧ Twin w' g n O d O' ∧ (∀ i, O' i → O i ∨ w.heap.size ≤ i) ∧ Kp0 w w' := by
  obtain ⟨bm, V, I⟩ := h
  have ka : Kp0 w (w.alloc (.cells #[.map (some bm), .int .i64 (d.quota : Int), .bool d.dead, .bool d.lit, .int .i64 (d.fuse : Int)] 86)) := (Kp.refl _ _).alloc _
  have BA : Blk (w.alloc (.cells #[.map (some bm), .int .i64 (d.quota : Int), .bool d.dead, .bool d.lit, .int .i64 (d.fuse : Int)] 86)) w.heap.size #[.map (some bm), .int .i64 (d.quota : Int), .bool d.dead, .bool d.lit, .int .i64 (d.fuse : Int)] 86 := blk_new _ _ rfl
  have hgw := I.cell.lt
  have hbw := I.lt bm I.om
  have hcl : ∀ W, Kp0 w W → Calls Try.prog 72 #[.map (some bm)] W fun e w' => e = .returned (.map (some W.heap.size)) ∧ MapD w' W.heap.size n V ∧ Kp0 W w' := fun W k => by
    obtain ⟨D, hown, g1, g2, g3⟩ := I.mp.kp0 k
    have := AnyW.maps_Clone_owns Try.clone72 9 RV bm n D W hown
    exact this.mono fun e w' hh => ⟨hh.1, ⟨D, hh.2.1, g1, g2, g3⟩, Kp.of_below hh.2.2.2⟩
  have c0 := I.cell.cell 0
  have c1 := I.cell.cell 1
  have c2 := I.cell.cell 2
  have c3 := I.cell.cell 3
  have c4 := I.cell.cell 4
  simp at c0 c1 c2 c3 c4
  have FIN : ∀ w2, MapD w2 (w.alloc (.cells #[.map (some bm), .int .i64 (d.quota : Int), .bool d.dead, .bool d.lit, .int .i64 (d.fuse : Int)] 86)).heap.size n V → Kp0 (w.alloc (.cells #[.map (some bm), .int .i64 (d.quota : Int), .bool d.dead, .bool d.lit, .int .i64 (d.fuse : Int)] 86)) w2 →
      ∃ O', DkAt (w2.setCell ⟨w.heap.size, 0, none⟩ (.map (some (w.heap.size + 1)))) w.heap.size n O' d ∧ Twin (w2.setCell ⟨w.heap.size, 0, none⟩ (.map (some (w.heap.size + 1)))) g n O d O' ∧ (∀ i, O' i → O i ∨ w.heap.size ≤ i) ∧ Kp0 w (w2.setCell ⟨w.heap.size, 0, none⟩ (.map (some (w.heap.size + 1)))) := fun w2 m2 k2 => by
    have hsz : (w.alloc (.cells #[.map (some bm), .int .i64 (d.quota : Int), .bool d.dead, .bool d.lit, .int .i64 (d.fuse : Int)] 86)).heap.size = w.heap.size + 1 := by simp
    rw [hsz] at m2
    have kN : Kp (· = w.heap.size) w2 (w2.setCell ⟨w.heap.size, 0, none⟩ (.map (some (w.heap.size + 1)))) := (Kp.self _ _).put 0 _
    have K : Kp0 w (w2.setCell ⟨w.heap.size, 0, none⟩ (.map (some (w.heap.size + 1)))) := (ka.then0 k2).new kN (Nat.le_refl _)
    have m3 := m2.kp kN (fun e => by omega)
    have hlt := m3.lt
    have B3 := (BA.kp0 k2).set 0 (.map (some (w.heap.size + 1)))
    refine ⟨fun i => i = w.heap.size ∨ i = w.heap.size + 1 ∨ (O i ∧ i ≠ g ∧ i ≠ bm), ⟨w.heap.size + 1, V, ⟨by simpa using B3, m3, I.no, fun p f hf => ?_, I.nd, I.ks, I.sz, I.us, I.qu, I.fu, .inl rfl, .inr (.inl rfl), fun i hi => ?_⟩⟩, ⟨bm, V, I.kp K (fun _ _ x => x), fun e => ?_, fun e => ?_⟩, fun i hi => ?_, K⟩
    · obtain ⟨v, e, hv⟩ := I.yes p f hf
      refine ⟨v, e, ?_⟩
      obtain ⟨A, c, ev, hb, l1, l2, hs, ho⟩ := hv
      refine ⟨A, c, ev, hb.kp0 K, l1, l2, hs, fun hz b hA => .inr (.inr ⟨ho hz b hA, fun eg => ?_, fun eb => ?_⟩)⟩
      · obtain ⟨B, off, eA, _, hc⟩ := hb.cell 0 (List.length_pos_iff.2 hz)
        rw [eA] at hA; injection hA with hA; subst hA
        exact I.cells_g _ eg _ _ hc
      · obtain ⟨B, off, eA, _, hc⟩ := hb.cell 0 (List.length_pos_iff.2 hz)
        rw [eA] at hA; injection hA with hA; subst hA
        exact I.mp.cells _ eb _ _ hc
    · have := K.size
      rcases hi with rfl | rfl | ⟨hi, _⟩
      · omega
      · exact hlt
      · have := I.lt i hi; omega
    · rcases e with e | e | ⟨_, e, _⟩
      · omega
      · omega
      · exact e rfl
    · rcases e with e | e | ⟨_, _, e⟩
      · omega
      · omega
      · exact e rfl
    · rcases hi with rfl | rfl | ⟨hi, _⟩
      · exact .inr (Nat.le_refl _)
      · exact .inr (by omega)
      · exact .inl hi
  have HF := Lib.hid FIN
  have hsz : (w.alloc (.cells #[.map (some bm), .int .i64 (d.quota : Int), .bool d.dead, .bool d.lit, .int .i64 (d.fuse : Int)] 86)).heap.size = w.heap.size + 1 := by simp
  have HS := Lib.hid hsz
  clear FIN I hsz
  go_enter Try.func34, Try.ntmps34
  go_wp2_with fail
  refine (hcl _ ka).mono ?_
  rintro e w2 ⟨rfl, m2, k2⟩
  have f2 := (BA.kp0 k2).free 0
  have p2 := (BA.kp0 k2).cell 0
  simp at p2
  have hfin := HF.out w2 m2 k2
  have HFIN := Lib.hid hfin
  rw [HS.out]
  clear hfin HF m2 k2 hcl BA ka c0 c1 c2 c3 c4
  go_wp2
  go_ret
  obtain ⟨O', h⟩ := HFIN.out
  exact ⟨_, O', rfl, h⟩
end Go.Proofs.Ytkokgbmeienokaa
