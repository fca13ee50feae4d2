/- Package disk: a plain model, its reading, the first contracts. -/
import Derived.Test.YtkokgbmeienokaaDm
set_option linter.unusedVariables false
set_option linter.unusedSimpArgs false
namespace Go.Proofs.Ytkokgbmeienokaa
open Go.RowKit

structure Fi where
  b : List Int
  sy : Nat
  firm : Bool
structure Dk where
  F : ByteArray → Option Fi
  ks : List ByteArray
  quota : Nat
  dead : Bool
  lit : Bool
  fuse : Nat
def Dk.len (d : Dk) (p : ByteArray) : Nat := match d.F p with | some f => f.b.length | none => 0
def Dk.used (d : Dk) : Nat := (d.ks.map d.len).sum

/-- A file's value; its bytes lie in O. -/
def FileV (w : World) (O : Nat → Prop) (v : Value) (f : Fi) : Prop :=
  ∃ A c, v = .agg #[.slice A f.b.length c, .int .i64 (f.sy : Int), .bool f.firm] ∧ Bz w A c f.b ∧ f.b.length ≤ c ∧ c ≤ 9223372036854775807 ∧ f.sy ≤ f.b.length ∧ (f.b ≠ [] → ∀ b, A = some b → O b.block)
theorem FileV.kp {S O : Nat → Prop} {w w' : World} {v : Value} {f : Fi} (h : FileV w O v f) (k : Kp S w w') (hn : ∀ i, O i → ¬ S i) : FileV w' O v f := by
  obtain ⟨A, c, e, hb, l1, l2, hs, ho⟩ := h
  exact ⟨A, c, e, hb.kp k (fun hz b hA => hn _ (ho hz b hA)), l1, l2, hs, ho⟩
theorem FileV.kp0 {O : Nat → Prop} {w w' : World} {v : Value} {f : Fi} (h : FileV w O v f) (k : Kp0 w w') : FileV w' O v f := h.kp k (fun _ _ x => x)

structure DkIn (w : World) (g bm n : Nat) (O : Nat → Prop) (V : ByteArray → Option Value) (d : Dk) : Prop where
  cell : Blk w g #[.map (some bm), .int .i64 (d.quota : Int), .bool d.dead, .bool d.lit, .int .i64 (d.fuse : Int)] 86
  mp : MapD w bm n V
  no : ∀ p, d.F p = none → p.size ≤ 100 → V p = none
  yes : ∀ p f, d.F p = some f → ∃ v, V p = some v ∧ FileV w O v f
  nd : d.ks.Nodup
  ks : ∀ p, p ∈ d.ks ↔ (d.F p).isSome = true
  sz : ∀ p, (d.F p).isSome = true → p.size ≤ 100
  us : d.used ≤ d.quota
  qu : d.quota ≤ 65536
  fu : d.fuse ≤ 9223372036854775807
  og : O g
  om : O bm
  lt : ∀ i, O i → i < w.heap.size

/-- A disk of block g; O: its own blocks. -/
def DkAt (w : World) (g n : Nat) (O : Nat → Prop) (d : Dk) : Prop := ∃ bm V, DkIn w g bm n O V d

theorem DkIn.kp {S : Nat → Prop} {w w' : World} {g bm n : Nat} {O : Nat → Prop} {V : ByteArray → Option Value} {d : Dk} (h : DkIn w g bm n O V d) (k : Kp S w w') (hn : ∀ i, O i → ¬ S i) : DkIn w' g bm n O V d :=
  ⟨h.cell.kp k (hn _ h.og), h.mp.kp k (hn _ h.om), h.no, fun p f hf => by obtain ⟨v, e, hv⟩ := h.yes p f hf; exact ⟨v, e, hv.kp k hn⟩, h.nd, h.ks, h.sz, h.us, h.qu, h.fu, h.og, h.om, fun i hi => Nat.lt_of_lt_of_le (h.lt i hi) k.size⟩
theorem DkAt.kp {S : Nat → Prop} {w w' : World} {g n : Nat} {O : Nat → Prop} {d : Dk} (h : DkAt w g n O d) (k : Kp S w w') (hn : ∀ i, O i → ¬ S i) : DkAt w' g n O d := by
  obtain ⟨bm, V, h⟩ := h
  exact ⟨bm, V, h.kp k hn⟩
theorem DkAt.kp0 {w w' : World} {g n : Nat} {O : Nat → Prop} {d : Dk} (h : DkAt w g n O d) (k : Kp0 w w') : DkAt w' g n O d := h.kp k (fun _ _ x => x)
theorem DkAt.olt {w : World} {g n : Nat} {O : Nat → Prop} {d : Dk} (h : DkAt w g n O d) : ∀ i, O i → i < w.heap.size := by
  obtain ⟨bm, V, h⟩ := h
  exact h.lt

theorem FileV.kp' {S O : Nat → Prop} {w w' : World} {v : Value} {f : Fi} (h : FileV w O v f) (k : Kp S w w') (hn : ∀ i, S i → ∀ j x, w.cell? ⟨i, j, none⟩ ≠ some (.int .u8 x)) : FileV w' O v f := by
  obtain ⟨A, c, e, hb, l1, l2, hs, ho⟩ := h
  refine ⟨A, c, e, hb.kp k (fun hz b hA hS => ?_), l1, l2, hs, ho⟩
  obtain ⟨B, off, eA, _, hc⟩ := hb.cell 0 (List.length_pos_iff.2 hz)
  rw [eA] at hA; injection hA with hA; subst hA
  exact hn _ hS _ _ hc
theorem DkIn.cells_g {w : World} {g bm n : Nat} {O : Nat → Prop} {V : ByteArray → Option Value} {d : Dk} (h : DkIn w g bm n O V d) : ∀ i, i = g → ∀ j x, w.cell? ⟨i, j, none⟩ ≠ some (.int .u8 x) := by
  rintro i rfl j x hc
  rw [h.cell.cell j] at hc
  have : j < 5 := by
    rcases Nat.lt_or_ge j 5 with h | h
    · exact h
    · rw [Array.getElem?_eq_none (by simpa using h)] at hc; cases hc
  obtain rfl | rfl | rfl | rfl | rfl : j = 0 ∨ j = 1 ∨ j = 2 ∨ j = 3 ∨ j = 4 := by omega
  all_goals simp at hc
theorem MapD.cells {w : World} {b n : Nat} {F : ByteArray → Option Value} (h : MapD w b n F) : ∀ i, i = b → ∀ j x, w.cell? ⟨i, j, none⟩ ≠ some (.int .u8 x) := by
  rintro i rfl j x hc
  obtain ⟨D, ⟨es, clock, hb, _⟩, _⟩ := h
  unfold World.cell? at hc
  simp [hb] at hc
/-- The disk's own cells turned. -/
theorem DkIn.setg {w w' : World} {g bm n : Nat} {O : Nat → Prop} {V : ByteArray → Option Value} {d d' : Dk} (h : DkIn w g bm n O V d) (k : Kp (· = g) w w')
    (hc : Blk w' g #[.map (some bm), .int .i64 (d'.quota : Int), .bool d'.dead, .bool d'.lit, .int .i64 (d'.fuse : Int)] 86) (hF : d'.F = d.F) (hk : d'.ks = d.ks) (hq : d'.quota = d.quota) (hf : d'.fuse ≤ 9223372036854775807) : DkIn w' g bm n O V d' := by
  have hu : d'.used = d.used := by unfold Dk.used Dk.len; rw [hF, hk]
  exact ⟨hc, h.mp.kp k (fun e => h.mp.ne h.cell e), fun p => by rw [hF]; exact h.no p, fun p f hf => by rw [hF] at hf; obtain ⟨v, e, hv⟩ := h.yes p f hf; exact ⟨v, e, hv.kp' k h.cells_g⟩,
    by rw [hk]; exact h.nd, by rw [hk, hF]; exact h.ks, by rw [hF]; exact h.sz, by rw [hu, hq]; exact h.us, by rw [hq]; exact h.qu, hf, h.og, h.om, fun i hi => Nat.lt_of_lt_of_le (h.lt i hi) k.size⟩

def dk0 (q : Nat) : Dk := { F := fun _ => none, ks := [], quota := q, dead := false, lit := false, fuse := 0 }

set_option maxRecDepth 100000 in
theorem new19_c (q : Int) (w : World) :
    Calls Try.prog 19 #[.int .i64 q] w fun e w' => ∃ g O, e = .returned (.pointer (some ⟨g, 0, none⟩)) ∧ DkAt w' g 0 O (dk0 (if q < 0 then 0 else if 65536 < q then 65536 else q.toNat)) ∧ (∀ i, O i → w.heap.size ≤ i) ∧ Kp0 w w' := by
  have hmm := @run_makeMap Try.prog
  have hfin : ∀ (Q : Nat) (w1 : World), Q ≤ 65536 → w1 = (w.alloc (.map #[] 0)).alloc (.cells #[.map (some w.heap.size), .int .i64 (Q : Int), .bool false, .bool false, .int .i64 0] 86) → ∃ O, DkAt w1 (w.heap.size + 1) 0 O (dk0 Q) ∧ (∀ i, O i → w.heap.size ≤ i) ∧ Kp0 w w1 := by
    rintro Q w1 hQ rfl
    have k2 : Kp0 (w.alloc (.map #[] 0)) ((w.alloc (.map #[] 0)).alloc (.cells #[.map (some w.heap.size), .int .i64 (Q : Int), .bool false, .bool false, .int .i64 0] 86)) := (Kp.refl _ _).alloc _
    exact ⟨fun i => i = w.heap.size + 1 ∨ i = w.heap.size, ⟨w.heap.size, fun _ => none, blk_new _ _ (by simp), (MapD.made w).kp0 k2, fun _ _ _ => rfl, fun p f h => (by cases h), List.nodup_nil, fun p => (by simp [dk0]), fun p h => (by cases h), (by simp [dk0, Dk.used]), hQ, (by simp [dk0]), .inl rfl, .inr rfl, fun i hi => (by simp; omega)⟩, fun i hi => (by omega), ((Kp.refl _ _).alloc _).alloc _⟩
  by_cases h1 : q < 0
  · rw [if_pos h1]
    obtain ⟨O, a, b, c⟩ := hfin 0 _ (by omega) rfl
    clear hfin
    go_enter Try.func19, Try.ntmps19
    go_wp2
    go_ret
    first | exact ⟨_, O, rfl, a, b, c⟩ | exact ⟨_, rfl, O, a, b, c⟩
  · by_cases h2 : 65536 < q
    · rw [if_neg h1, if_pos h2]
      obtain ⟨O, a, b, c⟩ := hfin 65536 _ (by omega) rfl
      clear hfin
      go_enter Try.func19, Try.ntmps19
      go_wp2
      go_ret
      first | exact ⟨_, O, rfl, a, b, c⟩ | exact ⟨_, rfl, O, a, b, c⟩
    · rw [if_neg h1, if_neg h2]
      obtain ⟨Q, rfl⟩ : ∃ Q : Nat, q = Q := ⟨q.toNat, by omega⟩
      rcases Nat.eq_zero_or_pos Q with rfl | hQ
      · obtain ⟨O, a, b, c⟩ := hfin 0 _ (by omega) rfl
        clear hfin
        go_enter Try.func19, Try.ntmps19
        go_wp2
        go_ret
        first | exact ⟨_, O, rfl, a, b, c⟩ | exact ⟨_, rfl, O, a, b, c⟩
      · obtain ⟨O, a, b, c⟩ := hfin Q _ (by omega) rfl
        clear hfin
        have h1' : (0 : Int) < (Q : Int) := by omega
        have h2' : (Q : Int) ≤ 65536 := by omega
        go_enter Try.func19, Try.ntmps19
        go_wp2
        go_ret
        first | exact ⟨_, O, rfl, a, b, c⟩ | exact ⟨_, rfl, O, a, b, c⟩

set_option maxRecDepth 100000 in
theorem dead28_c (g n : Nat) (O : Nat → Prop) (d : Dk) (w : World) (h : DkAt w g n O d) :
    Calls Try.prog 28 #[.pointer (some ⟨g, 0, none⟩)] w fun e w' => e = .returned (.bool d.dead) ∧ w = w' := by
  obtain ⟨bm, V, h⟩ := h
  have c2 := h.cell.cell 2
  simp at c2
  clear h
  go_enter Try.func28, Try.ntmps28
  go_wp2
  go_ret
  exact ⟨rfl, rfl⟩

set_option maxRecDepth 100000 in
theorem fuse30_c (g n : Nat) (O : Nat → Prop) (d : Dk) (m : Nat) (hm : m ≤ 9223372036854775807) (w : World) (h : DkAt w g n O d) :
    Calls Try.prog 30 #[.pointer (some ⟨g, 0, none⟩), .int .i64 (m : Int)] w fun e w' => e = .returned (.tuple #[]) ∧ DkAt w' g n O { d with lit := true, fuse := m } ∧ Kp (· = g) w w' := by
  obtain ⟨bm, V, h⟩ := h
  have c3 := h.cell.cell 3
  have c4 := h.cell.cell 4
  have f3 := h.cell.free 3
  have f4 := h.cell.free 4
  simp at c3 c4
  have K : Kp (· = g) w ((w.setCell ⟨g, 3, none⟩ (.bool true)).setCell ⟨g, 4, none⟩ (.int .i64 (m : Int))) := ((Kp.self g w).put 3 _).put 4 _
  have D' := h.setg (d' := { d with lit := true, fuse := m }) K (by simpa using (h.cell.set 3 (.bool true)).set 4 (.int .i64 (m : Int))) rfl rfl rfl hm
  clear h
  rcases Nat.eq_zero_or_pos m with rfl | h0
  · go_enter Try.func30, Try.ntmps30
    go_wp2
    go_end0
    exact ⟨rfl, ⟨bm, V, D'⟩, K⟩
  · have h0' : (0 : Int) < (m : Int) := by omega
    go_enter Try.func30, Try.ntmps30
    go_wp2
    go_end0
    exact ⟨rfl, ⟨bm, V, D'⟩, K⟩

def Dk.step (d : Dk) : Int × Dk := if d.lit = true ∧ d.fuse = 0 then (7, { d with dead := true }) else if d.lit = true then (0, { d with fuse := d.fuse - 1 }) else (0, d)

set_option maxRecDepth 100000 in
theorem step67_c (g n : Nat) (O : Nat → Prop) (d : Dk) (w : World) (h : DkAt w g n O d) :
    Calls Try.prog 67 #[.pointer (some ⟨g, 0, none⟩)] w fun e w' => e = .returned (.int .i64 d.step.1) ∧ DkAt w' g n O d.step.2 ∧ Kp (· = g) w w' := by
  have h0 := h
  obtain ⟨bm, V, h⟩ := h
  have c2 := h.cell.cell 2
  have c3 := h.cell.cell 3
  have c4 := h.cell.cell 4
  have f2 := h.cell.free 2
  have f4 := h.cell.free 4
  simp at c2 c3 c4
  have hfu := h.fu
  cases hl : d.lit with
  | false =>
    rw [hl] at c3
    have hs : d.step = (0, d) := by unfold Dk.step; simp [hl]
    rw [hs]
    have HL := Lib.hid hl
    clear hl
    go_enter Try.func67, Try.ntmps67
    go_wp2
    go_ret
    exact ⟨rfl, h0, Kp.refl _ _⟩
  | true =>
    rw [hl] at c3
    have HL := Lib.hid hl
    rcases Nat.eq_zero_or_pos d.fuse with hz | hz
    · have hs : d.step = (7, { d with dead := true }) := by unfold Dk.step; simp [hl, hz]
      rw [hs]
      rw [hz] at c4
      have K : Kp (· = g) w (w.setCell ⟨g, 2, none⟩ (.bool true)) := (Kp.self g w).put 2 _
      have D' := h.setg (d' := { d with dead := true }) K (by simpa using h.cell.set 2 (.bool true)) rfl rfl rfl hfu
      clear hl hz hs
      go_enter Try.func67, Try.ntmps67
      go_wp2
      go_ret
      exact ⟨rfl, ⟨bm, V, D'⟩, K⟩
    · have hs : d.step = (0, { d with fuse := d.fuse - 1 }) := by unfold Dk.step; rw [if_neg (by omega), if_pos hl]
      rw [hs]
      have t1 : ((d.fuse : Int) == 0) = false := by rw [beq_eq_false_iff_ne]; omega
      have e1 : ((d.fuse - 1 : Nat) : Int) = (d.fuse : Int) - 1 := by omega
      have K : Kp (· = g) w (w.setCell ⟨g, 4, none⟩ (.int .i64 ((d.fuse : Int) - 1))) := (Kp.self g w).put 4 _
      have D' := h.setg (d' := { d with fuse := d.fuse - 1 }) K (by rw [e1]; simpa using h.cell.set 4 (.int .i64 ((d.fuse : Int) - 1))) rfl rfl rfl (by show d.fuse - 1 ≤ _; omega)
      clear hl hs e1 h h0
      generalize d.fuse = fu at *
      go_enter Try.func67, Try.ntmps67
      go_wp2
      go_ret
      exact ⟨rfl, ⟨bm, V, D'⟩, K⟩
end Go.Proofs.Ytkokgbmeienokaa
