/- The master's contracts. -/
import Derived.Test.YtgilnhagddihcaaBk
import Derived.Test.YtgilnhagddihcaaMm
import Derived.Deep.CutRange
import Derived.Deep.RegionHeld3
import Derived.BigQuiet
set_option linter.unusedVariables false
set_option linter.unusedSimpArgs false
namespace Go.Proofs.Ytgilnhagddihcaa
open Go.RowKit

def ints (l : List Int) : List Value := l.map (.int .i64 ·)

/-- A master of block g: of each key the numbers that it heard, and the state. O: its own blocks. -/
def MsAt (w : World) (g : Nat) (O : Nat → Prop) (n : Nat) (L : Key → List Int) (S : Key → Int) : Prop :=
  ∃ b1 b2 f1 f2, Blk w g #[.map (some b1), .map (some b2)] 76 ∧ MapAs w b1 n (.slice none 0 0) f1 ∧ MapAs w b2 n (.int .i64 0) f2 ∧ b1 ≠ b2 ∧
    (∀ p, w.ownsRow 0 3 1 (f1 p) (L p).length (ints (L p))) ∧ (∀ p q i, (f1 p).ownBlock = some i → (f1 q).ownBlock = some i → p = q) ∧ (∀ p, f2 p = .int .i64 (S p)) ∧
    (∀ i, O i ↔ i = g ∨ i = b1 ∨ i = b2 ∨ ∃ p, (f1 p).ownBlock = some i) ∧ (∀ p, (L p).length ≤ n)

theorem MsAt.olt {w : World} {g n : Nat} {O : Nat → Prop} {L : Key → List Int} {S : Key → Int} (h : MsAt w g O n L S) : ∀ i, O i → i < w.heap.size := by
  obtain ⟨b1, b2, f1, f2, hg, m1, m2, _, hr, _, _, hO, _⟩ := h
  intro i hi
  rcases (hO i).1 hi with rfl | rfl | rfl | ⟨p, hp⟩
  · exact hg.lt
  · exact m1.lt
  · exact m2.lt
  · exact ((hr p).lt i hp).2

theorem MsAt.kp {S0 : Nat → Prop} {w w' : World} {g n : Nat} {O : Nat → Prop} {L : Key → List Int} {S : Key → Int} (h : MsAt w g O n L S) (k : Kp S0 w w') (hn : ∀ i, O i → ¬ S0 i) : MsAt w' g O n L S := by
  obtain ⟨b1, b2, f1, f2, hg, m1, m2, hne, hr, hd, hs, hO, hl⟩ := h
  exact ⟨b1, b2, f1, f2, hg.kp k (hn _ ((hO _).2 (.inl rfl))), m1.kp k (hn _ ((hO _).2 (.inr (.inl rfl)))), m2.kp k (hn _ ((hO _).2 (.inr (.inr (.inl rfl))))), hne, fun p => own_kp (hr p) k (fun i hi => hn _ ((hO _).2 (.inr (.inr (.inr ⟨p, hi⟩))))), hd, hs, hO, hl⟩
theorem MsAt.kp0 {w w' : World} {g n : Nat} {O : Nat → Prop} {L : Key → List Int} {S : Key → Int} (h : MsAt w g O n L S) (k : Kp0 w w') : MsAt w' g O n L S := h.kp k (fun _ _ x => x)

theorem zero41 (w : World) : (zeroValue 41).run Try.prog w = .ok (.slice none 0 0) w := by kernel_rfl
theorem zero3 (w : World) : (zeroValue 3).run Try.prog w = .ok (.int .i64 0) w := by kernel_rfl

set_option maxRecDepth 100000 in
theorem new_c (w : World) :
    Calls Try.prog 42 #[] w fun e w' => ∃ g O, e = .returned (.pointer (some ⟨g, 0, none⟩)) ∧ MsAt w' g O 0 (fun _ => []) (fun _ => 0) ∧ (∀ i, O i → w.heap.size ≤ i) ∧ w.heap.size ≤ g ∧ Kp0 w w' := by
  have hmm := @run_makeMap Try.prog
  go_enter Try.func42, Try.ntmps42
  go_wp2
  go_ret
  have a1 := MapAs.made w (.slice none 0 0)
  have a2 := MapAs.made (w.alloc (.map #[] 0)) (.int .i64 0)
  have k1 : Kp0 w (w.alloc (.map #[] 0)) := (Kp.refl _ _).alloc _
  have k2 : Kp0 (w.alloc (.map #[] 0)) ((w.alloc (.map #[] 0)).alloc (.map #[] 0)) := (Kp.refl _ _).alloc _
  have hs1 : (w.alloc (.map #[] 0)).heap.size = w.heap.size + 1 := by simp
  have k3 : Kp0 ((w.alloc (.map #[] 0)).alloc (.map #[] 0)) (((w.alloc (.map #[] 0)).alloc (.map #[] 0)).alloc (.cells #[.map (some w.heap.size), .map (some (w.heap.size + 1))] 76)) := (Kp.refl _ _).alloc _
  rw [hs1] at a2
  refine ⟨w.heap.size + 1 + 1, fun i => i = w.heap.size + 1 + 1 ∨ i = w.heap.size ∨ i = w.heap.size + 1, rfl, ⟨w.heap.size, w.heap.size + 1, _, _, blk_new _ _ (by simp), (a1.kp0 k2).kp0 k3, a2.kp0 k3, by omega, fun p => World.ownsRow_nil _ _ _ _, fun p q i h => by simp [Value.ownBlock] at h, fun p => rfl, fun i => by simp [Value.ownBlock], fun p => Nat.le_refl _⟩, fun i hi => by omega, by omega, (k1.then0 k2).then0 k3⟩

set_option maxRecDepth 100000 in
theorem state_c (g n : Nat) (O : Nat → Prop) (L : Key → List Int) (S : Key → Int) (p : Key) (hp : Small p) (w : World) (h : MsAt w g O n L S) :
    Calls Try.prog 46 #[.pointer (some ⟨g, 0, none⟩), kvp p] w fun e w' => e = .returned (.int .i64 (S p)) ∧ Kp0 w w' := by
  have k0 : Kp0 w (w.alloc (.cells #[.string p.1, .string p.2] 52)) := (Kp.refl _ _).alloc _
  have h1 := h.kp0 k0
  obtain ⟨b1, b2, f1, f2, hg, m1, m2, hne, hr, hd, hs, hO, hl⟩ := h1
  have c1 := hg.cell 1
  have hlook : ∀ n, (Instr.lookup 70 (.map (some b2)) (kvp p) false).run Try.prog ((w.alloc (.cells #[.string p.1, .string p.2] 52)).drewN n) = .ok (f2 p) ((w.alloc (.cells #[.string p.1, .string p.2] 52)).drewN n) := fun n => (m2.kp0 ((Kp.refl _ _).drewN n)).look Try.underlying70 (zero3 _) hp
  rw [hs p] at hlook
  unfold kvp kv at hlook ⊢
  simp at c1
  clear h hg m1 m2 hne hr hd hs hO hl
  go_enter Try.func46, Try.ntmps46
  go_wp2_with fail
  go_quiet (fail)
  go_wp2
  go_ret
  exact ⟨rfl, k0.drewN _⟩

theorem own_empty {w : World} {b e size : Nat} (h : w.heap[b]? = some (.cells #[] e (0, 0))) : w.ownsRow 0 e size (.slice (some ⟨b, 0, none⟩) 0 0) 0 [] :=
  ⟨by simp, .inr ⟨b, 0, #[], rfl, Nat.zero_le _, h, Nat.le_refl _, Nat.zero_le _, by simp, by simp⟩⟩

theorem ints_one (l : List Int) : ∀ u ∈ ints l, u.oneCell' = true := by
  intro u hu; obtain ⟨c, _, rfl⟩ := List.mem_map.1 hu; rfl

set_option maxRecDepth 100000 in
theorem clone_c (v : Value) (n : Nat) (xs : List Value) (w : World) (h : w.ownsRow 0 3 1 v n xs) (hn : n ≤ 1000000) (h1 : ∀ u ∈ xs, u.oneCell' = true) :
    Calls Try.prog 56 #[v] w fun e w' => ∃ v', e = .returned v' ∧ w'.ownsRow 0 3 1 v' n xs ∧ Kp0 w w' ∧ (∀ i, v'.ownBlock = some i → w.heap.size ≤ i) := by
  have hl : xs.length = n := by simpa using h.1
  have heq : ∀ (w : World) (a : Option Addr) (n c : Nat), (binOp .eql 41 (.slice a n c) (.slice none 0 0)).run Try.prog w = .ok (.bool a.isNone) w := fun w a n c => Lib.run_eql_slice_nil w 41 3 a n c 0 0 rfl
  rcases own_shape h with ⟨rfl, rfl, rfl⟩ | ⟨r, cap, rfl, hc1, hc2, hr, _⟩
  · go_enter Try.func56, Try.ntmps56
    go_wp2
    go_ret
    exact ⟨_, rfl, World.ownsRow_nil _ _ _ _, Kp.refl _ _, by simp [Value.ownBlock]⟩
  · go_enter Try.func56, Try.ntmps56
    go_wp2_with (first
      | (at_builtin; refine wpList_append_own_at _ rfl _ _ 41 rfl 0 3 _ (.int .i64 0) 1 8 rfl rfl rfl rfl rfl rfl (by decide) _ 0 [] rfl (own_empty (blk_new _ _ rfl)) ⟨r, 0, none⟩ n cap xs rfl (by omega) ?_ h1 (by simp only [maxLen]; omega) (by omega) (by simp) ?_))
    · intro j u hu
      have hb : r < (w.alloc (Obj.cells #[] 3)).heap.size := by simp; omega
      exact (own_kp (S := fun _ => False) h ((Kp.refl _ _).alloc _) (fun _ _ x => x)).cells (g := r) rfl j u hu
    · intro v' w' o1 hg hn0 hb1
      have k1 : Kp0 w w' := (Kp.refl (fun _ => False) w |>.alloc _).grown hg (by intro k hk hlt; simp [Value.ownBlock] at hk; omega)
      go_wp2
      go_ret
      refine ⟨v', rfl, by simpa using o1, k1, fun i hi => ?_⟩
      rcases hb1 with hb1 | hb1
      · rw [hb1] at hi; simp [Value.ownBlock] at hi; omega
      · rw [hb1] at hi; simp at hi; omega

set_option maxRecDepth 100000 in
theorem heard_c (g n : Nat) (O : Nat → Prop) (L : Key → List Int) (S : Key → Int) (p : Key) (hp : Small p) (w : World) (h : MsAt w g O n L S) (hn : n ≤ 1000000) :
    Calls Try.prog 47 #[.pointer (some ⟨g, 0, none⟩), kvp p] w fun e w' => ∃ v', e = .returned v' ∧ w'.ownsRow 0 3 1 v' (L p).length (ints (L p)) ∧ Kp0 w w' ∧ (∀ i, v'.ownBlock = some i → w.heap.size ≤ i) := by
  have k0 : Kp0 w (w.alloc (.cells #[.string p.1, .string p.2] 52)) := (Kp.refl _ _).alloc _
  have h1 := h.kp0 k0
  obtain ⟨b1, b2, f1, f2, hg, m1, m2, hne, hr, hd, hs, hO, hl⟩ := h1
  have c0 := hg.cell 0
  have hcl : ∀ n, Calls Try.prog 56 #[f1 p] ((w.alloc (.cells #[.string p.1, .string p.2] 52)).drewN n) fun e w' => ∃ v', e = .returned v' ∧ w'.ownsRow 0 3 1 v' (L p).length (ints (L p)) ∧ Kp0 w w' ∧ (∀ i, v'.ownBlock = some i → w.heap.size ≤ i) ∧ Kp0 (w.alloc (.cells #[.string p.1, .string p.2] 52)) w' := by
    intro n
    refine (clone_c (f1 p) _ _ _ (own_kp (hr p) ((Kp.refl (fun _ => False) _).drewN n) (fun _ _ x => x)) (by have := hl p; omega) (ints_one _)).mono ?_
    rintro e w' ⟨v', rfl, o1, k1, f⟩
    exact ⟨v', rfl, o1, (k0.drewN n).then0 k1, fun i hi => by have := f i hi; have := (k0.drewN n).size; omega, ((Kp.refl (fun _ => False) _).drewN n).then0 k1⟩
  have dB := @blk_new w w.heap.size #[.string p.1, .string p.2] 52 rfl
  have hS : ∀ W', Kp0 (w.alloc (.cells #[.string p.1, .string p.2] 52)) W' → W'.cell? ⟨g, 0, none⟩ = some (.map (some b1)) ∧ W'.cell? ⟨w.heap.size, 0, none⟩ = some (.string p.1) ∧ W'.cell? ⟨w.heap.size, 1, none⟩ = some (.string p.2) ∧ (Instr.lookup 74 (.map (some b1)) (kvp p) false).run Try.prog W' = .ok (f1 p) W' := by
    intro W' k
    exact ⟨by rw [(hg.kp0 k).cell]; rfl, by rw [Blk.cell (Blk.kp0 dB k)]; rfl, by rw [Blk.cell (Blk.kp0 dB k)]; rfl, (m1.kp0 k).look Try.underlying74 (zero41 _) hp⟩
  unfold kvp kv at hS ⊢
  clear h hg m1 m2 hne hr hd hs hO hl k0 c0 dB
  go_enter Try.func47, Try.ntmps47
  go_upto_region 1 with fail
  generalize hW : w.alloc (.cells #[.string p.1, .string p.2] 52) = W at *
  have kW : Kp0 W W.drew := (Kp.refl _ _).drew
  go_region_held3 (fun W' => W'.cell? ⟨g, 0, none⟩ = some (.map (some b1)) ∧ W'.cell? ⟨w.heap.size, 0, none⟩ = some (.string p.1) ∧ W'.cell? ⟨w.heap.size, 1, none⟩ = some (.string p.2) ∧ (Instr.lookup 74 (.map (some b1)) (.agg #[.string p.1, .string p.2]) false).run Try.prog W' = .ok (f1 p) W') (first | exact hS _ kW | exact hS _ kA) (first | (go_at_call 56; refine (hcl 1).mono ?_; rintro e w' ⟨v', rfl, o1, k1, f1, kA⟩))
  go_wp2
  go_ret
  exact ⟨v', rfl, o1, k1, f1⟩
end Go.Proofs.Ytgilnhagddihcaa
