/- Messages compared, rows of numbers compared, a task's name. -/
import Derived.Test.YtgilnhagddihcaaMt
set_option linter.unusedVariables false
set_option linter.unusedSimpArgs false
namespace Go.Proofs.Ytgilnhagddihcaa
open Go.RowKit

def tk (r : Int) : ByteArray := ⟨#[[97,98,99,100,101,104,105,106].getD r.toNat 0]⟩
theorem tk_size (r : Int) : (tk r).size ≤ 100 := by show (1 : Nat) ≤ 100; omega

set_option maxRecDepth 100000 in
theorem task_c (v : Int) (w : World) :
    Calls Try.prog 43 #[.int .i64 v] w fun e w' => e = .returned (.string (tk (v % 8))) ∧ Kp0 w w' := by
  have m1 := Int.emod_nonneg v (show (8 : Int) ≠ 0 by decide)
  have m2 := Int.emod_lt_of_pos v (show (0 : Int) < 8 by decide)
  go_enter Try.func43, Try.ntmps43
  go_wp2_with fail
  refine (within_c _ _ (by decide) (by decide) _).mono ?_
  rintro e w' ⟨rfl, rfl⟩
  generalize hr : v % 8 = r at *
  have HR := Lib.hid hr
  clear hr
  obtain rfl | rfl | rfl | rfl | rfl | rfl | rfl | rfl : r = 0 ∨ r = 1 ∨ r = 2 ∨ r = 3 ∨ r = 4 ∨ r = 5 ∨ r = 6 ∨ r = 7 := by omega
  all_goals
    go_wp2
    go_ret
    exact ⟨by rw [HR.out]; rfl, (Kp.refl _ _).alloc _⟩

set_option maxRecDepth 100000 in
set_option maxHeartbeats 1000000 in
theorem same55_c (k : Int) (F E T : ByteArray) (n st num ep : Int) (w : World) :
    Calls Try.prog 55 #[.agg (mcs k F E T n st num ep (.slice none 0 0)), .agg (mcs k F E T n st num ep (.slice none 0 0))] w fun e w' => e = .returned (.bool true) ∧ Kp0 w w' := by
  unfold mcs
  have i1 : (k != k) = false := by simp
  have i2 : (n != n) = false := by simp
  have i3 : (st != st) = false := by simp
  have i4 : (num != num) = false := by simp
  have i5 : (ep != ep) = false := by simp
  go_enter Try.func55, Try.ntmps55
  go_wp2_with fail
  go_loopw [72] (fun i wr => i = .int .i64 0 ∧ Kp0 w wr) (fun _ _ => 0)
  case atStart => exact ⟨rfl, ((Kp.refl _ _).alloc _).alloc _⟩
  case round =>
    obtain ⟨rfl, K⟩ := hrel
    go_wp2
    go_ret
    exact ⟨rfl, K⟩

theorem blk9 {w : World} {r : Nat} {x0 x1 x2 x3 x4 x5 x6 x7 x8 : Value} {T : TypeId} (h : Blk w r #[x0, x1, x2, x3, x4, x5, x6, x7, x8] T) :
    w.cell? ⟨r, 0, none⟩ = some x0 ∧ w.cell? ⟨r, 1, none⟩ = some x1 ∧ w.cell? ⟨r, 2, none⟩ = some x2 ∧ w.cell? ⟨r, 3, none⟩ = some x3 ∧ w.cell? ⟨r, 4, none⟩ = some x4 ∧ w.cell? ⟨r, 5, none⟩ = some x5 ∧ w.cell? ⟨r, 6, none⟩ = some x6 ∧ w.cell? ⟨r, 7, none⟩ = some x7 ∧ w.cell? ⟨r, 8, none⟩ = some x8 :=
  ⟨h.cell 0, h.cell 1, h.cell 2, h.cell 3, h.cell 4, h.cell 5, h.cell 6, h.cell 7, h.cell 8⟩

def At9 (w : World) (r : Nat) (x0 x1 x2 x3 x4 x5 x6 x7 x8 : Value) : Prop :=
    w.cell? ⟨r, 0, none⟩ = some x0 ∧ w.cell? ⟨r, 1, none⟩ = some x1 ∧ w.cell? ⟨r, 2, none⟩ = some x2 ∧ w.cell? ⟨r, 3, none⟩ = some x3 ∧ w.cell? ⟨r, 4, none⟩ = some x4 ∧ w.cell? ⟨r, 5, none⟩ = some x5 ∧ w.cell? ⟨r, 6, none⟩ = some x6 ∧ w.cell? ⟨r, 7, none⟩ = some x7 ∧ w.cell? ⟨r, 8, none⟩ = some x8

set_option maxRecDepth 100000 in
set_option maxHeartbeats 4000000 in
theorem msgs1_c (r1 r2 : Nat) (k : Int) (F E T : ByteArray) (n st num ep : Int) (w : World)
    (h1 : Blk w r1 (mcs k F E T n st num ep (.slice none 0 0)) 57) (h2 : Blk w r2 (mcs k F E T n st num ep (.slice none 0 0)) 57) :
    Calls Try.prog 45 #[.slice (some ⟨r1, 0, none⟩) 1 1, .slice (some ⟨r2, 0, none⟩) 1 1] w fun e w' => e = .returned (.bool true) ∧ Kp0 w w' := by
  have hS : ∀ W, Kp0 w W → (W.cell? ⟨r1, 0, none⟩ = some (.int .i64 k) ∧ W.cell? ⟨r1, 1, none⟩ = some (.string F) ∧ W.cell? ⟨r1, 2, none⟩ = some (.string E) ∧ W.cell? ⟨r1, 3, none⟩ = some (.string T) ∧ W.cell? ⟨r1, 4, none⟩ = some (.int .i64 n) ∧ W.cell? ⟨r1, 5, none⟩ = some (.int .i64 st) ∧ W.cell? ⟨r1, 6, none⟩ = some (.int .i64 num) ∧ W.cell? ⟨r1, 7, none⟩ = some (.int .i64 ep) ∧ W.cell? ⟨r1, 8, none⟩ = some (.slice none 0 0)) ∧
      W.cell? ⟨r2, 0, none⟩ = some (.int .i64 k) ∧ W.cell? ⟨r2, 1, none⟩ = some (.string F) ∧ W.cell? ⟨r2, 2, none⟩ = some (.string E) ∧ W.cell? ⟨r2, 3, none⟩ = some (.string T) ∧ W.cell? ⟨r2, 4, none⟩ = some (.int .i64 n) ∧ W.cell? ⟨r2, 5, none⟩ = some (.int .i64 st) ∧ W.cell? ⟨r2, 6, none⟩ = some (.int .i64 num) ∧ W.cell? ⟨r2, 7, none⟩ = some (.int .i64 ep) ∧ W.cell? ⟨r2, 8, none⟩ = some (.slice none 0 0) :=
    fun W K => ⟨blk9 (h1.kp0 K), blk9 (h2.kp0 K)⟩
  have cS : ∀ W, Kp0 w W → Calls Try.prog 55 #[.agg (mcs k F E T n st num ep (.slice none 0 0)), .agg (mcs k F E T n st num ep (.slice none 0 0))] W fun e w' => e = .returned (.bool true) ∧ Kp0 w w' :=
    fun W K => (same55_c k F E T n st num ep W).mono (by rintro e w' ⟨rfl, K'⟩; exact ⟨rfl, K.then0 K'⟩)
  have K0 : Kp0 w w.drew := (Kp.refl _ _).drew
  unfold mcs at cS
  clear h1 h2
  go_enter Try.func45, Try.ntmps45
  go_wp2_with fail
  go_loopw [13] (fun i wr => ∃ j : Nat, j ≤ 1 ∧ i = .int .i64 j ∧ Kp0 w wr) (fun i _ => (1 - intOf i).toNat)
  case atStart => exact ⟨0, by decide, rfl, Kp.refl _ _⟩
  case round =>
    obtain ⟨j, hj, rfl, K⟩ := hrel
    obtain rfl | rfl : j = 0 ∨ j = 1 := by omega
    · go_upto_region 6 with fail
      have K0 : Kp0 w wr.drew := K.drew
      go_region_held3 (fun W => (W.cell? ⟨r1, 0, none⟩ = some (.int .i64 k) ∧ W.cell? ⟨r1, 1, none⟩ = some (.string F) ∧ W.cell? ⟨r1, 2, none⟩ = some (.string E) ∧ W.cell? ⟨r1, 3, none⟩ = some (.string T) ∧ W.cell? ⟨r1, 4, none⟩ = some (.int .i64 n) ∧ W.cell? ⟨r1, 5, none⟩ = some (.int .i64 st) ∧ W.cell? ⟨r1, 6, none⟩ = some (.int .i64 num) ∧ W.cell? ⟨r1, 7, none⟩ = some (.int .i64 ep) ∧ W.cell? ⟨r1, 8, none⟩ = some (.slice none 0 0)) ∧
        W.cell? ⟨r2, 0, none⟩ = some (.int .i64 k) ∧ W.cell? ⟨r2, 1, none⟩ = some (.string F) ∧ W.cell? ⟨r2, 2, none⟩ = some (.string E) ∧ W.cell? ⟨r2, 3, none⟩ = some (.string T) ∧ W.cell? ⟨r2, 4, none⟩ = some (.int .i64 n) ∧ W.cell? ⟨r2, 5, none⟩ = some (.int .i64 st) ∧ W.cell? ⟨r2, 6, none⟩ = some (.int .i64 num) ∧ W.cell? ⟨r2, 7, none⟩ = some (.int .i64 ep) ∧ W.cell? ⟨r2, 8, none⟩ = some (.slice none 0 0))
        (first | exact hS _ K0 | exact hS _ KA) (first | (go_at_call 55; go_fit (cS _ K0); rintro e wA ⟨rfl, KA⟩))
      go_wp2
      go_roundw
      case rel => exact ⟨1, by decide, rfl, KA⟩
      case measure => simp [intOf]
    · go_wp2
      go_ret
      exact ⟨rfl, K⟩

set_option maxRecDepth 100000 in
theorem msgs0_c (w : World) :
    Calls Try.prog 45 #[.slice none 0 0, .slice none 0 0] w fun e w' => e = .returned (.bool true) ∧ Kp0 w w' := by
  go_enter Try.func45, Try.ntmps45
  go_wp2_with fail
  go_loopw [13] (fun i wr => i = .int .i64 0 ∧ Kp0 w wr) (fun _ _ => 0)
  case atStart => exact ⟨rfl, Kp.refl _ _⟩
  case round =>
    obtain ⟨rfl, K⟩ := hrel
    go_wp2
    go_ret
    exact ⟨rfl, K⟩

/-- Numbers that a slice value has. -/
def Ns (w : World) (v : Value) (l : List Int) : Prop := ∃ A c, v = .slice A l.length c ∧ ∀ j (h : j < l.length), ∃ b off, A = some ⟨b, off, none⟩ ∧ b < w.heap.size ∧ w.cell? ⟨b, off + j, none⟩ = some (.int .i64 (l[j]))

theorem Ns.of_own {w : World} {v : Value} {l : List Int} (h : w.ownsRow 0 3 1 v l.length (ints l)) : Ns w v l := by
  rcases own_shape h with ⟨rfl, h0, _⟩ | ⟨r, cap, rfl, h1, h2, h3, h4⟩
  · obtain rfl := List.length_eq_zero_iff.1 h0
    exact ⟨none, 0, rfl, fun j hj => by simp at hj⟩
  · exact ⟨_, _, rfl, fun j hj => ⟨r, 0, rfl, h3, by rw [Nat.zero_add, h4 j (by omega), ints_get l j hj]⟩⟩
theorem Ns.kp {S : Nat → Prop} {w w' : World} {v : Value} {l : List Int} (h : Ns w v l) (k : Kp S w w') (hn : ∀ i, v.ownBlock = some i → ¬ S i) (hs : ∀ b off p n c, v = .slice (some ⟨b, off, p⟩) n c → off = 0 ∧ p = none) : Ns w' v l := by
  obtain ⟨A, c, rfl, h⟩ := h
  refine ⟨A, c, rfl, fun j hj => ?_⟩
  obtain ⟨b, off, rfl, hb, hc⟩ := h j hj
  obtain ⟨rfl, _⟩ := hs _ _ _ _ _ rfl
  refine ⟨b, 0, rfl, Nat.lt_of_lt_of_le hb k.size, ?_⟩
  rw [← hc]
  unfold World.cell?
  simp only [k.block b hb (hn b (by simp [Value.ownBlock]))]

set_option maxRecDepth 100000 in
theorem same48_c (v1 v2 : Value) (l : List Int) (hl : l.length ≤ 1000000) (w : World) (h1 : Ns w v1 l) (h2 : Ns w v2 l) :
    Calls Try.prog 48 #[v1, v2] w fun e w' => e = .returned (.bool true) ∧ Kp0 w w' := by
  obtain ⟨A1, c1, rfl, h1⟩ := h1
  obtain ⟨A2, c2, rfl, h2⟩ := h2
  have i1 : (((l.length : Nat) : Int) != ((l.length : Nat) : Int)) = false := by simp
  go_enter Try.func48, Try.ntmps48
  go_wp2_with fail
  go_loopw [5] (fun i wr => ∃ j : Nat, j ≤ l.length ∧ i = .int .i64 j ∧ Kp0 w wr) (fun i _ => (l.length - intOf i).toNat)
  case atStart => exact ⟨0, by omega, rfl, Kp.refl _ _⟩
  case round =>
    obtain ⟨j, hj, rfl, K⟩ := hrel
    by_cases hlt : j < l.length
    · obtain ⟨b1, o1, rfl, hb1, d1⟩ := h1 j hlt
      obtain ⟨b2, o2, rfl, hb2, d2⟩ := h2 j hlt
      have x1 := (K.below0.cell (p := ⟨b1, o1 + j, none⟩) hb1).trans d1
      have x2 := (K.below0.cell (p := ⟨b2, o2 + j, none⟩) hb2).trans d2
      have z1 : (l[j] != l[j]) = false := by simp
      clear h1 h2 d1 d2
      generalize l[j] = z at *
      go_wp2_with fail
      go_quiet (fail)
      go_wp2
      go_roundw
      case rel => exact ⟨j + 1, by omega, by go_num, K.drewN _⟩
      case measure => simp [intOf]; omega
    · clear h1 h2
      go_wp2
      go_ret
      exact ⟨rfl, K⟩
end Go.Proofs.Ytgilnhagddihcaa
