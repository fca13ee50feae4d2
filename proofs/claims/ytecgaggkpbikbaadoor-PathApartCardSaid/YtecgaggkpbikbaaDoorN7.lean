/- Package name: Less. -/
import Derived.Test.YtecgaggkpbikbaaDoorN5
set_option linter.unusedVariables false
set_option linter.unusedSimpArgs false
namespace Go.Proofs.YtecgaggkpbikbaaDoor
open Go.RowKit

/-- The first that is not 0. -/
def orI (x y : Int) : Int := if x ≠ 0 then x else y
set_option maxRecDepth 100000 in
theorem or32_c (B : Nat) (x y : Int) (w : World) (h : Blk w B #[.int .i64 x, .int .i64 y] 3) : Calls Tryd.prog 32 #[.slice (some ⟨B, 0, none⟩) 2 2] w fun e w' => e = .returned (.int .i64 (orI x y)) ∧ w = w' := by
  go_enter Tryd.func32, Tryd.ntmps32
  go_wp2_with fail
  go_loopw [8] (fun s wr => ∃ j : Nat, j ≤ 2 ∧ s = .int .i64 (j : Nat) ∧ w = wr ∧ orI x y = (if j = 0 then orI x y else if j = 1 then y else 0)) (fun s _ => (2 - intOf s).toNat)
  case atStart => exact ⟨0, by omega, rfl, rfl, by simp⟩
  case round =>
    obtain ⟨j, hj, rfl, rfl, he⟩ := hrel
    obtain rfl | rfl | rfl : j = 0 ∨ j = 1 ∨ j = 2 := by omega
    · have c := h.cell 0
      simp at c
      by_cases hx : x = 0
      · subst hx
        clear h he
        go_wp2
        go_roundw
        case rel => exact ⟨1, by omega, rfl, trivial, by simp [orI]⟩
        case measure => simp [intOf]
      · have hx' : (x != 0) = true := by rw [bne_iff_ne]; exact hx
        have ho : orI x y = x := if_pos hx
        have HO := Lib.hid ho
        clear h he ho hx
        go_wp2
        go_ret
        exact ⟨by rw [HO.out]; rfl, rfl⟩
    · have c := h.cell 1
      simp at c
      have ho : orI x y = y := by simpa using he
      have HO := Lib.hid ho
      clear h he ho
      by_cases hy : y = 0
      · subst hy
        go_wp2
        go_roundw
        case rel => exact ⟨2, by omega, rfl, trivial, by rw [HO.out]; simp⟩
        case measure => simp [intOf]
      · have hy' : (y != 0) = true := by rw [bne_iff_ne]; exact hy
        clear hy
        go_wp2
        go_ret
        exact ⟨by rw [HO.out]; rfl, rfl⟩
    · have ho : orI x y = 0 := by simpa using he
      have HO := Lib.hid ho
      clear h he ho
      go_wp2
      go_ret
      exact ⟨by rw [HO.out]; rfl, rfl⟩

/-- Does one key stand ahead of another one? -/
def cmb (a b : ByteArray) : Int := Lib.compareBytes a.data.toList b.data.toList
def lesB (af at_ bf bt : ByteArray) : Bool := decide (orI (cmb af bf) (cmb at_ bt) < 0)
set_option maxRecDepth 100000 in
set_option maxHeartbeats 2000000 in
theorem less15_c (af at_ bf bt : ByteArray) (w : World) : Calls Tryd.prog 15 #[.agg #[.string af, .string at_], .agg #[.string bf, .string bt]] w fun e w' => e = .returned (.bool (lesB af at_ bf bt)) ∧ Kp0 w w' := by
  have c1 : ∀ W, Calls Tryd.prog 33 #[.string af, .string bf] W fun e w' => e = .returned (.int .i64 (cmb af bf)) ∧ w' = W := fun W => Any.strings_Compare Tryd.cmp33 af bf W
  have c2 : ∀ W, Calls Tryd.prog 33 #[.string at_, .string bt] W fun e w' => e = .returned (.int .i64 (cmb at_ bt)) ∧ w' = W := fun W => Any.strings_Compare Tryd.cmp33 at_ bt W
  have hl : lesB af at_ bf bt = decide (orI (cmb af bf) (cmb at_ bt) < 0) := rfl
  rw [hl]
  clear hl
  generalize cmb af bf = x at c1 ⊢
  generalize cmb at_ bt = y at c2 ⊢
  have ka : Kp0 w (w.alloc (.cells #[.string af, .string at_] 30)) := (Kp.refl _ _).alloc _
  have A : Blk (w.alloc (.cells #[.string af, .string at_] 30)) w.heap.size #[.string af, .string at_] 30 := blk_new _ _ rfl
  have kb : Kp0 (w.alloc (.cells #[.string af, .string at_] 30)) ((w.alloc (.cells #[.string af, .string at_] 30)).alloc (.cells #[.string bf, .string bt] 30)) := (Kp.refl _ _).alloc _
  have B : Blk ((w.alloc (.cells #[.string af, .string at_] 30)).alloc (.cells #[.string bf, .string bt] 30)) (w.heap.size + 1) #[.string bf, .string bt] 30 := blk_new _ _ (by simp)
  have A2 := A.kp0 kb
  have k0 := ka.then0 kb
  clear ka kb A
  go_enter Tryd.func15, Tryd.ntmps15
  go_upto_region 1 with fail
  generalize (w.alloc (.cells #[.string af, .string at_] 30)).alloc (.cells #[.string bf, .string bt] 30) = W0 at k0 A2 B ⊢
  have S0 : ∀ W, Kp0 W0 W → W.cell? ⟨w.heap.size, 0, none⟩ = some (.string af) ∧ W.cell? ⟨w.heap.size, 1, none⟩ = some (.string at_) ∧ W.cell? ⟨w.heap.size + 1, 0, none⟩ = some (.string bf) ∧ W.cell? ⟨w.heap.size + 1, 1, none⟩ = some (.string bt) := fun W k => ⟨(A2.kp0 k).cell 0, (A2.kp0 k).cell 1, (B.kp0 k).cell 0, (B.kp0 k).cell 1⟩
  have K0 : Kp0 W0 W0.drew := (Kp.refl _ _).drew
  have K1 : Kp0 W0 (W0.drew.alloc (.cells #[.int .i64 x, .int .i64 y] 3)) := K0.alloc _
  have hO := or32_c W0.heap.size x y (W0.drew.alloc (.cells #[.int .i64 x, .int .i64 y] 3)) (show Blk (W0.drew.alloc (.cells #[.int .i64 x, .int .i64 y] 3)) W0.heap.size #[.int .i64 x, .int .i64 y] 3 from blk_new _ _ rfl)
  go_wp2_with fail
  go_region_held3 (fun W => W.cell? ⟨w.heap.size, 0, none⟩ = some (.string af) ∧ W.cell? ⟨w.heap.size, 1, none⟩ = some (.string at_) ∧ W.cell? ⟨w.heap.size + 1, 0, none⟩ = some (.string bf) ∧ W.cell? ⟨w.heap.size + 1, 1, none⟩ = some (.string bt)) (first | exact S0 _ K0 | exact S0 _ K1) (first | (go_at_call 33; first | (go_fit (c1 _); rintro e wA ⟨rfl, rfl⟩) | (go_fit (c2 _); rintro e wB ⟨rfl, rfl⟩)) | (go_at_call 32; go_fit hO; rintro e wC ⟨rfl, rfl⟩))
  go_wp2
  go_ret
  exact ⟨rfl, k0.then0 K1⟩
end Go.Proofs.YtecgaggkpbikbaaDoor
