/- Package bin: Due; the example; boxes compared. -/
import Derived.Test.YtccamciijpmkjaaB6
set_option linter.unusedVariables false
set_option linter.unusedSimpArgs false
namespace Go.Proofs.Ytccamciijpmkjaa
open Go.RowKit

/-- Those that are old enough. -/
def dueL (l : List Bx) (t : Int) : List Bx := l.filter (fun x => decide (x.s ≤ t))
set_option maxRecDepth 100000 in
theorem due66_c (bt : Nat) (t : Int) (x : Bx) (w : World) (ht : w.cell? ⟨bt, 0, none⟩ = some (.int .i64 t)) :
    Calls Try.prog 66 #[x.ag, pt bt] w fun e' w' => e' = .returned (.bool (decide (t < x.s))) ∧ Kp0 w w' := by
  have ka : Kp0 w (w.alloc (.cells #[.string x.f, .string x.e, .int .i64 x.n, .int .i64 x.s] 63)) := (Kp.refl _ _).alloc _
  have c1 := World.block_lt_of_cell? w ⟨bt, 0, none⟩ ht
  go_enter Try.func66, Try.ntmps66
  go_wp2
  go_ret
  exact ⟨rfl, ka⟩
set_option maxRecDepth 100000 in
theorem due38_c (g : Nat) (O : Nat → Prop) (l : List Bx) (now delay : Int) (w : World) (h : BinAt w g O l) (hl : l.length ≤ 100000) (hn : 0 ≤ now ∧ now ≤ 1000000) (hd : 0 ≤ delay ∧ delay ≤ 1000000) :
    Calls Try.prog 38 #[pt g, .int .i64 now, .int .i64 delay] w fun e' w' => ∃ v, e' = .returned v ∧ w'.ownsRow 0 63 4 v (dueL l (now - delay)).length (rb (dueL l (now - delay))) ∧ Kp0 w w' ∧ ∀ i, v.ownBlock = some i → w.heap.size ≤ i := by
  have k1 : Kp0 w (w.alloc (.cells #[.int .i64 (now - delay)] 3)) := (Kp.refl _ _).alloc _
  have F1 : Blk (w.alloc (.cells #[.int .i64 (now - delay)] 3)) w.heap.size #[.int .i64 (now - delay)] 3 := blk_new _ _ rfl
  have hA := all37_c g O l (w.alloc (.cells #[.int .i64 (now - delay)] 3)) (h.kp k1 (fun _ _ x => x)) hl
  have hs : (w.alloc (.cells #[.int .i64 (now - delay)] 3)).heap.size = w.heap.size + 1 := by simp
  have hw : IntKind.i64.wrap (now - delay) = now - delay := by rw [IntKind.wrap_i64]; omega
  have hdue : dueL l (now - delay) = l.filter (fun x => !decide (now - delay < x.s)) := by
    unfold dueL
    refine List.filter_congr (fun x _ => ?_)
    by_cases h : x.s ≤ now - delay
    · rw [decide_eq_true h, decide_eq_false (by omega)]; rfl
    · rw [decide_eq_false h, decide_eq_true (by omega)]; rfl
  rw [hdue]
  have b1 : ¬ delay < 0 := by omega
  have b2 : ¬ now < now - delay := by omega
  have c1 : (w.alloc (.cells #[.int .i64 (now - delay)] 3)).cell? ⟨w.heap.size, 0, none⟩ = some (.int .i64 (now - delay)) := by rw [F1.cell]; rfl

  clear h hdue hn hd
  generalize hW : w.alloc (.cells #[.int .i64 (now - delay)] 3) = W at *
  have HW := Lib.hid hW
  clear hW
  by_cases b3 : 0 < delay
  all_goals
    go_enter Try.func38, Try.ntmps38
    have hW := HW.out
    go_wp2_with fail
    refine hA.mono ?_
    rintro e' w1 ⟨v, rfl, o1, k2⟩
    clear hW hA c1 hw
    have o2 := own_base o1
    have hfr : ∀ i, v.ownBlock = some i → w.heap.size + 1 ≤ i := fun i hi => by have := (o1.lt i hi).1; omega
    have hd := delf65_c 66 #[pt w.heap.size] (enters_of Try.func66 (by kernel_rfl) rfl) v l (fun x => decide (now - delay < x.s)) w1 o2 hl (fun W' x k => by
      have c1 := ((F1.kp0 k2).kp k (fun e => by have := hfr _ e; omega)).cell 0
      exact due66_c w.heap.size (now - delay) x W' (by simpa using c1))
    clear o1 o2 F1
    go_wp2_with fail
    refine hd.mono ?_
    rintro e' w2 ⟨v', rfl, o3, k3, hb⟩
    clear hd
    have K : Kp0 w w2 := (k1.then0 k2).trans k3 (fun i hi e => by have := hfr _ e; omega)
    go_wp2
    go_ret
    exact ⟨v', rfl, o3, K, fun i hi => by have := hfr i (hb ▸ hi); omega⟩
end Go.Proofs.Ytccamciijpmkjaa
