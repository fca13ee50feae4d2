/- Package crew: the example; names; what a run more does. -/
import Derived.Test.YtnlkkcpcjeeplaaCy
import Derived.LaidEqlPtr
set_option linter.unusedVariables false
set_option linter.unusedSimpArgs false
namespace Go.Proofs.Ytnlkkcpcjeeplaa
open Go.RowKit

set_option maxRecDepth 100000 in
theorem info114 : ∃ j, Try.prog.info? 114 = some j := ⟨_, rfl⟩
theorem ptr_eq (x : Nat) (w : World) : (binOp .eql 47 (.pointer (some ⟨x, 0, none⟩)) (.pointer (some ⟨x, 0, none⟩))).run Try.prog w = .ok (.bool true) w := by
  obtain ⟨j, hj⟩ := info114
  exact run_eql_ptr_same w ⟨x, 0, none⟩ Try.underlying47 hj
theorem ptr_ne (x : Nat) (w : World) : (binOp .neq 47 (.pointer (some ⟨x, 0, none⟩)) (.pointer (some ⟨x, 0, none⟩))).run Try.prog w = .ok (.bool false) w := by
  obtain ⟨j, hj⟩ := info114
  have h : ∀ d : Nat, (Op.equalIn (d + 1) 47 (.pointer (some ⟨x, 0, none⟩)) (.pointer (some ⟨x, 0, none⟩))).run Try.prog w = .ok true w := fun d => by
    simp [Op.equalIn, run_underlying Try.underlying47, sizeOf, typeInfo, hj, run_sameAddr_same]
  simp only [binOp]
  simp [Op.equal, Op.maxDepth, h 9999]
theorem CrAt.lt {w : World} {g : Nat} {O : Nat → Prop} {l : List Nat} (h : CrAt w g O l) : g < w.heap.size := by
  obtain ⟨_, v, hB, _⟩ := h
  exact hB.lt
def upd (R : Nat → Rn) (x : Nat) (r : Rn) : Nat → Rn := fun y => if y = x then r else R y
theorem upd_at (R : Nat → Rn) (x : Nat) (r : Rn) : upd R x r x = r := if_pos rfl
theorem upd_ne {R : Nat → Rn} {x y : Nat} {r : Rn} (h : y ≠ x) : upd R x r y = R y := if_neg h
theorem RunsAt.upd_out {w : World} {l : List Nat} {R : Nat → Rn} (h : RunsAt w l R) {x : Nat} (r : Rn) (hx : x ∉ l) : RunsAt w l (upd R x r) := fun y hy => by
  rw [upd_ne (fun e => hx (by rw [← e]; exact hy))]; exact h y hy
theorem RunsAt.snoc {w : World} {l : List Nat} {R : Nat → Rn} {x : Nat} {r : Rn} (h : RunsAt w l R) (hr : RunAt w x r) (hx : x ∉ l) : RunsAt w (l ++ [x]) (upd R x r) := fun y hy => by
  rw [List.mem_append] at hy
  rcases hy with hy | hy
  · exact h.upd_out r hx y hy
  · obtain rfl : y = x := by simpa using hy
    rw [upd_at]; exact hr
theorem fnd_upd {l : List Nat} {R : Nat → Rn} {x : Nat} {r : Rn} (hx : x ∉ l) (f e : ByteArray) : fnd l (upd R x r) f e = fnd l R f e := by
  unfold fnd
  induction l with
  | nil => rfl
  | cons y l ih =>
    rw [List.find?_cons, List.find?_cons, ih (fun h => hx (List.mem_cons_of_mem _ h)), upd_ne (fun e => hx (by rw [← e]; exact List.mem_cons_self))]
theorem fnd_snoc {l : List Nat} {R : Nat → Rn} {x : Nat} (f e : ByteArray) : fnd (l ++ [x]) R f e = (fnd l R f e).or (if isRun f e (R x) = true then some x else none) := by
  unfold fnd
  rw [List.find?_append]
  congr 1
  rw [List.find?_cons]
  cases isRun f e (R x) <;> rfl
theorem isRun_self (r : Rn) : isRun r.f r.e r = true := by unfold isRun; simp

theorem find_none_c {g : Nat} {O : Nat → Prop} {l : List Nat} (R : Nat → Rn) {f e : ByteArray} {w : World} (h : CrAt w g O l) (hr : RunsAt w l R) (hl : l.length ≤ 100000) (hf : fnd l R f e = none) :
    Calls Try.prog 54 #[pt g, .string f, .string e] w fun e' w' => e' = .returned (.pointer none) ∧ Kp0 w w' := by
  have := find54_c g O l R f e w h hr hl
  rw [hf] at this; exact this
theorem find_some_c {g x : Nat} {O : Nat → Prop} {l : List Nat} (R : Nat → Rn) {f e : ByteArray} {w : World} (h : CrAt w g O l) (hr : RunsAt w l R) (hl : l.length ≤ 100000) (hf : fnd l R f e = some x) :
    Calls Try.prog 54 #[pt g, .string f, .string e] w fun e' w' => e' = .returned (.pointer (some ⟨x, 0, none⟩)) ∧ Kp0 w w' := by
  have := find54_c g O l R f e w h hr hl
  rw [hf] at this; exact this
theorem exact_none_c {g : Nat} {O : Nat → Prop} {l : List Nat} (R : Nat → Rn) {f e : ByteArray} {n : Int} {w : World} (h : CrAt w g O l) (hr : RunsAt w l R) (hl : l.length ≤ 100000) (hf : exa l R f e n = none) :
    Calls Try.prog 55 #[pt g, .string f, .string e, .int .i64 n] w fun e' w' => e' = .returned (.pointer none) ∧ Kp0 w w' := by
  have := exact55_c g O l R f e n w h hr hl
  rw [hf] at this; exact this
theorem exact_some_c {g x : Nat} {O : Nat → Prop} {l : List Nat} (R : Nat → Rn) {f e : ByteArray} {n : Int} {w : World} (h : CrAt w g O l) (hr : RunsAt w l R) (hl : l.length ≤ 100000) (hf : exa l R f e n = some x) :
    Calls Try.prog 55 #[pt g, .string f, .string e, .int .i64 n] w fun e' w' => e' = .returned (.pointer (some ⟨x, 0, none⟩)) ∧ Kp0 w w' := by
  have := exact55_c g O l R f e n w h hr hl
  rw [hf] at this; exact this

abbrev sF : ByteArray := { data := #[102] }
abbrev sX : ByteArray := { data := #[120] }
set_option maxRecDepth 100000 in
theorem wakes58_c (w : World) : Calls Try.prog 58 #[] w fun e w' => e = .returned (.bool true) ∧ Kp0 w w' := by
  have h1 := crew_new_c w
  go_enter Try.func58, Try.ntmps58
  go_wp2_with fail
  refine h1.mono ?_
  rintro e w1 ⟨rfl, C1, k1⟩
  clear h1
  go_wp2_with fail
  refine (run_new_c sF sX 1 w1).mono ?_
  rintro e w2 ⟨x, rfl, hx, R2, k2⟩
  have C2 := C1.kp k2 (fun _ _ x => x)
  go_wp2_with fail
  refine (find_none_c (fun _ => ⟨sF, sX, 1, 0, 0, false⟩) C2 (fun y hy => by simp at hy) (by simp) rfl).mono ?_
  rintro e w3 ⟨rfl, k3⟩
  have C3 := C2.kp k3 (fun _ _ x => x)
  have hlt := C1.lt
  have R3 := R2.kp k3 (fun x => x)
  have ha := add_new_c w.heap.size _ [] (fun _ => ⟨sF, sX, 1, 0, 0, false⟩) x _ w3 C3 (fun y hy => by simp at hy) R3 (by simp) rfl
  clear C1 C2 R2 C3
  go_wp2_with fail
  refine ha.mono ?_
  rintro e w4 ⟨rfl, O', C4, k4, hO⟩
  have h2 := k1.size
  have h3 := k2.size
  have h4 := k3.size
  have hxw : x ≠ w.heap.size := by omega
  have R4 := R3.kp k4 hxw
  have r4 : RunsAt w4 ([] ++ [x]) (fun _ => ⟨sF, sX, 1, 0, 0, false⟩) := fun y hy => by
    obtain rfl : y = x := by simpa using hy
    exact R4
  have K4 : Kp0 w w4 := (((k1.then0 k2).then0 k3).trans k4 (fun i hi e => by omega))
  clear ha
  go_wp2_with fail
  refine (find_some_c (x := x) (fun _ => ⟨sF, sX, 1, 0, 0, false⟩) C4 r4 (by simp) rfl).mono ?_
  rintro e w5 ⟨rfl, k5⟩
  have C5 := C4.kp k5 (fun _ _ x => x)
  have hA := all56_c _ _ _ w5 C5 (by simp)
  have pe := ptr_eq x w5
  clear C4 C5 r4 R4 R3
  go_wp2_with fail
  refine hA.mono ?_
  rintro e w6 ⟨v, rfl, o6, k6⟩
  obtain ⟨g6, c6, rfl, _, _, _⟩ := own_some o6 (by simp)
  clear o6 hA
  go_wp2
  go_ret
  exact ⟨rfl, (K4.then0 k5).then0 k6⟩
end Go.Proofs.Ytnlkkcpcjeeplaa
