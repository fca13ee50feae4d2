/- CrewLate: words. -/
import Derived.Test.YtnlkkcpcjeeplaaCz
import Derived.Test.YtnlkkcpcjeeplaaOwn
set_option linter.unusedVariables false
set_option linter.unusedSimpArgs false
namespace Go.Proofs.Ytnlkkcpcjeeplaa
open Go.RowKit

abbrev d9 : ByteArray := { data := #[49, 50, 51, 52, 53, 54, 55, 56, 57] }
abbrev sE : ByteArray := { data := #[101] }
/-- The name of run number i. -/
def nm (i : Nat) : ByteArray := ⟨#[101, UInt8.ofNat (49 + i)]⟩
theorem nm_inj {i j : Nat} (hi : i < 9) (hj : j < 9) (h : nm i = nm j) : i = j := by
  unfold nm at h
  injection h with h
  have h2 : UInt8.ofNat (49 + i) = UInt8.ofNat (49 + j) := by
    have := congrArg (fun a => a[1]?) h
    simpa using this
  have h3 := congrArg UInt8.toNat h2
  simp at h3
  omega
theorem pl_to (s : ByteArray) (n : Nat) (h : n ≤ s.size) (W : World) : (Instr.sliceAt 9 (.string s) none (some (.int .i64 (n : Int))) none).run Try.prog W = .ok (.string (s.extract 0 n)) W := by
  rw [run_sliceAt_string _ _ _ _ _ _ Try.underlying9, run_slice_string_h _ _ _ Try.underlying9 _ _ (by omega) (by omega), Int.toNat_natCast]
theorem pl_from (s : ByteArray) (n : Nat) (h : n ≤ s.size) (W : World) : (Instr.sliceAt 9 (.string s) (some (.int .i64 (n : Int))) none none).run Try.prog W = .ok (.string (s.extract n s.size)) W := by
  rw [run_sliceAt_string _ _ _ _ _ _ Try.underlying9, run_slice_string_l _ _ _ Try.underlying9 _ _ (by omega) (by omega), Int.toNat_natCast]
theorem nm_of (i : Nat) (h : i < 9) : sE ++ (d9.extract i d9.size).extract 0 1 = nm i := by
  obtain rfl | rfl | rfl | rfl | rfl | rfl | rfl | rfl | rfl : i = 0 ∨ i = 1 ∨ i = 2 ∨ i = 3 ∨ i = 4 ∨ i = 5 ∨ i = 6 ∨ i = 7 ∨ i = 8 := by omega
  all_goals rfl

def RdI (w : World) (A : Option Addr) (len : Nat) : Prop := ∀ j : Nat, j < len → ∃ b off z, A = some ⟨b, off, none⟩ ∧ b < w.heap.size ∧ w.cell? ⟨b, off + j, none⟩ = some (.int .i64 z)
def RdB (w : World) (A : Option Addr) (len : Nat) : Prop := ∀ j : Nat, j < len → ∃ b off z, A = some ⟨b, off, none⟩ ∧ b < w.heap.size ∧ w.cell? ⟨b, off + j, none⟩ = some (.bool z)
theorem cell_kp0 {w w' : World} (k : Kp0 w w') {b off : Nat} {v : Value} (hb : b < w.heap.size) (h : w.cell? ⟨b, off, none⟩ = some v) : w'.cell? ⟨b, off, none⟩ = some v := by
  have e := k.block b hb (fun x => x)
  rw [← h]
  simp only [World.cell?, e]
theorem RdI.kp0 {w w' : World} {A : Option Addr} {len : Nat} (h : RdI w A len) (k : Kp0 w w') : RdI w' A len := fun j hj => by
  obtain ⟨b, off, z, e, hb, hc⟩ := h j hj
  exact ⟨b, off, z, e, Nat.lt_of_lt_of_le hb k.size, cell_kp0 k hb hc⟩
theorem RdB.kp0 {w w' : World} {A : Option Addr} {len : Nat} (h : RdB w A len) (k : Kp0 w w') : RdB w' A len := fun j hj => by
  obtain ⟨b, off, z, e, hb, hc⟩ := h j hj
  exact ⟨b, off, z, e, Nat.lt_of_lt_of_le hb k.size, cell_kp0 k hb hc⟩

/-- Runs, their crew, the numbers that are wanted. -/
structure Cl (w wr : World) (g : Nat) (s8 : Value) (l : List Nat) (R : Nat → Rn) (O : Nat → Prop) (ns : List Int) : Prop where
  cr : CrAt wr g O l
  rs : RunsAt wr l R
  fo : ∀ x, O x → w.heap.size ≤ x ∧ x < wr.heap.size
  fl : ∀ x ∈ l, w.heap.size ≤ x ∧ ¬ O x
  nd : l.Nodup
  id : ∀ (k x : Nat), l[k]? = some x → (R x).f = sF ∧ (R x).e = nm k ∧ (R x).n = (k : Int) + 1
  ow : wr.ownsRow 0 3 1 s8 ns.length (ns.map (.int .i64 ·))
  fr : ∀ i, s8.ownBlock = some i → w.heap.size ≤ i ∧ ¬ O i ∧ i ∉ l
  kp : Kp0 w wr

theorem Cl.fnd_no {w wr : World} {g : Nat} {s8 : Value} {l : List Nat} {R : Nat → Rn} {O : Nat → Prop} {ns : List Int} (h : Cl w wr g s8 l R O ns) (h9 : l.length < 9) : fnd l R sF (nm l.length) = none := by
  unfold fnd
  rw [List.find?_eq_none]
  intro x hx hr
  obtain ⟨k, hk, rfl⟩ := List.getElem_of_mem hx
  obtain ⟨e1, e2, e3⟩ := h.id k l[k] (List.getElem?_eq_getElem hk)
  unfold isRun at hr
  rw [Bool.and_eq_true, decide_eq_true_iff, decide_eq_true_iff] at hr
  have := nm_inj (by omega) h9 (e2.symm.trans hr.2)
  omega

theorem Cl.step {w wr wf : World} {g : Nat} {s8 s8' : Value} {l : List Nat} {R : Nat → Rn} {O O' : Nat → Prop} {ns ns' : List Int} (h : Cl w wr g s8 l R O ns) {x : Nat} {r : Rn}
    (hx : wr.heap.size ≤ x) (K : Kp (fun i => O i ∨ s8.ownBlock = some i) wr wf) (C : CrAt wf g O' (l ++ [x])) (Rx : RunAt wf x r) (hid : r.f = sF ∧ r.e = nm l.length ∧ r.n = (l.length : Int) + 1)
    (hO : ∀ i, O' i → O i ∨ (x < i ∧ i < wf.heap.size)) (ow : wf.ownsRow 0 3 1 s8' ns'.length (ns'.map (.int .i64 ·)))
    (hs : ∀ i, s8'.ownBlock = some i → s8.ownBlock = some i ∨ (x < i ∧ ¬ O' i)) : Cl w wf g s8' (l ++ [x]) (upd R x r) O' ns' := by
  have hxl : x ∉ l := fun hm => by have := (h.rs x hm).lt; omega
  have hk := h.kp.size
  have hk2 := K.size
  have hxO : ¬ O' x := fun e => by
    rcases hO x e with e | ⟨e, _⟩
    · have := (h.fo x e).2; omega
    · omega
  refine ⟨C, ?_, ?_, ?_, ?_, ?_, ow, ?_, ?_⟩
  · exact (h.rs.kp K (fun y hy e => by
      rcases e with e | e
      · exact (h.fl y hy).2 e
      · exact (h.fr y e).2.2 hy)).snoc Rx hxl
  · intro y hy
    rcases hO y hy with e | ⟨e1, e2⟩
    · have := h.fo y e; omega
    · omega
  · intro y hy
    rw [List.mem_append] at hy
    rcases hy with hy | hy
    · refine ⟨(h.fl y hy).1, fun e => ?_⟩
      rcases hO y e with e | ⟨e1, e2⟩
      · exact (h.fl y hy).2 e
      · have := (h.rs y hy).lt; omega
    · obtain rfl : y = x := by simpa using hy
      exact ⟨by omega, hxO⟩
  · rw [List.nodup_append]
    refine ⟨h.nd, by simp, fun a ha b hb e => ?_⟩
    obtain rfl : b = x := by simpa using hb
    exact hxl (e ▸ ha)
  · intro k y hy
    by_cases hkl : k < l.length
    · rw [List.getElem?_append_left hkl] at hy
      have hm : y ∈ l := List.mem_of_getElem? hy
      rw [upd_ne (fun e => hxl (by rw [← e]; exact hm))]
      exact h.id k y hy
    · rw [List.getElem?_append_right (by omega)] at hy
      obtain ⟨hk0, hy0⟩ : k - l.length = 0 ∧ x = y := by
        cases hd : k - l.length with
        | zero => rw [hd] at hy; exact ⟨rfl, by simpa using hy⟩
        | succ n => rw [hd] at hy; simp at hy
      subst hy0
      obtain rfl : k = l.length := by omega
      rw [upd_at]
      exact hid
  · intro i hi
    rcases hs i hi with e | ⟨e1, e2⟩
    · obtain ⟨f1, f2, f3⟩ := h.fr i e
      have hil := (h.ow.lt i e).2
      refine ⟨f1, fun e' => ?_, fun hm => ?_⟩
      · rcases hO i e' with e' | ⟨e', _⟩
        · exact f2 e'
        · omega
      · rw [List.mem_append] at hm
        rcases hm with hm | hm
        · exact f3 hm
        · obtain rfl : i = x := by simpa using hm
          omega
    · refine ⟨by omega, e2, fun hm => ?_⟩
      rw [List.mem_append] at hm
      rcases hm with hm | hm
      · have := (h.rs i hm).lt; omega
      · obtain rfl : i = x := by simpa using hm
        omega
  · exact h.kp.trans K (fun i hi e => by
      rcases e with e | e
      · have := (h.fo i e).1; omega
      · have := (h.fr i e).1; omega)

theorem lat_snoc {l : List Nat} {R : Nat → Rn} {x : Nat} {r : Rn} (hx : x ∉ l) (now : Int) : lat (l ++ [x]) (upd R x r) now = lat l R now ++ if r.late now = true then [x] else [] := by
  unfold lat
  rw [List.filter_append]
  have e1 : l.filter (fun y => (upd R x r y).late now) = l.filter (fun y => (R y).late now) := List.filter_congr (fun y hy => by rw [upd_ne (fun e => hx (by rw [← e]; exact hy))])
  rw [e1]
  congr 1
  rw [List.filter_cons, upd_at]
  cases r.late now <;> rfl
end Go.Proofs.Ytnlkkcpcjeeplaa
