/- Package name: Right. -/
import Derived.Test.YtecgaggkpbikbaaDoorKp
import Derived.Test.YtecgaggkpbikbaaDoorSh
set_option linter.unusedVariables false
set_option linter.unusedSimpArgs false
namespace Go.Proofs.YtecgaggkpbikbaaDoor
open Go.RowKit

abbrev es : ByteArray := { data := #[] }
theorem es_of {p : ByteArray} (h : p.data.toList = []) : p = es := by
  cases p with
  | mk d => cases d; simp at h; subst h; rfl
theorem tl_ne {p : ByteArray} (h : p ≠ es) : p.toList.isEmpty = false ∧ (p.toList == []) = false ∧ ¬ p.toList = [] := by
  have h1 : ¬ p.toList = [] := by rw [ByteArray.toList_eq]; exact fun e => h (es_of e)
  exact ⟨by simpa using h1, by simpa using h1, h1⟩
theorem tl_es : es.toList = [] := by rw [ByteArray.toList_eq]

abbrev sig : ByteArray := { data := #[97, 98, 99, 100, 101, 102, 103, 104, 105, 106, 107, 108, 109, 110, 111, 112, 113, 114, 115, 116, 117, 118, 119, 120, 121, 122, 48, 49, 50, 51, 52, 53, 54, 55, 56, 57] }
/-- A small letter or a figure. -/
def sgn (c : UInt8) : Bool := (decide (97 ≤ c) && decide (c ≤ 122)) || (decide (48 ≤ c) && decide (c ≤ 57))
theorem sig_sgn (c : UInt8) : sig.data.toList.contains c = sgn c := by
  have h : ∀ n : Fin 256, sig.data.toList.contains (UInt8.ofNat n.val) = sgn (UInt8.ofNat n.val) := by decide +kernel
  have := h ⟨c.toNat, c.toNat_lt⟩
  simpa using this
theorem drop_nil {l : List UInt8} {p : UInt8 → Bool} : l.dropWhile p = [] ↔ l.all p = true := by
  induction l with
  | nil => simp
  | cons x l ih =>
    rw [List.dropWhile_cons]
    by_cases h : p x = true
    · rw [if_pos h, ih]; simp [h]
    · rw [if_neg h]; simp [h]
theorem trim_nil (l : List UInt8) : Lib.trimS l sig.data.toList = [] ↔ l.all sgn = true := by
  have hp : (fun c => sig.data.toList.contains c) = sgn := by funext c; exact sig_sgn c
  unfold Lib.trimS Lib.trimLeftS Lib.trimRightS
  rw [show (fun x => sig.data.toList.contains x) = sgn from hp]
  constructor
  · intro h
    have h1 := drop_nil.1 h
    rw [List.all_reverse] at h1
    by_cases ha : l.all sgn = true
    · exact ha
    · have h2 : ¬ l.reverse.dropWhile sgn = [] := fun e => ha (by have := drop_nil.1 e; rwa [List.all_reverse] at this)
      obtain ⟨y, r, e⟩ := List.exists_cons_of_ne_nil h2
      have h3 : sgn y = true := by rw [e] at h1; simp at h1; exact h1.1
      have h4 := List.head?_dropWhile_not sgn l.reverse
      rw [e] at h4
      simp at h4
      rw [h3] at h4; cases h4
  · intro h
    have : l.reverse.dropWhile sgn = [] := drop_nil.2 (by rw [List.all_reverse]; exact h)
    rw [this]; rfl

/-- May a name be? -/
def rgt (s : ByteArray) : Bool := decide (0 < s.size ∧ s.size ≤ 8) && s.data.toList.all sgn

set_option maxRecDepth 100000 in
theorem right11_c (s : ByteArray) (hs : s.size ≤ 9223372036854775807) (w : World) : Calls Tryd.prog 11 #[.string s] w fun e w' => e = .returned (.bool (rgt s)) ∧ Kp0 w w' := by
  by_cases h0 : s = es
  · subst h0
    go_enter Tryd.func11, Tryd.ntmps11
    go_wp2
    go_ret
    exact ⟨rfl, Kp.refl _ _⟩
  · obtain ⟨t1, t2, t3⟩ := tl_ne h0
    have hz : 0 < s.size := by
      have : s.size = s.data.toList.length := by rw [Array.length_toList]; rfl
      rw [this]
      exact List.length_pos_iff.2 (fun e => h0 (es_of e))
    by_cases h8 : s.size ≤ 8
    · have hr : rgt s = decide (Lib.trimS s.data.toList sig.data.toList = []) := by
        unfold rgt
        rw [decide_eq_true ⟨hz, h8⟩, Bool.true_and]
        have := trim_nil s.data.toList
        by_cases ha : s.data.toList.all sgn = true
        · rw [ha, decide_eq_true (this.2 ha)]
        · rw [decide_eq_false (fun e => ha (this.1 e))]
          simpa using ha
      have hc : Calls Tryd.prog 31 #[.string s, .string sig] w fun e w' => e = .returned (.string ⟨(Lib.trimS s.data.toList sig.data.toList).toArray⟩) ∧ Below w.heap.size w w' := Any.strings_Trim_laid Tryd.trim31 (by kernel_rfl) s sig w hs (by decide) (Go.Proofs.ascii_of_all (by decide))
      rw [hr]
      generalize Lib.trimS s.data.toList sig.data.toList = r at hc ⊢
      have h8' : (s.size : Int) ≤ 8 := by omega
      by_cases hr0 : r = []
      · subst hr0
        clear hr
        go_enter Tryd.func11, Tryd.ntmps11
        go_wp2_with fail
        refine hc.mono ?_
        rintro e w' ⟨rfl, hb⟩
        go_wp2
        go_ret
        exact ⟨rfl, Kp.of_below hb⟩
      · have hne : (⟨r.toArray⟩ : ByteArray) ≠ es := fun e => hr0 (by injection e with e; have := congrArg Array.toList e; simpa using this)
        rw [decide_eq_false hr0]
        generalize (⟨r.toArray⟩ : ByteArray) = rr at hc hne
        obtain ⟨q1, q2, q3⟩ := tl_ne hne
        clear hr hne
        go_enter Tryd.func11, Tryd.ntmps11
        go_wp2_with fail
        refine hc.mono ?_
        rintro e w' ⟨rfl, hb⟩
        go_wp2
        go_ret
        exact ⟨rfl, Kp.of_below hb⟩
    · have hr : rgt s = false := by unfold rgt; rw [decide_eq_false (fun h => h8 h.2), Bool.false_and]
      have h8' : ¬ (s.size : Int) ≤ 8 := by omega
      rw [hr]
      clear hr
      go_enter Tryd.func11, Tryd.ntmps11
      go_wp2
      go_ret
      exact ⟨rfl, Kp.refl _ _⟩
end Go.Proofs.YtecgaggkpbikbaaDoor
