/- NameOrder: the walk. -/
import Derived.Test.YtecgaggkpbikbaaDoorN7
set_option linter.unusedVariables false
set_option linter.unusedSimpArgs false
namespace Go.Proofs.YtecgaggkpbikbaaDoor
open Go.RowKit

theorem cb_refl : ∀ l : List UInt8, Lib.compareBytes l l = 0
  | [] => by simp [Lib.compareBytes]
  | a :: l => by
    unfold Lib.compareBytes
    rw [if_neg (by simp), if_neg (by simp)]; exact cb_refl l
theorem cb_zero : ∀ l m : List UInt8, Lib.compareBytes l m = 0 → l = m
  | [], [] => fun _ => rfl
  | [], _ :: _ => by simp [Lib.compareBytes]
  | _ :: _, [] => by simp [Lib.compareBytes]
  | a :: l, b :: m => by
    intro h
    unfold Lib.compareBytes at h
    split at h
    · cases h
    split at h
    · cases h
    rename_i h1 h2
    have : a = b := by
      rw [UInt8.lt_iff_toNat_lt] at h1 h2
      exact UInt8.toNat_inj.1 (by omega)
    rw [this, cb_zero l m h]
theorem cb_neg : ∀ l m : List UInt8, Lib.compareBytes m l = - Lib.compareBytes l m
  | [], [] => by simp [Lib.compareBytes]
  | [], _ :: _ => by simp [Lib.compareBytes]
  | _ :: _, [] => by simp [Lib.compareBytes]
  | a :: l, b :: m => by
    unfold Lib.compareBytes
    have := cb_neg l m
    simp only [UInt8.lt_iff_toNat_lt]
    by_cases h1 : a.toNat < b.toNat
    · rw [if_neg (by omega), if_pos h1, if_pos h1]; rfl
    · rw [if_neg h1, if_neg h1]
      by_cases h2 : b.toNat < a.toNat
      · rw [if_pos h2, if_pos h2]
      · rw [if_neg h2, if_neg h2]; exact this
theorem cb_trans : ∀ l m n : List UInt8, Lib.compareBytes l m < 0 → Lib.compareBytes m n < 0 → Lib.compareBytes l n < 0
  | [], [], [] => by simp [Lib.compareBytes]
  | [], [], _ :: _ => by simp [Lib.compareBytes]
  | [], _ :: _, [] => by simp [Lib.compareBytes]
  | [], _ :: _, _ :: _ => by simp [Lib.compareBytes]
  | _ :: _, [], _ => by simp [Lib.compareBytes]
  | _ :: _, _ :: _, [] => by simp [Lib.compareBytes]
  | a :: l, b :: m, c :: n => by
    unfold Lib.compareBytes
    have := cb_trans l m n
    simp only [UInt8.lt_iff_toNat_lt]
    intro h1 h2
    split at h1
    · split at h2
      · rw [if_pos (by omega)]; decide
      split at h2
      · cases h2
      · rw [if_pos (by omega)]; decide
    split at h1
    · cases h1
    split at h2
    · rw [if_pos (by omega)]; decide
    split at h2
    · cases h2
    rw [if_neg (by omega), if_neg (by omega)]
    exact this h1 h2
theorem cmb_refl (a : ByteArray) : cmb a a = 0 := cb_refl _
theorem cmb_zero {a b : ByteArray} (h : cmb a b = 0) : a = b := by
  have := cb_zero _ _ h
  cases a; cases b; congr 1; exact Array.toList_inj.1 this
theorem cmb_neg (a b : ByteArray) : cmb b a = - cmb a b := cb_neg _ _
theorem cmb_trans {a b c : ByteArray} (h1 : cmb a b < 0) (h2 : cmb b c < 0) : cmb a c < 0 := cb_trans _ _ _ h1 h2
theorem les_refl (a b : ByteArray) : lesB a b a b = false := by simp [lesB, cmb_refl, orI]
theorem les_iff (a b c d : ByteArray) : lesB a b c d = true ↔ cmb a c < 0 ∨ (a = c ∧ cmb b d < 0) := by
  unfold lesB orI
  rw [decide_eq_true_iff]
  by_cases h : cmb a c = 0
  · have := cmb_zero h; subst this
    rw [if_neg (by simpa using h)]; simp [cmb_refl]
  · rw [if_pos h]
    constructor
    · exact Or.inl
    · rintro (h1 | ⟨rfl, h1⟩)
      · exact h1
      · exact absurd (cmb_refl _) h
theorem les_one (a b c d : ByteArray) : (lesB a b c d = true ∧ lesB c d a b = false ∧ ¬(a = c ∧ b = d)) ∨ (lesB a b c d = false ∧ lesB c d a b = true ∧ ¬(a = c ∧ b = d)) ∨ (lesB a b c d = false ∧ lesB c d a b = false ∧ a = c ∧ b = d) := by
  unfold lesB orI
  rw [cmb_neg a c, cmb_neg b d]
  by_cases h : cmb a c = 0
  · have := cmb_zero h; subst this
    rw [h]
    simp only [ne_eq, not_true_eq_false, if_false, Int.neg_zero, true_and]
    by_cases h2 : cmb b d = 0
    · have := cmb_zero h2; subst this
      rw [h2]; right; right; exact ⟨rfl, rfl, rfl⟩
    · have hn : b ≠ d := fun e => h2 (e ▸ cmb_refl b)
      by_cases h3 : cmb b d < 0
      · left; exact ⟨decide_eq_true h3, decide_eq_false (by omega), hn⟩
      · right; left; exact ⟨decide_eq_false h3, decide_eq_true (by omega), hn⟩
  · have hn : a ≠ c := fun e => h (e ▸ cmb_refl a)
    have h' : - cmb a c ≠ 0 := by omega
    rw [if_pos h, if_pos h']
    by_cases h3 : cmb a c < 0
    · left; exact ⟨decide_eq_true h3, decide_eq_false (by omega), fun x => hn x.1⟩
    · right; left; exact ⟨decide_eq_false h3, decide_eq_true (by omega), fun x => hn x.1⟩
theorem les_trans {a b c d e f : ByteArray} (h1 : lesB a b c d = true) (h2 : lesB c d e f = true) : lesB a b e f = true := by
  rw [les_iff] at *
  rcases h1 with h1 | ⟨rfl, h1⟩ <;> rcases h2 with h2 | ⟨rfl, h2⟩
  · exact .inl (cmb_trans h1 h2)
  · exact .inl h1
  · exact .inl h2
  · exact .inr ⟨rfl, cmb_trans h1 h2⟩

theorem eq30 (a b c d : ByteArray) (W : World) : (binOp .eql 30 (.agg #[.string a, .string b]) (.agg #[.string c, .string d])).run Tryd.prog W = .ok (.bool (decide (a = c ∧ b = d))) W := by
  rw [run_eql_struct, run_equalIn_agg _ _ _ _ _ (by kernel_rfl) (by kernel_rfl)]
  simp only [Program.fieldsOf, Tryd.underlying30]
  simp [Op.eqFields, go_sem]
  have tl : ∀ x y : ByteArray, (x.toList = y.toList) = (x = y) := fun x y => by
    rw [eq_iff_iff, ByteArray.toList_eq, ByteArray.toList_eq]
    exact ⟨fun h => ByteArray.ext (Array.toList_inj.mp h), fun h => by rw [h]⟩
  simp only [tl]
  by_cases h1 : a = c <;> by_cases h2 : b = d <;> simp [h1, h2]
theorem less_at (a b c d : ByteArray) (r : Bool) (h : lesB a b c d = r) (W : World) : Calls Tryd.prog 15 #[.agg #[.string a, .string b], .agg #[.string c, .string d]] W fun e w' => e = .returned (.bool r) ∧ Kp0 W w' := by
  rw [← h]; exact less15_c a b c d W

set_option maxRecDepth 100000 in
set_option maxHeartbeats 4000000 in
theorem nameOrder_c (a1 a2 b1 b2 c1 c2 : ByteArray) (w : World) : Calls Tryd.prog 5 #[.agg #[.string a1, .string a2], .agg #[.string b1, .string b2], .agg #[.string c1, .string c2]] w fun e w' => e = .returned (.bool true) ∧ Kp0 w w' := by
  have hab := less_at a1 a2 b1 b2 _ rfl
  have hba := less_at b1 b2 a1 a2 _ rfl
  have hbc := less_at b1 b2 c1 c2 _ rfl
  have hac := less_at a1 a2 c1 c2 _ rfl
  have haa := less_at a1 a2 a1 a2 _ (les_refl a1 a2)
  have h1 := les_one a1 a2 b1 b2
  have ht := @les_trans a1 a2 b1 b2 c1 c2
  have heq : ∀ W : World, (binOp .eql 30 (.agg #[.string a1, .string a2]) (.agg #[.string b1, .string b2])).run Tryd.prog W = .ok (.bool (decide (a1 = b1 ∧ a2 = b2))) W := fun W => eq30 a1 a2 b1 b2 W
  generalize he : decide (a1 = b1 ∧ a2 = b2) = eq at heq
  generalize lesB a1 a2 b1 b2 = ab at *
  generalize lesB b1 b2 a1 a2 = ba at *
  generalize lesB b1 b2 c1 c2 = bc at *
  generalize lesB a1 a2 c1 c2 = ac at *
  have ka : Kp0 w (w.alloc (.cells #[.string a1, .string a2] 30)) := (Kp.refl _ _).alloc _
  have A : Blk (w.alloc (.cells #[.string a1, .string a2] 30)) w.heap.size #[.string a1, .string a2] 30 := blk_new _ _ rfl
  have kb : Kp0 (w.alloc (.cells #[.string a1, .string a2] 30)) ((w.alloc (.cells #[.string a1, .string a2] 30)).alloc (.cells #[.string b1, .string b2] 30)) := (Kp.refl _ _).alloc _
  have B : Blk ((w.alloc (.cells #[.string a1, .string a2] 30)).alloc (.cells #[.string b1, .string b2] 30)) (w.heap.size + 1) #[.string b1, .string b2] 30 := blk_new _ _ (by simp)
  have kc : Kp0 ((w.alloc (.cells #[.string a1, .string a2] 30)).alloc (.cells #[.string b1, .string b2] 30)) (((w.alloc (.cells #[.string a1, .string a2] 30)).alloc (.cells #[.string b1, .string b2] 30)).alloc (.cells #[.string c1, .string c2] 30)) := (Kp.refl _ _).alloc _
  have C : Blk (((w.alloc (.cells #[.string a1, .string a2] 30)).alloc (.cells #[.string b1, .string b2] 30)).alloc (.cells #[.string c1, .string c2] 30)) (w.heap.size + 1 + 1) #[.string c1, .string c2] 30 := blk_new _ _ (by simp)
  have A2 := A.kp0 (kb.then0 kc)
  have B2 := B.kp0 kc
  have k0 := (ka.then0 kb).then0 kc
  clear ka kb A B kc
  go_enter Tryd.func5, Tryd.ntmps5
  go_upto_region 2 with fail
  generalize ((w.alloc (.cells #[.string a1, .string a2] 30)).alloc (.cells #[.string b1, .string b2] 30)).alloc (.cells #[.string c1, .string c2] 30) = W0 at k0 A2 B2 C ⊢
  have S0 : ∀ W, Kp0 W0 W → W.cell? ⟨w.heap.size, 0, none⟩ = some (.string a1) ∧ W.cell? ⟨w.heap.size, 1, none⟩ = some (.string a2) ∧ W.cell? ⟨w.heap.size + 1, 0, none⟩ = some (.string b1) ∧ W.cell? ⟨w.heap.size + 1, 1, none⟩ = some (.string b2) := fun W k => ⟨(A2.kp0 k).cell 0, (A2.kp0 k).cell 1, (B2.kp0 k).cell 0, (B2.kp0 k).cell 1⟩
  have K0 : Kp0 W0 W0.drew := (Kp.refl _ _).drew
  go_wp2_with fail
  go_region_held3 (fun W => W.cell? ⟨w.heap.size, 0, none⟩ = some (.string a1) ∧ W.cell? ⟨w.heap.size, 1, none⟩ = some (.string a2) ∧ W.cell? ⟨w.heap.size + 1, 0, none⟩ = some (.string b1) ∧ W.cell? ⟨w.heap.size + 1, 1, none⟩ = some (.string b2)) (first | exact S0 _ K0 | exact S0 _ (K0.then0 kA) | exact S0 _ ((K0.then0 kA).then0 kB) | exact S0 _ (((K0.then0 kA).then0 kB).alloc _)) (first | (go_at_call 15; first | (go_fit (hab _); rintro e wA ⟨rfl, kA⟩) | (go_fit (hba _); rintro e wB ⟨rfl, kB⟩)))
  have K1 : Kp0 w (wB.alloc (.cells #[.bool ab, .bool ba, .bool eq] 4)) := k0.then0 (((K0.then0 kA).then0 kB).alloc _)
  have A3 : Blk (wB.alloc (.cells #[.bool ab, .bool ba, .bool eq] 4)) w.heap.size #[.string a1, .string a2] 30 := A2.kp0 (((K0.then0 kA).then0 kB).alloc _)
  have B3 : Blk (wB.alloc (.cells #[.bool ab, .bool ba, .bool eq] 4)) (w.heap.size + 1) #[.string b1, .string b2] 30 := B2.kp0 (((K0.then0 kA).then0 kB).alloc _)
  have C3 : Blk (wB.alloc (.cells #[.bool ab, .bool ba, .bool eq] 4)) (w.heap.size + 1 + 1) #[.string c1, .string c2] 30 := C.kp0 (((K0.then0 kA).then0 kB).alloc _)
  have D3 : Blk (wB.alloc (.cells #[.bool ab, .bool ba, .bool eq] 4)) wB.heap.size #[.bool ab, .bool ba, .bool eq] 4 := blk_new _ _ rfl
  generalize wB.alloc (.cells #[.bool ab, .bool ba, .bool eq] 4) = W1 at K1 A3 B3 C3 D3 ⊢
  generalize wB.heap.size = D at D3 ⊢
  go_wp2_with fail
  have hone : ab.toNat + ba.toNat + eq.toNat = 1 := by
    rw [← he]
    rcases h1 with ⟨e1, e2, hn⟩ | ⟨e1, e2, hn⟩ | ⟨e1, e2, hn⟩
    · rw [e1, e2, decide_eq_false hn]; rfl
    · rw [e1, e2, decide_eq_false hn]; rfl
    · rw [e1, e2, decide_eq_true hn]; rfl
  clear heq hba h1 he
  go_loopw [7, 21] (fun s7 s21 wr => ∃ j n : Nat, j ≤ 3 ∧ s21 = .int .i64 (j : Nat) ∧ s7 = .int .i64 (n : Int) ∧ (j = 0 ∧ n = 0 ∨ j = 1 ∧ n = ab.toNat ∨ j = 2 ∧ n = ab.toNat + ba.toNat ∨ j = 3 ∧ n = ab.toNat + ba.toNat + eq.toNat) ∧ W1 = wr) (fun _ s21 _ => (3 - intOf s21).toNat)
  case atStart => exact ⟨0, 0, by omega, rfl, rfl, .inl ⟨rfl, rfl⟩, rfl⟩
  case round =>
    obtain ⟨j, n, hj, rfl, rfl, hn, rfl⟩ := hrel
    obtain rfl | rfl | rfl | rfl : j = 0 ∨ j = 1 ∨ j = 2 ∨ j = 3 := by omega
    · have c := D3.cell 0
      simp at c
      clear hone ht haa hbc hac hab A3 B3 C3 D3
      have hb : n ≤ 3 := by cases ab <;> cases ba <;> cases eq <;> simp at hn <;> omega
      have HN := Lib.hid hn
      clear hn
      cases ab
      · go_wp2
        go_roundw
        case rel => exact ⟨1, n, by omega, rfl, by go_num, by have := HN.out; simp at this ⊢; omega, trivial⟩
        case measure => simp [intOf]
      · go_wp2
        go_roundw
        case rel => exact ⟨1, n + 1, by omega, rfl, by go_num, by have := HN.out; simp at this ⊢; omega, trivial⟩
        case measure => simp [intOf]
    · have c := D3.cell 1
      simp at c
      clear hone ht haa hbc hac hab A3 B3 C3 D3
      have hb : n ≤ 3 := by cases ab <;> cases ba <;> cases eq <;> simp at hn <;> omega
      have HN := Lib.hid hn
      clear hn
      cases ba
      · go_wp2
        go_roundw
        case rel => exact ⟨2, n, by omega, rfl, by go_num, by have := HN.out; simp at this ⊢; omega, trivial⟩
        case measure => simp [intOf]
      · go_wp2
        go_roundw
        case rel => exact ⟨2, n + 1, by omega, rfl, by go_num, by have := HN.out; simp at this ⊢; omega, trivial⟩
        case measure => simp [intOf]
    · have c := D3.cell 2
      simp at c
      clear hone ht haa hbc hac hab A3 B3 C3 D3
      have hb : n ≤ 3 := by cases ab <;> cases ba <;> cases eq <;> simp at hn <;> omega
      have HN := Lib.hid hn
      clear hn
      cases eq
      · go_wp2
        go_roundw
        case rel => exact ⟨3, n, by omega, rfl, by go_num, by have := HN.out; simp at this ⊢; omega, trivial⟩
        case measure => simp [intOf]
      · go_wp2
        go_roundw
        case rel => exact ⟨3, n + 1, by omega, rfl, by go_num, by have := HN.out; simp at this ⊢; omega, trivial⟩
        case measure => simp [intOf]
    · have hn1 : n = 1 := by simp at hn; omega
      clear hn hone D3
      subst hn1
      have a0 := A3.cell 0
      have a1 := A3.cell 1
      have b0 := B3.cell 0
      have b1 := B3.cell 1
      simp at a0 a1 b0 b1
      cases ab with
      | false =>
        go_wp2_with fail
        refine (hab _).mono ?_
        rintro e w2 ⟨rfl, k2⟩
        have a20 := (A3.kp0 k2).cell 0
        have a21 := (A3.kp0 k2).cell 1
        simp at a20 a21
        clear a0 a1 b0 b1
        go_wp2_with fail
        refine (haa _).mono ?_
        rintro e w3 ⟨rfl, k3⟩
        have k4 := (K1.then0 k2).then0 k3
        clear a20 a21 A3 B3 C3 hab hbc hac haa
        go_wp2_with fail
        refine (wakes13_c _).mono ?_
        rintro e w4 ⟨rfl, k5⟩
        go_wp2
        go_ret
        exact ⟨rfl, k4.then0 k5⟩
      | true =>
        cases bc with
        | false =>
          clear ht
          go_wp2_with fail
          refine (hab _).mono ?_
          rintro e w2 ⟨rfl, k2⟩
          have b20 := (B3.kp0 k2).cell 0
          have b21 := (B3.kp0 k2).cell 1
          have c20 := (C3.kp0 k2).cell 0
          have c21 := (C3.kp0 k2).cell 1
          simp at b20 b21 c20 c21
          clear a0 a1 b0 b1
          go_wp2_with fail
          refine (hbc _).mono ?_
          rintro e w3 ⟨rfl, k3⟩
          have a20 := ((A3.kp0 k2).kp0 k3).cell 0
          have a21 := ((A3.kp0 k2).kp0 k3).cell 1
          simp at a20 a21
          clear b20 b21 c20 c21
          go_wp2_with fail
          refine (haa _).mono ?_
          rintro e w4 ⟨rfl, k4⟩
          have k5 := ((K1.then0 k2).then0 k3).then0 k4
          clear a20 a21 A3 B3 C3 hab hbc hac haa
          go_wp2_with fail
          refine (wakes13_c _).mono ?_
          rintro e w5 ⟨rfl, k6⟩
          go_wp2
          go_ret
          exact ⟨rfl, k5.then0 k6⟩
        | true =>
          obtain rfl : ac = true := ht rfl rfl
          clear ht
          go_wp2_with fail
          refine (hab _).mono ?_
          rintro e w2 ⟨rfl, k2⟩
          have b20 := (B3.kp0 k2).cell 0
          have b21 := (B3.kp0 k2).cell 1
          have c20 := (C3.kp0 k2).cell 0
          have c21 := (C3.kp0 k2).cell 1
          simp at b20 b21 c20 c21
          clear a0 a1 b0 b1
          go_wp2_with fail
          refine (hbc _).mono ?_
          rintro e w3 ⟨rfl, k3⟩
          have a20 := ((A3.kp0 k2).kp0 k3).cell 0
          have a21 := ((A3.kp0 k2).kp0 k3).cell 1
          have c30 := ((C3.kp0 k2).kp0 k3).cell 0
          have c31 := ((C3.kp0 k2).kp0 k3).cell 1
          simp at a20 a21 c30 c31
          clear b20 b21 c20 c21
          go_wp2_with fail
          refine (hac _).mono ?_
          rintro e w4 ⟨rfl, k4⟩
          have a30 := (((A3.kp0 k2).kp0 k3).kp0 k4).cell 0
          have a31 := (((A3.kp0 k2).kp0 k3).kp0 k4).cell 1
          simp at a30 a31
          clear a20 a21 c30 c31
          go_wp2_with fail
          refine (haa _).mono ?_
          rintro e w5 ⟨rfl, k5⟩
          have k6 := (((K1.then0 k2).then0 k3).then0 k4).then0 k5
          clear a30 a31 A3 B3 C3 hab hbc hac haa
          go_wp2_with fail
          refine (wakes13_c _).mono ?_
          rintro e w6 ⟨rfl, k7⟩
          go_wp2
          go_ret
          exact ⟨rfl, k6.then0 k7⟩
theorem nameOrder_w (a1 a2 b1 b2 c1 c2 : ByteArray) (w : World) : Calls Tryd.prog 5 #[.agg #[.string a1, .string a2], .agg #[.string b1, .string b2], .agg #[.string c1, .string c2]] w fun e w' => e = .returned (.bool true) ∧ Below w.heap.size w w' :=
  (nameOrder_c a1 a2 b1 b2 c1 c2 w).mono fun _ _ h => ⟨h.1, h.2.below0⟩
end Go.Proofs.YtecgaggkpbikbaaDoor
