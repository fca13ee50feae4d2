/- Package path: the reference's two, Admit, Log, Of, IsTemp. -/
import Derived.Test.YtecgaggkpbikbaaDoorN9
import Derived.Test.YtecgaggkpbikbaaDoorP3
set_option linter.unusedVariables false
set_option linter.unusedSimpArgs false
namespace Go.Proofs.YtecgaggkpbikbaaDoor
open Go.RowKit

theorem mk_two (m : Nat) (h : m ≤ 24) : mkStr [48 + ((m / 10 : Nat) : Int), 48 + ((m % 10 : Nat) : Int)] = twN m := tol_inj (by
  rw [tol_twN]
  show [UInt8.ofNat (48 + ((m / 10 : Nat) : Int)).toNat, UInt8.ofNat (48 + ((m % 10 : Nat) : Int)).toNat] = _
  rw [show (48 + ((m / 10 : Nat) : Int)).toNat = 48 + m / 10 by omega, show (48 + ((m % 10 : Nat) : Int)).toNat = 48 + m % 10 by omega])
set_option maxRecDepth 100000 in
theorem two37_c (n : Int) (w : World) : Calls Tryd.prog 37 #[.int .i64 n] w fun e w' => e = .returned (.string (tw n)) ∧ Kp0 w w' := by
  by_cases h1 : n < 1
  · have ht : tw n = es := if_pos (.inl h1)
    rw [ht]
    clear ht
    go_enter Tryd.func37, Tryd.ntmps37
    go_wp2
    go_ret
    exact ⟨rfl, Kp.refl _ _⟩
  · by_cases h2 : 24 < n
    · have ht : tw n = es := if_pos (.inr h2)
      rw [ht]
      clear ht
      go_enter Tryd.func37, Tryd.ntmps37
      go_wp2
      go_ret
      exact ⟨rfl, Kp.refl _ _⟩
    · obtain ⟨m, rfl⟩ : ∃ m : Nat, n = m := ⟨n.toNat, by omega⟩
      have ht : tw (m : Int) = twN m := by unfold tw; rw [if_neg (by omega), Int.toNat_natCast]
      rw [ht]
      have hm := mk_two m (by omega)
      obtain ⟨q, hq⟩ : ∃ q, m / 10 = q := ⟨_, rfl⟩
      obtain ⟨r, hr⟩ : ∃ r, m % 10 = r := ⟨_, rfl⟩
      rw [hq, hr] at hm
      have hq10 : q < 3 := by omega
      have hr10 : r < 10 := by omega
      have eq1 : (m : Int).tdiv 10 = (q : Int) := by rw [← hq]; rfl
      have eq2 : (m : Int).tmod 10 = (r : Int) := by rw [← hr]; rfl
      have e1 : IntKind.i64.wrap (q : Int) = (q : Int) := by rw [IntKind.wrap_i64]; omega
      have e2 : IntKind.i64.wrap (48 + (q : Int)) = 48 + (q : Int) := by rw [IntKind.wrap_i64]; omega
      have e3 : IntKind.i64.wrap (48 + (r : Int)) = 48 + (r : Int) := by rw [IntKind.wrap_i64]; omega
      have e4 : IntKind.u8.wrap (48 + (q : Int)) = 48 + (q : Int) := by rw [IntKind.wrap_u8]; omega
      have e5 : IntKind.u8.wrap (48 + (r : Int)) = 48 + (r : Int) := by rw [IntKind.wrap_u8]; omega
      have ka : Kp0 w (w.alloc (.cells #[.int .u8 (48 + (q : Int)), .int .u8 (48 + (r : Int))] 5)) := (Kp.refl _ _).alloc _
      have B : Blk (w.alloc (.cells #[.int .u8 (48 + (q : Int)), .int .u8 (48 + (r : Int))] 5)) w.heap.size #[.int .u8 (48 + (q : Int)), .int .u8 (48 + (r : Int))] 5 := blk_new _ _ rfl
      have hc : (convert 24 9 (.slice (some ⟨w.heap.size, 0, none⟩) 2 2)).run Tryd.prog (w.alloc (.cells #[.int .u8 (48 + (q : Int)), .int .u8 (48 + (r : Int))] 5)) = .ok (.string (twN m)) (w.alloc (.cells #[.int .u8 (48 + (q : Int)), .int .u8 (48 + (r : Int))] 5)) := by
        rw [← hm]
        exact conv_str (ns := [48 + (q : Int), 48 + (r : Int)]) (fun j u hj => by
          rw [Nat.zero_add, B.cell j]
          obtain _ | _ | j := j
          · simpa using hj
          · simpa using hj
          · simp at hj) rfl
      clear hm ht
      go_enter Tryd.func37, Tryd.ntmps37
      go_wp2
      go_ret
      exact ⟨rfl, ka⟩

set_option maxRecDepth 100000 in
theorem radm26_c (n : Int) (w : World) : Calls Tryd.prog 26 #[.int .i64 n] w fun e w' => e = .returned (.string (adm n)) ∧ Kp0 w w' := by
  have h2 := fun W => two37_c n W
  by_cases h : n < 1 ∨ 24 < n
  · have ha : adm n = es := if_pos h
    rw [tw_no h] at h2
    rw [ha]
    clear ha h
    go_enter Tryd.func26, Tryd.ntmps26
    go_wp2_with fail
    refine (h2 w).mono ?_
    rintro e w1 ⟨rfl, k1⟩
    go_wp2
    go_ret
    exact ⟨rfl, k1⟩
  · have ha : adm n = { data := #[97, 100, 109, 105, 116, 47] } ++ tw n := if_neg h
    obtain ⟨t1, t2, t3⟩ := tl_ne (tw_ne (n := n) (by omega))
    have hz := tw_sz n
    rw [ha]
    generalize tw n = t at h2 t1 t2 t3 hz ⊢
    have hzz : ({ data := #[97, 100, 109, 105, 116, 47] } : ByteArray).size + t.size ≤ 9223372036854775807 := by
      have : ({ data := #[97, 100, 109, 105, 116, 47] } : ByteArray).size = 6 := rfl
      omega
    have hz6 : 6 + t.size ≤ 9223372036854775807 := by omega
    clear ha h
    go_enter Tryd.func26, Tryd.ntmps26
    go_wp2_with fail
    refine (h2 w).mono ?_
    rintro e w1 ⟨rfl, k1⟩
    go_wp2_with fail
    refine (h2 w1).mono ?_
    rintro e w2 ⟨rfl, k2⟩
    go_wp2
    go_ret
    exact ⟨rfl, k1.then0 k2⟩

set_option maxRecDepth 100000 in
theorem rlog27_c (f t : ByteArray) (hf : f.size ≤ 1000000) (ht : t.size ≤ 1000000) (w : World) : Calls Tryd.prog 27 #[.agg #[.string f, .string t]] w fun e w' => e = .returned (.string (lgp f t)) ∧ Kp0 w w' := by
  have ka : Kp0 w (w.alloc (.cells #[.string f, .string t] 30)) := (Kp.refl _ _).alloc _
  have B : Blk (w.alloc (.cells #[.string f, .string t] 30)) w.heap.size #[.string f, .string t] 30 := blk_new _ _ rfl
  have c0 := B.cell 0
  have c1 := B.cell 1
  simp at c0 c1
  have r1 := fun W => ref17_c f (by omega) W
  have r2 := fun W => ref17_c t (by omega) W
  have hl : lgp f t = if (rgt f && rgt t) = true then { data := #[108, 111, 103, 47] } ++ f ++ { data := #[47] } ++ t else es := rfl
  clear B
  cases hk1 : rgt f with
  | false =>
    rw [hk1] at r1 hl
    rw [if_neg (by simp)] at hl
    rw [hl]
    clear hl hk1 r2
    go_enter Tryd.func27, Tryd.ntmps27
    go_wp2_with fail
    refine (r1 _).mono ?_
    rintro e w1 ⟨rfl, rfl⟩
    go_wp2
    go_ret
    exact ⟨rfl, ka⟩
  | true =>
    cases hk2 : rgt t with
    | false =>
      rw [hk1] at r1 hl
      rw [hk2] at r2 hl
      rw [if_neg (by simp)] at hl
      rw [hl]
      clear hl hk1 hk2
      go_enter Tryd.func27, Tryd.ntmps27
      go_wp2_with fail
      refine (r1 _).mono ?_
      rintro e w1 ⟨rfl, rfl⟩
      go_wp2_with fail
      refine (r2 _).mono ?_
      rintro e w1 ⟨rfl, rfl⟩
      go_wp2
      go_ret
      exact ⟨rfl, ka⟩
    | true =>
      rw [hk1] at r1 hl
      rw [hk2] at r2 hl
      rw [if_pos (by rfl)] at hl
      rw [hl]
      have z0 : ({ data := #[108, 111, 103, 47] } : ByteArray).size = 4 := rfl
      have z1 : ({ data := #[47] } : ByteArray).size = 1 := rfl
      have y1 : ({ data := #[108, 111, 103, 47] } : ByteArray).size + f.size ≤ 9223372036854775807 := by omega
      have y1' : 4 + f.size ≤ 9223372036854775807 := by omega
      obtain ⟨a, ha⟩ : ∃ a, { data := #[108, 111, 103, 47] } ++ f = a := ⟨_, rfl⟩
      have za : a.size = 4 + f.size := by rw [← ha, ByteArray.size_append, z0]
      rw [ha]
      have y2 : a.size + ({ data := #[47] } : ByteArray).size ≤ 9223372036854775807 := by omega
      have y2' : a.size + 1 ≤ 9223372036854775807 := by omega
      obtain ⟨b, hb⟩ : ∃ b, a ++ { data := #[47] } = b := ⟨_, rfl⟩
      have zb : b.size = a.size + 1 := by rw [← hb, ByteArray.size_append, z1]
      rw [hb]
      have y3 : b.size + t.size ≤ 9223372036854775807 := by omega
      clear hl hk1 hk2 za zb z0 z1
      go_enter Tryd.func27, Tryd.ntmps27
      go_wp2_with fail
      refine (r1 _).mono ?_
      rintro e w1 ⟨rfl, rfl⟩
      go_wp2_with fail
      refine (r2 _).mono ?_
      rintro e w1 ⟨rfl, rfl⟩
      go_wp2
      go_ret
      exact ⟨rfl, ka⟩

theorem jn_app (h f e t : ByteArray) : h ++ { data := #[47] } ++ f ++ { data := #[47] } ++ e ++ { data := #[47] } ++ t = jn h f e t := tol_inj (by
  rw [tol_jn, tol_app, tol_app, tol_app, tol_app, tol_app, tol_app]
  show tol h ++ [47] ++ tol f ++ [47] ++ tol e ++ [47] ++ tol t = _
  simp)
set_option maxRecDepth 100000 in
set_option maxHeartbeats 1000000 in
theorem rof28_c (h f e : ByteArray) (n : Int) (hh : h.size ≤ 100) (hf : f.size ≤ 9223372036854775807) (he : e.size ≤ 9223372036854775807) (w : World) :
    Calls Tryd.prog 28 #[.string h, .string f, .string e, .int .i64 n] w fun e' w' => e' = .returned (.string (ofp h f e n)) ∧ Kp0 w w' := by
  have c1 := fun W => ref17_c f hf W
  have c2 := fun W => ref17_c e he W
  have c3 := fun W => two37_c n W
  have ho : ofp h f e n = if rgt f = true ∧ rgt e = true ∧ 1 ≤ n ∧ n ≤ 24 then jn h f e (tw n) else es := rfl
  by_cases r1 : rgt f = true
  rotate_left
  · rw [if_neg (fun x => r1 x.1)] at ho
    have r1' : rgt f = false := by simpa using r1
    rw [r1'] at c1
    rw [ho]
    clear ho r1 r1'
    go_enter Tryd.func28, Tryd.ntmps28
    go_wp2_with fail
    refine (c1 w).mono ?_
    rintro e' w1 ⟨rfl, rfl⟩
    go_wp2
    go_ret
    exact ⟨rfl, Kp.refl _ _⟩
  by_cases r2 : rgt e = true
  rotate_left
  · rw [if_neg (fun x => r2 x.2.1)] at ho
    have r2' : rgt e = false := by simpa using r2
    rw [r1] at c1
    rw [r2'] at c2
    rw [ho]
    clear ho r1 r2 r2'
    go_enter Tryd.func28, Tryd.ntmps28
    go_wp2_with fail
    refine (c1 w).mono ?_
    rintro e' w1 ⟨rfl, rfl⟩
    go_wp2_with fail
    refine (c2 w).mono ?_
    rintro e' w2 ⟨rfl, rfl⟩
    go_wp2
    go_ret
    exact ⟨rfl, Kp.refl _ _⟩
  by_cases r3 : 1 ≤ n ∧ n ≤ 24
  rotate_left
  · rw [if_neg (fun x => r3 x.2.2)] at ho
    rw [r1] at c1
    rw [r2] at c2
    rw [tw_no (by omega)] at c3
    rw [ho]
    clear ho r1 r2 r3
    go_enter Tryd.func28, Tryd.ntmps28
    go_wp2_with fail
    refine (c1 w).mono ?_
    rintro e' w1 ⟨rfl, rfl⟩
    go_wp2_with fail
    refine (c2 w).mono ?_
    rintro e' w2 ⟨rfl, rfl⟩
    go_wp2_with fail
    refine (c3 w).mono ?_
    rintro e' w3 ⟨rfl, k3⟩
    go_wp2
    go_ret
    exact ⟨rfl, k3⟩
  · rw [if_pos ⟨r1, r2, r3⟩] at ho
    rw [ho]
    have z1 := rgt_s8 r1
    have z2 := rgt_s8 r2
    rw [r1] at c1
    rw [r2] at c2
    obtain ⟨t1, t2, t3⟩ := tl_ne (tw_ne r3)
    have hz := tw_sz n
    clear ho r1 r2 r3
    rw [← jn_app]
    generalize tw n = t at c3 t1 t2 t3 hz ⊢
    have zs : ({ data := #[47] } : ByteArray).size = 1 := rfl
    obtain ⟨a1, h1⟩ : ∃ a, h ++ { data := #[47] } = a := ⟨_, rfl⟩
    have y1 : h.size + ({ data := #[47] } : ByteArray).size ≤ 9223372036854775807 := by omega
    have y1' : h.size + 1 ≤ 9223372036854775807 := by omega
    have s1 : a1.size = h.size + 1 := by rw [← h1, ByteArray.size_append, zs]
    obtain ⟨a2, h2⟩ : ∃ a, a1 ++ f = a := ⟨_, rfl⟩
    have y2 : a1.size + f.size ≤ 9223372036854775807 := by omega
    have s2 : a2.size = a1.size + f.size := by rw [← h2, ByteArray.size_append]
    obtain ⟨a3, h3⟩ : ∃ a, a2 ++ { data := #[47] } = a := ⟨_, rfl⟩
    have y3 : a2.size + ({ data := #[47] } : ByteArray).size ≤ 9223372036854775807 := by omega
    have y3' : a2.size + 1 ≤ 9223372036854775807 := by omega
    have s3 : a3.size = a2.size + 1 := by rw [← h3, ByteArray.size_append, zs]
    obtain ⟨a4, h4⟩ : ∃ a, a3 ++ e = a := ⟨_, rfl⟩
    have y4 : a3.size + e.size ≤ 9223372036854775807 := by omega
    have s4 : a4.size = a3.size + e.size := by rw [← h4, ByteArray.size_append]
    obtain ⟨a5, h5⟩ : ∃ a, a4 ++ { data := #[47] } = a := ⟨_, rfl⟩
    have y5 : a4.size + ({ data := #[47] } : ByteArray).size ≤ 9223372036854775807 := by omega
    have y5' : a4.size + 1 ≤ 9223372036854775807 := by omega
    have s5 : a5.size = a4.size + 1 := by rw [← h5, ByteArray.size_append, zs]
    have y6 : a5.size + t.size ≤ 9223372036854775807 := by omega
    rw [h1, h2, h3, h4, h5]
    clear s1 s2 s3 s4 s5 zs hz z1 z2 hh hf he
    go_enter Tryd.func28, Tryd.ntmps28
    go_wp2_with fail
    refine (c1 w).mono ?_
    rintro e' w1 ⟨rfl, rfl⟩
    go_wp2_with fail
    refine (c2 w).mono ?_
    rintro e' w2 ⟨rfl, rfl⟩
    go_wp2_with fail
    refine (c3 w).mono ?_
    rintro e' w3 ⟨rfl, k3⟩
    go_wp2_with fail
    refine (c3 w3).mono ?_
    rintro e' w4 ⟨rfl, k4⟩
    clear t1 t2 t3
    go_wp2
    go_ret
    exact ⟨rfl, k3.then0 k4⟩

theorem isT_eq (p : ByteArray) : isT p = if h : 0 < p.size then decide (p[p.size - 1]'(by omega) = 126) else false := by
  have e : isT p = (decide (1 ≤ p.data.toList.length) && (p.data.toList.drop (p.data.toList.length - 1) == [126])) := (Lib.hasSuffix_of_drop p.data.toList [126]).symm
  have hsz : p.data.toList.length = p.size := by rw [Array.length_toList]; rfl
  rw [e, hsz]
  by_cases h : 0 < p.size
  · rw [dif_pos h, decide_eq_true (by omega : 1 ≤ p.size), Bool.true_and]
    have hl : p.size - 1 < p.data.toList.length := by omega
    rw [List.drop_eq_getElem_cons hl, List.drop_eq_nil_of_le (by omega)]
    have : p.data.toList[p.size - 1] = p[p.size - 1]'(by omega) := rfl
    rw [this]
    generalize p[p.size - 1]'(by omega) = c
    by_cases hc : c = 126
    · subst hc; rfl
    · rw [decide_eq_false hc]; simp [hc]
  · rw [dif_neg h, decide_eq_false (by omega), Bool.false_and]
set_option maxRecDepth 100000 in
theorem ristemp29_c (p : ByteArray) (hp : p.size ≤ 9223372036854775807) (w : World) : Calls Tryd.prog 29 #[.string p] w fun e w' => e = .returned (.bool (isT p)) ∧ w = w' := by
  rw [isT_eq]
  by_cases h : 0 < p.size
  · rw [dif_pos h]
    have h0 : (0 : Int) < (p.size : Int) := by omega
    have e1 : IntKind.i64.wrap ((p.size : Int) - 1) = ((p.size - 1 : Nat) : Int) := by rw [IntKind.wrap_i64]; omega
    have hc : (((p[p.size - 1]'(by omega)).toNat : Int) == 126) = decide (p[p.size - 1]'(by omega) = 126) := by
      generalize p[p.size - 1]'(by omega) = c
      by_cases hc : c = 126
      · subst hc; rfl
      · rw [decide_eq_false hc, beq_eq_false_iff_ne]
        intro hh
        exact hc (UInt8.toNat_inj.1 (by show c.toNat = 126; omega))
    go_enter Tryd.func29, Tryd.ntmps29
    go_wp2
    go_ret
    exact ⟨rfl, rfl⟩
  · rw [dif_neg h]
    have h0 : ¬ (0 : Int) < (p.size : Int) := by omega
    go_enter Tryd.func29, Tryd.ntmps29
    go_wp2
    go_ret
    exact ⟨rfl, rfl⟩
end Go.Proofs.YtecgaggkpbikbaaDoor
