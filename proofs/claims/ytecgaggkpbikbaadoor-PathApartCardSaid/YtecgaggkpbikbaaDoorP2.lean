/- Package path: what stands of a run; temporary files; the example. -/
import Derived.Test.YtecgaggkpbikbaaDoorP1
set_option linter.unusedVariables false
set_option linter.unusedSimpArgs false
namespace Go.Proofs.YtecgaggkpbikbaaDoor
open Go.RowKit

theorem x48 : Builder.Extra Tryd.prog Tryd.join48_ren :=
  { sizeBuilder := by kernel_rfl, liesBuilder := by kernel_rfl, t5 := Tryd.underlying5, a5 := Tryd.isAgg5, z5 := Tryd.sizeOf5, v5 := Tryd.zeroValue5, infoByte := by kernel_rfl, cellsByte := by kernel_rfl, sizeByte := by kernel_rfl, neB5 := by decide }
/-- Four parts, one behind the other. -/
def jn (h f e t : ByteArray) : ByteArray := ⟨(Lib.join [tol h, tol f, tol e, tol t] [47]).toArray⟩
theorem tol_jn (h f e t : ByteArray) : tol (jn h f e t) = tol h ++ 47 :: (tol f ++ 47 :: (tol e ++ 47 :: tol t)) := by
  unfold jn tol
  simp [Lib.join, List.intercalate, List.intersperse]
theorem join48_c (h f e t : ByteArray) (hl : h.size + f.size + e.size + t.size ≤ 1000000) (B : Nat) (W : World) (hB : Blk W B #[.string h, .string f, .string e, .string t] 9) :
    Calls Tryd.prog 48 #[.slice (some ⟨B, 0, none⟩) 4 4, .string { data := #[47] }] W fun e' w' => e' = .returned (.string (jn h f e t)) ∧ Kp0 W w' := by
  have key := Any.strings_Join Tryd.join48 x48 B 0 4 [h, f, e, t] { data := #[47] } W (fun j x hx => by
    rw [Nat.zero_add, hB.cell j]
    obtain rfl | rfl | rfl | rfl : j = 0 ∨ j = 1 ∨ j = 2 ∨ j = 3 := by
      have := (List.getElem?_eq_some_iff.1 hx).1
      simp at this; omega
    all_goals (simp at hx; subst hx; rfl)) hB.lt (by simp) (by simp) (by
    have : (Lib.join [tol h, tol f, tol e, tol t] [47]).length ≤ 140737488355328 := by
      simp [Lib.join, List.intercalate, List.intersperse, ← sz_tol]
      omega
    exact this)
  exact Calls.mono key fun e' w' ⟨h1, h2⟩ => ⟨h1, Kp.of_below h2⟩

/-- What stands of a run. -/
def ofp (h f e : ByteArray) (n : Int) : ByteArray := if rgt f = true ∧ rgt e = true ∧ 1 ≤ n ∧ n ≤ 24 then jn h f e (tw n) else es
theorem rgt_s8 {p : ByteArray} (h : rgt p = true) : p.size ≤ 8 := by
  unfold rgt at h
  rw [Bool.and_eq_true] at h
  exact (of_decide_eq_true h.1).2
set_option maxRecDepth 100000 in
theorem of35_c (h f e : ByteArray) (n : Int) (hh : h.size ≤ 100) (hf : f.size ≤ 9223372036854775807) (he : e.size ≤ 9223372036854775807) (w : World) :
    Calls Tryd.prog 35 #[.string h, .string f, .string e, .int .i64 n] w fun e' w' => e' = .returned (.string (ofp h f e n)) ∧ Kp0 w w' := by
  have c1 := fun W => right11_c f hf W
  have c2 := fun W => right11_c e he W
  have c3 := fun W => two34_c n W
  have ho : ofp h f e n = if rgt f = true ∧ rgt e = true ∧ 1 ≤ n ∧ n ≤ 24 then jn h f e (tw n) else es := rfl
  by_cases r1 : rgt f = true
  rotate_left
  · rw [if_neg (fun x => r1 x.1)] at ho
    have r1' : rgt f = false := by simpa using r1
    rw [r1'] at c1
    rw [ho]
    clear ho r1 r1'
    go_enter Tryd.func35, Tryd.ntmps35
    go_wp2_with fail
    refine (c1 w).mono ?_
    rintro e' w1 ⟨rfl, k1⟩
    go_wp2
    go_ret
    exact ⟨rfl, k1⟩
  by_cases r2 : rgt e = true
  rotate_left
  · rw [if_neg (fun x => r2 x.2.1)] at ho
    have r2' : rgt e = false := by simpa using r2
    rw [r1] at c1
    rw [r2'] at c2
    rw [ho]
    clear ho r1 r2 r2'
    go_enter Tryd.func35, Tryd.ntmps35
    go_wp2_with fail
    refine (c1 w).mono ?_
    rintro e' w1 ⟨rfl, k1⟩
    go_wp2_with fail
    refine (c2 w1).mono ?_
    rintro e' w2 ⟨rfl, k2⟩
    go_wp2
    go_ret
    exact ⟨rfl, k1.then0 k2⟩
  by_cases r3 : 1 ≤ n ∧ n ≤ 24
  rotate_left
  · rw [if_neg (fun x => r3 x.2.2)] at ho
    rw [r1] at c1
    rw [r2] at c2
    rw [tw_no (by omega)] at c3
    rw [ho]
    clear ho r1 r2 r3
    go_enter Tryd.func35, Tryd.ntmps35
    go_wp2_with fail
    refine (c1 w).mono ?_
    rintro e' w1 ⟨rfl, k1⟩
    go_wp2_with fail
    refine (c2 w1).mono ?_
    rintro e' w2 ⟨rfl, k2⟩
    go_wp2_with fail
    refine (c3 w2).mono ?_
    rintro e' w3 ⟨rfl, rfl⟩
    go_wp2
    go_ret
    exact ⟨rfl, k1.then0 k2⟩
  · rw [if_pos ⟨r1, r2, r3⟩] at ho
    rw [ho]
    have z1 := rgt_s8 r1
    have z2 := rgt_s8 r2
    rw [r1] at c1
    rw [r2] at c2
    obtain ⟨t1, t2, t3⟩ := tl_ne (tw_ne r3)
    have hz := tw_sz n
    clear ho r1 r2 r3
    generalize tw n = t at c3 t1 t2 t3 hz ⊢
    go_enter Tryd.func35, Tryd.ntmps35
    go_wp2_with fail
    refine (c1 w).mono ?_
    rintro e' w1 ⟨rfl, k1⟩
    go_wp2_with fail
    refine (c2 w1).mono ?_
    rintro e' w2 ⟨rfl, k2⟩
    go_wp2_with fail
    refine (c3 w2).mono ?_
    rintro e' w3 ⟨rfl, rfl⟩
    go_wp2_with fail
    refine (c3 w2).mono ?_
    rintro e' w3 ⟨rfl, rfl⟩
    have ka : Kp0 w2 (w2.alloc (.cells #[.string h, .string f, .string e, .string t] 9)) := (Kp.refl _ _).alloc _
    have hj := join48_c h f e t (by omega) w2.heap.size _ (show Blk (w2.alloc (.cells #[.string h, .string f, .string e, .string t] 9)) w2.heap.size #[.string h, .string f, .string e, .string t] 9 from blk_new _ _ rfl)
    clear t1 t2 t3
    go_wp2_with fail
    refine hj.mono ?_
    rintro e' w4 ⟨rfl, k4⟩
    go_wp2
    go_ret
    exact ⟨rfl, ((k1.then0 k2).then0 ka).then0 k4⟩

set_option maxRecDepth 100000 in
theorem gone21_c (f e : ByteArray) (n : Int) (hf : f.size ≤ 9223372036854775807) (he : e.size ≤ 9223372036854775807) (w : World) :
    Calls Tryd.prog 21 #[.string f, .string e, .int .i64 n] w fun e' w' => e' = .returned (.string (ofp { data := #[103, 111, 110, 101] } f e n)) ∧ Kp0 w w' := by
  have hc := of35_c { data := #[103, 111, 110, 101] } f e n (by decide) hf he w
  generalize ofp { data := #[103, 111, 110, 101] } f e n = r at hc ⊢
  go_enter Tryd.func21, Tryd.ntmps21
  go_wp2_with fail
  refine hc.mono ?_
  rintro e' w1 ⟨rfl, k1⟩
  go_wp2
  go_ret
  exact ⟨rfl, k1⟩
set_option maxRecDepth 100000 in
theorem box22_c (f e : ByteArray) (n : Int) (hf : f.size ≤ 9223372036854775807) (he : e.size ≤ 9223372036854775807) (w : World) :
    Calls Tryd.prog 22 #[.string f, .string e, .int .i64 n] w fun e' w' => e' = .returned (.string (ofp { data := #[98, 111, 120] } f e n)) ∧ Kp0 w w' := by
  have hc := of35_c { data := #[98, 111, 120] } f e n (by decide) hf he w
  generalize ofp { data := #[98, 111, 120] } f e n = r at hc ⊢
  go_enter Tryd.func22, Tryd.ntmps22
  go_wp2_with fail
  refine hc.mono ?_
  rintro e' w1 ⟨rfl, k1⟩
  go_wp2
  go_ret
  exact ⟨rfl, k1⟩

abbrev tl : ByteArray := { data := #[126] }
set_option maxRecDepth 100000 in
theorem temp23_c (p : ByteArray) (hp : p.size ≤ 9223372036854775800) (w : World) : Calls Tryd.prog 23 #[.string p] w fun e w' => e = .returned (.string (p ++ tl)) ∧ w = w' := by
  have h1 : p.size + tl.size ≤ 9223372036854775807 := by have : tl.size = 1 := rfl; omega
  go_enter Tryd.func23, Tryd.ntmps23
  go_wp2
  go_ret
  exact ⟨rfl, rfl⟩
def isT (p : ByteArray) : Bool := Lib.hasSuffix p.data.toList [126]
set_option maxRecDepth 100000 in
theorem istemp24_c (p : ByteArray) (hp : p.size ≤ 9223372036854775807) (w : World) : Calls Tryd.prog 24 #[.string p] w fun e w' => e = .returned (.bool (isT p)) ∧ w = w' := by
  have h : Calls Tryd.prog 36 #[.string p, .string tl] w fun e w' => e = .returned (.bool (isT p)) ∧ w' = w := Any.strings_HasSuffix Tryd.suf36 p tl w hp
  go_enter Tryd.func24, Tryd.ntmps24
  go_wp2_with fail
  refine h.mono ?_
  rintro e w' ⟨rfl, rfl⟩
  go_wp2
  go_ret
  exact ⟨rfl, rfl⟩
abbrev epo : ByteArray := { data := #[101, 112, 111, 99, 104] }
set_option maxRecDepth 100000 in
theorem epoch30_c (w : World) : Calls Tryd.prog 30 #[] w fun e w' => e = .returned (.string epo) ∧ w = w' := by
  go_enter Tryd.func30, Tryd.ntmps30
  go_wp2
  go_ret
  exact ⟨rfl, rfl⟩
set_option maxRecDepth 100000 in
theorem wakes25_c (w : World) : Calls Tryd.prog 25 #[] w fun e w' => e = .returned (.bool true) ∧ w = w' := by
  have ha : adm 3 = { data := #[97, 100, 109, 105, 116, 47, 48, 51] } := tol_inj (by decide)
  have c1 := fun W => admit19_c 3 W
  rw [ha] at c1
  go_enter Tryd.func25, Tryd.ntmps25
  go_wp2_with fail
  refine (c1 w).mono ?_
  rintro e w' ⟨rfl, rfl⟩
  go_wp2_with fail
  refine (epoch30_c _).mono ?_
  rintro e w' ⟨rfl, rfl⟩
  go_wp2
  go_ret
  exact ⟨rfl, rfl⟩
end Go.Proofs.YtecgaggkpbikbaaDoor
