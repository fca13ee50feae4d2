/- Package path: two, Admit, Log, of. -/
import Derived.Test.YtecgaggkpbikbaaDoorN5
set_option linter.unusedVariables false
set_option linter.unusedSimpArgs false
namespace Go.Proofs.YtecgaggkpbikbaaDoor
open Go.RowKit

/-- A number of two digits, or none. -/
def twN (m : Nat) : ByteArray := ⟨#[UInt8.ofNat (48 + m / 10), UInt8.ofNat (48 + m % 10)]⟩
def tw (n : Int) : ByteArray := if n < 1 ∨ 24 < n then es else twN n.toNat
theorem tol_twN (m : Nat) : tol (twN m) = [UInt8.ofNat (48 + m / 10), UInt8.ofNat (48 + m % 10)] := rfl
theorem twN_ne (m : Nat) : twN m ≠ es := fun e => by
  have h : (tol (twN m)).length = 0 := by rw [e]; rfl
  rw [tol_twN] at h
  simp at h
theorem dec_one (m : Nat) (h : m < 10) : Lib.decDigits m = [UInt8.ofNat (48 + m)] := by
  rw [Lib.decDigits, dif_pos h]
theorem dec_two (m : Nat) (h1 : 10 ≤ m) (h2 : m < 100) : Lib.decDigits m = [UInt8.ofNat (48 + m / 10), UInt8.ofNat (48 + m % 10)] := by
  rw [Lib.decDigits, dif_neg (by omega), dec_one (m / 10) (by omega)]
  rfl

set_option maxRecDepth 100000 in
theorem two34_c (n : Int) (w : World) : Calls Tryd.prog 34 #[.int .i64 n] w fun e w' => e = .returned (.string (tw n)) ∧ w = w' := by
  by_cases h1 : n < 1
  · have ht : tw n = es := if_pos (.inl h1)
    rw [ht]
    clear ht
    go_enter Tryd.func34, Tryd.ntmps34
    go_wp2
    go_ret
    exact ⟨rfl, rfl⟩
  · by_cases h2 : 24 < n
    · have ht : tw n = es := if_pos (.inr h2)
      rw [ht]
      clear ht
      go_enter Tryd.func34, Tryd.ntmps34
      go_wp2
      go_ret
      exact ⟨rfl, rfl⟩
    · obtain ⟨m, rfl⟩ : ∃ m : Nat, n = m := ⟨n.toNat, by omega⟩
      have ht : tw (m : Int) = twN m := by unfold tw; rw [if_neg (by omega), Int.toNat_natCast]
      rw [ht]
      have hi : Calls Tryd.prog 46 #[.int .i64 (m : Int)] w fun e w' => e = .returned (.string ⟨(Lib.decDigits m).toArray⟩) ∧ w' = w := Any.strconv_Itoa_small Tryd.itoa46 m (by omega) w
      by_cases h10 : m < 10
      · rw [dec_one m h10] at hi
        have hr : ∀ W, Calls Tryd.prog 47 #[.string { data := #[48] }, .int .i64 1] W fun e w' => e = .returned (.string { data := #[48] }) ∧ w' = W := fun W => Any.strings_Repeat_one Tryd.rep47 _ W
        have hz : (⟨[UInt8.ofNat (48 + m)].toArray⟩ : ByteArray).size = 1 := rfl
        have he : ({ data := #[48] } : ByteArray) ++ ⟨[UInt8.ofNat (48 + m)].toArray⟩ = twN m := tol_inj (by
          rw [tol_app, tol_twN]
          show [48] ++ [UInt8.ofNat (48 + m)] = _
          rw [show m / 10 = 0 by omega, show m % 10 = m by omega]; rfl)
        generalize (⟨[UInt8.ofNat (48 + m)].toArray⟩ : ByteArray) = d at hi hz he
        have hz1 : d.size = 1 := hz
        have hzz : ({ data := #[48] } : ByteArray).size + d.size ≤ 9223372036854775807 := by rw [hz]; decide
        have HE := Lib.hid he
        clear ht he h10
        go_enter Tryd.func34, Tryd.ntmps34
        go_wp2_with fail
        refine hi.mono ?_
        rintro e w' ⟨rfl, rfl⟩
        go_wp2_with fail
        refine (hr _).mono ?_
        rintro e w' ⟨rfl, rfl⟩
        go_wp2
        go_ret
        exact ⟨by rw [← HE.out]; rfl, rfl⟩
      · rw [dec_two m (by omega) (by omega)] at hi
        have hr : ∀ W, Calls Tryd.prog 47 #[.string { data := #[48] }, .int .i64 0] W fun e w' => e = .returned (.string ⟨#[]⟩) ∧ w' = W := fun W => Any.strings_Repeat_zero Tryd.rep47 _ W
        have hz : (⟨[UInt8.ofNat (48 + m / 10), UInt8.ofNat (48 + m % 10)].toArray⟩ : ByteArray).size = 2 := rfl
        have he : (⟨#[]⟩ : ByteArray) ++ ⟨[UInt8.ofNat (48 + m / 10), UInt8.ofNat (48 + m % 10)].toArray⟩ = twN m := tol_inj (by rw [tol_app, tol_twN]; rfl)
        generalize (⟨[UInt8.ofNat (48 + m / 10), UInt8.ofNat (48 + m % 10)].toArray⟩ : ByteArray) = d at hi hz he
        have hzz : (⟨#[]⟩ : ByteArray).size + d.size ≤ 9223372036854775807 := by rw [hz]; decide
        have HE := Lib.hid he
        clear ht he h10
        go_enter Tryd.func34, Tryd.ntmps34
        go_wp2_with fail
        refine hi.mono ?_
        rintro e w' ⟨rfl, rfl⟩
        go_wp2_with fail
        refine (hr _).mono ?_
        rintro e w' ⟨rfl, rfl⟩
        go_wp2
        go_ret
        exact ⟨by rw [← HE.out]; rfl, rfl⟩

/-- A text that is not empty, as the walk asks it. -/
theorem tw_no {n : Int} (h : n < 1 ∨ 24 < n) : tw n = es := if_pos h
theorem tw_yes {n : Int} (h : 1 ≤ n ∧ n ≤ 24) : tw n = twN n.toNat := if_neg (by omega)
theorem tw_ne {n : Int} (h : 1 ≤ n ∧ n ≤ 24) : tw n ≠ es := by rw [tw_yes h]; exact twN_ne _
theorem tw_sz (n : Int) : (tw n).size ≤ 2 := by
  unfold tw
  split
  · exact Nat.zero_le _
  · exact Nat.le_refl 2

/-- An admission's path. -/
def adm (n : Int) : ByteArray := if n < 1 ∨ 24 < n then es else { data := #[97, 100, 109, 105, 116, 47] } ++ tw n
set_option maxRecDepth 100000 in
theorem admit19_c (n : Int) (w : World) : Calls Tryd.prog 19 #[.int .i64 n] w fun e w' => e = .returned (.string (adm n)) ∧ w = w' := by
  have h2 := fun W => two34_c n W
  by_cases h : n < 1 ∨ 24 < n
  · have ha : adm n = es := if_pos h
    rw [tw_no h] at h2
    rw [ha]
    clear ha h
    go_enter Tryd.func19, Tryd.ntmps19
    go_wp2_with fail
    refine (h2 w).mono ?_
    rintro e w' ⟨rfl, rfl⟩
    go_wp2
    go_ret
    exact ⟨rfl, rfl⟩
  · have ha : adm n = { data := #[97, 100, 109, 105, 116, 47] } ++ tw n := if_neg h
    obtain ⟨t1, t2, t3⟩ := tl_ne (tw_ne (n := n) (by omega))
    have hz := tw_sz n
    rw [ha]
    generalize tw n = t at h2 t1 t2 t3 hz ⊢
    have hzz : ({ data := #[97, 100, 109, 105, 116, 47] } : ByteArray).size + t.size ≤ 9223372036854775807 := by
      have : ({ data := #[97, 100, 109, 105, 116, 47] } : ByteArray).size = 6 := rfl
      omega
    have hz6 : 6 + t.size ≤ 9223372036854775807 := by omega
    clear ha h
    go_enter Tryd.func19, Tryd.ntmps19
    go_wp2_with fail
    refine (h2 w).mono ?_
    rintro e w' ⟨rfl, rfl⟩
    go_wp2_with fail
    refine (h2 w).mono ?_
    rintro e w' ⟨rfl, rfl⟩
    go_wp2
    go_ret
    exact ⟨rfl, rfl⟩

/-- A task's log. -/
def lgp (f t : ByteArray) : ByteArray := if (rgt f && rgt t) = true then { data := #[108, 111, 103, 47] } ++ f ++ { data := #[47] } ++ t else es
set_option maxRecDepth 100000 in
theorem log20_c (f t : ByteArray) (hf : f.size ≤ 1000000) (ht : t.size ≤ 1000000) (w : World) : Calls Tryd.prog 20 #[.agg #[.string f, .string t]] w fun e w' => e = .returned (.string (lgp f t)) ∧ Kp0 w w' := by
  have ka : Kp0 w (w.alloc (.cells #[.string f, .string t] 30)) := (Kp.refl _ _).alloc _
  have B : Blk (w.alloc (.cells #[.string f, .string t] 30)) w.heap.size #[.string f, .string t] 30 := blk_new _ _ rfl
  have hr := key14_c f t (by omega) (by omega) (w.alloc (.cells #[.string f, .string t] 30))
  have hl : lgp f t = if (rgt f && rgt t) = true then { data := #[108, 111, 103, 47] } ++ f ++ { data := #[47] } ++ t else es := rfl
  cases hk : (rgt f && rgt t) with
  | false =>
    rw [hk] at hr hl
    rw [if_neg (by simp)] at hl
    rw [hl]
    clear hl hk
    go_enter Tryd.func20, Tryd.ntmps20
    go_wp2_with fail
    refine hr.mono ?_
    rintro e w1 ⟨rfl, k1⟩
    go_wp2
    go_ret
    exact ⟨rfl, ka.then0 k1⟩
  | true =>
    rw [hk] at hr hl
    rw [if_pos rfl] at hl
    rw [hl]
    have z0 : ({ data := #[108, 111, 103, 47] } : ByteArray).size = 4 := rfl
    have z1 : ({ data := #[47] } : ByteArray).size = 1 := rfl
    have y1 : ({ data := #[108, 111, 103, 47] } : ByteArray).size + f.size ≤ 9223372036854775807 := by omega
    have y1' : 4 + f.size ≤ 9223372036854775807 := by omega
    obtain ⟨a, ha⟩ : ∃ a, { data := #[108, 111, 103, 47] } ++ f = a := ⟨_, rfl⟩
    have za : a.size = 4 + f.size := by rw [← ha, ByteArray.size_append, z0]
    rw [ha]
    have y2 : a.size + ({ data := #[47] } : ByteArray).size ≤ 9223372036854775807 := by omega
    have y2' : a.size + 1 ≤ 9223372036854775807 := by omega
    obtain ⟨b, hb⟩ : ∃ b, a ++ { data := #[47] } = b := ⟨_, rfl⟩
    have zb : b.size = a.size + 1 := by rw [← hb, ByteArray.size_append, z1]
    rw [hb]
    have y3 : b.size + t.size ≤ 9223372036854775807 := by omega
    clear hl hk za zb z0 z1
    go_enter Tryd.func20, Tryd.ntmps20
    go_wp2_with fail
    refine hr.mono ?_
    rintro e w1 ⟨rfl, k1⟩
    have c0 := (B.kp0 k1).cell 0
    have c1 := (B.kp0 k1).cell 1
    simp at c0 c1
    clear hr B
    go_wp2
    go_ret
    exact ⟨rfl, ka.then0 k1⟩
end Go.Proofs.YtecgaggkpbikbaaDoor
