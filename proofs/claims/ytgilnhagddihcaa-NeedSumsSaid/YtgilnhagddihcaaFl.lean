/- Whole numbers as floats: what double precision gives of them, exactly. -/
import Derived.Laws.FloatArith
import Derived.Laws.Cover2
set_option linter.unusedVariables false
set_option linter.unusedSimpArgs false
namespace Go.Proofs.Ytgilnhagddihcaa
open Ieee

theorem sgn_shift (s : Bool) (m a k : Nat) : Ieee.signed s m (a + k) = Ieee.signed s m a * ((2 ^ k : Nat) : Int) := by
  unfold Ieee.signed
  rw [Nat.shiftLeft_eq, Nat.shiftLeft_eq, Nat.pow_add, ← Nat.mul_assoc]
  cases s <;> simp [Int.natCast_mul, Int.neg_mul]

theorem binade_d : double.binade = 4503599627370496 := by rfl
theorem inf_d : double.infRung = 9218868437227405312 := by rfl
theorem sign_d : double.signWeight = 9223372036854775808 := by rfl
theorem least_d : double.leastPlace = -1074 := by rfl

theorem cut_none (way : Toward) (hw : way = .even) (s : Bool) (n : Nat) : way.cut s n 0 = n := by
  subst hw
  simp [Toward.cut, Nat.mod_one]

theorem read_word (s : Bool) (r : Nat) (h1 : 4503599627370496 ≤ r) (h2 : r < 9218868437227405312) : double.read (double.word s r) = .number s (4503599627370496 + r % 4503599627370496) (-1074 + (r / 4503599627370496 - 1 : Nat)) := by
  have e1 : (double.word s r / double.signWeight % 2 == 1) = s := by
    unfold Format.word
    rw [sign_d]
    cases s
    · simp; omega
    · simp; omega
  have e2 : double.word s r % double.signWeight = r := by
    unfold Format.word
    rw [sign_d]
    cases s
    · simp; omega
    · simp; omega
  unfold Format.read
  simp only [e1, e2, binade_d, inf_d, least_d]
  rw [if_neg (by omega), if_pos h2]

/-- What is written of a number of at most 53 digits is read as that number. -/
theorem read_near (s : Bool) (m : Nat) (e : Int) (h0 : 0 < m) (hm : m < 2 ^ 53) (he : -1000 ≤ e) (he2 : e ≤ 900) :
    ∃ k : Nat, double.read (double.nearest s m e) = .number s (m * 2 ^ k) (e - k) := by
  have hl : m.log2 ≤ 52 := by
    have : m.log2 < 53 := (Nat.log2_lt (by omega)).2 hm
    omega
  obtain ⟨k, hk⟩ : ∃ k, k + m.log2 = 52 := ⟨52 - m.log2, by omega⟩
  have g1 : 2 ^ 52 ≤ m * 2 ^ k := by
    have := Nat.log2_self_le (n := m) (by omega)
    calc 2 ^ 52 = 2 ^ m.log2 * 2 ^ k := by rw [← Nat.pow_add, Nat.add_comm, hk]
      _ ≤ m * 2 ^ k := Nat.mul_le_mul_right _ this
  have g2 : m * 2 ^ k < 2 ^ 53 := by
    have : m < 2 ^ (m.log2 + 1) := Nat.lt_log2_self
    calc m * 2 ^ k < 2 ^ (m.log2 + 1) * 2 ^ k := Nat.mul_lt_mul_of_pos_right this (Nat.two_pow_pos _)
      _ = 2 ^ 53 := by rw [← Nat.pow_add]; congr 1; omega
  have last : max (e + (m.log2 : Int) - (double.fractionBits : Nat)) double.leastPlace = e - k := by
    rw [least_d]
    show max (e + (m.log2 : Int) - 52) (-1074) = e - k
    omega
  refine ⟨k, ?_⟩
  unfold Format.nearest
  rw [if_neg (by omega)]
  simp only [last]
  have d1 : (e - (e - (k : Int))).toNat = k := by omega
  have d2 : (e - (k : Int) - e).toNat = 0 := by omega
  rw [d1, d2, cut_none _ rfl, Nat.shiftLeft_eq, least_d, binade_d, inf_d]
  obtain ⟨F, hF⟩ : ∃ F, m * 2 ^ k = F := ⟨_, rfl⟩
  rw [hF] at g1 g2 ⊢
  obtain ⟨L, hL⟩ : ∃ L : Nat, e - (k : Int) + 1074 = L := ⟨(e - k + 1074).toNat, by omega⟩
  have hL2 : L ≤ 1974 := by omega
  have eL : (e - (k : Int) - -1074).toNat = L := by omega
  rw [eL]
  have g1' : 4503599627370496 ≤ F := g1
  have g2' : F < 9007199254740992 := g2
  rw [Nat.min_eq_left (by omega), read_word s _ (by omega) (by omega)]
  have q1 : (L * 4503599627370496 + F) % 4503599627370496 = F - 4503599627370496 := by omega
  have q2 : (L * 4503599627370496 + F) / 4503599627370496 = L + 1 := by omega
  rw [q1, q2]
  have a1 : 4503599627370496 + (F - 4503599627370496) = F := by omega
  have a2 : (-1074 : Int) + ((L + 1 - 1 : Nat) : Int) = e - k := by omega
  rw [a1, a2]

theorem read_zero (s : Bool) : double.read (double.word s 0) = .number s 0 (-1074) := by cases s <;> decide

/-- A float is a number: v over a power of two. -/
def Num (b : Nat) (v : Int) (q : Nat) : Prop := ∃ s m e, double.read b = .number s m e ∧ q = (-e).toNat ∧ v = Ieee.signed s m e.toNat

theorem Num.order {b c q q' : Nat} {v v' : Int} (h : Num b v q) (h' : Num c v' q') : double.order b c = some (compare (v * ((2 ^ q' : Nat) : Int)) (v' * ((2 ^ q : Nat) : Int))) := by
  obtain ⟨s, m, i, hb, rfl, rfl⟩ := h
  obtain ⟨t, n, j, hc, rfl, rfl⟩ := h'
  unfold Format.order
  rw [hb, hc]
  show some _ = _
  congr 1
  obtain ⟨k, hk⟩ : ∃ k : Nat, (k : Int) = (-i).toNat + (-j).toNat + min i j := ⟨((-i).toNat + (-j).toNat + min i j).toNat, by omega⟩
  have e1 : Ieee.signed s m i.toNat * ((2 ^ (-j).toNat : Nat) : Int) = Ieee.signed s m (i - min i j).toNat * ((2 ^ k : Nat) : Int) := by
    rw [← sgn_shift, ← sgn_shift]
    congr 1
    omega
  have e2 : Ieee.signed t n j.toNat * ((2 ^ (-i).toNat : Nat) : Int) = Ieee.signed t n (j - min i j).toNat * ((2 ^ k : Nat) : Int) := by
    rw [← sgn_shift, ← sgn_shift]
    congr 1
    omega
  rw [e1, e2]
  generalize Ieee.signed s m (i - min i j).toNat = x
  generalize Ieee.signed t n (j - min i j).toNat = y
  have hp : (0 : Int) < ((2 ^ k : Nat) : Int) := by have := Nat.two_pow_pos k; omega
  generalize ((2 ^ k : Nat) : Int) = P at hp
  rcases Int.lt_trichotomy x y with h | h | h
  · have h2 : x * P < y * P := Int.mul_lt_mul_of_pos_right h hp
    rw [Int.compare_eq_lt.2 h, Int.compare_eq_lt.2 h2]
  · subst h
    simp
  · have h2 : y * P < x * P := Int.mul_lt_mul_of_pos_right h hp
    rw [Int.compare_eq_gt.2 h, Int.compare_eq_gt.2 h2]

/-- A float is the whole number n. -/
def Whole (b : Nat) (n : Int) : Prop := ∃ q, Num b (n * ((2 ^ q : Nat) : Int)) q

theorem Whole.order {b c : Nat} {n m : Int} (h : Whole b n) (h' : Whole c m) : double.order b c = some (compare n m) := by
  obtain ⟨q, h⟩ := h
  obtain ⟨q', h'⟩ := h'
  rw [h.order h']
  congr 1
  have hp : (0 : Int) < ((2 ^ q : Nat) : Int) * ((2 ^ q' : Nat) : Int) := Int.mul_pos (by have := Nat.two_pow_pos q; omega) (by have := Nat.two_pow_pos q'; omega)
  have e1 : n * ((2 ^ q : Nat) : Int) * ((2 ^ q' : Nat) : Int) = n * (((2 ^ q : Nat) : Int) * ((2 ^ q' : Nat) : Int)) := Int.mul_assoc ..
  have e2 : m * ((2 ^ q' : Nat) : Int) * ((2 ^ q : Nat) : Int) = m * (((2 ^ q : Nat) : Int) * ((2 ^ q' : Nat) : Int)) := by rw [Int.mul_assoc, Int.mul_comm ((2 ^ q' : Nat) : Int)]
  rw [e1, e2]
  generalize ((2 ^ q : Nat) : Int) * ((2 ^ q' : Nat) : Int) = P at hp
  rcases Int.lt_trichotomy n m with h | h | h
  · rw [Int.compare_eq_lt.2 h, Int.compare_eq_lt.2 (Int.mul_lt_mul_of_pos_right h hp)]
  · subst h
    simp
  · rw [Int.compare_eq_gt.2 h, Int.compare_eq_gt.2 (Int.mul_lt_mul_of_pos_right h hp)]

/-- What is written of n scaled is whole. -/
theorem near_num (s : Bool) (m : Nat) (e : Int) (hm : m < 2 ^ 53) (he : -1000 ≤ e) (he2 : e ≤ 0) : ∃ k : Nat, Num (double.nearest s m e) (Ieee.signed s m 0 * ((2 ^ k : Nat) : Int)) ((-e).toNat + k) := by
  by_cases h0 : m = 0
  · subst h0
    refine ⟨(1074 + e).toNat, s, 0, -1074, ?_, by omega, ?_⟩
    · rw [Format.nearest, if_pos rfl, read_zero]
    · cases s <;> simp [Ieee.signed]
  · obtain ⟨k, hk⟩ := read_near s m e (by omega) hm he (by omega)
    refine ⟨k, s, _, _, hk, by omega, ?_⟩
    have : (e - (k : Int)).toNat = 0 := by omega
    rw [this]
    have h2 := sgn_shift s m 0 k
    rw [← h2]
    unfold Ieee.signed
    simp [Nat.shiftLeft_eq]

theorem whole_fl (n : Int) (h0 : 0 ≤ n) (h1 : n < 9007199254740992) : Whole (floatOfInt .f64 n) n := by
  obtain ⟨m, rfl⟩ := Int.eq_ofNat_of_zero_le h0
  obtain ⟨k, hk⟩ := near_num false m 0 (by omega) (by decide) (by decide)
  refine ⟨k, ?_⟩
  have e : floatOfInt .f64 (m : Int) = double.nearest false m 0 := by
    show double.nearest (decide ((m : Int) < 0)) (m : Int).natAbs 0 = _
    rw [decide_eq_false (by omega)]
    rfl
  rw [e]
  have : Ieee.signed false m 0 = (m : Int) := by simp [Ieee.signed]
  rw [this] at hk
  simpa using hk


/-- Cut towards nought. -/
theorem Num.toInt {b q : Nat} {v : Int} (h : Num b v q) (h0 : 0 ≤ v) : (FloatKind.f64.decode b).toInt .zero = some (v / ((2 ^ q : Nat) : Int)) := by
  obtain ⟨s, m, e, hb, rfl, rfl⟩ := h
  show (double.read b).toInt .zero = _
  rw [hb]
  unfold Datum.toInt Datum.integral
  simp only [Option.some.injEq]
  have hc : ∀ n d : Nat, Toward.zero.cut s n d = n / 2 ^ d := by
    intro n d
    simp only [Toward.cut, Bool.toNat_false, Nat.add_zero, Nat.one_shiftLeft]
    by_cases hd : d ≤ n.log2 + 2
    · rw [Nat.min_eq_left hd]
    · rw [Nat.min_eq_right (by omega)]
      have h1 : n < 2 ^ (n.log2 + 2) := Nat.lt_of_lt_of_le Nat.lt_log2_self (Nat.pow_le_pow_right (by decide) (by omega))
      have h2 : n < 2 ^ d := Nat.lt_of_lt_of_le h1 (Nat.pow_le_pow_right (by decide) (by omega))
      rw [Nat.div_eq_of_lt h1, Nat.div_eq_of_lt h2]
  rw [hc]
  unfold Ieee.signed at h0 ⊢
  cases s with
  | false => simp [Nat.shiftLeft_eq]
  | true =>
    generalize m <<< e.toNat = X at h0 ⊢
    simp only [if_true] at h0 ⊢
    have hz : X = 0 := by omega
    subst hz
    simp

theorem log2_mul (m j : Nat) (h0 : 0 < m) : (m * 2 ^ j).log2 = m.log2 + j := by
  have hp := Nat.two_pow_pos j
  have hne : m * 2 ^ j ≠ 0 := Nat.mul_ne_zero (by omega) (by omega)
  rw [Nat.log2_eq_iff hne]
  constructor
  · rw [Nat.pow_add]
    exact Nat.mul_le_mul_right _ (Nat.log2_self_le (by omega))
  · have : m < 2 ^ (m.log2 + 1) := Nat.lt_log2_self
    calc m * 2 ^ j < 2 ^ (m.log2 + 1) * 2 ^ j := Nat.mul_lt_mul_of_pos_right this hp
      _ = 2 ^ (m.log2 + j + 1) := by rw [← Nat.pow_add]; congr 1; omega

theorem cut_exact (s : Bool) (m j d : Nat) (h0 : 0 < m) (hd : d ≤ j) : Toward.even.cut s (m * 2 ^ j) d = m * 2 ^ (j - d) := by
  have hl := log2_mul m j h0
  have hmin : min d ((m * 2 ^ j).log2 + 2) = d := by omega
  simp only [Toward.cut, hmin, Nat.one_shiftLeft]
  have e : m * 2 ^ j = m * 2 ^ (j - d) * 2 ^ d := by rw [Nat.mul_assoc, ← Nat.pow_add]; congr 2; omega
  have hp := Nat.two_pow_pos d
  rw [e, Nat.mul_div_cancel _ hp, Nat.mul_mod_left]
  have h1 : decide (2 ^ d < 2 * 0) = false := decide_eq_false (by omega)
  have h2 : (2 ^ d == 2 * 0) = false := by rw [beq_eq_false_iff_ne]; omega
  rw [h1, h2]
  simp

/-- What is written does not hang on the scale in which it is told. -/
theorem near_scale (s : Bool) (m j : Nat) (e : Int) (h0 : 0 < m) (hm : m < 2 ^ 53) (he : -1000 ≤ e + j) : double.nearest s (m * 2 ^ j) e = double.nearest s m (e + j) := by
  have hl : m.log2 ≤ 52 := by
    have : m.log2 < 53 := (Nat.log2_lt (by omega)).2 hm
    omega
  have hp := Nat.two_pow_pos j
  have hne : m * 2 ^ j ≠ 0 := Nat.mul_ne_zero (by omega) (by omega)
  unfold Format.nearest
  rw [if_neg hne, if_neg (by omega), log2_mul m j h0]
  have l1 : max (e + ((m.log2 + j : Nat) : Int) - (double.fractionBits : Nat)) double.leastPlace = e + j + m.log2 - 52 := by
    rw [least_d]
    show max (e + ((m.log2 + j : Nat) : Int) - 52) (-1074) = _
    omega
  have l2 : max (e + (j : Int) + (m.log2 : Int) - (double.fractionBits : Nat)) double.leastPlace = e + j + m.log2 - 52 := by
    rw [least_d]
    show max (e + (j : Int) + (m.log2 : Int) - 52) (-1074) = _
    omega
  simp only [l1, l2]
  congr 2
  congr 1
  have d1 : (e + (j : Int) + (m.log2 : Int) - 52 - (e + j)).toNat = 0 := by omega
  rw [d1, cut_none _ rfl, Nat.shiftLeft_eq]
  by_cases hc : e + (j : Int) + (m.log2 : Int) - 52 ≤ e
  · have d2 : (e + (j : Int) + (m.log2 : Int) - 52 - e).toNat = 0 := by omega
    rw [d2, cut_none _ rfl, Nat.shiftLeft_eq, Nat.mul_assoc, ← Nat.pow_add]
    congr 2
    omega
  · have d2 : (e - (e + (j : Int) + (m.log2 : Int) - 52)).toNat = 0 := by omega
    rw [d2, Nat.shiftLeft_eq, Nat.pow_zero, Nat.mul_one, cut_exact s m j _ h0 (by omega)]
    congr 2
    omega

/-- A float is the number n, told in some scale. -/
def WN (b n : Nat) : Prop := ∃ k : Nat, double.read b = .number false (n * 2 ^ k) (-(k : Int))

theorem WN.whole {b n : Nat} (h : WN b n) : Whole b n := by
  obtain ⟨k, h⟩ := h
  refine ⟨k, false, _, _, h, by omega, ?_⟩
  have : (-(k : Int)).toNat = 0 := by omega
  rw [this]
  unfold Ieee.signed
  simp [Nat.shiftLeft_eq]

theorem wn_word0 : WN (double.word false 0) 0 := by
  obtain ⟨k, hk⟩ : ∃ k : Nat, k = 1074 := ⟨_, rfl⟩
  refine ⟨k, ?_⟩
  rw [Nat.zero_mul, read_zero, hk]
  rfl

theorem wn_near (n : Nat) (h : n < 2 ^ 53) : WN (double.nearest false n 0) n := by
  by_cases h0 : n = 0
  · subst h0
    rw [Format.nearest, if_pos rfl]
    exact wn_word0
  · obtain ⟨k, hk⟩ := read_near false n 0 (by omega) h (by decide) (by decide)
    exact ⟨k, by rw [hk]; congr 1; omega⟩

theorem fl_near (n : Nat) : floatOfInt .f64 (n : Int) = double.nearest false n 0 := by
  show double.nearest (decide ((n : Int) < 0)) (n : Int).natAbs 0 = _
  rw [decide_eq_false (by omega)]
  rfl

theorem wn_fl (n : Nat) (h : n < 9007199254740992) : WN (floatOfInt .f64 (n : Int)) n := by
  rw [fl_near]
  exact wn_near n h

theorem wn_zero : WN 0 0 := wn_word0
theorem whole_zero : Whole 0 0 := wn_zero.whole

/-- The sum of what is at n units and at m units of one scale: the number that is written. -/
theorem add_scaled {b c n m k l : Nat} (hb : double.read b = .number false n (-(k : Int))) (hc : double.read c = .number false m (-(l : Int))) :
    double.add b c = some (double.nearest false (n * 2 ^ (max k l - k) + m * 2 ^ (max k l - l)) (-((max k l : Nat) : Int))) := by
  unfold Format.add
  rw [hb, hc]
  have hm : min (-(k : Int)) (-(l : Int)) = -((max k l : Nat) : Int) := by omega
  simp only [Datum.sum, hm, Option.map_some, Option.some.injEq]
  have d1 : (-(k : Int) - -((max k l : Nat) : Int)).toNat = max k l - k := by omega
  have d2 : (-(l : Int) - -((max k l : Nat) : Int)).toNat = max k l - l := by omega
  rw [d1, d2]
  have e1 : Ieee.signed false n (max k l - k) + Ieee.signed false m (max k l - l) = ((n * 2 ^ (max k l - k) + m * 2 ^ (max k l - l) : Nat) : Int) := by
    unfold Ieee.signed
    simp only [Bool.false_eq_true, if_false, Nat.shiftLeft_eq]
    omega
  rw [e1]
  generalize n * 2 ^ (max k l - k) + m * 2 ^ (max k l - l) = T
  have e2 : (if (T : Int) = 0 then (false && false) else decide ((T : Int) < 0)) = false := by
    split
    · rfl
    · exact decide_eq_false (by omega)
  rw [e2, Int.natAbs_natCast]
  rfl

/-- Sums of whole numbers are exact. -/
theorem add_wn {b c n m : Nat} (hb : WN b n) (hc : WN c m) (h : n + m < 2 ^ 53) : ∃ r, double.add b c = some r ∧ WN r (n + m) := by
  obtain ⟨k, hb⟩ := hb
  obtain ⟨l, hc⟩ := hc
  refine ⟨_, add_scaled hb hc, ?_⟩
  have e : n * 2 ^ k * 2 ^ (max k l - k) + m * 2 ^ l * 2 ^ (max k l - l) = (n + m) * 2 ^ max k l := by
    rw [Nat.mul_assoc, Nat.mul_assoc, ← Nat.pow_add, ← Nat.pow_add, Nat.add_mul]
    congr 3 <;> omega
  rw [e]
  by_cases h0 : n + m = 0
  · rw [h0, Nat.zero_mul, Format.nearest, if_pos rfl]
    exact wn_word0
  · rw [near_scale false (n + m) _ _ (by omega) h (by omega)]
    have : -((max k l : Nat) : Int) + ((max k l : Nat) : Int) = 0 := by omega
    rw [this]
    exact wn_near _ h

/-- Such a number and a part of one: no whole number comes of it. -/
theorem add_part {b c n a j p : Nat} (hb : WN b n) (hj : 0 < j) (hp : j ≤ p) (hp2 : p ≤ 900) (ha : 0 < a) (hc : double.read c = .number false (a * 2 ^ (p - j)) (-(p : Int))) (h : n * 2 ^ j + a < 2 ^ 53) :
    ∃ r k, double.add b c = some r ∧ Num r (((n * 2 ^ j + a : Nat) : Int) * ((2 ^ k : Nat) : Int)) (j + k) := by
  obtain ⟨k, hb⟩ := hb
  have hadd := add_scaled hb hc
  have e : n * 2 ^ k * 2 ^ (max k p - k) + a * 2 ^ (p - j) * 2 ^ (max k p - p) = (n * 2 ^ j + a) * 2 ^ (max k p - j) := by
    rw [Nat.mul_assoc, Nat.mul_assoc, ← Nat.pow_add, ← Nat.pow_add, Nat.add_mul, Nat.mul_assoc n, ← Nat.pow_add]
    congr 3 <;> omega
  rw [e, near_scale false (n * 2 ^ j + a) _ _ (by omega) h (by omega)] at hadd
  have e2 : -((max k p : Nat) : Int) + ((max k p - j : Nat) : Int) = -(j : Int) := by omega
  rw [e2] at hadd
  obtain ⟨k', hk'⟩ := near_num false (n * 2 ^ j + a) (-(j : Int)) h (by omega) (by omega)
  have e3 : Ieee.signed false (n * 2 ^ j + a) 0 = ((n * 2 ^ j + a : Nat) : Int) := by simp [Ieee.signed]
  rw [e3] at hk'
  refine ⟨_, k', hadd, ?_⟩
  have e4 : (- -(j : Int)).toNat + k' = j + k' := by omega
  rwa [e4] at hk'

/-- What lies between two whole numbers is none. -/
theorem not_whole {b a n j k : Nat} (hj : 0 < j) (ha : 0 < a) (ha2 : a < 2 ^ j) (h : Num b (((n * 2 ^ j + a : Nat) : Int) * ((2 ^ k : Nat) : Int)) (j + k)) (m : Int) (hm : Whole b m) : False := by
  obtain ⟨q, s, x, e, hr, hq, hv⟩ := hm
  obtain ⟨s', x', e', hr', hq', hv'⟩ := h
  rw [hr] at hr'
  injection hr' with h1 h2 h3
  subst h1 h2 h3
  rw [← hv'] at hv
  have : q = j + k := by omega
  subst this
  have hk : (0 : Int) < ((2 ^ k : Nat) : Int) := by have := Nat.two_pow_pos k; omega
  have e1 : m * ((2 ^ (j + k) : Nat) : Int) = m * ((2 ^ j : Nat) : Int) * ((2 ^ k : Nat) : Int) := by rw [Nat.pow_add, Int.natCast_mul, Int.mul_assoc]
  rw [e1] at hv
  have e2 := Int.eq_of_mul_eq_mul_right (by omega) hv
  have e3 : (((n * 2 ^ j + a : Nat) : Int)) = (n : Int) * ((2 ^ j : Nat) : Int) + a := by rw [Int.natCast_add, Int.natCast_mul]
  rw [e3] at e2
  have hd : ((2 ^ j : Nat) : Int) ∣ (a : Int) := ⟨m - n, by rw [Int.mul_sub, Int.mul_comm _ m, Int.mul_comm _ (n : Int)]; omega⟩
  have hd' : 2 ^ j ∣ a := Int.natCast_dvd_natCast.1 hd
  exact absurd (Nat.le_of_dvd ha hd') (by omega)
end Go.Proofs.Ytgilnhagddihcaa
