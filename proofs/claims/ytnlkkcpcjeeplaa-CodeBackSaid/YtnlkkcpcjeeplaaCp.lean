/- What is written is read: numbers, texts, rows of both; and what is cut off is bad. -/
import Derived.Test.YtnlkkcpcjeeplaaCe
import Derived.Test.YtnlkkcpcjeeplaaPCodeBackx1
set_option linter.unusedVariables false
set_option linter.unusedSimpArgs false
namespace Go.Proofs.Ytnlkkcpcjeeplaa
open Go.RowKit
open Go.Proofs.Ytnlkkcpcjeeplaa.PCodeBack Go.Proofs.YtnlkkcpcjeeplaaW.PrintWords Go.Proofs.YtnlkkcpcjeeplaaW.PrintLast

theorem hi_bit (n : Int) (h : 0 ≤ n) : Go.bits .or .u8 ((Int.tmod n 128) % 256) 128 = n % 128 + 128 := by
  have e : Int.tmod n 128 = n % 128 := Int.tmod_eq_emod_of_nonneg h
  have e2 : n % 128 % 256 = n % 128 := by omega
  rw [e, e2]
  exact u8_or128_right _ (by omega) (by omega)

theorem pw (j : Nat) : (2 : Int) ^ (7 * (j + 1)) = 2 ^ (7 * j) * 128 := by
  rw [show 7 * (j + 1) = 7 * j + 7 by omega, Int.pow_add]; rfl

theorem dig (k : Nat) : ∀ (K : Nat) (n : Int) (l : List Int), 0 ≤ n → n < 128 ^ (k + 1) → (k = 0 ∨ 128 ^ k ≤ n) → k ≤ 4 → l.length + k ≤ 8 → k < K →
    ∃ t, code_Number.l0 K n l = some (l ++ t) ∧ t.length = k + 1 ∧ (∀ c ∈ t, 0 ≤ c ∧ c ≤ 255) ∧
      ∀ (j : Nat) (acc : Int), j + k ≤ 4 → (j = 0 ∨ 0 < n) → (∀ rest, nb (t ++ rest) j acc = some (acc + n * 2 ^ (7 * j), j + k + 1)) ∧ ∀ m, m < k + 1 → nb (t.take m) j acc = none := by
  induction k with
  | zero =>
    intro K n l h0 hn _ _ hl hk
    obtain ⟨K, rfl⟩ : ∃ m, K = m + 1 := ⟨K - 1, by omega⟩
    simp only [code_Number.l0]
    have h128 : ¬ n ≥ 128 := by simp at hn; omega
    have hlen : l.length < 140737488355328 := by omega
    simp only [h128, hlen, if_true, if_false]
    refine ⟨[n % 256], rfl, rfl, by intro c hc; simp at hc; omega, fun j acc hj hz => ⟨fun rest => ?_, fun m hm => ?_⟩⟩
    · have e : n % 256 = n := by omega
      have e2 : n % 128 = n := by omega
      rw [List.singleton_append, nb, e, if_neg (by omega), if_neg (by omega), if_neg (by omega), e2]
    · have : m = 0 := by omega
      subst this; rfl
  | succ d ih =>
    intro K n l h0 hn hge hd hl hk
    obtain ⟨K, rfl⟩ : ∃ m, K = m + 1 := ⟨K - 1, by omega⟩
    simp only [code_Number.l0]
    have hge' := hge.resolve_left (by omega)
    have hp : (128 : Int) ^ (d + 1) = 128 ^ d * 128 := Int.pow_succ _ _
    have hp1 : (0 : Int) < 128 ^ d := Int.pow_pos (by decide)
    have h : n ≥ 128 := by omega
    have hlen : l.length < 140737488355328 := by omega
    simp only [h, hlen, if_true]
    have e : Int.tdiv n 128 = n / 128 := Int.tdiv_eq_ediv_of_nonneg h0
    have hb : n < 128 * 128 ^ (d + 1) := by rw [Int.pow_succ] at hn; omega
    have h128 : (128 : Int) ^ (d + 1) ≤ 34359738368 := by
      have : d = 0 ∨ d = 1 ∨ d = 2 ∨ d = 3 := by omega
      rcases this with rfl | rfl | rfl | rfl <;> decide
    have ew : wrap64 (Int.tdiv n 128) = n / 128 := by rw [e]; unfold wrap64; omega
    rw [ew, hi_bit n h0]
    obtain ⟨t, h1, h2, h3, h4⟩ := ih K (n / 128) (l ++ [n % 128 + 128]) (by omega) (by omega) (by omega) (by omega) (by simp; omega) (by omega)
    refine ⟨(n % 128 + 128) :: t, by rw [h1, List.append_assoc]; rfl, by simp [h2], ?_, fun j acc hj hz => ?_⟩
    · intro c hc
      rcases List.mem_cons.1 hc with rfl | hc
      · omega
      · exact h3 c hc
    · obtain ⟨g1, g2⟩ := h4 (j + 1) (acc + n % 128 * 2 ^ (7 * j)) (by omega) (.inr (by omega))
      have em : (n % 128 + 128) % 128 = n % 128 := by omega
      refine ⟨fun rest => ?_, fun m hm => ?_⟩
      · rw [List.cons_append, nb, if_neg (by omega), if_pos (by omega), em, g1 rest, pw]
        have hn' : n = 128 * (n / 128) + n % 128 := by omega
        generalize n / 128 = A at *
        generalize n % 128 = B at *
        generalize (2 : Int) ^ (7 * j) = P at *
        have : acc + B * P + A * (P * 128) = acc + n * P := by
          rw [hn', Int.add_mul]
          have : 128 * A * P = A * (P * 128) := by rw [Int.mul_comm 128 A, Int.mul_assoc, Int.mul_comm 128 P]
          omega
        rw [this]
        congr 2
        omega
      · cases m with
        | zero => rfl
        | succ m =>
          rw [List.take_succ_cons, nb, if_neg (by omega), if_pos (by omega), em]
          exact g2 m (by omega)

structure NumF (n : Int) (r : List Int) : Prop where
  h0 : 0 ≤ n
  h1 : n ≤ 34359738367
  call : code_Number.f 10 n = some r
  len : ∃ k, k ≤ 4 ∧ r.length = k + 1 ∧ n < 128 ^ (k + 1) ∧ (k = 0 ∨ 128 ^ k ≤ n)
  byt : ∀ c ∈ r, 0 ≤ c ∧ c ≤ 255
  full : ∀ rest, numR (r ++ rest) false = (n, rest, false)
  cut : ∀ m, m < r.length → numR (r.take m) false = (0, [], true)

theorem numE_k (n : Int) (k : Nat) (h0 : 0 ≤ n) (hn : n < 128 ^ (k + 1)) (hg : k = 0 ∨ 128 ^ k ≤ n) (hk : k ≤ 4) (hm : n ≤ 34359738367) : ∃ r, NumF n r := by
  obtain ⟨r, h1, h2, h3, h4⟩ := dig k 9 n [] h0 hn hg hk (by simp; omega) (by omega)
  obtain ⟨g1, g2⟩ := h4 0 0 (by omega) (.inl rfl)
  refine ⟨r, h0, hm, ?_, ⟨k, hk, h2, hn, hg⟩, h3, fun rest => ?_, fun m hm => ?_⟩
  · rw [code_Number.f, if_neg (by omega), decide_eq_false (by omega)]
    simp only [code_Number.j0]
    exact h1
  · have := g1 rest
    rw [numR, if_neg (by decide), this]
    simp only [Nat.mul_zero, Int.pow_zero, Int.mul_one, Int.zero_add, Nat.zero_add]
    rw [← h2, List.drop_left]
  · rw [numR, if_neg (by decide), g2 m (by omega)]

theorem numE (n : Int) (h0 : 0 ≤ n) (hm : n ≤ 34359738367) : ∃ r, NumF n r := by
  by_cases a1 : n < 128
  · exact numE_k n 0 h0 (by simpa using a1) (.inl rfl) (by decide) hm
  · by_cases a2 : n < 16384
    · exact numE_k n 1 h0 (by rw [show (128 : Int) ^ (1 + 1) = 16384 from rfl]; omega) (.inr (by rw [show (128 : Int) ^ 1 = 128 from rfl]; omega)) (by decide) hm
    · by_cases a3 : n < 2097152
      · exact numE_k n 2 h0 (by rw [show (128 : Int) ^ (2 + 1) = 2097152 from rfl]; omega) (.inr (by rw [show (128 : Int) ^ 2 = 16384 from rfl]; omega)) (by decide) hm
      · by_cases a4 : n < 268435456
        · exact numE_k n 3 h0 (by rw [show (128 : Int) ^ (3 + 1) = 268435456 from rfl]; omega) (.inr (by rw [show (128 : Int) ^ 3 = 2097152 from rfl]; omega)) (by decide) hm
        · exact numE_k n 4 h0 (by rw [show (128 : Int) ^ (4 + 1) = 34359738368 from rfl]; omega) (.inr (by rw [show (128 : Int) ^ 4 = 268435456 from rfl]; omega)) (by decide) hm

theorem mkStr_bytes (s : ByteArray) : mkStr (bytesOf s) = s := by
  have : ∀ (l : List UInt8) (a : ByteArray), ((l.map fun b => (b.toNat : Int)).foldl (fun r n => r.push (UInt8.ofNat n.toNat)) a).data.toList = a.data.toList ++ l := by
    intro l
    induction l with
    | nil => intro a; simp
    | cons x l ih =>
      intro a
      rw [List.map_cons, List.foldl_cons, ih]
      simp [ByteArray.push]
  have h := this s.data.toList ByteArray.empty
  apply ByteArray.ext
  apply Array.toList_inj.1
  rw [mkStr, bytesOf, h]
  rfl

structure TxtF (s : ByteArray) (T : List Int) : Prop where
  call : code_Text.f 10 s = some T
  len : T.length ≤ 5 + s.size
  byt : ∀ c ∈ T, 0 ≤ c ∧ c ≤ 255
  full : ∀ rest, txtR (T ++ rest) false = (s, rest, false)
  cut : ∀ m, m < T.length → txtR (T.take m) false = (ByteArray.empty, [], true)

theorem txtE (s : ByteArray) (h : s.size ≤ 200) : ∃ T, TxtF s T := by
  obtain ⟨r, hr⟩ := numE (s.size : Int) (by omega) (by omega)
  have hl := hr.len
  obtain ⟨k, hk, hrl, _⟩ := hl
  refine ⟨r ++ bytesOf s, ?_, by rw [List.length_append, bytesOf_length]; omega, ?_, fun rest => ?_, fun m hm => ?_⟩
  · rw [code_Text.f, if_neg (by omega), hr.call]
    have : r.length + s.size < 140737488355328 := by omega
    simp [this]
  · intro c hc
    rcases List.mem_append.1 hc with hc | hc
    · exact hr.byt c hc
    · obtain ⟨b, _, rfl⟩ := List.mem_map.1 hc
      have := b.toNat_lt
      omega
  · have := hr.full (bytesOf s ++ rest)
    rw [List.append_assoc, txtR, this]
    simp only [Bool.false_eq_true, if_false, List.length_append, bytesOf_length, Int.toNat_natCast]
    rw [if_neg (by omega), ← bytesOf_length s, List.take_left, List.drop_left, mkStr_bytes]
  · by_cases hm2 : m < r.length
    · rw [List.take_append_of_le_length (by omega), txtR, hr.cut m hm2]
      simp
    · have e : (r ++ bytesOf s).take m = r ++ (bytesOf s).take (m - r.length) := by
        rw [List.take_append, List.take_of_length_le (by omega)]
      rw [List.length_append, bytesOf_length] at hm
      rw [e, txtR, hr.full]
      simp only [Bool.false_eq_true, if_false, List.length_take, bytesOf_length]
      rw [if_pos (.inr (by omega))]

/-- A number and a text, and their bytes. -/
structure Ent where
  n : Int
  s : ByteArray
  R : List Int
  T : List Int
structure Good (e : Ent) : Prop where
  num : NumF e.n e.R
  txt : TxtF e.s e.T
  size : e.s.size ≤ 60

def cat : List Ent → List Int
  | [] => []
  | e :: es => e.R ++ (e.T ++ cat es)
theorem cat_snoc (es : List Ent) (e : Ent) : cat (es ++ [e]) = cat es ++ e.R ++ e.T := by
  induction es with
  | nil => simp [cat]
  | cons x es ih => simp [cat, ih]
theorem cat_byt : ∀ (es : List Ent), (∀ e ∈ es, Good e) → ∀ c ∈ cat es, 0 ≤ c ∧ c ≤ 255
  | [], _, c, hc => by simp [cat] at hc
  | e :: es, h, c, hc => by
    have he := h e (List.mem_cons_self ..)
    simp only [cat, List.mem_append] at hc
    rcases hc with hc | hc | hc
    · exact he.num.byt c hc
    · exact he.txt.byt c hc
    · exact cat_byt es (fun x hx => h x (List.mem_cons_of_mem _ hx)) c hc
theorem cat_len : ∀ (es : List Ent), (∀ e ∈ es, Good e) → (cat es).length ≤ 70 * es.length
  | [], _ => by simp [cat]
  | e :: es, h => by
    have he := h e (List.mem_cons_self ..)
    have := cat_len es (fun x hx => h x (List.mem_cons_of_mem _ hx))
    obtain ⟨k, h1, h2, _⟩ := he.num.len
    have h3 := he.txt.len
    have h4 := he.size
    simp only [cat, List.length_append, List.length_cons]
    omega
theorem cat_pos (es : List Ent) (h : ∀ e ∈ es, Good e) (hn : es ≠ []) : 0 < (cat es).length := by
  cases es with
  | nil => exact absurd rfl hn
  | cons e es =>
    obtain ⟨k, h1, h2, _⟩ := (h e (List.mem_cons_self ..)).num.len
    simp only [cat, List.length_append]
    omega

/-- What is left of a reader over bytes that were cut off. -/
def Cut (es : List Ent) (bs : List Int) (bad : Bool) : Prop := (bad = true ∧ bs = []) ∨ (bad = false ∧ ∃ m, m < (cat es).length ∧ bs = (cat es).take m)
def Mid (e : Ent) (es : List Ent) (bs : List Int) (bad : Bool) : Prop := (bad = true ∧ bs = []) ∨ (bad = false ∧ ∃ m, m < (e.T ++ cat es).length ∧ bs = (e.T ++ cat es).take m)

theorem cut_num (e : Ent) (es : List Ent) (bs : List Int) (bad : Bool) (he : Good e) (h : Cut (e :: es) bs bad) : Mid e es (numR bs bad).2.1 (numR bs bad).2.2 := by
  rcases h with ⟨rfl, rfl⟩ | ⟨rfl, m, hm, rfl⟩
  · exact .inl ⟨rfl, rfl⟩
  · simp only [cat] at hm ⊢
    by_cases h1 : m < e.R.length
    · rw [List.take_append_of_le_length (by omega), he.num.cut m h1]
      exact .inl ⟨rfl, rfl⟩
    · rw [List.take_append, List.take_of_length_le (by omega), he.num.full]
      exact .inr ⟨rfl, m - e.R.length, by simp only [List.length_append] at hm ⊢; omega, rfl⟩
theorem cut_txt (e : Ent) (es : List Ent) (bs : List Int) (bad : Bool) (he : Good e) (h : Mid e es bs bad) : Cut es (txtR bs bad).2.1 (txtR bs bad).2.2 := by
  rcases h with ⟨rfl, rfl⟩ | ⟨rfl, m, hm, rfl⟩
  · exact .inl ⟨rfl, rfl⟩
  · by_cases h1 : m < e.T.length
    · rw [List.take_append_of_le_length (by omega), he.txt.cut m h1]
      exact .inl ⟨rfl, rfl⟩
    · rw [List.take_append, List.take_of_length_le (by omega), he.txt.full]
      exact .inr ⟨rfl, m - e.T.length, by simp only [List.length_append] at hm ⊢; omega, rfl⟩
end Go.Proofs.Ytnlkkcpcjeeplaa
