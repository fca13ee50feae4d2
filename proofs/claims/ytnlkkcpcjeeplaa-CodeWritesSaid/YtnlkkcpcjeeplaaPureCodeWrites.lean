/- For every input the law CodeWrites returns true: the bytes of any number, of any text, or that there are none, are the reference's. No conditions. -/
import Derived.Test.YtnlkkcpcjeeplaaPCodeWritesx2
import Derived.OpenShut
namespace Go.Proofs.Ytnlkkcpcjeeplaa.Pure
open Go.RowKit Go.Proofs.Ytnlkkcpcjeeplaa.PCodeWrites Go.Proofs.YtnlkkcpcjeeplaaW.PrintWords Go.Proofs.YtnlkkcpcjeeplaaW.PrintLast

theorem within_some (v n : Int) (hn : 1 ≤ n) (hm : n ≤ 9223372036854775807) : ∃ r, hostlerkeep_Within.f v n = some r ∧ 0 ≤ r ∧ r < n := by
  unfold hostlerkeep_Within.f
  rw [if_neg (by omega), if_neg (by omega)]
  have h1 := Int.tmod_lt_of_pos v (show 0 < n by omega)
  have h2 := Int.lt_tmod_of_pos v (show 0 < n by omega)
  split
  · rename_i h
    refine ⟨_, rfl, ?_⟩
    unfold wrap64
    omega
  · exact ⟨_, rfl, by omega, by omega⟩

theorem bits_high : ∀ n : Fin 128, Go.bits .or .u8 ((n.val : Int) % 256) 128 = ((n.val : Int) + 128) % 256 := by decide +kernel

theorem byte_same (n : Int) (h : 0 ≤ n) : Go.bits .or .u8 ((Int.tmod n 128) % 256) 128 = (wrap64 ((Int.tmod n 128) + 128)) % 256 := by
  have e : Int.tmod n 128 = n % 128 := Int.tmod_eq_emod_of_nonneg h
  have := bits_high ⟨(n % 128).toNat, by omega⟩
  have e2 : (((n % 128).toNat : Nat) : Int) = n % 128 := by omega
  simp only [e2] at this
  rw [e, this]
  unfold wrap64; omega

/-- The loop of both: a list of at most five bytes more. -/
theorem loops (d : Nat) : ∀ (k : Nat) (n : Int) (l : List Int), 0 ≤ n → n < 128 ^ (d + 1) → d ≤ 4 → l.length + d ≤ 8 → d < k →
    ∃ r, code_Number.l0 k n l = some r ∧ hostlerref01_Number.l0 k n l = some r ∧ r.length ≤ l.length + d + 1 := by
  induction d with
  | zero =>
    intro k n l h0 hn _ hl hk
    obtain ⟨k, rfl⟩ : ∃ m, k = m + 1 := ⟨k - 1, by omega⟩
    simp only [code_Number.l0, hostlerref01_Number.l0]
    have h128 : ¬ n ≥ 128 := by simp at hn; omega
    have hlen : l.length < 140737488355328 := by omega
    simp only [h128, hlen, if_true, if_false]
    exact ⟨_, rfl, rfl, by simp⟩
  | succ d ih =>
    intro k n l h0 hn hd hl hk
    obtain ⟨k, rfl⟩ : ∃ m, k = m + 1 := ⟨k - 1, by omega⟩
    simp only [code_Number.l0, hostlerref01_Number.l0]
    by_cases h : n ≥ 128
    · have hlen : l.length < 140737488355328 := by omega
      simp only [h, hlen, if_true]
      rw [byte_same n h0]
      have e : Int.tdiv n 128 = n / 128 := Int.tdiv_eq_ediv_of_nonneg h0
      have hb : n < 128 * 128 ^ (d + 1) := by rw [Int.pow_succ] at hn; omega
      have h128 : (128 : Int) ^ (d + 1) ≤ 34359738368 := by
        have : d = 0 ∨ d = 1 ∨ d = 2 ∨ d = 3 := by omega
        rcases this with rfl | rfl | rfl | rfl <;> decide
      have ew : wrap64 (Int.tdiv n 128) = n / 128 := by rw [e]; unfold wrap64; omega
      rw [ew]
      obtain ⟨r, h1, h2, h3⟩ := ih k (n / 128) (l ++ [(wrap64 (Int.tmod n 128 + 128)) % 256]) (by omega) (by omega) (by omega) (by simp; omega) (by omega)
      exact ⟨r, h1, h2, by simp at h3; omega⟩
    · have hlen : l.length < 140737488355328 := by omega
      simp only [h, hlen, if_true, if_false]
      exact ⟨_, rfl, rfl, by simp⟩

theorem numbers (k : Nat) (n : Int) (hk : 8 < k) : ∃ r, code_Number.f k n = some r ∧ hostlerref01_Number.f k n = some r ∧ r.length ≤ 5 := by
  obtain ⟨k, rfl⟩ : ∃ m, k = m + 1 := ⟨k - 1, by omega⟩
  unfold code_Number.f hostlerref01_Number.f
  simp only [code_Number.j0, hostlerref01_Number.j0]
  by_cases h0 : n < 0
  · rw [if_pos h0, if_pos h0]; exact ⟨_, rfl, rfl, by simp⟩
  · rw [if_neg h0, if_neg h0]
    by_cases h1 : n > 34359738367
    · have h2 : n ≥ 34359738368 := by omega
      simp only [h1, h2, decide_true, if_true]
      exact ⟨_, rfl, rfl, by simp⟩
    · have h2 : ¬ n ≥ 34359738368 := by omega
      simp only [h1, h2, decide_false]
      obtain ⟨r, a, b, c⟩ := loops 4 k n [] (by omega) (by omega) (by omega) (by simp) (by omega)
      exact ⟨r, a, b, by simpa using c⟩

theorem same_loop (l : List Int) (hl : (l.length : Int) ≤ 1000) (d : Nat) : ∀ (k : Nat) (i : Int), 0 ≤ i → i ≤ l.length → (l.length : Int) - i = d → d < k → hostlerkeep_Same_byte.l0 k l l i = some true := by
  induction d with
  | zero =>
    intro k i h0 h1 hd hk
    obtain ⟨k, rfl⟩ : ∃ m, k = m + 1 := ⟨k - 1, by omega⟩
    simp only [hostlerkeep_Same_byte.l0]
    rw [if_neg (by omega)]
  | succ d ih =>
    intro k i h0 h1 hd hk
    obtain ⟨k, rfl⟩ : ∃ m, k = m + 1 := ⟨k - 1, by omega⟩
    simp only [hostlerkeep_Same_byte.l0]
    have ew : wrap64 (i + 1) = i + 1 := by unfold wrap64; omega
    rw [if_pos (by omega), if_pos h0, if_pos (by omega)]
    simp only [if_true, ew]
    exact ih k (i + 1) (by omega) (by omega) (by omega) (by omega)

theorem same_self (k : Nat) (l : List Int) (hl : l.length ≤ 1000) (hk : l.length < k) : hostlerkeep_Same_byte.f k l l = some true := by
  unfold hostlerkeep_Same_byte.f
  rw [if_pos rfl]
  exact same_loop l (by omega) l.length k 0 (by omega) (by omega) (by omega) hk

theorem texts (k : Nat) (s : ByteArray) (hk : 8 < k) : ∃ r, code_Text.f k s = some r ∧ hostlerref01_Text.f k s = some r ∧ r.length ≤ 205 := by
  unfold code_Text.f hostlerref01_Text.f
  by_cases h : (s.size : Int) > 200
  · rw [if_pos h, if_pos h]; exact ⟨_, rfl, rfl, by simp⟩
  · rw [if_neg h, if_neg h]
    obtain ⟨r, h1, h2, h3⟩ := numbers k s.size hk
    rw [h1, h2]
    simp only [Option.bind_some]
    rw [if_pos (by omega)]
    exact ⟨_, rfl, rfl, by simp [bytesOf_length]; omega⟩

theorem wakes_true (k : Nat) (hk : 8 < k) : hostlerlaw03_wakes.f k = some true := by
  have h : code_Number.f k 300 = some [172, 2] := by
    obtain ⟨k, rfl⟩ : ∃ m, k = m + 3 := ⟨k - 3, by omega⟩
    have := bits_high ⟨44, by omega⟩
    simp only [code_Number.f, code_Number.j0, code_Number.l0]
    simp [wrap64]
    decide +kernel
  unfold hostlerlaw03_wakes.f
  rw [h]
  simp only [Option.bind_some]
  rw [same_self k [172, 2] (by simp) (by simp; omega)]
  rfl

theorem j1_true (n : Int) (s : ByteArray) : hostlerlaw03_CodeWrites.j1 1001 n s = some true := by
  simp only [hostlerlaw03_CodeWrites.j1]
  obtain ⟨a, h1, h2, h3⟩ := numbers 1000 n (by omega)
  obtain ⟨b, h4, h5, h6⟩ := texts 1000 s (by omega)
  rw [h1, h2, h4, h5, wakes_true 1000 (by omega)]
  simp only [Option.bind_some]
  rw [same_self 1000 a (by omega) (by omega), same_self 1000 b (by omega) (by omega)]
  rfl

theorem j0_true (n how : Int) (s : ByteArray) (hs : s.size ≤ 140737488351232) (long : Int) : hostlerlaw03_CodeWrites.j0 1002 n how s long = some true := by
  simp only [hostlerlaw03_CodeWrites.j0]
  split
  · obtain ⟨x, hx, h0, h1⟩ := within_some long 220 (by omega) (by omega)
    rw [hx]
    simp only [Option.bind_some]
    rw [if_pos h0, if_pos (by omega), if_pos ?_]
    · exact j1_true _ _
    · rw [strOfNums_size, List.length_replicate]; omega
  · exact j1_true _ _

theorem CodeWrites : hostlerlaw03_CodeWrites.Pure := by
  intro n how s long _ _ hs _
  refine ⟨1002, ?_⟩
  unfold hostlerlaw03_CodeWrites.f
  split
  · exact j0_true _ _ _ hs _
  · obtain ⟨x, hx, _⟩ := within_some n 34359738370 (by omega) (by omega)
    rw [hx]
    exact j0_true _ _ _ hs _

end Go.Proofs.Ytnlkkcpcjeeplaa.Pure
