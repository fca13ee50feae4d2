/- Contracts of package code's Reader. -/
import Derived.Test.YtnlkkcpcjeeplaaProg
import Derived.Test.YtnlkkcpcjeeplaaAp
import Derived.ScopeJumps
import Derived.WalkMore
set_option linter.unusedVariables false
set_option linter.unusedSimpArgs false
namespace Go.Proofs.Ytnlkkcpcjeeplaa
open Go.RowKit

/-- What a reader's first number is: its value and how many bytes it takes; none: it is bad. -/
def nb : List Int → Nat → Int → Option (Int × Nat)
  | [], _, _ => none
  | c :: r, k, n => if 5 ≤ k then none else if 128 ≤ c then nb r (k + 1) (n + c % 128 * 2 ^ (7 * k)) else if c = 0 ∧ 1 ≤ k then none else some (n + c % 128 * 2 ^ (7 * k), k + 1)

/-- The slice's bytes. -/
def Bv (w : World) (a : Option Addr) (cap : Nat) (bs : List Int) (g : Nat) : Prop :=
  (a = none ∧ cap = 0 ∧ bs = []) ∨ ∃ B off, a = some ⟨B, off, none⟩ ∧ Vw w B off (bs.map (.int .u8 ·)) ∧ B < w.heap.size ∧ B ≠ g

def RrAt (w : World) (g T : Nat) (bs : List Int) (bad : Bool) : Prop :=
  ∃ a cap, Blk w g #[.slice a bs.length cap, .bool bad] T ∧ bs.length ≤ cap ∧ cap ≤ 9223372036854775807 ∧ Bv w a cap bs g ∧ ∀ c ∈ bs, 0 ≤ c ∧ c ≤ 255

theorem Bv.kp {S : Nat → Prop} {w w' : World} {a : Option Addr} {cap : Nat} {bs : List Int} {g : Nat} (h : Bv w a cap bs g) (k : Kp S w w') (hn : ∀ B, B < w.heap.size → B ≠ g → S B → False) : Bv w' a cap bs g := by
  rcases h with h | ⟨B, off, rfl, h1, h2, h3⟩
  · exact .inl h
  · exact .inr ⟨B, off, rfl, h1.kp k h2 (fun x => hn B h2 h3 x), Nat.lt_of_lt_of_le h2 k.size, h3⟩

theorem fail_c (g : Nat) (bs : List Int) (bad : Bool) (w : World) (h : RrAt w g 112 bs bad) :
    Calls Try.prog 70 #[.pointer (some ⟨g, 0, none⟩)] w fun e w' => e = .returned (.int .i64 0) ∧ RrAt w' g 112 [] true ∧ Kp (· = g) w w' := by
  obtain ⟨a, cap, h1, _⟩ := h
  have f0 := Blk.free h1 0
  have f1 := Blk.free h1 1
  have c0 := Blk.cell h1 0
  have c1 := Blk.cell h1 1
  simp at c0 c1
  have K := (((Kp.self g w).put 0 (.slice none 0 0)).put 1 (.bool true))
  have H := ((h1.set 0 (.slice none 0 0)).set 1 (.bool true))
  go_enter Try.func70, Try.ntmps70
  go_wp2
  go_ret
  exact ⟨rfl, ⟨none, 0, by simpa using H, by simp, by simp, .inl ⟨rfl, rfl, rfl⟩, by simp⟩, K⟩

theorem nb_five (l : List Int) (n : Int) : nb l 5 n = none := by cases l <;> simp [nb]

theorem wrap_small (n : Int) (h0 : 0 ≤ n) (h1 : n < 9223372036854775808) : IntKind.i64.wrap n = n := by
  simp [IntKind.wrap, IntKind.bits, IntKind.signed]
  split <;> omega
theorem or_nat (m a b : Nat) (hm : m ≤ 28) (ha : a < 2 ^ m) (hb : b < 128) : bits .or .i64 (a : Int) (((b * 2 ^ m : Nat) : Nat) : Int) = ((a + b * 2 ^ m : Nat) : Int) := by
  have hp : 2 ^ m ≤ 2 ^ 28 := Nat.pow_le_pow_right (by decide) hm
  have hbm : b * 2 ^ m ≤ 127 * 2 ^ 28 := Nat.mul_le_mul (by omega) hp
  have h28 : (2 : Nat) ^ 28 = 268435456 := rfl
  show IntKind.i64.wrap ((BitVec.ofInt 64 (a : Int) ||| BitVec.ofInt 64 ((b * 2 ^ m : Nat) : Int)).toNat : Int) = _
  rw [BitVec.toNat_or, BitVec.ofInt_natCast, BitVec.ofInt_natCast, BitVec.toNat_ofNat, BitVec.toNat_ofNat, Nat.mod_eq_of_lt (by omega), Nat.mod_eq_of_lt (by omega), Nat.or_comm, ← Nat.shiftLeft_eq,
    ← Nat.shiftLeft_add_eq_or_of_lt ha, Nat.shiftLeft_eq, Nat.add_comm]
  exact wrap_small _ (by omega) (by omega)
theorem or_shift (n c : Int) (h0 : 0 ≤ c % 128) (h1 : c % 128 < 128) : bits .or .i64 0 (c % 128) = 0 + c % 128 * 2 ^ (7 * 0) := by
  obtain ⟨b, hb⟩ := Int.eq_ofNat_of_zero_le h0
  have := or_nat 0 0 b (by decide) (by decide) (by omega)
  simp only [Nat.pow_zero, Nat.mul_one, Nat.zero_add] at this
  rw [hb]
  simpa using this
theorem or_shift' (m : Nat) (n c M : Int) (hm : m ≤ 28) (hM : (2 : Int) ^ m = M) (h0 : 0 ≤ n) (h1 : n < 2 ^ m) : bits .or .i64 n (c % 128 * M) = n + c % 128 * 2 ^ m := by
  obtain ⟨b, hb⟩ := Int.eq_ofNat_of_zero_le (Int.emod_nonneg c (show (128 : Int) ≠ 0 by decide))
  have hb1 := Int.emod_lt_of_pos c (show (0 : Int) < 128 by decide)
  obtain ⟨a, rfl⟩ := Int.eq_ofNat_of_zero_le h0
  have := or_nat m a b hm (by exact_mod_cast h1) (by omega)
  rw [← hM, hb]
  simpa using this

theorem rr_end {w : World} {g B off cap : Nat} {bs : List Int} {a : Value} {bd : Value} (h1 : Blk w g #[a, .bool false] 112) (hV : Vw w B off (bs.map (.int .u8 ·))) (hBg : B ≠ g) (hB : B < w.heap.size) (hc : bs.length ≤ cap) (hm : cap ≤ 9223372036854775807)
    (hb : ∀ c ∈ bs, 0 ≤ c ∧ c ≤ 255) (k : Nat) (hk : k ≤ bs.length) :
    RrAt (w.setCell ⟨g, 0, none⟩ (.slice (some ⟨B, off + k, none⟩) (bs.length - k) (cap - k))) g 112 (bs.drop k) false := by
  have H := h1.set 0 (.slice (some ⟨B, off + k, none⟩) (bs.length - k) (cap - k))
  have K := (Kp.self g w).put 0 (.slice (some ⟨B, off + k, none⟩) (bs.length - k) (cap - k))
  refine ⟨some ⟨B, off + k, none⟩, cap - k, by rw [List.length_drop]; simpa using H, by rw [List.length_drop]; omega, by omega, .inr ⟨B, off + k, rfl, ?_, Nat.lt_of_lt_of_le hB K.size, hBg⟩, fun c hc => hb c (List.mem_of_mem_drop hc)⟩
  have := (hV.drop k).kp K hB hBg
  rwa [← List.map_drop] at this

theorem rr_end0 {w : World} {g B off : Nat} {bs : List Int} {a : Value} (h1 : Blk w g #[a, .bool false] 112) (hBg : B ≠ g) (hB : B < w.heap.size) (k c' : Nat) (hk : bs.length ≤ k) :
    RrAt (w.setCell ⟨g, 0, none⟩ (.slice (some ⟨B, off, none⟩) (bs.length - k) 0)) g 112 (bs.drop k) false := by
  have hd : bs.drop k = [] := List.drop_eq_nil_of_le hk
  have H := h1.set 0 (.slice (some ⟨B, off, none⟩) (bs.length - k) 0)
  have K := (Kp.self g w).put 0 (.slice (some ⟨B, off, none⟩) (bs.length - k) 0)
  rw [hd, show bs.length - k = 0 by omega] at *
  exact ⟨some ⟨B, off, none⟩, 0, by simpa using H, by simp, by simp, .inr ⟨B, off, rfl, fun j u hj => by simp at hj, Nat.lt_of_lt_of_le hB K.size, hBg⟩, by simp⟩

def numR (bs : List Int) (bad : Bool) : Int × List Int × Bool :=
  if bad = true then (0, [], true) else match nb bs 0 0 with | none => (0, [], true) | some (v, k) => (v, bs.drop k, false)

set_option maxRecDepth 100000 in
set_option maxHeartbeats 16000000 in
theorem number_c (g : Nat) (bs : List Int) (bad : Bool) (w : World) (h : RrAt w g 112 bs bad) :
    Calls Try.prog 27 #[.pointer (some ⟨g, 0, none⟩)] w fun e w' => e = .returned (.int .i64 (numR bs bad).1) ∧ RrAt w' g 112 (numR bs bad).2.1 (numR bs bad).2.2 ∧ Kp (· = g) w w' := by
  have h0 := h
  obtain ⟨a, cap, h1, hc, hm, hv, hb⟩ := h
  have c0 := Blk.cell h1 0
  have c1 := Blk.cell h1 1
  have f0 := Blk.free h1 0
  simp at c0 c1
  go_enter Try.func27, Try.ntmps27
  go_wp2

  refine wp_scope_jumps 0 (fun a' w' => w' = w ∧ ∃ (k : Nat) (K n : Int) (u5 u6 u7 u8 u9 u10 u11 u12 u13 u14 u15 u16 u17 u18 u19 u20 u21 u22 u23 u24 u25 u26 u27 u28 u29 u30 u31 u32 u33 u34 u35 u36 u37 u38 u39 u40 u41 u42 u43 : Value), a' = { tmps := #[.pointer (some ⟨g, 0, none⟩), undef, .int .i64 0, .int .i64 n, .int .i64 K, u5, u6, u7, u8, u9, u10, u11, u12, u13, u14, u15, u16, u17, u18, u19, u20, u21, u22, u23, u24, u25, u26, u27, u28, u29, u30, u31, u32, u33, u34, u35, u36, u37, u38, u39, u40, u41, u42, u43, undef, undef, undef, undef, undef, undef, undef, undef, undef, undef, undef, undef, undef, undef, undef, undef, undef, undef], defers := [] } ∧ K = k ∧ bad = false ∧ nb (bs.drop k) k n = nb bs 0 0 ∧ 1 ≤ k ∧ k ≤ 5 ∧ k ≤ bs.length ∧ 0 ≤ n ∧ n < 2 ^ (7 * k)) (fun a' _ => (5 - intOf (a'.tmps.getD 4 undef)).toNat) rfl ?_ ?_
  · go_wp2
    go_step3
    cases bad with
    | true =>
      have hr : numR bs true = (0, [], true) := rfl
      go_wp2_with (go_at_call 70; refine (fail_c g bs true _ h0).mono ?_; rintro e w' ⟨rfl, h2, k2⟩)
      simp only [Exit.jump]
      go_ret
      rw [hr]
      exact ⟨rfl, h2, k2⟩
    | false =>
      by_cases hl : 0 < bs.length
      · obtain ⟨B, off, rfl, hV, hB, hBg⟩ := hv.resolve_left (by rintro ⟨_, _, rfl⟩; simp at hl)
        have hd : bs.drop 0 = bs[0] :: bs.drop (0 + 1) := List.drop_eq_getElem_cons hl
        have hcell := hV 0 _ (by rw [List.getElem?_map, List.getElem?_eq_getElem hl]; rfl)
        have hcb := hb _ (List.getElem_mem hl)
        generalize bs[0] = c at hd hcell hcb
        simp only [Nat.add_zero] at hcell
        obtain ⟨hc0, hc1⟩ := hcb
        have hs : nb (bs.drop 0) 0 0 = nb bs 0 0 := rfl
        rw [hd, nb] at hs
        rw [if_neg (by decide)] at hs
        obtain ⟨N, hN⟩ : ∃ N : Int, 0 + c % 128 * 2 ^ (7 * 0) = N := ⟨_, rfl⟩
        have hor : bits BinOp.or IntKind.i64 0 (c % 128) = N := by rw [← hN]; exact or_shift 0 c (by omega) (by omega)
        have hN0 : 0 ≤ N := by rw [← hN]; omega
        have hN1 : N < 2 ^ (7 * 1) := by rw [← hN]; simp only [show (2 : Int) ^ (7 * 1) = 128 from rfl, show (2 : Int) ^ (7 * 0) = 1 from rfl]; omega
        rw [hN] at hs
        have hl0 : (bs.length = 0) = False := eq_false (by omega)
        by_cases hg : 128 ≤ c
        · rw [if_pos hg] at hs
          clear hN
          go_wp2_with fail
          all_goals first | (exfalso; omega; done) | skip
          go_step3
          exact ⟨rfl, rfl, 1, _, N, _, _, _, _, _, _, _, _, _, _, _, _, _, _, _, _, _, _, _, _, _, _, _, _, _, _, _, _, _, _, _, _, _, _, _, _, _, _, _, rfl, rfl, rfl, hs, by decide, by decide, by omega, hN0, hN1⟩
        · have hg' : c < 128 := by omega
          rw [if_neg hg] at hs
          · have hz : ¬ (c = 0 ∧ 1 ≤ 0) := by omega
            rw [if_neg (by omega)] at hs
            have hr : numR bs false = (N, bs.drop (1), false) := by rw [numR, if_neg (by decide), ← hs]
            clear hs
            have H := h1.set 0 (.slice (some ⟨B, off + 1, none⟩) (bs.length - 1) (cap - 1))
            have K := (Kp.self g w).put 0 (.slice (some ⟨B, off + 1, none⟩) (bs.length - 1) (cap - 1))
            go_wp2_with fail
            all_goals first | (exfalso; omega; done) | skip
            all_goals
              simp only [Exit.jump]
              go_ret
              rw [hr]
              first | exact ⟨rfl, rr_end (bd := undef) h1 hV hBg hB hc hm hb 1 (by omega), K⟩ | exact ⟨rfl, rr_end0 h1 hBg hB 1 0 (by omega), (Kp.self g w).put 0 _⟩
      · have hd : bs.drop 0 = [] := List.drop_eq_nil_of_le (by omega)
        have hs : nb (bs.drop 0) 0 0 = nb bs 0 0 := rfl
        rw [hd, nb] at hs
        have hl0 : bs.length = 0 := by omega
        have hr : numR bs false = (0, [], true) := by rw [numR, if_neg (by decide), ← hs]
        go_wp2_with (go_at_call 70; refine (fail_c g bs false _ h0).mono ?_; rintro e w' ⟨rfl, h2, k2⟩)
        all_goals first | (exfalso; omega; done) | skip
        all_goals
          simp only [Exit.jump]
          go_ret
          rw [hr]
          exact ⟨rfl, h2, k2⟩
  · rintro a' w ⟨rfl, k, K, n, u5, u6, u7, u8, u9, u10, u11, u12, u13, u14, u15, u16, u17, u18, u19, u20, u21, u22, u23, u24, u25, u26, u27, u28, u29, u30, u31, u32, u33, u34, u35, u36, u37, u38, u39, u40, u41, u42, u43, rfl, rfl, rfl, hs, hk1, hk5, hkl, hn0, hn1⟩
    have hk : k = 1 ∨ k = 2 ∨ k = 3 ∨ k = 4 ∨ k = 5 := by omega
    rcases hk with rfl | rfl | rfl | rfl | rfl
    · by_cases hl : 1 < bs.length
      · obtain ⟨B, off, rfl, hV, hB, hBg⟩ := hv.resolve_left (by rintro ⟨_, _, rfl⟩; simp at hl)
        have hd : bs.drop 1 = bs[1] :: bs.drop (1 + 1) := List.drop_eq_getElem_cons hl
        have hcell := hV 1 _ (by rw [List.getElem?_map, List.getElem?_eq_getElem hl]; rfl)
        have hcb := hb _ (List.getElem_mem hl)
        generalize bs[1] = c at hd hcell hcb
        obtain ⟨hc0, hc1⟩ := hcb
        rw [hd, nb] at hs
        rw [if_neg (by decide)] at hs
        obtain ⟨N, hN⟩ : ∃ N : Int, n + c % 128 * 2 ^ (7 * 1) = N := ⟨_, rfl⟩
        have hor : bits BinOp.or IntKind.i64 n (c % 128 * 128) = N := by rw [← hN]; exact or_shift' 7 n c 128 (by decide) (by decide) hn0 hn1
        have hN0 : 0 ≤ N := by rw [← hN, show (2 : Int) ^ (7 * 1) = 128 from rfl]; omega
        have hN1 : N < 2 ^ (7 * 2) := by rw [← hN]; simp only [show (2 : Int) ^ (7 * 1) = 128 from rfl, show (2 : Int) ^ (7 * 2) = 16384 from rfl] at *; omega
        rw [hN] at hs
        have hl0 : ((bs.length : Int) ≤ 1) = False := eq_false (by omega)
        by_cases hg : 128 ≤ c
        · rw [if_pos hg] at hs
          clear hN
          go_wp2_with fail
          all_goals first | (exfalso; omega; done) | skip
          go_step3
          exact ⟨rfl, ⟨rfl, 2, _, N, _, _, _, _, _, _, _, _, _, _, _, _, _, _, _, _, _, _, _, _, _, _, _, _, _, _, _, _, _, _, _, _, _, _, _, _, _, _, _, rfl, rfl, rfl, hs, by decide, by decide, by omega, hN0, hN1⟩, by simp [intOf]⟩
        · have hg' : c < 128 := by omega
          rw [if_neg hg] at hs
          by_cases hz : c = 0
          · subst hz
            rw [if_pos ⟨rfl, by decide⟩] at hs
            have hr : numR bs false = (0, [], true) := by rw [numR, if_neg (by decide), ← hs]
            go_wp2_with (go_at_call 70; refine (fail_c g bs false _ h0).mono ?_; rintro e w' ⟨rfl, h2, k2⟩)
            all_goals first | (exfalso; omega; done) | skip
            all_goals
              simp only [Exit.jump]
              go_ret
              rw [hr]
              exact ⟨rfl, h2, k2⟩
          · have hzb : (c == 0) = false := by simpa using hz
            rw [if_neg (by omega)] at hs
            have hr : numR bs false = (N, bs.drop (2), false) := by rw [numR, if_neg (by decide), ← hs]
            clear hs
            have H := h1.set 0 (.slice (some ⟨B, off + 2, none⟩) (bs.length - 2) (cap - 2))
            have K := (Kp.self g w).put 0 (.slice (some ⟨B, off + 2, none⟩) (bs.length - 2) (cap - 2))
            go_wp2_with fail
            all_goals first | (exfalso; omega; done) | skip
            all_goals
              simp only [Exit.jump]
              go_ret
              rw [hr]
              first | exact ⟨rfl, rr_end (bd := undef) h1 hV hBg hB hc hm hb 2 (by omega), K⟩ | exact ⟨rfl, rr_end0 h1 hBg hB 2 0 (by omega), (Kp.self g w).put 0 _⟩
      · have hd : bs.drop 1 = [] := List.drop_eq_nil_of_le (by omega)
        rw [hd, nb] at hs
        have hl0 : bs.length = 1 := by omega
        have hr : numR bs false = (0, [], true) := by rw [numR, if_neg (by decide), ← hs]
        go_wp2_with (go_at_call 70; refine (fail_c g bs false _ h0).mono ?_; rintro e w' ⟨rfl, h2, k2⟩)
        all_goals first | (exfalso; omega; done) | skip
        all_goals
          simp only [Exit.jump]
          go_ret
          rw [hr]
          exact ⟨rfl, h2, k2⟩
    · by_cases hl : 2 < bs.length
      · obtain ⟨B, off, rfl, hV, hB, hBg⟩ := hv.resolve_left (by rintro ⟨_, _, rfl⟩; simp at hl)
        have hd : bs.drop 2 = bs[2] :: bs.drop (2 + 1) := List.drop_eq_getElem_cons hl
        have hcell := hV 2 _ (by rw [List.getElem?_map, List.getElem?_eq_getElem hl]; rfl)
        have hcb := hb _ (List.getElem_mem hl)
        generalize bs[2] = c at hd hcell hcb
        obtain ⟨hc0, hc1⟩ := hcb
        rw [hd, nb] at hs
        rw [if_neg (by decide)] at hs
        obtain ⟨N, hN⟩ : ∃ N : Int, n + c % 128 * 2 ^ (7 * 2) = N := ⟨_, rfl⟩
        have hor : bits BinOp.or IntKind.i64 n (c % 128 * 16384) = N := by rw [← hN]; exact or_shift' 14 n c 16384 (by decide) (by decide) hn0 hn1
        have hN0 : 0 ≤ N := by rw [← hN, show (2 : Int) ^ (7 * 2) = 16384 from rfl]; omega
        have hN1 : N < 2 ^ (7 * 3) := by rw [← hN]; simp only [show (2 : Int) ^ (7 * 2) = 16384 from rfl, show (2 : Int) ^ (7 * 3) = 2097152 from rfl] at *; omega
        rw [hN] at hs
        have hl0 : ((bs.length : Int) ≤ 2) = False := eq_false (by omega)
        by_cases hg : 128 ≤ c
        · rw [if_pos hg] at hs
          clear hN
          go_wp2_with fail
          all_goals first | (exfalso; omega; done) | skip
          go_step3
          exact ⟨rfl, ⟨rfl, 3, _, N, _, _, _, _, _, _, _, _, _, _, _, _, _, _, _, _, _, _, _, _, _, _, _, _, _, _, _, _, _, _, _, _, _, _, _, _, _, _, _, rfl, rfl, rfl, hs, by decide, by decide, by omega, hN0, hN1⟩, by simp [intOf]⟩
        · have hg' : c < 128 := by omega
          rw [if_neg hg] at hs
          by_cases hz : c = 0
          · subst hz
            rw [if_pos ⟨rfl, by decide⟩] at hs
            have hr : numR bs false = (0, [], true) := by rw [numR, if_neg (by decide), ← hs]
            go_wp2_with (go_at_call 70; refine (fail_c g bs false _ h0).mono ?_; rintro e w' ⟨rfl, h2, k2⟩)
            all_goals first | (exfalso; omega; done) | skip
            all_goals
              simp only [Exit.jump]
              go_ret
              rw [hr]
              exact ⟨rfl, h2, k2⟩
          · have hzb : (c == 0) = false := by simpa using hz
            rw [if_neg (by omega)] at hs
            have hr : numR bs false = (N, bs.drop (3), false) := by rw [numR, if_neg (by decide), ← hs]
            clear hs
            have H := h1.set 0 (.slice (some ⟨B, off + 3, none⟩) (bs.length - 3) (cap - 3))
            have K := (Kp.self g w).put 0 (.slice (some ⟨B, off + 3, none⟩) (bs.length - 3) (cap - 3))
            go_wp2_with fail
            all_goals first | (exfalso; omega; done) | skip
            all_goals
              simp only [Exit.jump]
              go_ret
              rw [hr]
              first | exact ⟨rfl, rr_end (bd := undef) h1 hV hBg hB hc hm hb 3 (by omega), K⟩ | exact ⟨rfl, rr_end0 h1 hBg hB 3 0 (by omega), (Kp.self g w).put 0 _⟩
      · have hd : bs.drop 2 = [] := List.drop_eq_nil_of_le (by omega)
        rw [hd, nb] at hs
        have hl0 : bs.length = 2 := by omega
        have hr : numR bs false = (0, [], true) := by rw [numR, if_neg (by decide), ← hs]
        go_wp2_with (go_at_call 70; refine (fail_c g bs false _ h0).mono ?_; rintro e w' ⟨rfl, h2, k2⟩)
        all_goals first | (exfalso; omega; done) | skip
        all_goals
          simp only [Exit.jump]
          go_ret
          rw [hr]
          exact ⟨rfl, h2, k2⟩
    · by_cases hl : 3 < bs.length
      · obtain ⟨B, off, rfl, hV, hB, hBg⟩ := hv.resolve_left (by rintro ⟨_, _, rfl⟩; simp at hl)
        have hd : bs.drop 3 = bs[3] :: bs.drop (3 + 1) := List.drop_eq_getElem_cons hl
        have hcell := hV 3 _ (by rw [List.getElem?_map, List.getElem?_eq_getElem hl]; rfl)
        have hcb := hb _ (List.getElem_mem hl)
        generalize bs[3] = c at hd hcell hcb
        obtain ⟨hc0, hc1⟩ := hcb
        rw [hd, nb] at hs
        rw [if_neg (by decide)] at hs
        obtain ⟨N, hN⟩ : ∃ N : Int, n + c % 128 * 2 ^ (7 * 3) = N := ⟨_, rfl⟩
        have hor : bits BinOp.or IntKind.i64 n (c % 128 * 2097152) = N := by rw [← hN]; exact or_shift' 21 n c 2097152 (by decide) (by decide) hn0 hn1
        have hN0 : 0 ≤ N := by rw [← hN, show (2 : Int) ^ (7 * 3) = 2097152 from rfl]; omega
        have hN1 : N < 2 ^ (7 * 4) := by rw [← hN]; simp only [show (2 : Int) ^ (7 * 3) = 2097152 from rfl, show (2 : Int) ^ (7 * 4) = 268435456 from rfl] at *; omega
        rw [hN] at hs
        have hl0 : ((bs.length : Int) ≤ 3) = False := eq_false (by omega)
        by_cases hg : 128 ≤ c
        · rw [if_pos hg] at hs
          clear hN
          go_wp2_with fail
          all_goals first | (exfalso; omega; done) | skip
          go_step3
          exact ⟨rfl, ⟨rfl, 4, _, N, _, _, _, _, _, _, _, _, _, _, _, _, _, _, _, _, _, _, _, _, _, _, _, _, _, _, _, _, _, _, _, _, _, _, _, _, _, _, _, rfl, rfl, rfl, hs, by decide, by decide, by omega, hN0, hN1⟩, by simp [intOf]⟩
        · have hg' : c < 128 := by omega
          rw [if_neg hg] at hs
          by_cases hz : c = 0
          · subst hz
            rw [if_pos ⟨rfl, by decide⟩] at hs
            have hr : numR bs false = (0, [], true) := by rw [numR, if_neg (by decide), ← hs]
            go_wp2_with (go_at_call 70; refine (fail_c g bs false _ h0).mono ?_; rintro e w' ⟨rfl, h2, k2⟩)
            all_goals first | (exfalso; omega; done) | skip
            all_goals
              simp only [Exit.jump]
              go_ret
              rw [hr]
              exact ⟨rfl, h2, k2⟩
          · have hzb : (c == 0) = false := by simpa using hz
            rw [if_neg (by omega)] at hs
            have hr : numR bs false = (N, bs.drop (4), false) := by rw [numR, if_neg (by decide), ← hs]
            clear hs
            have H := h1.set 0 (.slice (some ⟨B, off + 4, none⟩) (bs.length - 4) (cap - 4))
            have K := (Kp.self g w).put 0 (.slice (some ⟨B, off + 4, none⟩) (bs.length - 4) (cap - 4))
            go_wp2_with fail
            all_goals first | (exfalso; omega; done) | skip
            all_goals
              simp only [Exit.jump]
              go_ret
              rw [hr]
              first | exact ⟨rfl, rr_end (bd := undef) h1 hV hBg hB hc hm hb 4 (by omega), K⟩ | exact ⟨rfl, rr_end0 h1 hBg hB 4 0 (by omega), (Kp.self g w).put 0 _⟩
      · have hd : bs.drop 3 = [] := List.drop_eq_nil_of_le (by omega)
        rw [hd, nb] at hs
        have hl0 : bs.length = 3 := by omega
        have hr : numR bs false = (0, [], true) := by rw [numR, if_neg (by decide), ← hs]
        go_wp2_with (go_at_call 70; refine (fail_c g bs false _ h0).mono ?_; rintro e w' ⟨rfl, h2, k2⟩)
        all_goals first | (exfalso; omega; done) | skip
        all_goals
          simp only [Exit.jump]
          go_ret
          rw [hr]
          exact ⟨rfl, h2, k2⟩
    · by_cases hl : 4 < bs.length
      · obtain ⟨B, off, rfl, hV, hB, hBg⟩ := hv.resolve_left (by rintro ⟨_, _, rfl⟩; simp at hl)
        have hd : bs.drop 4 = bs[4] :: bs.drop (4 + 1) := List.drop_eq_getElem_cons hl
        have hcell := hV 4 _ (by rw [List.getElem?_map, List.getElem?_eq_getElem hl]; rfl)
        have hcb := hb _ (List.getElem_mem hl)
        generalize bs[4] = c at hd hcell hcb
        obtain ⟨hc0, hc1⟩ := hcb
        rw [hd, nb] at hs
        rw [if_neg (by decide)] at hs
        obtain ⟨N, hN⟩ : ∃ N : Int, n + c % 128 * 2 ^ (7 * 4) = N := ⟨_, rfl⟩
        have hor : bits BinOp.or IntKind.i64 n (c % 128 * 268435456) = N := by rw [← hN]; exact or_shift' 28 n c 268435456 (by decide) (by decide) hn0 hn1
        have hN0 : 0 ≤ N := by rw [← hN, show (2 : Int) ^ (7 * 4) = 268435456 from rfl]; omega
        have hN1 : N < 2 ^ (7 * 5) := by rw [← hN]; simp only [show (2 : Int) ^ (7 * 4) = 268435456 from rfl, show (2 : Int) ^ (7 * 5) = 34359738368 from rfl] at *; omega
        rw [hN] at hs
        have hl0 : ((bs.length : Int) ≤ 4) = False := eq_false (by omega)
        by_cases hg : 128 ≤ c
        · rw [if_pos hg] at hs
          clear hN
          go_wp2_with fail
          all_goals first | (exfalso; omega; done) | skip
          go_step3
          exact ⟨rfl, ⟨rfl, 5, _, N, _, _, _, _, _, _, _, _, _, _, _, _, _, _, _, _, _, _, _, _, _, _, _, _, _, _, _, _, _, _, _, _, _, _, _, _, _, _, _, rfl, rfl, rfl, hs, by decide, by decide, by omega, hN0, hN1⟩, by simp [intOf]⟩
        · have hg' : c < 128 := by omega
          rw [if_neg hg] at hs
          by_cases hz : c = 0
          · subst hz
            rw [if_pos ⟨rfl, by decide⟩] at hs
            have hr : numR bs false = (0, [], true) := by rw [numR, if_neg (by decide), ← hs]
            go_wp2_with (go_at_call 70; refine (fail_c g bs false _ h0).mono ?_; rintro e w' ⟨rfl, h2, k2⟩)
            all_goals first | (exfalso; omega; done) | skip
            all_goals
              simp only [Exit.jump]
              go_ret
              rw [hr]
              exact ⟨rfl, h2, k2⟩
          · have hzb : (c == 0) = false := by simpa using hz
            rw [if_neg (by omega)] at hs
            have hr : numR bs false = (N, bs.drop (5), false) := by rw [numR, if_neg (by decide), ← hs]
            clear hs
            have H := h1.set 0 (.slice (some ⟨B, off + 5, none⟩) (bs.length - 5) (cap - 5))
            have K := (Kp.self g w).put 0 (.slice (some ⟨B, off + 5, none⟩) (bs.length - 5) (cap - 5))
            go_wp2_with fail
            all_goals first | (exfalso; omega; done) | skip
            all_goals
              simp only [Exit.jump]
              go_ret
              rw [hr]
              first | exact ⟨rfl, rr_end (bd := undef) h1 hV hBg hB hc hm hb 5 (by omega), K⟩ | exact ⟨rfl, rr_end0 h1 hBg hB 5 0 (by omega), (Kp.self g w).put 0 _⟩
      · have hd : bs.drop 4 = [] := List.drop_eq_nil_of_le (by omega)
        rw [hd, nb] at hs
        have hl0 : bs.length = 4 := by omega
        have hr : numR bs false = (0, [], true) := by rw [numR, if_neg (by decide), ← hs]
        go_wp2_with (go_at_call 70; refine (fail_c g bs false _ h0).mono ?_; rintro e w' ⟨rfl, h2, k2⟩)
        all_goals first | (exfalso; omega; done) | skip
        all_goals
          simp only [Exit.jump]
          go_ret
          rw [hr]
          exact ⟨rfl, h2, k2⟩
    · have hr : numR bs false = (0, [], true) := by rw [numR, if_neg (by decide), ← hs, nb_five _ n]
      go_wp2_with (go_at_call 70; refine (fail_c g bs false _ h0).mono ?_; rintro e w' ⟨rfl, h2, k2⟩)
      all_goals first | (exfalso; omega; done) | skip
      all_goals
        simp only [Exit.jump]
        go_ret
        rw [hr]
        exact ⟨rfl, h2, k2⟩
end Go.Proofs.Ytnlkkcpcjeeplaa
