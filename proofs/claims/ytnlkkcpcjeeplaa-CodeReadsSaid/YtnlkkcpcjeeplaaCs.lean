/- The walk of CodeSizes. -/
import Derived.Test.YtnlkkcpcjeeplaaCe
import Derived.Test.YtnlkkcpcjeeplaaRun
import Derived.Test.YtnlkkcpcjeeplaaPCodeBackx1
import Derived.Deep.CutRange
import Derived.Deep.DeepFit
set_option linter.unusedVariables false
set_option linter.unusedSimpArgs false
namespace Go.Proofs.Ytnlkkcpcjeeplaa
open Go.RowKit
open Go.Proofs.Ytnlkkcpcjeeplaa.PCodeBack Go.Proofs.YtnlkkcpcjeeplaaW.PrintWords Go.Proofs.YtnlkkcpcjeeplaaW.PrintLast

theorem own_zero {w : World} {b e size n : Nat} {v : Value} {xs : List Value} (h : w.ownsRow b e size v n xs) : w.ownsRow 0 e size v n xs := by
  obtain ⟨h1, h2 | ⟨g, cap, cur, rfl, _, r⟩⟩ := h
  · exact ⟨h1, .inl h2⟩
  · exact ⟨h1, .inr ⟨g, cap, cur, rfl, Nat.zero_le _, r⟩⟩

theorem fresh_of {w w' : World} {e size n : Nat} {v : Value} {xs : List Value} (h : w'.ownsRow w.heap.size e size v n xs) : ∀ i, v.ownBlock = some i → w.heap.size ≤ i := fun i hi => (h.lt i hi).1

theorem row_c {w : World} {R : Ending → World → Prop} {r : List Int} {f : Nat} {args : Array Value}
    (h : Calls Try.prog f args w fun e w' => ∃ v0_ : Value, e = .returned (v0_) ∧ Kd.R (Kd.int .u8) 5 w' w.heap.size (fun _ => True) v0_ r ∧ Below w.heap.size w w') :
    Calls Try.prog f args w fun e w' => ∃ A c, e = .returned (.slice A r.length c) ∧ w'.ownsRow 0 5 1 (.slice A r.length c) r.length (r.map (.int .u8 ·)) ∧ Kp0 w w' ∧ (∀ i, (Value.slice A r.length c).ownBlock = some i → w.heap.size ≤ i) := by
  refine h.mono ?_
  rintro e w' ⟨v, rfl, hR, hB⟩
  have o := Kd.own_of_R hR
  have o' : w'.ownsRow w.heap.size 5 1 v r.length (r.map (.int .u8 ·)) := by simpa [encs] using o
  rcases own_shape o' with ⟨rfl, hn, _⟩ | ⟨g, cap, rfl, _⟩
  · exact ⟨none, 0, by rw [hn], by rw [hn] at o' ⊢; exact own_zero o', Kp.of_below hB, by simp [Value.ownBlock]⟩
  · exact ⟨some ⟨g, 0, none⟩, cap, rfl, own_zero o', Kp.of_below hB, fresh_of o'⟩

theorem numb_c (n : Int) (r : List Int) (w : World) (h : code_Number.f 10 n = some r) :
    Calls Try.prog 17 #[.int .i64 n] w fun e w' => ∃ A c, e = .returned (.slice A r.length c) ∧ w'.ownsRow 0 5 1 (.slice A r.length c) r.length (r.map (.int .u8 ·)) ∧ Kp0 w w' ∧ (∀ i, (Value.slice A r.length c).ownBlock = some i → w.heap.size ≤ i) :=
  row_c (R := fun _ _ => True) (code_Number.calls 10 n r w h)
theorem textb_c (s : ByteArray) (r : List Int) (w : World) (h : code_Text.f 10 s = some r) :
    Calls Try.prog 19 #[.string s] w fun e w' => ∃ A c, e = .returned (.slice A r.length c) ∧ w'.ownsRow 0 5 1 (.slice A r.length c) r.length (r.map (.int .u8 ·)) ∧ Kp0 w w' ∧ (∀ i, (Value.slice A r.length c).ownBlock = some i → w.heap.size ≤ i) :=
  row_c (R := fun _ _ => True) (code_Text.calls 10 s r w h)

/-- The bytes of a number, and how many. -/
theorem l0_len (k : Nat) : ∀ (K : Nat) (n : Int) (l : List Int), 0 ≤ n → n < 128 ^ (k + 1) → (k = 0 ∨ 128 ^ k ≤ n) → k ≤ 4 → l.length + k ≤ 8 → k < K →
    ∃ r, code_Number.l0 K n l = some r ∧ r.length = l.length + k + 1 := by
  induction k with
  | zero =>
    intro K n l h0 hn _ _ hl hk
    obtain ⟨K, rfl⟩ : ∃ m, K = m + 1 := ⟨K - 1, by omega⟩
    simp only [code_Number.l0]
    have h128 : ¬ n ≥ 128 := by simp at hn; omega
    have hlen : l.length < 140737488355328 := by omega
    simp only [h128, hlen, if_true, if_false]
    exact ⟨_, rfl, by simp⟩
  | succ d ih =>
    intro K n l h0 hn hge hd hl hk
    obtain ⟨K, rfl⟩ : ∃ m, K = m + 1 := ⟨K - 1, by omega⟩
    simp only [code_Number.l0]
    have hge' := hge.resolve_left (by omega)
    have hp : (128 : Int) ^ (d + 1) = 128 ^ d * 128 := Int.pow_succ _ _
    have hp1 : (0 : Int) < 128 ^ d := Int.pow_pos (by decide)
    have h : n ≥ 128 := by omega
    have hlen : l.length < 140737488355328 := by omega
    simp only [h, hlen, if_true]
    have e : Int.tdiv n 128 = n / 128 := Int.tdiv_eq_ediv_of_nonneg h0
    have hb : n < 128 * 128 ^ (d + 1) := by rw [Int.pow_succ] at hn; omega
    have h128 : (128 : Int) ^ (d + 1) ≤ 34359738368 := by
      have : d = 0 ∨ d = 1 ∨ d = 2 ∨ d = 3 := by omega
      rcases this with rfl | rfl | rfl | rfl <;> decide
    have ew : wrap64 (Int.tdiv n 128) = n / 128 := by rw [e]; unfold wrap64; omega
    rw [ew]
    obtain ⟨r, h1, h2⟩ := ih K (n / 128) (l ++ [Go.bits .or .u8 ((Int.tmod n 128) % 256) 128]) (by omega) (by omega) (by omega) (by omega) (by simp; omega) (by omega)
    exact ⟨r, h1, by simp at h2; omega⟩

theorem f_len (n : Int) (k : Nat) (h0 : 0 ≤ n) (hn : n < 128 ^ (k + 1)) (hg : k = 0 ∨ 128 ^ k ≤ n) (hk : k ≤ 4) (hm : n ≤ 34359738367) : ∃ r, code_Number.f 10 n = some r ∧ r.length = k + 1 := by
  obtain ⟨r, h1, h2⟩ := l0_len k 9 n [] h0 hn hg hk (by simp; omega) (by omega)
  refine ⟨r, ?_, by simpa using h2⟩
  rw [code_Number.f, if_neg (by omega), decide_eq_false (by omega)]
  simp only [code_Number.j0]
  exact h1

theorem mkStr_size (l : List Int) : (mkStr l).size = l.length := by
  have : ∀ (l : List Int) (a : ByteArray), (l.foldl (fun r n => r.push (UInt8.ofNat n.toNat)) a).size = a.size + l.length := by
    intro l
    induction l with
    | nil => intro a; rfl
    | cons x l ih => intro a; rw [List.foldl_cons, ih, ByteArray.size_push, List.length_cons]; omega
  have h := this l ByteArray.empty
  simpa [mkStr] using h

set_option maxRecDepth 100000 in
theorem mk_c (m : Int) (k : Nat) (hk : m = k) (h : k ≤ 1000) (w : World) :
    ∃ w', (Instr.makeSlice 23 (.int .i64 m) (.int .i64 m)).run Try.prog w = .ok (.slice (some ⟨w.heap.size, 0, none⟩) k k) w' ∧
      (convert 23 9 (.slice (some ⟨w.heap.size, 0, none⟩) k k)).run Try.prog w' = .ok (.string (mkStr (List.replicate k 0))) w' ∧ Kp0 w w' := by
  subst hk
  obtain ⟨i0, hi, hzz⟩ := Option.map_eq_some_iff.1 info5
  simp only [Prod.mk.injEq] at hzz
  obtain ⟨hz0, hz1, hz2⟩ := hzz
  have hr := run_make (P := Try.prog) w 23 5 i0 (.int .u8 0) rfl hi hz0 .i64 .i64 (k : Int) k (by omega) (by omega) (by rw [hz2]; omega) (by omega)
  simp only [Int.toNat_natCast, hz1, Nat.mul_one] at hr
  refine ⟨_, hr, ?_, (Kp.refl _ _).alloc _⟩
  rw [run_convert_bytes_string _ 23 9 5 _ k k rfl rfl rfl]
  refine conv_str (ns := List.replicate k 0) ?_ (by simp)
  have := Vw.of_blk (blk_new (W := w) (madeCells (Value.int .u8 0).cells k) 5 rfl)
  have e : (madeCells (Value.int .u8 0).cells k).toList = (List.replicate k (0 : Int)).map (.int .u8 ·) := by
    apply List.ext_getElem
    · simp [madeCells]
    · intro i h1 h2
      simp [madeCells, Value.cells, Nat.mod_one]
  rwa [e] at this

theorem text_long (s : ByteArray) (h : 200 < s.size) : code_Text.f 10 s = some [] := by rw [code_Text.f, if_pos (by omega)]
theorem text_200 (s : ByteArray) (h : s.size = 200) : ∃ r, code_Text.f 10 s = some r ∧ (r.length : Int) = 202 := by
  obtain ⟨r, h1, h2⟩ := f_len 200 1 (by omega) (by rw [show (128 : Int) ^ (1 + 1) = 16384 from rfl]; omega) (.inr (by rw [show (128 : Int) ^ 1 = 128 from rfl]; omega)) (by omega) (by omega)
  refine ⟨r ++ bytesOf s, ?_, by rw [List.length_append, bytesOf_length, h2, h]; rfl⟩
  have e : ((s.size : Nat) : Int) = 200 := by omega
  rw [code_Text.f, if_neg (by omega), e, h1]
  simp [h, h2]

theorem bits_hi : ∀ v : Fin 256, 128 ≤ Go.bits .or .u8 (v.val : Int) 128 ∧ Go.bits .or .u8 (v.val : Int) 128 ≤ 255 := by decide +kernel

theorem Br.kp0 {w w' : World} {a : Option Addr} {cap : Nat} {bs : List Int} (h : Br w a cap bs) (k : Kp0 w w') : Br w' a cap bs := by
  obtain ⟨h | ⟨B, off, rfl, h1, h2⟩, h3⟩ := h
  · exact ⟨.inl h, h3⟩
  · exact ⟨.inr ⟨B, off, rfl, h1.kp0 k h2, Nat.lt_of_lt_of_le h2 k.size⟩, h3⟩

/-- A row of the table: its bytes, and what a reader says of them. -/
def TabRow (w : World) (T i : Nat) : Prop :=
  ∃ a cap bs m rest ok, w.cell? ⟨T, i * 3, none⟩ = some (.slice a (List.length bs) cap) ∧ w.cell? ⟨T, i * 3 + 1, none⟩ = some (.int .i64 m) ∧ w.cell? ⟨T, i * 3 + 2, none⟩ = some (.bool ok) ∧
    Br w a cap bs ∧ List.length bs ≤ 10 ∧ numR bs false = (m, rest, !ok) ∧ (ok = false → m = 0 ∧ rest = [])

theorem br_blk {w : World} {b k : Nat} {cs : Array Value} {bs : List Int} (hb : Blk w b cs 5) (h : cs.toList = bs.map (.int .u8 ·)) (hr : ∀ c ∈ bs, 0 ≤ c ∧ c ≤ 255) : Br w (some ⟨b, 0, none⟩) k bs :=
  ⟨.inr ⟨b, 0, rfl, by have := Vw.of_blk (show w.heap[b]? = some (.cells cs 5 (0, 0)) from hb); rwa [h] at this, hb.lt⟩, hr⟩

theorem rt8 {v1 : Int} (h0 : 0 ≤ v1) (h1 : v1 ≤ 255) : numR [bits BinOp.or IntKind.u8 v1 128, 128, 0] false = (0, [], !false) := by
  have hor := bits_hi ⟨v1.toNat, by omega⟩
  simp only [show ((v1.toNat : Nat) : Int) = v1 from Int.toNat_of_nonneg h0] at hor
  simp [numR, nb, hor.1]
theorem rt9 {v1 : Int} (h0 : 0 ≤ v1) (h1 : v1 ≤ 255) : numR [v1 % 128, 9] false = (v1 % 128, [9], !true) := by
  have h2 : ¬ (128 ≤ v1 % 128) := by omega
  have h3 : v1 % 128 % 128 = v1 % 128 := by omega
  simp [numR, nb, h2, h3]

theorem numbad_c (g : Nat) (w : World) (h : RrAt w g 112 [] true) :
    Calls Try.prog 27 #[.pointer (some ⟨g, 0, none⟩)] w fun e w' => e = .returned (.int .i64 0) ∧ RrAt w' g 112 [] true ∧ Kp (· = g) w w' := number_c g [] true w h
theorem textbad_c (g : Nat) (w : World) (h : RrAt w g 112 [] true) :
    Calls Try.prog 29 #[.pointer (some ⟨g, 0, none⟩)] w fun e w' => e = .returned (.string { data := #[] }) ∧ RrAt w' g 112 [] true ∧ Kp (· = g) w w' := text_c g [] true w h
theorem textnone_c (g : Nat) (w : World) (h : RrAt w g 112 [3, 97, 98] false) :
    Calls Try.prog 29 #[.pointer (some ⟨g, 0, none⟩)] w fun e w' => e = .returned (.string { data := #[] }) ∧ RrAt w' g 112 [] true ∧ Kp (· = g) w w' := by
  have e : txtR [3, 97, 98] false = ({ data := #[] }, [], true) := by
    have h1 : numR [3, 97, 98] false = (3, [97, 98], false) := by decide
    simp [txtR, h1]
    rfl
  have := text_c g [3, 97, 98] false w h
  rw [e] at this
  exact this
theorem wakes3_c (w : World) : Calls Try.prog 21 #[] w fun e w' => e = .returned (.bool true) ∧ Kp0 w w' := by
  have h : hostlerlaw03_wakes.f 10 = some true := by decide +kernel
  exact (hostlerlaw03_wakes.calls 10 true w h).mono fun _ _ h => ⟨h.1, Kp.of_below h.2⟩

set_option maxRecDepth 100000 in
set_option maxHeartbeats 16000000 in
theorem sizes_c (v0 v1 : Int) (w : World) (hb0 : 0 ≤ v1) (hb1 : v1 ≤ 255) :
    Calls Try.prog 5 #[.int .i64 v0, .int .u8 v1] w fun e' w' => e' = .returned (.bool true) ∧ Kp0 w w' := by
  go_enter Try.func5, Try.ntmps5
  go_wp2_with fail
  refine (within_x _ _ (by decide) (by decide) _).mono ?_
  rintro e w' ⟨n, hn0, hn1, rfl, rfl⟩
  have hq : Int.tdiv n 128 = n / 128 := Int.tdiv_eq_ediv_of_nonneg hn0
  go_wp2_with fail
  go_loopw [5, 6] (fun a x wr => ∃ (V X : Int), a = .int .i64 V ∧ x = .int .i64 X ∧ ((V = 1 ∧ X = n / 128) ∨ (V = 2 ∧ 128 ≤ n ∧ X = n / 16384) ∨ (V = 3 ∧ 16384 ≤ n ∧ X = n / 2097152) ∨ (V = 4 ∧ 2097152 ≤ n ∧ X = n / 268435456) ∨ (V = 5 ∧ 268435456 ≤ n ∧ X = n / 34359738368)) ∧ wr = w) (fun _ x _ => (intOf x).toNat)
  case atStart => exact ⟨1, _, rfl, rfl, .inl ⟨rfl, rfl⟩, rfl⟩
  case round =>
    obtain ⟨V, X, rfl, rfl, hd, rfl⟩ := hrel
    by_cases hX : 0 < X
    · have hq2 : Int.tdiv X 128 = X / 128 := Int.tdiv_eq_ediv_of_nonneg (by omega)
      have hV : 1 ≤ V ∧ V ≤ 4 := by omega
      go_wp2
      go_roundw
      case rel => exact ⟨V + 1, X / 128, by go_num, by go_num, by omega, trivial⟩
      case measure => simp [intOf]; omega
    · obtain ⟨r, hr, hl⟩ : ∃ r, code_Number.f 10 n = some r ∧ (r.length : Int) = V := by
        rcases hd with ⟨rfl, h⟩ | ⟨rfl, h1, h⟩ | ⟨rfl, h1, h⟩ | ⟨rfl, h1, h⟩ | ⟨rfl, h1, h⟩
        · obtain ⟨r, a, b⟩ := f_len n 0 hn0 (by simp; omega) (.inl rfl) (by decide) (by omega); exact ⟨r, a, by omega⟩
        · obtain ⟨r, a, b⟩ := f_len n 1 hn0 (by simp; omega) (.inr (by simp; omega)) (by decide) (by omega); exact ⟨r, a, by omega⟩
        · obtain ⟨r, a, b⟩ := f_len n 2 hn0 (by simp; omega) (.inr (by simp; omega)) (by decide) (by omega); exact ⟨r, a, by omega⟩
        · obtain ⟨r, a, b⟩ := f_len n 3 hn0 (by simp; omega) (.inr (by simp; omega)) (by decide) (by omega); exact ⟨r, a, by omega⟩
        · obtain ⟨r, a, b⟩ := f_len n 4 hn0 (by simp; omega) (.inr (by simp; omega)) (by decide) (by omega); exact ⟨r, a, by omega⟩
      subst hl
      clear hd hq
      go_wp2_with fail
      refine (numb_c n r _ hr).mono ?_
      rintro e w1 ⟨A1, c1, rfl, _, k1, _⟩
      go_wp2_with fail
      refine (numb_c (-1 - n) [] _ (by rw [code_Number.f, if_pos (by omega)]; rfl)).mono ?_
      rintro e w2 ⟨A2, c2, rfl, _, k2, _⟩
      have K2 := k1.then0 k2
      go_wp2_with fail
      refine (numb_c (34359738368 + n) [] _ (by rw [code_Number.f, if_neg (by omega), decide_eq_true (by omega)]; rfl)).mono ?_
      rintro e w3 ⟨A3, c3, rfl, _, k3, _⟩
      have K3 := K2.then0 k3
      clear k1 k2 k3 K2
      obtain ⟨k, hk⟩ : ∃ k : Nat, 201 + n % 50 = (k : Int) := ⟨(201 + n % 50).toNat, by omega⟩
      obtain ⟨w4, m1, m2, k4⟩ := mk_c (k : Int) k rfl (by omega) w3
      have K4 := K3.then0 k4
      have hs1 := text_long (mkStr (List.replicate k 0)) (by rw [mkStr_size, List.length_replicate]; omega)
      generalize mkStr (List.replicate k 0) = s1 at m2 hs1
      go_wp2_with fail
      refine (textb_c s1 [] _ hs1).mono ?_
      rintro e w5 ⟨A5, c5, rfl, _, k5, _⟩
      have K5 := K4.then0 k5
      clear m1 m2 k4 k5 K3 K4
      obtain ⟨w6, m1, m2, k6⟩ := mk_c 200 200 rfl (by decide) w5
      have K6 := K5.then0 k6
      obtain ⟨r2, hr2, hl2⟩ := text_200 (mkStr (List.replicate 200 0)) (by rw [mkStr_size, List.length_replicate])
      generalize mkStr (List.replicate 200 0) = s2 at m2 hr2
      go_wp2_with fail
      refine (textb_c s2 r2 _ hr2).mono ?_
      rintro e w7 ⟨A7, c7, rfl, _, k7, _⟩
      have K7 := K6.then0 k7
      clear m1 m2 k6 k7 K5 K6 hr2
      go_wp2_with fail
      generalize hwT : World.alloc _ _ = wT
      have KT : Kp0 w7 wT := by rw [← hwT]; (repeat (first | exact Kp.refl _ _ | apply Kp.alloc))
      obtain ⟨T, hT⟩ : ∃ T, w7.heap.size + 1 + 1 + 1 + 1 + 1 + 1 + 1 + 1 + 1 = T := ⟨_, rfl⟩
      have hor := bits_hi ⟨v1.toNat, by omega⟩
      simp only [show ((v1.toNat : Nat) : Int) = v1 from Int.toNat_of_nonneg hb0] at hor
      have htab : ∀ i, i < 10 → TabRow wT T i := by
        have hB : Blk wT T #[.slice (some ⟨w7.heap.size, 0, none⟩) 1 1, .int .i64 (0), .bool true, .slice (some ⟨w7.heap.size + 1, 0, none⟩) 1 1, .int .i64 (127), .bool true, .slice (some ⟨w7.heap.size + 1 + 1, 0, none⟩) 2 2, .int .i64 (128), .bool true, .slice (some ⟨w7.heap.size + 1 + 1 + 1, 0, none⟩) 5 5, .int .i64 (34359738367), .bool true, .slice (some ⟨w7.heap.size + 1 + 1 + 1 + 1, 0, none⟩) 2 2, .int .i64 (0), .bool false, .slice (some ⟨w7.heap.size + 1 + 1 + 1 + 1 + 1, 0, none⟩) 1 1, .int .i64 (0), .bool false, .slice none 0 0, .int .i64 (0), .bool false, .slice (some ⟨w7.heap.size + 1 + 1 + 1 + 1 + 1 + 1, 0, none⟩) 6 6, .int .i64 (0), .bool false, .slice (some ⟨w7.heap.size + 1 + 1 + 1 + 1 + 1 + 1 + 1, 0, none⟩) 3 3, .int .i64 (0), .bool false, .slice (some ⟨w7.heap.size + 1 + 1 + 1 + 1 + 1 + 1 + 1 + 1, 0, none⟩) 2 2, .int .i64 (v1 % 128), .bool true] 42 := by rw [← hwT, ← hT]; refine blk_new _ _ ?_; simp
        intro i hi
        have hi' : i = 0 ∨ i = 1 ∨ i = 2 ∨ i = 3 ∨ i = 4 ∨ i = 5 ∨ i = 6 ∨ i = 7 ∨ i = 8 ∨ i = 9 := by omega
        rcases hi' with rfl | rfl | rfl | rfl | rfl | rfl | rfl | rfl | rfl | rfl
        · exact ⟨some ⟨w7.heap.size, 0, none⟩, 1, [0], 0, [], true, hB.cell 0, hB.cell 1, hB.cell 2, br_blk (cs := #[.int .u8 0]) (by rw [← hwT]; repeat (first | (refine blk_new _ _ ?_; (simp; done)) | apply Blk.alloc)) rfl (by intro c hc; simp at hc; omega), by decide, by decide, by simp⟩
        · exact ⟨some ⟨w7.heap.size + 1, 0, none⟩, 1, [127], 127, [], true, hB.cell 3, hB.cell 4, hB.cell 5, br_blk (cs := #[.int .u8 127]) (by rw [← hwT]; repeat (first | (refine blk_new _ _ ?_; (simp; done)) | apply Blk.alloc)) rfl (by intro c hc; simp at hc; omega), by decide, by decide, by simp⟩
        · exact ⟨some ⟨w7.heap.size + 1 + 1, 0, none⟩, 2, [128, 1], 128, [], true, hB.cell 6, hB.cell 7, hB.cell 8, br_blk (cs := #[.int .u8 128, .int .u8 1]) (by rw [← hwT]; repeat (first | (refine blk_new _ _ ?_; (simp; done)) | apply Blk.alloc)) rfl (by intro c hc; simp at hc; omega), by decide, by decide, by simp⟩
        · exact ⟨some ⟨w7.heap.size + 1 + 1 + 1, 0, none⟩, 5, [255, 255, 255, 255, 127], 34359738367, [], true, hB.cell 9, hB.cell 10, hB.cell 11, br_blk (cs := #[.int .u8 255, .int .u8 255, .int .u8 255, .int .u8 255, .int .u8 127]) (by rw [← hwT]; repeat (first | (refine blk_new _ _ ?_; (simp; done)) | apply Blk.alloc)) rfl (by intro c hc; simp at hc; omega), by decide, by decide, by simp⟩
        · exact ⟨some ⟨w7.heap.size + 1 + 1 + 1 + 1, 0, none⟩, 2, [128, 0], 0, [], false, hB.cell 12, hB.cell 13, hB.cell 14, br_blk (cs := #[.int .u8 128, .int .u8 0]) (by rw [← hwT]; repeat (first | (refine blk_new _ _ ?_; (simp; done)) | apply Blk.alloc)) rfl (by intro c hc; simp at hc; omega), by decide, by decide, by simp⟩
        · exact ⟨some ⟨w7.heap.size + 1 + 1 + 1 + 1 + 1, 0, none⟩, 1, [128], 0, [], false, hB.cell 15, hB.cell 16, hB.cell 17, br_blk (cs := #[.int .u8 128]) (by rw [← hwT]; repeat (first | (refine blk_new _ _ ?_; (simp; done)) | apply Blk.alloc)) rfl (by intro c hc; simp at hc; omega), by decide, by decide, by simp⟩
        · exact ⟨none, 0, [], 0, [], false, hB.cell 18, hB.cell 19, hB.cell 20, ⟨.inl ⟨rfl, rfl, rfl⟩, by simp⟩, by decide, by decide, by simp⟩
        · exact ⟨some ⟨w7.heap.size + 1 + 1 + 1 + 1 + 1 + 1, 0, none⟩, 6, [255, 255, 255, 255, 255, 1], 0, [], false, hB.cell 21, hB.cell 22, hB.cell 23, br_blk (cs := #[.int .u8 255, .int .u8 255, .int .u8 255, .int .u8 255, .int .u8 255, .int .u8 1]) (by rw [← hwT]; repeat (first | (refine blk_new _ _ ?_; (simp; done)) | apply Blk.alloc)) rfl (by intro c hc; simp at hc; omega), by decide, by decide, by simp⟩
        · exact ⟨some ⟨w7.heap.size + 1 + 1 + 1 + 1 + 1 + 1 + 1, 0, none⟩, 3, [bits BinOp.or IntKind.u8 v1 128, 128, 0], 0, [], false, hB.cell 24, hB.cell 25, hB.cell 26, br_blk (cs := #[.int .u8 (bits BinOp.or IntKind.u8 v1 128), .int .u8 128, .int .u8 0]) (by rw [← hwT]; repeat (first | (refine blk_new _ _ ?_; (simp; done)) | apply Blk.alloc)) rfl (by intro c hc; simp at hc; omega), (by show (3 : Nat) ≤ 10; decide), rt8 hb0 hb1, by simp⟩
        · exact ⟨some ⟨w7.heap.size + 1 + 1 + 1 + 1 + 1 + 1 + 1 + 1, 0, none⟩, 2, [v1 % 128, 9], v1 % 128, [9], true, hB.cell 27, hB.cell 28, hB.cell 29, br_blk (cs := #[.int .u8 (v1 % 128), .int .u8 9]) (by rw [← hwT]; repeat (first | (refine blk_new _ _ ?_; (simp; done)) | apply Blk.alloc)) rfl (by intro c hc; simp at hc; omega), (by show (2 : Nat) ≤ 10; decide), rt9 hb0 hb1, by simp⟩
      rw [hT]
      have KW := K7.then0 KT
      clear hwT KT K7 hor
      go_loopw [85] (fun i wr => ∃ j : Nat, j ≤ 10 ∧ i = .int .i64 j ∧ Kp0 wT wr) (fun i _ => (10 - intOf i).toNat)
      case atStart => exact ⟨0, by decide, rfl, Kp.refl _ _⟩
      case round =>
        obtain ⟨j, hj, rfl, kr⟩ := hrel
        by_cases hj9 : j < 10
        · obtain ⟨a, cap, bs, m, rest, ok, t0, t1, t2, hbr, hbl, hnum, hok⟩ := htab j hj9
          have hTl : T < wT.heap.size := World.block_lt_of_cell? wT ⟨T, _, none⟩ t0
          have u0 := (kr.below0.cell (p := ⟨T, _, none⟩) hTl).trans t0
          have u1 := (kr.below0.cell (p := ⟨T, _, none⟩) hTl).trans t1
          have u2 := (kr.below0.cell (p := ⟨T, _, none⟩) hTl).trans t2
          have hbr' := hbr.kp0 kr
          clear t0 t1 t2 hbr
          cases ok
          · obtain ⟨rfl, rfl⟩ := hok rfl
            clear hok
            go_wp2_with fail
            refine (new_c a cap bs _ (hbr'.kp0 ((Kp.refl _ _).alloc _)) (by omega)).mono ?_
            rintro e w8 ⟨g, rfl, hg, hR, k8⟩
            have hx8 : Blk w8 wr.heap.size #[.slice a bs.length cap, .int .i64 0, .bool false] 42 := (show Blk (wr.alloc (.cells #[.slice a bs.length cap, .int .i64 0, .bool false] 42)) wr.heap.size _ 42 from blk_new _ _ rfl).kp0 k8
            have hgx : wr.heap.size ≠ g := by intro h; simp at hg; omega
            have hgw : wr.heap.size ≤ g := by simp at hg; omega
            have K8 : Kp0 wr w8 := ((Kp.refl _ _).alloc _).then0 k8
            have cN : Calls Try.prog 27 #[.pointer (some ⟨g, 0, none⟩)] w8.drew fun e w' => e = .returned (.int .i64 0) ∧ RrAt w' g 112 [] true ∧ Kp (· = g) w8.drew w' := by
              have := number_c g bs false w8.drew hR; rw [hnum] at this; exact this
            have hx8' : Blk w8.drew wr.heap.size #[.slice a bs.length cap, .int .i64 0, .bool false] 42 := hx8
            have d1 := hx8.cell 1
            have d2 := hx8.cell 2
            simp at d1 d2
            clear u0 u1 u2 hbr' k8 hR hnum
            go_upto_region 13 with fail
            go_cut [107, 85] from 85 to 125 (fun s7 s5 wx => s7 = .bool false ∧ s5 = .int .i64 j ∧ RrAt wx g 112 [] true ∧ Kp (· = g) w8.drew wx)
            case first =>
              go_region_with (first | (go_at_call 27; go_fit cN; rintro e w9 ⟨rfl, hR9, k9⟩; have hx9 := hx8'.kp k9 hgx; have e1 := hx9.cell 1; have e2 := hx9.cell 2; simp at e1 e2) | (go_at_call 33; go_fit (bad_c g [] true _ hR9); rintro e w' ⟨rfl, rfl⟩))
              all_goals
                go_wp2_with fail
                go_meet
                exact ⟨rfl, rfl, hR9, k9⟩
            case rest =>
              obtain ⟨rfl, rfl, hRx, kx⟩ := hcut
              have hx9 := hx8'.kp kx hgx
              have e2 := hx9.cell 2
              simp at e2
              have K9 : Kp0 wr wc := K8.drew.trans kx (fun i hi h => by subst h; omega)
              clear d1 d2 cN hx8 hx8' kx hx9
              go_wp2_with fail
              refine (numbad_c g _ hRx).mono ?_
              rintro e w9 ⟨rfl, hR9, k9⟩
              go_wp2_with fail
              refine (textbad_c g _ hR9).mono ?_
              rintro e w10 ⟨rfl, hR10, k10⟩
              go_wp2_with fail
              refine (done_c g [] true _ hR10).mono ?_
              rintro e w' ⟨rfl, rfl⟩
              have K10 : Kp0 wr w10 := (K9.trans k9 (fun i hi h => by subst h; omega)).trans k10 (fun i hi h => by subst h; omega)
              go_wp2
              go_roundw
              case rel => exact ⟨j + 1, by omega, by go_num, kr.then0 K10⟩
              case measure => simp [intOf]; omega
          · clear hok
            go_wp2_with fail
            refine (new_c a cap bs _ (hbr'.kp0 ((Kp.refl _ _).alloc _)) (by omega)).mono ?_
            rintro e w8 ⟨g, rfl, hg, hR, k8⟩
            have hx8 : Blk w8 wr.heap.size #[.slice a bs.length cap, .int .i64 m, .bool true] 42 := (show Blk (wr.alloc (.cells #[.slice a bs.length cap, .int .i64 m, .bool true] 42)) wr.heap.size _ 42 from blk_new _ _ rfl).kp0 k8
            have hgx : wr.heap.size ≠ g := by intro h; simp at hg; omega
            have hgw : wr.heap.size ≤ g := by simp at hg; omega
            have K8 : Kp0 wr w8 := ((Kp.refl _ _).alloc _).then0 k8
            have cN : Calls Try.prog 27 #[.pointer (some ⟨g, 0, none⟩)] w8.drew fun e w' => e = .returned (.int .i64 m) ∧ RrAt w' g 112 rest false ∧ Kp (· = g) w8.drew w' := by
              have := number_c g bs false w8.drew hR; rw [hnum] at this; exact this
            have hx8' : Blk w8.drew wr.heap.size #[.slice a bs.length cap, .int .i64 m, .bool true] 42 := hx8
            have d1 := hx8.cell 1
            have d2 := hx8.cell 2
            simp at d1 d2
            clear u0 u1 u2 hbr' k8 hR hnum
            go_upto_region 13 with fail
            go_cut [107, 85] from 85 to 125 (fun s7 s5 wx => s7 = .bool false ∧ s5 = .int .i64 j ∧ RrAt wx g 112 rest false ∧ Kp (· = g) w8.drew wx)
            case first =>
              go_region_with (first | (go_at_call 27; go_fit cN; rintro e w9 ⟨rfl, hR9, k9⟩; have hx9 := hx8'.kp k9 hgx; have e1 := hx9.cell 1; have e2 := hx9.cell 2; simp at e1 e2) | (go_at_call 33; go_fit (bad_c g rest false _ hR9); rintro e w' ⟨rfl, rfl⟩))
              all_goals
                go_wp2_with fail
                go_meet
                exact ⟨rfl, rfl, hR9, k9⟩
            case rest =>
              obtain ⟨rfl, rfl, hRx, kx⟩ := hcut
              have hx9 := hx8'.kp kx hgx
              have e2 := hx9.cell 2
              simp at e2
              have K9 : Kp0 wr wc := K8.drew.trans kx (fun i hi h => by subst h; omega)
              clear d1 d2 cN hx8 hx8' kx hx9
              go_wp2
              go_roundw
              case rel => exact ⟨j + 1, by omega, by go_num, kr.then0 K9⟩
              case measure => simp [intOf]; omega
        · clear htab
          have hj10 : j = 10 := by omega
          subst hj10
          go_wp2_with fail
          refine (new_c (some ⟨wr.heap.size, 0, none⟩) 3 [3, 97, 98] _ (br_blk (cs := #[.int .u8 3, .int .u8 97, .int .u8 98]) (blk_new _ _ rfl) rfl (by intro c hc; simp at hc; omega)) (by decide)).mono ?_
          rintro e w8 ⟨g, rfl, hg, hR, k8⟩
          have K8 : Kp0 wr w8 := ((Kp.refl _ _).alloc _).then0 k8
          have hgw : wr.heap.size ≤ g := by simp at hg; omega
          go_wp2_with fail
          refine (textnone_c g _ hR).mono ?_
          rintro e w9 ⟨rfl, hR9, k9⟩
          have K9 : Kp0 wr w9 := K8.trans k9 (fun i hi h => by subst h; omega)
          go_wp2_with fail
          refine (bad_c g [] true _ hR9).mono ?_
          rintro e w' ⟨rfl, rfl⟩
          go_wp2_with fail
          refine (wakes3_c _).mono ?_
          rintro e w10 ⟨rfl, k10⟩
          go_wp2
          go_ret
          exact ⟨rfl, ((KW.then0 kr).then0 K9).then0 k10⟩

theorem sizes_w (v0 v1 : Int) (w : World) (h0 : (Lit.int .i64 v0).wf = true) (h1 : (Lit.int .u8 v1).wf = true) :
    Calls Try.prog 5 #[.int .i64 v0, .int .u8 v1] w fun e w' => e = .returned (.bool true) ∧ Below w.heap.size w w' := by
  have hb : 0 ≤ v1 ∧ v1 ≤ 255 := by
    simp [Lit.wf, IntKind.min, IntKind.max, IntKind.bits, IntKind.signed] at h1
    omega
  exact (sizes_c v0 v1 w hb.1 hb.2).mono fun _ _ h => ⟨h.1, h.2.below0⟩
end Go.Proofs.Ytnlkkcpcjeeplaa
