/- NeedEdges: sums of needs, parts that are none; the walk. -/
import Derived.Test.YtgilnhagddihcaaNd
import Derived.Test.YtgilnhagddihcaaAp
import Derived.Deep.CutRange
set_option linter.unusedVariables false
set_option linter.unusedSimpArgs false
namespace Go.Proofs.Ytgilnhagddihcaa
open Go.RowKit

theorem part_wn {b n : Nat} {M : Int} (h : WN b n) (h1 : (n : Int) ≤ M) (hM : M < 9007199254740992) : part b M = true :=
  (part_iff (by omega) hM).2 ⟨n, by omega, h1, h.whole⟩

theorem part_no {b a n j k : Nat} {M : Int} (h0 : 0 ≤ M) (hM : M < 9007199254740992) (hj : 0 < j) (ha : 0 < a) (ha2 : a < 2 ^ j) (h : Num b (((n * 2 ^ j + a : Nat) : Int) * ((2 ^ k : Nat) : Int)) (j + k)) : part b M = false := by
  cases hp : part b M with
  | false => rfl
  | true =>
    obtain ⟨m, _, _, hw⟩ := (part_iff h0 hM).1 hp
    exact (not_whole hj ha ha2 h m hw).elim

theorem right_wn {r i m n : Nat} (hr : WN r m) (hi : WN i n) (h1 : m ≤ 1000) (h2 : n ≤ 1000) : rightB r i = decide (0 < m + n) := by
  unfold rightB within2
  have e1 := eq_of_order (hr.whole.order whole_zero)
  have e2 := eq_of_order (hi.whole.order whole_zero)
  rw [part_wn hr (by omega) (by decide), part_wn hi (by omega) (by decide), e1, e2]
  rw [Bool.eq_iff_iff]
  simp
  omega

theorem toI_wn {b n : Nat} (h : WN b n) (h1 : n < 9007199254740992) : toI b = n := whole_toI h.whole (by omega) (by omega)

theorem le_wn {b c n m : Nat} (h : WN b n) (h' : WN c m) : leB b c = decide (n ≤ m) := by
  rw [le_of_order (h.whole.order h'.whole)]
  rw [decide_eq_decide]
  omega

def sumTo (f : Nat → Nat) : Nat → Nat
  | 0 => 0
  | n + 1 => sumTo f n + f n

theorem sumTo_le (f : Nat → Nat) (M : Nat) : ∀ n, (∀ j, j < n → f j ≤ M) → sumTo f n ≤ n * M
  | 0, _ => by simp [sumTo]
  | n + 1, h => by
    have h1 := sumTo_le f M n (fun j hj => h j (by omega))
    have h2 := h n (by omega)
    rw [sumTo, Nat.succ_mul]
    omega

theorem run_csum {R I r i X Y x y : Nat} (hR : WN R X) (hI : WN I Y) (hr : WN r x) (hi : WN i y) (h1 : X + x < 2 ^ 53) (h2 : Y + y < 2 ^ 53) (t : TypeId) :
    ∃ R' I', WN R' (X + x) ∧ WN I' (Y + y) ∧ ∀ w : World, (binOp .add t (.complex .f64 R I) (.complex .f64 r i)).run Try.prog w = .ok (.complex .f64 R' I') w := by
  obtain ⟨R', e1, w1⟩ := add_wn hR hr h1
  obtain ⟨I', e2, w2⟩ := add_wn hI hi h2
  refine ⟨R', I', w1, w2, fun w => run_complex_sum w .add (.inl rfl) t .f64 R I r i R' I' ?_⟩
  unfold cSumBits floatBits
  show (Ieee.double.add R r).bind _ = _
  rw [e1]
  show (Ieee.double.add I i).bind _ = _
  rw [e2]
  rfl

set_option maxRecDepth 100000 in
theorem sum_c (a : Option Addr) (n cap : Nat) (C N : Nat → Nat × Nat) (hn : n ≤ 1000) (w : World)
    (h : ∀ j : Nat, j < n → ∃ b off, a = some ⟨b, off, none⟩ ∧ w.cell? ⟨b, off + j, none⟩ = some (.complex .f64 (C j).1 (C j).2) ∧ WN (C j).1 (N j).1 ∧ WN (C j).2 (N j).2 ∧ (N j).1 ≤ 100000 ∧ (N j).2 ≤ 100000) :
    Calls Try.prog 33 #[.slice a n cap] w fun e w' => ∃ R I, e = .returned (.complex .f64 R I) ∧ WN R (sumTo (fun j => (N j).1) n) ∧ WN I (sumTo (fun j => (N j).2) n) ∧ w = w' := by
  go_enter Try.func33, Try.ntmps33
  go_wp2_with fail
  go_loopw [3, 8] (fun s3 s8 wr => ∃ (k R I : Nat), k ≤ n ∧ s8 = .int .i64 k ∧ s3 = .complex .f64 R I ∧ WN R (sumTo (fun j => (N j).1) k) ∧ WN I (sumTo (fun j => (N j).2) k) ∧ wr = w) (fun _ s8 _ => ((n : Int) - intOf s8).toNat)
  case atStart => exact ⟨0, 0, 0, by omega, rfl, rfl, wn_zero, wn_zero, rfl⟩
  case round =>
    obtain ⟨k, R, I, hk, rfl, rfl, hR, hI, rfl⟩ := hrel
    by_cases hkn : k < n
    · obtain ⟨b, off, rfl, hc, g1, g2, g3, g4⟩ := h k hkn
      have b1 := sumTo_le (fun j => (N j).1) 100000 k (fun j hj => by obtain ⟨_, _, _, _, _, _, q, _⟩ := h j (by omega); exact q)
      have b2 := sumTo_le (fun j => (N j).2) 100000 k (fun j hj => by obtain ⟨_, _, _, _, _, _, _, q⟩ := h j (by omega); exact q)
      obtain ⟨R', I', w1, w2, hrun⟩ := run_csum hR hI g1 g2 (by omega) (by omega) 28
      have hrun' := hrun wr
      clear hrun h b1 b2
      go_wp2
      go_roundw
      case rel => exact ⟨k + 1, R', I', by omega, by go_num, rfl, w1, w2, by first | rfl | trivial⟩
      case measure => simp [intOf]; omega
    · have : k = n := by omega
      subst this
      clear h
      go_wp2
      go_ret
      exact ⟨R, I, rfl, hR, hI, rfl⟩

theorem wn_one : WN 4607182418800017408 1 := ⟨52, by decide +kernel⟩

theorem right_no1 {r i : Nat} (h : part r 1000 = false) : rightB r i = false := by unfold rightB within2; rw [h]; simp
theorem right_no2 {r i : Nat} (h : part i 1000 = false) : rightB r i = false := by unfold rightB within2; rw [h]; simp
theorem room_no1 {r i : Nat} (h : part r 100000 = false) : within2 r i 100000 = false := by unfold within2; rw [h]; simp
theorem room_no2 {r i : Nat} (h : part i 100000 = false) : within2 r i 100000 = false := by unfold within2; rw [h]; simp
theorem room_wn {r i m n : Nat} (hr : WN r m) (hi : WN i n) (h1 : m ≤ 100000) (h2 : n ≤ 100000) : within2 r i 100000 = true := by
  unfold within2
  rw [part_wn hr (by omega) (by decide), part_wn hi (by omega) (by decide)]
  rfl
theorem of_in {m n : Int} (h : 0 ≤ m ∧ m ≤ 100000 ∧ 0 ≤ n ∧ n ≤ 100000) : ofR m n = floatOfInt .f64 m ∧ ofI m n = floatOfInt .f64 n := by
  unfold ofR ofI
  rw [if_pos h, if_pos h]
  exact ⟨rfl, rfl⟩
theorem of_out {m n : Int} (h : ¬ (0 ≤ m ∧ m ≤ 100000 ∧ 0 ≤ n ∧ n ≤ 100000)) : ofR m n = 0 ∧ ofI m n = 0 := by
  unfold ofR ofI
  rw [if_neg h, if_neg h]
  exact ⟨rfl, rfl⟩

set_option maxRecDepth 100000 in
set_option maxHeartbeats 4000000 in
theorem needEdges_c (a0 b0 : Int) (w : World) :
    Calls Try.prog 7 #[.int .i64 a0, .int .i64 b0] w fun e w' => e = .returned (.bool true) ∧ Below w.heap.size w w' := by
  go_enter Try.func7, Try.ntmps7
  go_wp2_with fail
  refine (within_x a0 1001 (by decide) (by decide) _).mono ?_
  rintro e w' ⟨a', ha0, ha1, rfl, rfl⟩
  obtain ⟨a, rfl⟩ := Int.eq_ofNat_of_zero_le ha0
  go_wp2_with fail
  refine (within_x b0 100001 (by decide) (by decide) _).mono ?_
  rintro e w' ⟨b', hb0, hb1, rfl, rfl⟩
  obtain ⟨b, rfl⟩ := Int.eq_ofNat_of_zero_le hb0
  have wx := wn_fl a (by omega)
  have wy := wn_fl b (by omega)
  have of1 := of_in (m := b) (n := a) (by omega)
  have of2 := of_out (m := -1) (n := (a : Int)) (by omega)
  have of3 := of_out (m := (a : Int)) (n := 100001) (by omega)
  have of4 := of_in (m := 0) (n := 1) (by decide)
  have w00 := wn_fl 0 (by decide)
  have w01 := wn_fl 1 (by decide)
  obtain ⟨r1, k1, ad1, nm1⟩ := add_part (c := 4602678819172646912) (a := 1) (j := 1) (p := 53) wx (by decide) (by decide) (by decide) (by decide) (by decide +kernel) (by omega)
  obtain ⟨r2, k2, ad2, nm2⟩ := add_part (c := 4598175219545276416) (a := 1) (j := 2) (p := 54) wx (by decide) (by decide) (by decide) (by decide) (by decide +kernel) (by omega)
  have p1 := part_no (M := 1000) (by decide) (by decide) (by decide) (by decide) (by decide) nm1
  have p2 := part_no (M := 1000) (by decide) (by decide) (by decide) (by decide) (by decide) nm2
  obtain ⟨q1, q2, wq1, wq2, csum⟩ := run_csum wy wx wn_one wn_zero (by omega) (by omega) 28
  have add1 := run_float_arith (P := Try.prog) w .add 35 .f64 (floatOfInt .f64 (a : Int)) 4602678819172646912 r1 ad1
  have add2 := run_float_arith (P := Try.prog) w .add 35 .f64 (floatOfInt .f64 (a : Int)) 4598175219545276416 r2 ad2
  have add3 := csum w
  clear csum ad1 ad2 nm1 nm2
  have e1 := right_wn wx wn_zero (by omega) (by decide)
  have e2 := right_wn wn_zero wx (by decide) (by omega)
  have e3 := right_no2 (r := floatOfInt .f64 (a : Int)) (i := 4652016104934211584) (by decide +kernel)
  have e4 := right_no1 (r := 4652016104934211584) (i := floatOfInt .f64 (a : Int)) (by decide +kernel)
  have e5 := right_no2 (r := floatOfInt .f64 (a : Int)) (i := 13830554455654793216) (by decide +kernel)
  have e6 := right_no1 (i := 4607182418800017408) p1
  have e7 := right_no2 (r := 4607182418800017408) p2
  have f1 := room_wn wy wx (by omega) (by omega)
  have f2 := room_no2 (r := floatOfInt .f64 (b : Int)) (i := 4681608429603651584) (by decide +kernel)
  have f3 := room_no1 (r := 13830554455654793216) (i := floatOfInt .f64 (b : Int)) (by decide +kernel)
  have f4 := room_no2 (r := floatOfInt .f64 (b : Int)) (i := 4602678819172646912) (by decide +kernel)
  have f5 : within2 0 0 100000 = true := by decide +kernel
  have f6 : rightB 0 0 = false := by decide +kernel
  have f7 := room_no2 (r := floatOfInt .f64 (b : Int)) (i := 13830554455654793216) (by decide +kernel)
  have g1 := toI_wn wx (by omega)
  have g2 := toI_wn wy (by omega)
  have h1 : fitsB (floatOfInt .f64 (b : Int)) (floatOfInt .f64 (a : Int)) (floatOfInt .f64 (b : Int)) (floatOfInt .f64 (a : Int)) = true := by
    unfold fitsB; rw [le_wn wy wy, le_wn wx wx]; simp
  have h2 : fitsB q1 q2 (floatOfInt .f64 (b : Int)) (floatOfInt .f64 (a : Int)) = false := by
    unfold fitsB; rw [le_wn wq1 wy, decide_eq_false (by omega)]; rfl
  have h3 : ∀ R I, WN R (b + 0) → WN I (a + 1) → fitsB R I (floatOfInt .f64 (b : Int)) (floatOfInt .f64 (a : Int)) = false := by
    intro R I x y; unfold fitsB; rw [le_wn y wx]; simp
  have z0 : (FloatKind.f64.format.order 0 0 == some .eq) = true := by decide
  have hs : ∀ W : World, W.heap[w.heap.size]? = some (.cells #[.complex .f64 (floatOfInt .f64 (b : Int)) (floatOfInt .f64 (a : Int)), .complex .f64 (floatOfInt .f64 0) (floatOfInt .f64 1)] 28 (0, 0)) →
      Calls Try.prog 33 #[.slice (some ⟨w.heap.size, 0, none⟩) 2 2] W fun e w' => ∃ R I, e = .returned (.complex .f64 R I) ∧ WN R (b + 0) ∧ WN I (a + 1) ∧ W = w' := by
    intro W hW
    refine (sum_c (some ⟨w.heap.size, 0, none⟩) 2 2 (fun j => if j = 0 then (floatOfInt .f64 (b : Int), floatOfInt .f64 (a : Int)) else (floatOfInt .f64 0, floatOfInt .f64 1)) (fun j => if j = 0 then (b, a) else (0, 1)) (by decide) W ?_).mono ?_
    · intro j hj
      have hj' : j = 0 ∨ j = 1 := by omega
      refine ⟨w.heap.size, 0, rfl, ?_⟩
      rcases hj' with rfl | rfl
      · exact ⟨by simp [World.cell?, hW], wy, wx, by simp; omega, by simp; omega⟩
      · exact ⟨by simp [World.cell?, hW], w00, w01, by simp, by simp⟩
    · rintro e w' ⟨R, I, rfl, x, y, rfl⟩
      exact ⟨R, I, rfl, by simpa [sumTo] using x, by simpa [sumTo] using y, rfl⟩
  clear wx wy p1 p2 wq1 wq2 w00 w01
  obtain ⟨bb, hbb⟩ : ∃ bb : Bool, decide (0 < a) = bb := ⟨_, rfl⟩
  rw [Nat.add_zero, hbb] at e1
  rw [Nat.zero_add, hbb] at e2
  have hbc : decide ((0 : Int) < (a : Int)) = bb := by rw [← hbb, decide_eq_decide]; omega
  have tb : (bb != bb) = false := by simp
  go_wp2_with fail
  refine (right_c _ _ _).mono ?_
  rintro e w' ⟨rfl, rfl⟩
  rw [e1]
  go_wp2_with fail
  refine (right_c _ _ _).mono ?_
  rintro e w' ⟨rfl, rfl⟩
  rw [e2]
  go_wp2_with fail
  refine (right_c _ _ _).mono ?_
  rintro e w' ⟨rfl, rfl⟩
  rw [e3]
  go_wp2_with fail
  refine (right_c _ _ _).mono ?_
  rintro e w' ⟨rfl, rfl⟩
  rw [e4]
  go_wp2_with fail
  refine (right_c _ _ _).mono ?_
  rintro e w' ⟨rfl, rfl⟩
  rw [e5]
  go_wp2_with fail
  refine (right_c _ _ _).mono ?_
  rintro e w' ⟨rfl, rfl⟩
  rw [e6]
  go_wp2_with fail
  refine (right_c _ _ _).mono ?_
  rintro e w' ⟨rfl, rfl⟩
  rw [e7]
  clear e1 e2 e3 e4 e5 e6 e7 tb add1 add2
  go_wp2_with fail
  refine (room_c _ _ _).mono ?_
  rintro e w' ⟨rfl, rfl⟩
  rw [f1]
  go_wp2_with fail
  refine (room_c _ _ _).mono ?_
  rintro e w' ⟨rfl, rfl⟩
  rw [f2]
  go_wp2_with fail
  refine (room_c _ _ _).mono ?_
  rintro e w' ⟨rfl, rfl⟩
  rw [f3]
  go_wp2_with fail
  refine (room_c _ _ _).mono ?_
  rintro e w' ⟨rfl, rfl⟩
  rw [f4]
  go_wp2_with fail
  refine (room_c _ _ _).mono ?_
  rintro e w' ⟨rfl, rfl⟩
  rw [f5]
  go_wp2_with fail
  refine (right_c _ _ _).mono ?_
  rintro e w' ⟨rfl, rfl⟩
  rw [f6]
  go_wp2_with fail
  refine (of_c _ _ _).mono ?_
  rintro e w' ⟨rfl, rfl⟩
  rw [of1.1, of1.2]
  go_wp2_with fail
  refine (nparts_c _ _ _).mono ?_
  rintro e w' ⟨rfl, rfl⟩
  rw [f1, if_pos rfl, if_pos rfl, g1, g2]
  go_wp2_with fail
  refine (nparts_c _ _ _).mono ?_
  rintro e w' ⟨rfl, rfl⟩
  rw [f7, if_neg (by decide), if_neg (by decide)]
  clear f1 f2 f3 f4 f5 f6 f7 g1 g2
  go_wp2_with fail
  refine (of_c _ _ _).mono ?_
  rintro e w' ⟨rfl, rfl⟩
  rw [of2.1, of2.2]
  go_wp2_with fail
  refine (of_c _ _ _).mono ?_
  rintro e w' ⟨rfl, rfl⟩
  rw [of3.1, of3.2]
  go_wp2_with fail
  refine (fits_c _ _ _ _ _).mono ?_
  rintro e w' ⟨rfl, rfl⟩
  rw [h1]
  go_wp2_with fail
  refine (fits_c _ _ _ _ _).mono ?_
  rintro e w' ⟨rfl, rfl⟩
  rw [h2]
  go_wp2_with fail
  refine (of_c _ _ _).mono ?_
  rintro e w' ⟨rfl, rfl⟩
  rw [of4.1, of4.2]
  go_wp2_with fail
  refine (hs _ (blk_new _ _ rfl)).mono ?_
  rintro e w' ⟨R, I, rfl, x, y, rfl⟩
  have h3' := h3 R I x y
  go_wp2_with fail
  refine (fits_c _ _ _ _ _).mono ?_
  rintro e w' ⟨rfl, rfl⟩
  rw [h3']
  go_wp2_with fail
  refine (wakes2_c _).mono ?_
  rintro e w' ⟨rfl, rfl⟩
  go_wp2
  go_ret
  exact ⟨rfl, ((Kp.refl (fun _ => False) _).alloc _).below0⟩

theorem needEdges_w (a0 b0 : Int) (w : World) (h0 : (Lit.int .i64 a0).wf = true) (h1 : (Lit.int .i64 b0).wf = true) :
    Calls Try.prog 7 #[.int .i64 a0, .int .i64 b0] w fun e w' => e = .returned (.bool true) ∧ Below w.heap.size w w' := needEdges_c a0 b0 w
end Go.Proofs.Ytgilnhagddihcaa
