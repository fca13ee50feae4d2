/- DiskFuse: the walk. -/
import Derived.Test.YtkokgbmeienokaaDx
set_option linter.unusedVariables false
set_option linter.unusedSimpArgs false
set_option linter.unnecessarySimpa false
namespace Go.Proofs.Ytkokgbmeienokaa
open Go.RowKit

theorem fd_rem {w w1 : World} {g n : Nat} {O : Nat → Prop} {d d2 : Dk} {p : ByteArray} {x : Int} (h : Fd w w1 g n O d) (hp : p.size ≤ 100) (hn : n ≤ 1000000) (he : d.rem p = (x, d2)) :
    Calls Try.prog 31 #[.pointer (some ⟨g, 0, none⟩), .string p] w1 fun e w' => e = .returned (.int .i64 x) ∧ ∃ O', Fd w w' g (n + 1) O' d2 :=
  (remove31_c g n O d p hp hn w1 h.at_).mono fun e w' D => h.did (he ▸ D)
theorem fd_fuse {w w1 : World} {g n : Nat} {O : Nat → Prop} {d : Dk} (h : Fd w w1 g n O d) (m : Nat) (hm : m ≤ 9223372036854775807) :
    Calls Try.prog 30 #[.pointer (some ⟨g, 0, none⟩), .int .i64 (m : Int)] w1 fun e w' => e = .returned (.tuple #[]) ∧ Fd w w' g n O (lt d m) := by
  have hog : w.heap.size ≤ g := by obtain ⟨bm, V, I⟩ := h.at_; exact h.new g I.og
  refine (fuse30_c g n O d m hm w1 h.at_).mono ?_
  rintro e w' ⟨rfl, h1, k⟩
  exact ⟨rfl, h1, h.new, h.kp.trans k (fun i hi e => by omega)⟩
theorem fd_own {w w1 : World} {g n : Nat} {O : Nat → Prop} {d : Dk} (h : Fd w w1 g n O d) {A : Option Addr} {c : Nat} {bs : List Int} (z : Bz w A c bs) : bs ≠ [] → ∀ b, A = some b → ¬ O b.block :=
  fun hz b hA ho => by have := bz_lt z hz b hA; have := h.new _ ho; omega

set_option maxRecDepth 100000 in
set_option maxHeartbeats 2000000 in
theorem diskFuse_c (n0 : Int) (a : Option Addr) (ca : Nat) (us : List Int) (w : World) (ha : Bz w a ca us) (la : us.length ≤ 140737488355328) (ka : us.length ≤ ca) :
    Calls Try.prog 4 #[.int .i64 n0, .slice a us.length ca] w fun e w' => e = .returned (.bool true) ∧ Kp0 w w' := by
  go_enter Try.func4, Try.ntmps4
  go_wp2_with fail
  refine (within22_x n0 12 (by omega) (by omega) w).mono ?_
  rintro e w' ⟨N, hN, rfl, rfl⟩
  go_wp2_with fail
  refine (cutNz_c a ca us w ha (by omega) ka 8 (by omega)).mono ?_
  rintro e w1 ⟨A, c, rfl, o1, k1, f1⟩
  have lb : (us.take 8).length ≤ 8 := by rw [List.length_take]; omega
  have zb := bz_own o1 rfl (fun c hc => ha.byt c (List.mem_of_mem_take hc))
  clear o1 f1 ha la ka
  generalize us.take 8 = b at zb lb ⊢
  go_wp2_with fail
  refine (new19_c 1000 w1).mono ?_
  rintro e w2 ⟨g, O, rfl, h2, hO, k2⟩
  have h2 : Fd w1 w2 g 0 O (dk0 1000) := ⟨h2, hO, k2⟩
  clear k2 hO
  go_wp2_with fail
  refine (fd_fuse h2 N (by omega)).mono ?_
  rintro e w3 ⟨rfl, h3⟩
  clear h2
  have hmul : ∀ i, i ≤ N → (i + 1) * b.length ≤ 1000 := fun i hi => Nat.le_trans (Nat.mul_le_mul (show i + 1 ≤ 12 by omega) lb) (by omega)
  have hNm : N * b.length ≤ 88 := Nat.le_trans (Nat.mul_le_mul (show N ≤ 11 by omega) lb) (by omega)
  go_wp2_with fail
  go_loopw [6] (fun s wr => ∃ (i n' : Nat) (O' : Nat → Prop), i ≤ N ∧ s = .int .i64 i ∧ Fd w1 wr g n' O' (lt (ba b i) (N - i)) ∧ n' ≤ 3 * i) (fun s _ => (N - intOf s).toNat)
  case atStart => exact ⟨0, 0, _, by omega, rfl, h3, by omega⟩
  case round =>
    obtain ⟨i, n', O', hi, rfl, h4, hn'⟩ := hrel
    have zb4 := zb.kp0 h4.kp
    by_cases hlt : i < N
    · go_wp2_with fail
      refine (fd_app h4 (p := emp) (x := 1) (by decide) (by omega) (by omega) zb4 (fd_own h4 zb) (lt_none b i _)).mono ?_
      rintro e w5 ⟨rfl, O5, h5⟩
      clear h4 zb4
      go_wp2_with fail
      refine (fd_rem h5 (p := px) (x := 3) (by decide) (by omega) (lt_rem b i _)).mono ?_
      rintro e w6 ⟨rfl, O6, h6⟩
      clear h5
      go_wp2_with fail
      refine (fd_app h6 (p := pf) (x := 0) (d2 := lt (ba b (i + 1)) (N - (i + 1))) (by decide) (by omega) (by omega) (zb.kp0 h6.kp) (fd_own h6 zb) (by rw [show N - i = (N - (i + 1)) + 1 by omega]; exact lt_app b i _ (hmul i hi))).mono ?_
      rintro e w7 ⟨rfl, O7, h7⟩
      clear h6
      go_wp2_with fail
      refine (dead28_c g _ _ _ w7 h7.at_).mono ?_
      rw [show (lt (ba b (i + 1)) (N - (i + 1))).dead = false from ba_dead b (i + 1)]
      rintro e w8 ⟨rfl, rfl⟩
      go_wp2
      go_roundw
      case rel => exact ⟨i + 1, _, O7, by omega, by go_num, h7, by omega⟩
      case measure => simp [intOf]; omega
    · obtain rfl : i = N := by omega
      rw [Nat.sub_self] at h4
      have hnn : n' ≤ 100 := by omega
      clear hn' h3
      obtain ⟨P, hP⟩ : ∃ P, i * b.length = P := ⟨_, rfl⟩
      have hm : (i : Int) * (b.length : Int) = (P : Int) := by rw [← hP]; simp
      have hu : (dd b i).used = P := (ba_used b i).trans hP
      rw [hP] at hNm
      have hPc : 0 < i → 0 < b.length → 0 < P := fun h1 h2 => by rw [← hP]; exact Nat.mul_pos h1 h2
      have hP0 : i = 0 ∨ b.length = 0 → P = 0 := fun h => by rw [← hP]; rcases h with h | h <;> rw [h] <;> simp
      have hlast := lt_last b i (hmul i (Nat.le_refl _))
      obtain ⟨d6, hd6, hF, d7, d8, h7, h8⟩ := dd_crash b i (by omega)
      have hbl := bX_len b i
      rw [hP] at hbl hF h7
      have hby : ∀ c ∈ bX b i, 0 ≤ c ∧ c ≤ 255 := fun c hc => by
        unfold bX at hc
        obtain ⟨l, hl, hcl⟩ := List.mem_flatten.1 hc
        rw [List.eq_of_mem_replicate hl] at hcl
        exact zb.byt c hcl
      have H7 := Lib.hid (h7 (by omega) (by omega))
      have H8 := Lib.hid h8
      have HF := Lib.hid hF
      have HU := Lib.hid hu
      have HPC := Lib.hid hPc
      have HP0 := Lib.hid hP0
      have HBL := Lib.hid hbl
      have HD6 := Lib.hid hd6
      clear h7 h8 hF hu hPc hP0 hbl hd6 hmul
      go_wp2_with fail
      refine (fd_app h4 (p := pf) (x := 7) (d2 := dd b i) (by decide) (by omega) (by omega) zb4 (fd_own h4 zb) hlast).mono ?_
      rintro e w5 ⟨rfl, O5, h5⟩
      clear h4 zb4 hlast
      go_wp2_with fail
      refine (dead28_c g _ _ _ w5 h5.at_).mono ?_
      rw [show (dd b i).dead = true from rfl]
      rintro e w5' ⟨rfl, rfl⟩
      have hus := used27_c g _ _ _ w5 h5.at_
      rw [HU.out] at hus
      go_wp2_with fail
      refine hus.mono ?_
      rintro e w6 ⟨rfl, k6⟩
      have h6 := h5.kp0 k6
      clear hus h5 k6
      go_wp2_with fail
      refine (fd_app h6 (p := pf) (x := 7) (d2 := dd b i) (by decide) (by omega) (by omega) (zb.kp0 h6.kp) (fd_own h6 zb) (dead_app rfl _ _)).mono ?_
      rintro e w7 ⟨rfl, O7, h7⟩
      clear h6
      go_wp2_with fail
      refine (fd_syn h7 (p := pf) (x := 7) (d2 := dd b i) (by decide) (by omega) (dead_syn rfl _)).mono ?_
      rintro e w8 ⟨rfl, O8, h8⟩
      clear h7
      go_wp2_with fail
      refine (rename32_dead g _ _ _ _ _ rfl w8 h8.at_).mono ?_
      rintro e w9 ⟨rfl, k9⟩
      have h9 := h8.kp0 k9
      clear h8 k9
      go_wp2_with fail
      refine (cut33_dead g _ _ _ pf (by decide) _ rfl w9 h9.at_).mono ?_
      rintro e w10 ⟨rfl, k10⟩
      have h10 := h9.kp0 k10
      clear h9 k10
      go_wp2_with fail
      refine (fd_rem h10 (p := pf) (x := 7) (d2 := dd b i) (by decide) (by omega) (dead_rem rfl _)).mono ?_
      rintro e w11 ⟨rfl, O11, h11⟩
      clear h10
      go_wp2_with fail
      refine (fd_app h11 (p := emp) (x := 7) (d2 := dd b i) (by decide) (by omega) (by omega) (zb.kp0 h11.kp) (fd_own h11 zb) (dead_app rfl _ _)).mono ?_
      rintro e w12 ⟨rfl, O12, h12⟩
      clear h11
      go_wp2_with fail
      have B : Blk (w12.alloc (.cells #[.int .i64 7, .int .i64 7, .int .i64 7, .int .i64 7, .int .i64 7, .int .i64 7] 26)) w12.heap.size #[.int .i64 7, .int .i64 7, .int .i64 7, .int .i64 7, .int .i64 7, .int .i64 7] 26 := blk_new _ _ rfl
      have hc6 : ∀ j, j < 6 → (w12.alloc (.cells #[.int .i64 7, .int .i64 7, .int .i64 7, .int .i64 7, .int .i64 7, .int .i64 7] 26)).cell? ⟨w12.heap.size, j, none⟩ = some (.int .i64 7) := fun j hj => by
        obtain rfl | rfl | rfl | rfl | rfl | rfl : j = 0 ∨ j = 1 ∨ j = 2 ∨ j = 3 ∨ j = 4 ∨ j = 5 := by omega
        all_goals exact B.cell _
      have h13 := h12.kp0 ((Kp.refl _ _).alloc (.cells #[.int .i64 7, .int .i64 7, .int .i64 7, .int .i64 7, .int .i64 7, .int .i64 7] 26))
      clear h12 B
      go_loopw [79] (fun s wx => ∃ j : Nat, j ≤ 6 ∧ s = .int .i64 j ∧ Fd w1 wx g (n' + 1 + 1 + 1 + 1 + 1) O12 (dd b i) ∧ (∀ j, j < 6 → wx.cell? ⟨w12.heap.size, j, none⟩ = some (.int .i64 7))) (fun s _ => (6 - intOf s).toNat)
      case atStart => exact ⟨0, by omega, rfl, h13, hc6⟩
      case round =>
        obtain ⟨j, hj, rfl, h14, hc⟩ := hrel
        by_cases hj6 : j < 6
        · have cj := hc j hj6
          have HC := Lib.hid hc
          clear hc hc6 h13
          go_wp2
          go_roundw
          case rel => exact ⟨j + 1, by omega, by go_num, h14, HC.out⟩
          case measure => simp [intOf]; omega
        · obtain rfl : j = 6 := by omega
          clear hc hc6 h13
          go_wp2_with fail
          refine (fd_crash h14 1000 (by omega) (by omega) HD6.out).mono ?_
          rintro e w15 ⟨rfl, O15, h15, _, _⟩
          clear h14
          have hrd := fd_read h15 (p := pf) (by decide) (bX b i) (decide (0 < P)) HF.out (by rw [HBL.out]; omega) hby
          rw [HBL.out] at hrd
          have HRD := Lib.hid hrd
          clear hrd
          by_cases hi0 : 0 < i
          · by_cases hl0 : 0 < b.length
            · have hrd := HRD.out
              have hp := HPC.out hi0 hl0
              rw [decide_eq_true hp] at hrd
              have hi' : (0 : Int) < (i : Int) := by omega
              have hl' : (0 : Int) < (b.length : Int) := by omega
              clear HRD hi0 hl0 hp
              go_wp2_with fail
              refine hrd.mono ?_
              rintro e w16 ⟨Ax, cx, rfl, zx, h16, _, _⟩
              clear hrd h15 zx
              go_wp2_with fail
              refine (fd_app h16 (p := pf) (x := 0) (d2 := d7) (by decide) (by omega) (by omega) (zb.kp0 h16.kp) (fd_own h16 zb) H7.out).mono ?_
              rintro e w17 ⟨rfl, O17, h17⟩
              clear h16
              go_wp2_with fail
              refine (fd_syn h17 (p := pf) (x := 0) (d2 := d8) (by decide) (by omega) H8.out).mono ?_
              rintro e w18 ⟨rfl, O18, h18⟩
              clear h17
              go_wp2_with fail
              refine (wakes29_c w18).mono ?_
              rintro e w19 ⟨rfl, k19⟩
              have K := (k1.then0 h18.kp).then0 k19
              clear h18 k19
              go_wp2
              go_ret
              exact ⟨rfl, K⟩
            · have hp := HP0.out (.inr (by omega))
              have hb0 : b = [] := List.length_eq_zero_iff.1 (by omega)
              subst hb0
              subst hp
              have hrd := HRD.out
              rw [decide_eq_false (by omega)] at hrd
              have hi' : (0 : Int) < (i : Int) := by omega
              clear HRD hi0 hl0 hm
              go_wp2_with fail
              refine hrd.mono ?_
              rintro e w16 ⟨Ax, cx, rfl, zx, h16, _, _⟩
              clear hrd h15 zx
              go_wp2_with fail
              refine (fd_app h16 (p := pf) (bs := []) (x := 0) (d2 := d7) (by decide) (by omega) (by omega) (zb.kp0 h16.kp) (fd_own h16 zb) H7.out).mono ?_
              rintro e w17 ⟨rfl, O17, h17⟩
              clear h16
              go_wp2_with fail
              refine (fd_syn h17 (p := pf) (x := 0) (d2 := d8) (by decide) (by omega) H8.out).mono ?_
              rintro e w18 ⟨rfl, O18, h18⟩
              clear h17
              go_wp2_with fail
              refine (wakes29_c w18).mono ?_
              rintro e w19 ⟨rfl, k19⟩
              have K := (k1.then0 h18.kp).then0 k19
              clear h18 k19
              go_wp2
              go_ret
              exact ⟨rfl, K⟩
          · have hrd := HRD.out
            have hp := HP0.out (.inl (by omega))
            rw [decide_eq_false (by omega)] at hrd
            have hi' : ¬ (0 : Int) < (i : Int) := by omega
            clear HRD hi0 hp
            go_wp2_with fail
            refine hrd.mono ?_
            rintro e w16 ⟨Ax, cx, rfl, zx, h16, _, _⟩
            clear hrd h15 zx
            go_wp2_with fail
            refine (fd_app h16 (p := pf) (x := 0) (d2 := d7) (by decide) (by omega) (by omega) (zb.kp0 h16.kp) (fd_own h16 zb) H7.out).mono ?_
            rintro e w17 ⟨rfl, O17, h17⟩
            clear h16
            go_wp2_with fail
            refine (fd_syn h17 (p := pf) (x := 0) (d2 := d8) (by decide) (by omega) H8.out).mono ?_
            rintro e w18 ⟨rfl, O18, h18⟩
            clear h17
            go_wp2_with fail
            refine (wakes29_c w18).mono ?_
            rintro e w19 ⟨rfl, k19⟩
            have K := (k1.then0 h18.kp).then0 k19
            clear h18 k19
            go_wp2
            go_ret
            exact ⟨rfl, K⟩

theorem diskFuse_w (v0 : Int) (a1 : Option Addr) (len1 cap1 : Nat) (z1 : List Int) (w : World) (h0 : (Lit.int .i64 v0).wf = true) (h1 : IsInts .u8 w a1 len1 cap1 z1) (l1 : len1 * 1 ≤ 140737488351232) :
    Calls Try.prog 4 #[.int .i64 v0, .slice a1 len1 cap1] w fun e' w' => e' = .returned (.bool true) ∧ Below w.heap.size w w' := by
  obtain ⟨us, rfl, c1, b1⟩ := br_ints h1
  exact (diskFuse_c v0 a1 cap1 us w b1 (by omega) c1).mono fun _ _ h => ⟨h.1, h.2.below0⟩
end Go.Proofs.Ytkokgbmeienokaa
