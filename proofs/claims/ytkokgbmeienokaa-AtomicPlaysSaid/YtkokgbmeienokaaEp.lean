/- AtomicCleans: the walk. -/
import Derived.Test.YtkokgbmeienokaaEo
set_option linter.unusedVariables false
set_option linter.unusedSimpArgs false
set_option linter.unnecessarySimpa false
namespace Go.Proofs.Ytkokgbmeienokaa
open Go.RowKit

set_option maxRecDepth 100000 in
set_option maxHeartbeats 4000000 in
theorem atomicCleans_c (a1 : Option Addr) (ca : Nat) (us : List Int) (v1 v2 : Int) (w : World) (ha : Bz w a1 ca us) (la : us.length ≤ 140737488355328) (ka : us.length ≤ ca) :
    Calls Try.prog 10 #[.slice a1 us.length ca, .int .i64 v1, .int .i64 v2] w fun e' w' => e' = .returned (.bool true) ∧ Kp0 w w' := by
  go_enter Try.func10, Try.ntmps10
  go_wp2_with fail
  refine (cutNz_c a1 ca us w ha (by omega) ka 20 (by decide)).mono ?_
  rintro e w1 ⟨A, c, rfl, o1, k1, f1⟩
  have hab : ∀ c ∈ us.take 20, 0 ≤ c ∧ c ≤ 255 := fun c hc => ha.byt c (List.mem_of_mem_take hc)
  have hal : (us.take 20).length ≤ 20 := by rw [List.length_take]; omega
  clear ha ka la
  generalize us.take 20 = x at hab hal o1 f1 ⊢
  have k2 : Kp0 w1 (w1.alloc (.cells #[.int .u8 1] 5)) := (Kp.refl _ _).alloc _
  have B2 : Blk (w1.alloc (.cells #[.int .u8 1] 5)) w1.heap.size #[.int .u8 1] 5 := blk_new _ _ rfl
  have o2 := own_kp o1 k2 (fun _ _ h => h)
  obtain ⟨b, hbx⟩ : ∃ b, x ++ [1] = b := ⟨_, rfl⟩
  have e9 : u8s x ++ u8s [1] = u8s b := by rw [← hbx]; simp [u8s]
  have e9' : u8s x ++ [Value.int .u8 1] = u8s b := by rw [← hbx]; simp [u8s]
  have hN : x.length + 1 = b.length := by rw [← hbx]; simp
  have hbb : ∀ c ∈ b, 0 ≤ c ∧ c ≤ 255 := fun c hc => by
    rw [← hbx] at hc
    rcases List.mem_append.1 hc with h | h
    · exact hab c h
    · rw [List.mem_singleton.1 h]; decide
  have hbl : b.length ≤ 21 := by omega
  have hz1 := k1.size
  have hlt1 := o1.lt
  clear hbx hab o1
  go_wp2_with (at_builtin; refine app_any rfl (.tmp 9) (.tmp 10) rfl (.slice A x.length c) x.length (u8s x) rfl (some ⟨w1.heap.size, 0, none⟩) 1 1 [1] rfl rfl (one_bz B2 (by omega)) o2 (by omega) ?_)
  intro v9 w2 o9 K9 b9
  obtain ⟨A9, c9, rfl⟩ := own_sl o9
  try rw [e9] at o9
  try rw [e9'] at o9
  try rw [hN] at o9
  try rw [hN] at b9
  try rw [hN]
  have zb := bz_own o9 rfl hbb
  have k02 : Kp0 w w2 := (k1.then0 k2).trans K9 (fun i hi e => by have := f1 i e; omega)
  clear o9 K9 b9 e9 e9' hN o2 B2 f1 hlt1 k1 k2 hz1
  obtain ⟨d1, d2, d3, d4, e1, e2, e3, e4, e5⟩ := c4_made b hbl
  have E2 := Lib.hid e2
  have E3 := Lib.hid e3
  have E4 := Lib.hid e4
  have E5 := Lib.hid e5
  have E1 := Lib.hid e1
  clear e1 e2 e3 e4 e5
  go_wp2_with fail
  refine (new19_c 500 w2).mono ?_
  rintro e w3 ⟨g, O, rfl, h1, hO, k3⟩
  have F3 : Fd w2 w3 g 0 O (al 500 [] none) := ⟨h1, hO, k3⟩
  clear h1 hO k3
  go_wp2_with fail
  refine (fd_wri F3 (p := pa) (by decide) (by omega) (by omega) (zb.kp0 F3.kp) (fd_own F3 zb) E1.out).mono ?_
  rintro e w4 ⟨rfl, O4, F4⟩
  clear F3 E1
  go_wp2_with fail
  refine (fd_wri F4 (p := pb) (by decide) (by omega) (by omega) (zb.kp0 F4.kp) (fd_own F4 zb) E2.out).mono ?_
  rintro e w5 ⟨rfl, O5, F5⟩
  clear F4 E2
  go_wp2_with fail
  refine (fd_app F5 (p := qx) (by decide) (by omega) (by omega) (zb.kp0 F5.kp) (fd_own F5 zb) E3.out).mono ?_
  rintro e w6 ⟨rfl, O6, F6⟩
  clear F5 E3
  go_wp2_with fail
  refine (fd_app F6 (p := qy) (by decide) (by omega) (by omega) (zb.kp0 F6.kp) (fd_own F6 zb) E4.out).mono ?_
  rintro e w7 ⟨rfl, O7, F7⟩
  clear F6 E4
  go_wp2_with fail
  refine (fd_syn F7 (p := qy) (by decide) (by omega) E5.out).mono ?_
  rintro e w8 ⟨rfl, O8, F8⟩
  clear F7 E5
  go_wp2_with fail
  refine (within22_x v1 4 (by omega) (by omega) _).mono ?_
  rintro e w' ⟨k, hk, rfl, rfl⟩
  obtain ⟨ee, d9, hcl, hcase, hcr⟩ := c4_fuse 500 k b
  have HC := Lib.hid hcl
  have HCR := Lib.hid hcr
  clear hcl hcr
  go_wp2_with fail
  refine (fd_fuse' F8 k (by omega)).mono ?_
  rintro e w9 ⟨rfl, F9⟩
  clear F8
  go_wp2_with fail
  refine (fd_clean F9 (by omega) (show 4 ≤ 10 by omega) HC.out).mono ?_
  rintro e w10 ⟨rfl, O10, F10⟩
  clear F9 HC
  have hused := c2_used 500 b
  have HU := Lib.hid hused
  clear hused
  have hw2 : IntKind.i64.wrap (2 * (b.length : Int)) = ((2 * b.length : Nat) : Int) := by rw [IntKind.wrap_i64]; omega
  have hw3 : ((2 * b.length : Nat) : Int) = 2 * (b.length : Int) := by omega
  rcases hcase with ⟨hk2, rfl⟩ | ⟨hk2, rfl⟩
  · have hk3 : (2 : Int) ≤ (k : Int) := by omega
    clear hk2
    go_wp2_with fail
    refine (within22_x v2 30 (by omega) (by omega) _).mono ?_
    rintro e w' ⟨m, hm, rfl, rfl⟩
    go_wp2_with fail
    refine (fd_crash F10 m (by omega) (by omega) rfl).mono ?_
    rintro e w11 ⟨rfl, O11, F11, _, _⟩
    clear F10
    obtain ⟨hm1, hm2⟩ := HCR.out m
    go_wp2_with fail
    refine (fd_clean F11 (by omega) hm2 hm1).mono ?_
    rintro e w12 ⟨rfl, O12, F12⟩
    clear F11 hm1 hm2
    go_wp2_with fail
    refine (fd_clean F12 (by omega) (show 2 ≤ 10 by omega) (c2_clean 500 b)).mono ?_
    rintro e w13 ⟨rfl, O13, F13⟩
    clear F12
    go_wp2_with fail
    refine (fd_list F13 (by omega) _ (c2_lst 500 b none)).mono ?_
    rintro e w14 ⟨A14, c14, rfl, o14, F14, k14⟩
    have ka : Kp0 w14 (w14.alloc (.cells #[.string pa, .string pb] 9)) := (Kp.refl _ _).alloc _
    have B14 : Blk (w14.alloc (.cells #[.string pa, .string pb] 9)) w14.heap.size #[.string pa, .string pb] 9 := blk_new _ _ rfl
    have hsame := same37_c A14 c14 (some ⟨w14.heap.size, 0, none⟩) 2 [pa, pb] (by simp) _ ((sg_own o14).kp0 ka) (sg_blk B14)
    have F15 := F14.kp0 ka
    clear F13 F14 o14 B14 ka
    go_wp2_with fail
    refine hsame.mono ?_
    rintro e w16 ⟨rfl, k16⟩
    have F16 := F15.kp0 k16
    clear hsame F15 k16
    have hus := used27_c g _ _ _ w16 F16.at_
    rw [HU.out] at hus
    go_wp2_with fail
    refine hus.mono ?_
    rintro e w17 ⟨rfl, k17⟩
    have F17 := F16.kp0 k17
    clear hus F16 k17
    go_wp2_with fail
    refine (wakes51_c _).mono ?_
    rintro e w18 ⟨rfl, k18⟩
    have K := (k02.then0 F17.kp).then0 k18
    clear F17 k18
    go_wp2
    go_ret
    exact ⟨rfl, K⟩
  · have hk3 : ¬ (2 : Int) ≤ (k : Int) := by omega
    clear hk2
    go_wp2_with fail
    refine (within22_x v2 30 (by omega) (by omega) _).mono ?_
    rintro e w' ⟨m, hm, rfl, rfl⟩
    go_wp2_with fail
    refine (fd_crash F10 m (by omega) (by omega) rfl).mono ?_
    rintro e w11 ⟨rfl, O11, F11, _, _⟩
    clear F10
    obtain ⟨hm1, hm2⟩ := HCR.out m
    go_wp2_with fail
    refine (fd_clean F11 (by omega) hm2 hm1).mono ?_
    rintro e w12 ⟨rfl, O12, F12⟩
    clear F11 hm1 hm2
    go_wp2_with fail
    refine (fd_clean F12 (by omega) (show 2 ≤ 10 by omega) (c2_clean 500 b)).mono ?_
    rintro e w13 ⟨rfl, O13, F13⟩
    clear F12
    go_wp2_with fail
    refine (fd_list F13 (by omega) _ (c2_lst 500 b none)).mono ?_
    rintro e w14 ⟨A14, c14, rfl, o14, F14, k14⟩
    have ka : Kp0 w14 (w14.alloc (.cells #[.string pa, .string pb] 9)) := (Kp.refl _ _).alloc _
    have B14 : Blk (w14.alloc (.cells #[.string pa, .string pb] 9)) w14.heap.size #[.string pa, .string pb] 9 := blk_new _ _ rfl
    have hsame := same37_c A14 c14 (some ⟨w14.heap.size, 0, none⟩) 2 [pa, pb] (by simp) _ ((sg_own o14).kp0 ka) (sg_blk B14)
    have F15 := F14.kp0 ka
    clear F13 F14 o14 B14 ka
    go_wp2_with fail
    refine hsame.mono ?_
    rintro e w16 ⟨rfl, k16⟩
    have F16 := F15.kp0 k16
    clear hsame F15 k16
    have hus := used27_c g _ _ _ w16 F16.at_
    rw [HU.out] at hus
    go_wp2_with fail
    refine hus.mono ?_
    rintro e w17 ⟨rfl, k17⟩
    have F17 := F16.kp0 k17
    clear hus F16 k17
    go_wp2_with fail
    refine (wakes51_c _).mono ?_
    rintro e w18 ⟨rfl, k18⟩
    have K := (k02.then0 F17.kp).then0 k18
    clear F17 k18
    go_wp2
    go_ret
    exact ⟨rfl, K⟩

theorem atomicCleans_w (a1 : Option Addr) (len1 cap1 : Nat) (z1 : List Int) (v1 v2 : Int) (w : World) (h1 : IsInts .u8 w a1 len1 cap1 z1) (l1 : len1 * 1 ≤ 140737488351232) (h3 : (Lit.int .i64 v1).wf = true) (h4 : (Lit.int .i64 v2).wf = true) :
    Calls Try.prog 10 #[.slice a1 len1 cap1, .int .i64 v1, .int .i64 v2] w fun e' w' => e' = .returned (.bool true) ∧ Below w.heap.size w w' := by
  obtain ⟨us, rfl, c1, b1⟩ := br_ints h1
  exact (atomicCleans_c a1 cap1 us v1 v2 w b1 (by omega) c1).mono fun _ _ h => ⟨h.1, h.2.below0⟩
end Go.Proofs.Ytkokgbmeienokaa
