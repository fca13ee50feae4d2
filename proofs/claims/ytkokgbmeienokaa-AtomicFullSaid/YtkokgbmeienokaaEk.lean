/- AtomicFull: the walk. -/
import Derived.Test.YtkokgbmeienokaaEj
set_option linter.unusedVariables false
set_option linter.unusedSimpArgs false
set_option linter.unnecessarySimpa false
namespace Go.Proofs.Ytkokgbmeienokaa
open Go.RowKit

theorem dq (Q : Nat) (h : Q < 100) : dk0 (if (Q : Int) < 0 then 0 else if (65536 : Int) < Q then 65536 else (Q : Int).toNat) = al Q [] none := by
  rw [if_neg (by omega), if_neg (by omega), Int.toNat_natCast]; rfl
theorem pft_not (v : Fi) : pf ++ tl ∉ (([(pf, v)] : Fl).map (·.1)) := by
  simp only [List.map_cons, List.map_nil, List.mem_singleton]
  intro h
  have := tl_size pf
  rw [h] at this
  omega
theorem als_one (p : ByteArray) (b : List Int) (s : Nat) (f : Bool) : als [(p, ⟨b, s, f⟩)] = b.length := by simp [als]

set_option maxRecDepth 100000 in
set_option maxHeartbeats 2000000 in
theorem atomicFull_c (v0 : Int) (a1 : Option Addr) (ca : Nat) (us : List Int) (a2 : Option Addr) (cb : Nat) (vs : List Int) (w : World) (ha : Bz w a1 ca us) (la : us.length ≤ 140737488355328) (ka : us.length ≤ ca) (hb : Bz w a2 cb vs) (lb : vs.length ≤ 140737488355328) (kb : vs.length ≤ cb) :
    Calls Try.prog 9 #[.int .i64 v0, .slice a1 us.length ca, .slice a2 vs.length cb] w fun e' w' => e' = .returned (.bool true) ∧ Kp0 w w' := by
  go_enter Try.func9, Try.ntmps9
  go_wp2_with fail
  refine (within22_x v0 60 (by omega) (by omega) w).mono ?_
  rintro e w' ⟨Q, hQ, rfl, rfl⟩
  go_wp2_with fail
  refine (cutNz_c a1 ca us w ha (by omega) ka 30 (by decide)).mono ?_
  rintro e w1 ⟨A, c, rfl, o1, k1, f1⟩
  have hab : ∀ c ∈ us.take 30, 0 ≤ c ∧ c ≤ 255 := fun c hc => ha.byt c (List.mem_of_mem_take hc)
  have hal : (us.take 30).length ≤ 30 := by rw [List.length_take]; omega
  have za := bz_own o1 rfl hab
  clear o1 f1 ha ka
  generalize us.take 30 = a at hab hal za ⊢
  go_wp2_with fail
  refine (cutNz_c a2 cb vs w1 (hb.kp0 k1) (by omega) kb 30 (by decide)).mono ?_
  rintro e w2 ⟨B, cB, rfl, o2, k2, f2⟩
  have hbb : ∀ c ∈ vs.take 30, 0 ≤ c ∧ c ≤ 255 := fun c hc => hb.byt c (List.mem_of_mem_take hc)
  have hbl : (vs.take 30).length ≤ 30 := by rw [List.length_take]; omega
  have zb := bz_own o2 rfl hbb
  have za2 := za.kp0 k2
  have k02 := k1.then0 k2
  clear o2 f2 hb kb za k1 k2 la lb
  generalize vs.take 30 = b at hbb hbl zb ⊢
  have hQ' : Q < 60 := by omega
  clear hQ
  go_wp2_with fail
  refine (new19_c Q w2).mono ?_
  rintro e w3 ⟨g, O, rfl, h1, hO, k3⟩
  rw [dq Q (by omega)] at h1
  have F3 : Fd w2 w3 g 0 O (al Q [] none) := ⟨h1, hO, k3⟩
  have za3 := za2.kp0 k3
  clear h1 hO k3
  by_cases hq : a.length ≤ Q
  rotate_left
  · have hw := al_wfull (q := Q) (l := []) none (p := pf) (b := a) (by simp) (by simp [als]; omega)
    have hq' : ¬ ((a.length : Nat) : Int) ≤ (Q : Int) := by omega
    have hq2 : (Q : Int) < (a.length : Nat) := by omega
    go_wp2_with fail
    refine (fd_wri F3 (p := pf) (by decide) (by omega) (by omega) za3 (fd_own F3 za2) hw).mono ?_
    rintro e w4 ⟨rfl, O4, F4⟩
    clear F3 za3 za2 zb hw
    go_wp2_with fail
    refine (fd_len F4 (by omega)).mono ?_
    rintro e w5 ⟨A5, c5, rfl, F5⟩
    clear F4
    go_wp2_with fail
    refine (wakes51_c _).mono ?_
    rintro e w6 ⟨rfl, k6⟩
    have K := (k02.then0 F5.kp).then0 k6
    clear F5 k6
    go_wp2
    go_ret
    exact ⟨rfl, K⟩
  · have hw : (al Q [] none).wri pf a = (0, al Q [(pf, ⟨a, a.length, true⟩)] none) := al_wri none (by simp) pf_ne (by simp) (by simp [als]; omega)
    have hq1 : ((a.length : Nat) : Int) ≤ (Q : Int) := by omega
    have hq2 : ¬ (Q : Int) < (a.length : Nat) := by omega
    go_wp2_with fail
    refine (fd_wri F3 (p := pf) (by decide) (by omega) (by omega) za3 (fd_own F3 za2) hw).mono ?_
    rintro e w4 ⟨rfl, O4, F4⟩
    clear F3 za3 hw hq
    have hw1 : IntKind.i64.wrap ((a.length : Int) + (b.length : Int)) = ((a.length + b.length : Nat) : Int) := by rw [IntKind.wrap_i64]; omega
    by_cases hq4 : a.length + b.length ≤ Q
    · have hw : (al Q [(pf, ⟨a, a.length, true⟩)] none).wri pf b = (0, al Q [(pf, ⟨b, b.length, true⟩)] none) := (al_wri none (by simp) pf_ne (pft_not _) (by rw [als_one]; exact hq4)).trans (by unfold wrs; rw [alu_head])
      have hq5 : ((a.length + b.length : Nat) : Int) ≤ (Q : Int) := by omega
      have hu : (al Q [(pf, ⟨b, b.length, true⟩)] none).used = b.length := (al_used _ _ _ (by simp)).trans (als_one _ _ _ _)
      have hF := al_Fh Q [] none pf ⟨b, b.length, true⟩
      have HF := Lib.hid hF
      have HU := Lib.hid hu
      obtain ⟨N, hN⟩ : ∃ N, a.length + b.length = N := ⟨_, rfl⟩
      rw [hN] at hw1 hq5
      clear hF hu hq4 hN
      go_wp2_with fail
      refine (fd_wri F4 (p := pf) (by decide) (by omega) (by omega) (zb.kp0 F4.kp) (fd_own F4 zb) hw).mono ?_
      rintro e w5 ⟨rfl, O5, F5⟩
      clear F4 hw
      go_wp2_with fail
      refine (fd_read F5 (p := pf) (by decide) b true (.inr ⟨_, HF.out, rfl, rfl⟩) (by omega) hbb).mono ?_
      rintro e w6 ⟨A6, c6, rfl, z6, F6, _, _⟩
      clear F5
      have hsame := same26_c A6 c6 B cB b (by omega) w6 z6 (zb.kp0 F6.kp)
      clear z6
      go_wp2_with fail
      refine hsame.mono ?_
      rintro e w7 ⟨rfl, k7⟩
      have F7 := F6.kp0 k7
      clear F6 k7 hsame
      have hus := used27_c g _ _ _ w7 F7.at_
      rw [HU.out] at hus
      go_wp2_with fail
      refine hus.mono ?_
      rintro e w8 ⟨rfl, k8⟩
      have F8 := F7.kp0 k8
      clear F7 k8 hus
      go_wp2_with fail
      refine (fd_len F8 (by omega)).mono ?_
      rintro e w9 ⟨A9, c9, rfl, F9⟩
      clear F8
      go_wp2_with fail
      refine (wakes51_c _).mono ?_
      rintro e w10 ⟨rfl, k10⟩
      have K := (k02.then0 F9.kp).then0 k10
      clear F9 k10
      go_wp2
      go_ret
      exact ⟨rfl, K⟩
    · have hw := al_wfull (q := Q) (l := [(pf, ⟨a, a.length, true⟩)]) none (p := pf) (b := b) (by simp) (by rw [als_one]; omega)
      have hq5 : ¬ ((a.length + b.length : Nat) : Int) ≤ (Q : Int) := by omega
      have hu : (al Q [(pf, ⟨a, a.length, true⟩)] none).used = a.length := (al_used _ _ _ (by simp)).trans (als_one _ _ _ _)
      have hF := al_Fh Q [] none pf ⟨a, a.length, true⟩
      have HF := Lib.hid hF
      have HU := Lib.hid hu
      obtain ⟨N, hN⟩ : ∃ N, a.length + b.length = N := ⟨_, rfl⟩
      rw [hN] at hw1 hq5
      clear hF hu hq4 hN
      go_wp2_with fail
      refine (fd_wri F4 (p := pf) (by decide) (by omega) (by omega) (zb.kp0 F4.kp) (fd_own F4 zb) hw).mono ?_
      rintro e w5 ⟨rfl, O5, F5⟩
      clear F4 hw
      go_wp2_with fail
      refine (fd_read F5 (p := pf) (by decide) a true (.inr ⟨_, HF.out, rfl, rfl⟩) (by omega) hab).mono ?_
      rintro e w6 ⟨A6, c6, rfl, z6, F6, _, _⟩
      clear F5
      have hsame := same26_c A6 c6 A c a (by omega) w6 z6 (za2.kp0 F6.kp)
      clear z6
      go_wp2_with fail
      refine hsame.mono ?_
      rintro e w7 ⟨rfl, k7⟩
      have F7 := F6.kp0 k7
      clear F6 k7 hsame
      have hus := used27_c g _ _ _ w7 F7.at_
      rw [HU.out] at hus
      go_wp2_with fail
      refine hus.mono ?_
      rintro e w8 ⟨rfl, k8⟩
      have F8 := F7.kp0 k8
      clear F7 k8 hus
      go_wp2_with fail
      refine (fd_len F8 (by omega)).mono ?_
      rintro e w9 ⟨A9, c9, rfl, F9⟩
      clear F8
      go_wp2_with fail
      refine (wakes51_c _).mono ?_
      rintro e w10 ⟨rfl, k10⟩
      have K := (k02.then0 F9.kp).then0 k10
      clear F9 k10
      go_wp2
      go_ret
      exact ⟨rfl, K⟩

theorem atomicFull_w (v0 : Int) (a1 : Option Addr) (len1 cap1 : Nat) (z1 : List Int) (a2 : Option Addr) (len2 cap2 : Nat) (z2 : List Int) (w : World) (h0 : (Lit.int .i64 v0).wf = true) (h1 : IsInts .u8 w a1 len1 cap1 z1) (l1 : len1 * 1 ≤ 140737488351232) (h2 : IsInts .u8 w a2 len2 cap2 z2) (l2 : len2 * 1 ≤ 140737488351232) :
    Calls Try.prog 9 #[.int .i64 v0, .slice a1 len1 cap1, .slice a2 len2 cap2] w fun e' w' => e' = .returned (.bool true) ∧ Below w.heap.size w w' := by
  obtain ⟨us, rfl, c1, b1⟩ := br_ints h1
  obtain ⟨vs, rfl, c2, b2⟩ := br_ints h2
  exact (atomicFull_c v0 a1 cap1 us a2 cap2 vs w b1 (by omega) c1 b2 (by omega) c2).mono fun _ _ h => ⟨h.1, h.2.below0⟩
end Go.Proofs.Ytkokgbmeienokaa
