/- AtomicWhole: the walk. -/
import Derived.Test.YtkokgbmeienokaaEm
set_option linter.unusedVariables false
set_option linter.unusedSimpArgs false
set_option linter.unnecessarySimpa false
namespace Go.Proofs.Ytkokgbmeienokaa
open Go.RowKit

theorem whole_all (q k : Nat) (x : Option (List Int)) (b : List Int) (hq : lnO x + b.length ≤ q) :
    ∃ e d1, (lt (al q (fil x) none) k).wri pf b = (e, d1) ∧ ((3 ≤ k ∧ e = 0 ∧ ∀ m, (d1.crash m).cln = (0, al q (fil (some b)) none)) ∨ (k < 3 ∧ e = 7 ∧ ∀ m, (d1.crash m).cln = (0, al q (fil x) none))) ∧ ∀ m, (d1.crash m).ks.length ≤ 10 := by
  obtain ⟨e, d1, h1, h2, h3⟩ := whole_law q k 0 x b hq
  have hall : ∀ m, ((3 ≤ k ∧ e = 0 ∧ (d1.crash m).cln = (0, al q (fil (some b)) none)) ∨ (k < 3 ∧ e = 7 ∧ (d1.crash m).cln = (0, al q (fil x) none))) ∧ (d1.crash m).ks.length ≤ 10 := fun m => by
    obtain ⟨e', d1', g1, g2, g3⟩ := whole_law q k m x b hq
    have := h1.symm.trans g1
    injection this with i1 i2
    subst i1; subst i2
    exact ⟨g2, g3⟩
  refine ⟨e, d1, h1, ?_, fun m => (hall m).2⟩
  rcases h2 with ⟨a1, a2, _⟩ | ⟨a1, a2, _⟩
  · refine .inl ⟨a1, a2, fun m => ?_⟩
    rcases (hall m).1 with ⟨_, _, h⟩ | ⟨h, _⟩
    · exact h
    · omega
  · refine .inr ⟨a1, a2, fun m => ?_⟩
    rcases (hall m).1 with ⟨h, _⟩ | ⟨_, _, h⟩
    · omega
    · exact h
theorem fd_fuse' {w w1 : World} {g n : Nat} {O : Nat → Prop} {d : Dk} (h : Fd w w1 g n O d) (m : Nat) (hm : m ≤ 9223372036854775807) :
    Calls Try.prog 30 #[.pointer (some ⟨g, 0, none⟩), .int .i64 (m : Int)] w1 fun e w' => e = .returned (.tuple #[]) ∧ Fd w w' g n O (lt d m) := fd_fuse h m hm
theorem fd_clean {w w1 : World} {g n : Nat} {O : Nat → Prop} {d d2 : Dk} {x : Int} (h : Fd w w1 g n O d) (hn : n ≤ 800000) (hk : d.ks.length ≤ 10) (he : d.cln = (x, d2)) :
    Calls Try.prog 52 #[.pointer (some ⟨g, 0, none⟩)] w1 fun e w' => e = .returned (.int .i64 x) ∧ ∃ O', Fd w w' g (n + 10) O' d2 := by
  refine (clean52_c g n O d hn (by omega) w1 h.at_).mono ?_
  rintro e w' D
  rw [he] at D
  obtain ⟨O', rfl, h1, h2, k⟩ := D
  obtain ⟨bm, V, I⟩ := h1
  have D2 : Did w1 w' g (n + 10) O (x, d2) (.returned (.int .i64 x)) := ⟨O', rfl, ⟨bm, V, { I with mp := I.mp.mono (by omega) }⟩, h2, k⟩
  exact h.did D2

set_option maxRecDepth 100000 in
set_option maxHeartbeats 4000000 in
theorem atomicWhole_c (a1 : Option Addr) (ca : Nat) (us : List Int) (a2 : Option Addr) (cb : Nat) (vs : List Int) (v2 v3 : Int) (first : Bool) (w : World) (ha : Bz w a1 ca us) (la : us.length ≤ 140737488355328) (ka : us.length ≤ ca) (hb : Bz w a2 cb vs) (lb : vs.length ≤ 140737488355328) (kb : vs.length ≤ cb) :
    Calls Try.prog 11 #[.slice a1 us.length ca, .slice a2 vs.length cb, .int .i64 v2, .int .i64 v3, .bool first] w fun e' w' => e' = .returned (.bool true) ∧ Kp0 w w' := by
  go_enter Try.func11, Try.ntmps11
  go_wp2_with fail
  refine (cutNz_c a1 ca us w ha (by omega) ka 40 (by decide)).mono ?_
  rintro e w1 ⟨A, c, rfl, o1, k1, f1⟩
  have hab : ∀ c ∈ us.take 40, 0 ≤ c ∧ c ≤ 255 := fun c hc => ha.byt c (List.mem_of_mem_take hc)
  have hal : (us.take 40).length ≤ 40 := by rw [List.length_take]; omega
  have za := bz_own o1 rfl hab
  clear o1 f1 ha ka
  generalize us.take 40 = a at hab hal za ⊢
  go_wp2_with fail
  refine (cutNz_c a2 cb vs w1 (hb.kp0 k1) (by omega) kb 40 (by decide)).mono ?_
  rintro e w2 ⟨B, cB, rfl, o2, k2, f2⟩
  have hbb : ∀ c ∈ vs.take 40, 0 ≤ c ∧ c ≤ 255 := fun c hc => hb.byt c (List.mem_of_mem_take hc)
  have hbl : (vs.take 40).length ≤ 40 := by rw [List.length_take]; omega
  have zb := bz_own o2 rfl hbb
  have za2 := za.kp0 k2
  have k02 := k1.then0 k2
  clear o2 f2 hb kb za k1 k2 la lb
  generalize vs.take 40 = b at hbb hbl zb ⊢
  go_wp2_with fail
  refine (new19_c 300 w2).mono ?_
  rintro e w3 ⟨g, O, rfl, h1, hO, k3⟩
  have F3 : Fd w2 w3 g 0 O (al 300 (fil none) none) := ⟨h1, hO, k3⟩
  clear h1 hO k3
  cases first with
  | true =>
    go_wp2_with fail
    refine (within22_x v2 5 (by omega) (by omega) _).mono ?_
    rintro e w' ⟨k, hk, rfl, rfl⟩
    obtain ⟨e1, d1, he, hcase, hks⟩ := whole_all 300 k none b (by show 0 + b.length ≤ 300; omega)
    have HK := Lib.hid hks
    clear hks
    go_wp2_with fail
    refine (fd_fuse' F3 k (by omega)).mono ?_
    rintro e w5 ⟨rfl, F5⟩
    clear F3
    go_wp2_with fail
    refine (fd_wri F5 (p := pf) (by decide) (by omega) (by omega) (zb.kp0 F5.kp) (fd_own F5 zb) he).mono ?_
    rintro e w6 ⟨rfl, O6, F6⟩
    clear F5 he
    rcases hcase with ⟨h3, rfl, hm⟩ | ⟨h3, rfl, hm⟩
    · have h3' : (3 : Int) ≤ (k : Int) := by omega
      have HM := Lib.hid hm
      clear hm h3
      go_wp2_with fail
      refine (within22_x v3 60 (by omega) (by omega) _).mono ?_
      rintro e w' ⟨m, hm, rfl, rfl⟩
      go_wp2_with fail
      refine (fd_crash F6 m (by omega) (by omega) rfl).mono ?_
      rintro e w7 ⟨rfl, O7, F7, _, _⟩
      clear F6
      go_wp2_with fail
      refine (fd_clean F7 (by omega) (HK.out m) (HM.out m)).mono ?_
      rintro e w8 ⟨rfl, O8, F8⟩
      clear F7
      go_wp2_with fail
      refine (fd_read F8 (p := pf) (by decide) b true (.inr ⟨_, al_Fh _ _ _ _ _, rfl, rfl⟩) (by omega) hbb).mono ?_
      rintro e w9 ⟨A9, c9, rfl, z9, F9, _, _⟩
      clear F8
      go_wp2_with fail
      refine (fd_list F9 (by omega) _ rfl).mono ?_
      rintro e w10 ⟨A10, c10, rfl, _, F10, k10⟩
      have z10 := z9.kp0 k10
      have hl : (al 300 (fil (some b)) none).lst.length = 1 := al_lst_len _ _ _
      clear F9 k10 z9
      rw [hl]
      clear hl
      have hsame := same26_c A9 c9 B cB b (by omega) w10 z10 (zb.kp0 F10.kp)
      go_wp2_with fail
      refine hsame.mono ?_
      rintro e w11 ⟨rfl, k11⟩
      have F11 := F10.kp0 k11
      clear hsame k11 z10 F10
      go_wp2_with fail
      refine (wakes51_c _).mono ?_
      rintro e w12 ⟨rfl, k12⟩
      have K := (k02.then0 F11.kp).then0 k12
      clear F11 k12
      go_wp2
      go_ret
      exact ⟨rfl, K⟩
    · have h3' : ¬ (3 : Int) ≤ (k : Int) := by omega
      have HM := Lib.hid hm
      clear hm h3
      go_wp2_with fail
      refine (within22_x v3 60 (by omega) (by omega) _).mono ?_
      rintro e w' ⟨m, hm, rfl, rfl⟩
      go_wp2_with fail
      refine (fd_crash F6 m (by omega) (by omega) rfl).mono ?_
      rintro e w7 ⟨rfl, O7, F7, _, _⟩
      clear F6
      go_wp2_with fail
      refine (fd_clean F7 (by omega) (HK.out m) (HM.out m)).mono ?_
      rintro e w8 ⟨rfl, O8, F8⟩
      clear F7
      go_wp2_with fail
      refine (fd_read F8 (p := pf) (by decide) [] false (.inl ⟨rfl, rfl, rfl⟩) (by simp) (by simp)).mono ?_
      rintro e w9 ⟨A9, c9, rfl, z9, F9, _, _⟩
      clear F8
      go_wp2_with fail
      refine (fd_list F9 (by omega) _ rfl).mono ?_
      rintro e w10 ⟨A10, c10, rfl, _, F10, k10⟩
      have z10 := z9.kp0 k10
      have hl : (al 300 (fil none) none).lst.length = 0 := al_lst_len _ _ _
      clear F9 k10 z9
      rw [hl]
      clear hl
      clear z10
      go_wp2_with fail
      refine (wakes51_c _).mono ?_
      rintro e w12 ⟨rfl, k12⟩
      have K := (k02.then0 F10.kp).then0 k12
      clear F10 k12
      go_wp2
      go_ret
      exact ⟨rfl, K⟩
  | false =>
    have hw : (al 300 (fil none) none).wri pf a = (0, al 300 (fil (some a)) none) := (al_wri none (by simp [fil]) pf_ne (by simp [fil]) (by simp [fil, als]; omega)).trans rfl
    go_wp2_with fail
    refine (fd_wri F3 (p := pf) (by decide) (by omega) (by omega) (za2.kp0 F3.kp) (fd_own F3 za2) hw).mono ?_
    rintro e w4 ⟨rfl, O4, F4⟩
    clear F3 hw
    go_wp2_with fail
    refine (within22_x v2 5 (by omega) (by omega) _).mono ?_
    rintro e w' ⟨k, hk, rfl, rfl⟩
    obtain ⟨e1, d1, he, hcase, hks⟩ := whole_all 300 k (some a) b (by show a.length + b.length ≤ 300; omega)
    have HK := Lib.hid hks
    clear hks
    go_wp2_with fail
    refine (fd_fuse' F4 k (by omega)).mono ?_
    rintro e w5 ⟨rfl, F5⟩
    clear F4
    go_wp2_with fail
    refine (fd_wri F5 (p := pf) (by decide) (by omega) (by omega) (zb.kp0 F5.kp) (fd_own F5 zb) he).mono ?_
    rintro e w6 ⟨rfl, O6, F6⟩
    clear F5 he
    rcases hcase with ⟨h3, rfl, hm⟩ | ⟨h3, rfl, hm⟩
    · have h3' : (3 : Int) ≤ (k : Int) := by omega
      have HM := Lib.hid hm
      clear hm h3
      go_wp2_with fail
      refine (within22_x v3 60 (by omega) (by omega) _).mono ?_
      rintro e w' ⟨m, hm, rfl, rfl⟩
      go_wp2_with fail
      refine (fd_crash F6 m (by omega) (by omega) rfl).mono ?_
      rintro e w7 ⟨rfl, O7, F7, _, _⟩
      clear F6
      go_wp2_with fail
      refine (fd_clean F7 (by omega) (HK.out m) (HM.out m)).mono ?_
      rintro e w8 ⟨rfl, O8, F8⟩
      clear F7
      go_wp2_with fail
      refine (fd_read F8 (p := pf) (by decide) b true (.inr ⟨_, al_Fh _ _ _ _ _, rfl, rfl⟩) (by omega) hbb).mono ?_
      rintro e w9 ⟨A9, c9, rfl, z9, F9, _, _⟩
      clear F8
      go_wp2_with fail
      refine (fd_list F9 (by omega) _ rfl).mono ?_
      rintro e w10 ⟨A10, c10, rfl, _, F10, k10⟩
      have z10 := z9.kp0 k10
      have hl : (al 300 (fil (some b)) none).lst.length = 1 := al_lst_len _ _ _
      clear F9 k10 z9
      rw [hl]
      clear hl
      have hsame := same26_c A9 c9 B cB b (by omega) w10 z10 (zb.kp0 F10.kp)
      go_wp2_with fail
      refine hsame.mono ?_
      rintro e w11 ⟨rfl, k11⟩
      have F11 := F10.kp0 k11
      clear hsame k11 z10 F10
      go_wp2_with fail
      refine (wakes51_c _).mono ?_
      rintro e w12 ⟨rfl, k12⟩
      have K := (k02.then0 F11.kp).then0 k12
      clear F11 k12
      go_wp2
      go_ret
      exact ⟨rfl, K⟩
    · have h3' : ¬ (3 : Int) ≤ (k : Int) := by omega
      have HM := Lib.hid hm
      clear hm h3
      go_wp2_with fail
      refine (within22_x v3 60 (by omega) (by omega) _).mono ?_
      rintro e w' ⟨m, hm, rfl, rfl⟩
      go_wp2_with fail
      refine (fd_crash F6 m (by omega) (by omega) rfl).mono ?_
      rintro e w7 ⟨rfl, O7, F7, _, _⟩
      clear F6
      go_wp2_with fail
      refine (fd_clean F7 (by omega) (HK.out m) (HM.out m)).mono ?_
      rintro e w8 ⟨rfl, O8, F8⟩
      clear F7
      go_wp2_with fail
      refine (fd_read F8 (p := pf) (by decide) a true (.inr ⟨_, al_Fh _ _ _ _ _, rfl, rfl⟩) (by omega) hab).mono ?_
      rintro e w9 ⟨A9, c9, rfl, z9, F9, _, _⟩
      clear F8
      go_wp2_with fail
      refine (fd_list F9 (by omega) _ rfl).mono ?_
      rintro e w10 ⟨A10, c10, rfl, _, F10, k10⟩
      have z10 := z9.kp0 k10
      have hl : (al 300 (fil (some a)) none).lst.length = 1 := al_lst_len _ _ _
      clear F9 k10 z9
      rw [hl]
      clear hl
      have hsame := same26_c A9 c9 A c a (by omega) w10 z10 (za2.kp0 F10.kp)
      go_wp2_with fail
      refine hsame.mono ?_
      rintro e w11 ⟨rfl, k11⟩
      have F11 := F10.kp0 k11
      clear hsame k11 z10 F10
      go_wp2_with fail
      refine (wakes51_c _).mono ?_
      rintro e w12 ⟨rfl, k12⟩
      have K := (k02.then0 F11.kp).then0 k12
      clear F11 k12
      go_wp2
      go_ret
      exact ⟨rfl, K⟩

theorem atomicWhole_w (a1 : Option Addr) (len1 cap1 : Nat) (z1 : List Int) (a2 : Option Addr) (len2 cap2 : Nat) (z2 : List Int) (v2 v3 : Int) (first : Bool) (w : World) (h1 : IsInts .u8 w a1 len1 cap1 z1) (l1 : len1 * 1 ≤ 140737488351232) (h2 : IsInts .u8 w a2 len2 cap2 z2) (l2 : len2 * 1 ≤ 140737488351232) (h3 : (Lit.int .i64 v2).wf = true) (h4 : (Lit.int .i64 v3).wf = true) :
    Calls Try.prog 11 #[.slice a1 len1 cap1, .slice a2 len2 cap2, .int .i64 v2, .int .i64 v3, .bool first] w fun e' w' => e' = .returned (.bool true) ∧ Below w.heap.size w w' := by
  obtain ⟨us, rfl, c1, b1⟩ := br_ints h1
  obtain ⟨vs, rfl, c2, b2⟩ := br_ints h2
  exact (atomicWhole_c a1 cap1 us a2 cap2 vs v2 v3 first w b1 (by omega) c1 b2 (by omega) c2).mono fun _ _ h => ⟨h.1, h.2.below0⟩
end Go.Proofs.Ytkokgbmeienokaa
