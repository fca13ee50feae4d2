/- DiskCuts: the walk. -/
import Derived.Test.YtkokgbmeienokaaDt
import Derived.Test.YtkokgbmeienokaaRl
set_option linter.unusedVariables false
set_option linter.unusedSimpArgs false
set_option linter.unnecessarySimpa false
namespace Go.Proofs.Ytkokgbmeienokaa
open Go.RowKit

theorem cut_facts (q : Nat) (p : ByteArray) (xs ys : List Int) (k N S : Nat) (sync is : Bool) (hS : S = if sync = true then xs.length else 0) (hN : N = if sync = true then xs.length + min k ys.length else min k (xs.length + ys.length)) (his : is = (sync || decide (0 < N))) :
    ∃ d6, (one q p ⟨xs ++ ys, S, sync⟩).crash k = d6 ∧ ((d6.F p = none ∧ (xs ++ ys).take N = [] ∧ is = false) ∨ ∃ f', d6.F p = some f' ∧ (xs ++ ys).take N = f'.b ∧ is = true) ∧ d6.used = N ∧ d6.crash 0 = d6 ∧ d6.dead = false := by
  have hk : kept k ⟨xs ++ ys, S, sync⟩ = N := by
    unfold kept
    simp only [List.length_append]
    cases sync with
    | true => rw [if_pos rfl] at hS hN; omega
    | false => rw [if_neg (by simp)] at hS hN; omega
  have hNl : N ≤ (xs ++ ys).length := by
    rw [List.length_append]
    cases sync with
    | true => rw [if_pos rfl] at hN; omega
    | false => rw [if_neg (by simp)] at hN; omega
  refine ⟨_, one_crash _ _ _ _, ?_⟩
  have hcr : crF k ⟨xs ++ ys, S, sync⟩ = if N = 0 ∧ sync = false then none else some ⟨(xs ++ ys).take N, N, true⟩ := by unfold crF; rw [hk]
  rw [hcr]
  by_cases hz : N = 0 ∧ sync = false
  · rw [if_pos hz]
    obtain ⟨rfl, rfl⟩ := hz
    exact ⟨.inl ⟨rfl, by simp, by rw [his]; rfl⟩, rfl, rfl, rfl⟩
  · rw [if_neg hz]
    have hi : is = true := by
      rw [his]
      cases sync with
      | true => rfl
      | false =>
        have : 0 < N := Nat.pos_of_ne_zero (fun e => hz ⟨e, rfl⟩)
        simp [this]
    have hl : ((xs ++ ys).take N).length = N := by rw [List.length_take]; omega
    refine ⟨.inr ⟨_, one_F _ _ _, rfl, hi⟩, (one_used _ _ _).trans hl, ?_, rfl⟩
    refine (one_crash _ _ _ _).trans ?_
    have h2 : kept 0 ⟨(xs ++ ys).take N, N, true⟩ = N := by
      show N + min 0 (((xs ++ ys).take N).length - N) = N
      omega
    have : crF 0 ⟨(xs ++ ys).take N, N, true⟩ = some ⟨(xs ++ ys).take N, N, true⟩ := by
      unfold crF
      rw [h2, if_neg (by simp)]
      show some (⟨((xs ++ ys).take N).take N, N, true⟩ : Fi) = _
      rw [List.take_take, Nat.min_self]
    rw [this]

def pf : ByteArray := { data := #[102] }
theorem pf_ne : pf ≠ emp := by intro h; have := congrArg (fun b => b.data[0]?) h; simp [pf, emp] at this
theorem bz_lt {w : World} {A : Option Addr} {c : Nat} {bs : List Int} (h : Bz w A c bs) : bs ≠ [] → ∀ b, A = some b → b.block < w.heap.size := by
  intro hz b hA
  obtain ⟨B, off, eA, hl, _⟩ := h.cell 0 (List.length_pos_iff.2 hz)
  rw [eA] at hA; injection hA with hA; subst hA
  exact hl

set_option maxRecDepth 100000 in
set_option maxHeartbeats 2000000 in
theorem diskCutsT_c (a : Option Addr) (ca : Nat) (us : List Int) (b : Option Addr) (cb : Nat) (bs : List Int) (keep : Int) (w : World) (ha : Bz w a ca us) (hb : Bz w b cb bs) (la : us.length ≤ 140737488355328) (lb : bs.length ≤ 140737488355328) (ka : us.length ≤ ca) (kb : bs.length ≤ cb) :
    Calls Try.prog 3 #[.slice a us.length ca, .slice b bs.length cb, .int .i64 keep, .bool true] w fun e w' => e = .returned (.bool true) ∧ Kp0 w w' := by
  go_enter Try.func3, Try.ntmps3
  go_wp2_with fail
  refine (cutNz_c a ca us w ha (by omega) ka 40 (by omega)).mono ?_
  rintro e w1 ⟨A1, c1, rfl, o1, k1, f1⟩
  have lx : (us.take 40).length ≤ 40 := by rw [List.length_take]; omega
  have zx := bz_own o1 rfl (fun c hc => ha.byt c (List.mem_of_mem_take hc))
  clear o1 f1
  generalize us.take 40 = xs at zx lx ⊢
  go_wp2_with fail
  refine (cutNz_c b cb bs w1 (hb.kp0 k1) (by omega) kb 40 (by omega)).mono ?_
  rintro e w2 ⟨B1, d1, rfl, o2, k2, f2⟩
  have ly : (bs.take 40).length ≤ 40 := by rw [List.length_take]; omega
  have zx := zx.kp0 k2
  have zy := bz_own o2 rfl (fun c hc => hb.byt c (List.mem_of_mem_take hc))
  have k12 := k1.then0 k2
  clear o2 f2 k1 k2 ha hb la lb ka kb
  generalize bs.take 40 = ys at zy ly ⊢
  go_wp2_with fail
  refine (new19_c 200 w2).mono ?_
  rintro e w3 ⟨g, O, rfl, h3, hO, k3⟩
  have h3 : Fd w2 w3 g 0 O (dk0 200) := ⟨h3, hO, k3⟩
  clear k3 hO
  go_wp2_with fail
  refine (fd_app h3 (p := pf) (by decide) (by omega) (by omega) (zx.kp0 h3.kp) (fun hz b hA ho => by have := bz_lt zx hz b hA; have := h3.new _ ho; omega) (zero_app pf_ne (by omega))).mono ?_
  rintro e w4 ⟨rfl, O4, h4⟩
  clear h3
  go_wp2_with fail
  refine (fd_syn h4 (p := pf) (by decide) (by omega) (one_syn pf_ne)).mono ?_
  rintro e w5 ⟨rfl, O5, h5⟩
  clear h4
  go_wp2_with fail
  refine (fd_app h5 (p := pf) (by decide) (by omega) (by omega) (zy.kp0 h5.kp) (fun hz b hA ho => by have := bz_lt zy hz b hA; have := h5.new _ ho; omega) (one_app pf_ne (by show xs.length + ys.length ≤ 200; omega))).mono ?_
  rintro e w6 ⟨rfl, O6, h6⟩
  clear h5
  go_wp2_with fail
  refine (within22_x keep 100 (by omega) (by omega) w6).mono ?_
  rintro e w6' ⟨k, hk, rfl, rfl⟩
  obtain ⟨N, hN⟩ : ∃ N, N = xs.length + min k ys.length := ⟨_, rfl⟩
  obtain ⟨is, his⟩ : ∃ is, is = (true || decide (0 < N)) := ⟨_, rfl⟩
  obtain ⟨d6, hd, hF, hu, hc0, hdd⟩ := cut_facts 200 pf xs ys k N (xs.length) true is (by simp) (by simpa using hN) his
  have hNl : N ≤ (xs ++ ys).length := by rw [List.length_append]; omega
  go_wp2_with fail
  refine (copybz_c A1 c1 xs _ (zx.kp0 h6.kp) (by omega)).mono ?_
  rintro e w7 ⟨A7, c7, rfl, o7, k7, f7⟩
  have h7 := h6.kp0 k7
  have hOlt := h6.at_.olt
  have hs26 := h6.kp.size
  clear h6
  have zy7 := zy.kp0 h7.kp
  have hby : ∀ c ∈ xs ++ ys, 0 ≤ c ∧ c ≤ 255 := fun c hc => by
    rcases List.mem_append.1 hc with hc | hc
    · exact zx.byt c hc
    · exact zy.byt c hc
  go_wp2_with (at_builtin; refine app_any rfl _ _ rfl (.slice A7 xs.length c7) xs.length (u8s xs) rfl B1 ys.length d1 ys rfl rfl zy7 o7 (by omega) ?_)
  intro v8 w8 o8 k8 b8
  have h8 : Fd w2 w8 g _ O6 _ := ⟨h7.at_.kp k8 (fun i ho hi => by have := f7 i hi; have := hOlt i ho; omega), h7.new, h7.kp.trans k8 (fun i hi e => by have := f7 i e; omega)⟩
  obtain ⟨A8, c8, rfl⟩ := own_sl o8
  have z8 : Bz w8 A8 c8 (xs ++ ys) := bz_own (by rw [List.length_append]; simpa [u8s] using o8) (by rw [List.length_append]) hby
  have hcap : (xs ++ ys).length ≤ c8 ∧ c8 ≤ 9223372036854775807 := by
    rw [List.length_append]
    rcases own_shape o8 with ⟨e, e0, _⟩ | ⟨r, cap, e, e1, e2, _⟩
    · injection e with _ _ e3
      subst e3; omega
    · injection e with _ _ e3
      subst e3; exact ⟨e1, e2⟩
  have h8n : xs ++ ys ≠ [] → ∀ b, A8 = some b → ¬ O6 b.block := fun hz b hA ho => by
    have hlt := hOlt _ ho
    have hs7 := k7.size
    rcases own_shape o8 with ⟨e, _, _⟩ | ⟨r, cap, e, _⟩
    · injection e with e1; rw [hA] at e1; cases e1
    · rw [e] at b8
      injection e with e1 _ _
      rw [e1] at hA
      injection hA with hA
      subst hA
      rcases b8 with b8 | b8
      · have := f7 r (b8.symm.trans (by simp [Value.ownBlock]))
        simp only at hlt
        omega
      · simp [Value.ownBlock] at b8
        simp only at hlt
        omega
  clear h7 o7 o8 k7 k8 b8 f7 zy7 hOlt hby zx zy hs26
  go_upto_region 7 with fail
  go_cut [11] from 49 to 52 (fun s wx => (∃ M : Int, s = .int .i64 M) ∧ w8 = wx)
  case first =>
    clear h8 hF hu hc0 hdd his hd z8
    have HN := Lib.hid hN
    clear hN
    go_wp2_with fail
    all_goals
      go_meet
      have := HN.out
      exact ⟨⟨_, rfl⟩, rfl⟩
  case rest =>
    obtain ⟨⟨M, rfl⟩, rfl⟩ := hcut
    go_upto_region 9 with fail
    go_cut [11] from 54 to 60 (fun s wx => s = .int .i64 (N : Nat) ∧ w8 = wx)
    case first =>
      clear h8 hF hu hc0 hdd his hd z8
      have HN := Lib.hid hN
      clear hN
      go_wp2_with fail
      all_goals
        go_meet
        have := HN.out
        refine ⟨congrArg (Value.int .i64) ?_, rfl⟩
        first | omega | (rw [IntKind.wrap_i64]; omega)
    case rest =>
      obtain ⟨rfl, rfl⟩ := hcut
      go_wp2_with fail
      refine (fd_crash h8 k (by omega) (by omega) hd).mono ?_
      rintro e w9 ⟨rfl, O9, h9, kcr, _⟩
      have z9 := z8.kp kcr h8n
      have hap : (xs ++ ys).length = xs.length + ys.length := List.length_append
      have hTl : ((xs ++ ys).take N).length = N := by rw [List.length_take]; omega
      have hTb : ∀ c ∈ (xs ++ ys).take N, 0 ≤ c ∧ c ≤ 255 := fun c hc => z9.byt c (List.mem_of_mem_take hc)
      obtain ⟨As, cs, hsl, zs, _, _⟩ := run_cuthi z9 hcap.1 hcap.2 N hNl
      rw [hap] at hsl
      have hrd := fd_read h9 (p := pf) (by decide) _ is hF (by rw [hTl]; omega) hTb
      rw [hTl] at hrd
      replace his : is = true := his; subst his
      have HF := Lib.hid hF
      clear hF
      have hN200 : N ≤ 200 := by omega
      have hlt9 := h9.at_.olt
      clear h8 z8 h8n z9 hcap hd kcr hN hap hNl
      go_wp2_with fail
      refine hrd.mono ?_
      rintro e w10 ⟨Ax, cx, rfl, zx, h10, k10, fx⟩
      have zs10 := zs.kp0 k10
      have hsm := same26_c Ax cx As cs _ (by rw [hTl]; omega) w10 zx zs10
      rw [hTl] at hsm
      clear hrd zs zs10
      go_wp2_with fail
      refine hsm.mono ?_
      rintro e w11 ⟨rfl, k11⟩
      have h11 := h10.kp0 k11
      have zx11 := zx.kp0 k11
      clear hsm h10
      have hus := used27_c g _ _ _ w11 h11.at_
      rw [hu] at hus
      go_wp2_with fail
      refine hus.mono ?_
      rintro e w12 ⟨rfl, k12'⟩
      have h12 := h11.kp0 k12'
      have zx12 := zx11.kp0 k12'
      clear h11 hus
      go_wp2_with fail
      refine (fd_crash h12 0 (by omega) (by omega) hc0).mono ?_
      rintro e w13 ⟨rfl, O13, h13, kc, _⟩
      have zx13 := zx12.kp kc (fun hz b hA ho => by have := fx b hA; have := hlt9 _ ho; omega)
      have hrd := fd_read h13 (p := pf) (by decide) ((xs ++ ys).take N) true (HF.out.imp (fun x => ⟨x.1, x.2.1, by simpa using x.2.2⟩) (fun ⟨f, x⟩ => ⟨f, x.1, x.2.1, by simpa using x.2.2⟩)) (by rw [hTl]; omega) hTb
      rw [hTl] at hrd
      clear h12 kc
      go_wp2_with fail
      refine hrd.mono ?_
      rintro e w14 ⟨Ay, cy, rfl, zy, h14, k14, _⟩
      have hsm := same26_c Ax cx Ay cy _ (by rw [hTl]; omega) w14 (zx13.kp0 k14) zy
      rw [hTl] at hsm
      clear hrd h13
      go_wp2_with fail
      refine hsm.mono ?_
      rintro e w15 ⟨rfl, k15⟩
      have h15 := h14.kp0 k15
      clear hsm h14
      go_wp2_with fail
      refine (dead28_c g _ _ _ w15 h15.at_).mono ?_
      rw [hdd]
      rintro e w16 ⟨rfl, rfl⟩
      go_wp2_with fail
      refine (wakes29_c w15).mono ?_
      rintro e w17 ⟨rfl, k17⟩
      have K := (k12.then0 h15.kp).then0 k17
      clear h15
      go_wp2
      go_ret
      exact ⟨rfl, K⟩

set_option maxRecDepth 100000 in
set_option maxHeartbeats 2000000 in
theorem diskCutsF_c (a : Option Addr) (ca : Nat) (us : List Int) (b : Option Addr) (cb : Nat) (bs : List Int) (keep : Int) (w : World) (ha : Bz w a ca us) (hb : Bz w b cb bs) (la : us.length ≤ 140737488355328) (lb : bs.length ≤ 140737488355328) (ka : us.length ≤ ca) (kb : bs.length ≤ cb) :
    Calls Try.prog 3 #[.slice a us.length ca, .slice b bs.length cb, .int .i64 keep, .bool false] w fun e w' => e = .returned (.bool true) ∧ Kp0 w w' := by
  go_enter Try.func3, Try.ntmps3
  go_wp2_with fail
  refine (cutNz_c a ca us w ha (by omega) ka 40 (by omega)).mono ?_
  rintro e w1 ⟨A1, c1, rfl, o1, k1, f1⟩
  have lx : (us.take 40).length ≤ 40 := by rw [List.length_take]; omega
  have zx := bz_own o1 rfl (fun c hc => ha.byt c (List.mem_of_mem_take hc))
  clear o1 f1
  generalize us.take 40 = xs at zx lx ⊢
  go_wp2_with fail
  refine (cutNz_c b cb bs w1 (hb.kp0 k1) (by omega) kb 40 (by omega)).mono ?_
  rintro e w2 ⟨B1, d1, rfl, o2, k2, f2⟩
  have ly : (bs.take 40).length ≤ 40 := by rw [List.length_take]; omega
  have zx := zx.kp0 k2
  have zy := bz_own o2 rfl (fun c hc => hb.byt c (List.mem_of_mem_take hc))
  have k12 := k1.then0 k2
  clear o2 f2 k1 k2 ha hb la lb ka kb
  generalize bs.take 40 = ys at zy ly ⊢
  go_wp2_with fail
  refine (new19_c 200 w2).mono ?_
  rintro e w3 ⟨g, O, rfl, h3, hO, k3⟩
  have h3 : Fd w2 w3 g 0 O (dk0 200) := ⟨h3, hO, k3⟩
  clear k3 hO
  go_wp2_with fail
  refine (fd_app h3 (p := pf) (by decide) (by omega) (by omega) (zx.kp0 h3.kp) (fun hz b hA ho => by have := bz_lt zx hz b hA; have := h3.new _ ho; omega) (zero_app pf_ne (by omega))).mono ?_
  rintro e w4 ⟨rfl, O4, h4⟩
  clear h3
  go_wp2_with fail
  have h5 := h4
  clear h4
  refine (fd_app h5 (p := pf) (by decide) (by omega) (by omega) (zy.kp0 h5.kp) (fun hz b hA ho => by have := bz_lt zy hz b hA; have := h5.new _ ho; omega) (one_app pf_ne (by show xs.length + ys.length ≤ 200; omega))).mono ?_
  rintro e w6 ⟨rfl, O6, h6⟩
  clear h5
  go_wp2_with fail
  refine (within22_x keep 100 (by omega) (by omega) w6).mono ?_
  rintro e w6' ⟨k, hk, rfl, rfl⟩
  obtain ⟨N, hN⟩ : ∃ N, N = min k (xs.length + ys.length) := ⟨_, rfl⟩
  obtain ⟨is, his⟩ : ∃ is, is = (false || decide (0 < N)) := ⟨_, rfl⟩
  obtain ⟨d6, hd, hF, hu, hc0, hdd⟩ := cut_facts 200 pf xs ys k N (0) false is (by simp) (by simpa using hN) his
  have hNl : N ≤ (xs ++ ys).length := by rw [List.length_append]; omega
  go_wp2_with fail
  refine (copybz_c A1 c1 xs _ (zx.kp0 h6.kp) (by omega)).mono ?_
  rintro e w7 ⟨A7, c7, rfl, o7, k7, f7⟩
  have h7 := h6.kp0 k7
  have hOlt := h6.at_.olt
  have hs26 := h6.kp.size
  clear h6
  have zy7 := zy.kp0 h7.kp
  have hby : ∀ c ∈ xs ++ ys, 0 ≤ c ∧ c ≤ 255 := fun c hc => by
    rcases List.mem_append.1 hc with hc | hc
    · exact zx.byt c hc
    · exact zy.byt c hc
  go_wp2_with (at_builtin; refine app_any rfl _ _ rfl (.slice A7 xs.length c7) xs.length (u8s xs) rfl B1 ys.length d1 ys rfl rfl zy7 o7 (by omega) ?_)
  intro v8 w8 o8 k8 b8
  have h8 : Fd w2 w8 g _ O6 _ := ⟨h7.at_.kp k8 (fun i ho hi => by have := f7 i hi; have := hOlt i ho; omega), h7.new, h7.kp.trans k8 (fun i hi e => by have := f7 i e; omega)⟩
  obtain ⟨A8, c8, rfl⟩ := own_sl o8
  have z8 : Bz w8 A8 c8 (xs ++ ys) := bz_own (by rw [List.length_append]; simpa [u8s] using o8) (by rw [List.length_append]) hby
  have hcap : (xs ++ ys).length ≤ c8 ∧ c8 ≤ 9223372036854775807 := by
    rw [List.length_append]
    rcases own_shape o8 with ⟨e, e0, _⟩ | ⟨r, cap, e, e1, e2, _⟩
    · injection e with _ _ e3
      subst e3; omega
    · injection e with _ _ e3
      subst e3; exact ⟨e1, e2⟩
  have h8n : xs ++ ys ≠ [] → ∀ b, A8 = some b → ¬ O6 b.block := fun hz b hA ho => by
    have hlt := hOlt _ ho
    have hs7 := k7.size
    rcases own_shape o8 with ⟨e, _, _⟩ | ⟨r, cap, e, _⟩
    · injection e with e1; rw [hA] at e1; cases e1
    · rw [e] at b8
      injection e with e1 _ _
      rw [e1] at hA
      injection hA with hA
      subst hA
      rcases b8 with b8 | b8
      · have := f7 r (b8.symm.trans (by simp [Value.ownBlock]))
        simp only at hlt
        omega
      · simp [Value.ownBlock] at b8
        simp only at hlt
        omega
  clear h7 o7 o8 k7 k8 b8 f7 zy7 hOlt hby zx zy hs26
  go_upto_region 7 with fail
  go_cut [11] from 49 to 60 (fun s wx => s = .int .i64 (N : Nat) ∧ w8 = wx)
  case first =>
    clear h8 hF hu hc0 hdd his hd z8
    have HN := Lib.hid hN
    clear hN
    go_wp2_with fail
    all_goals
      go_meet
      have := HN.out
      refine ⟨congrArg (Value.int .i64) ?_, rfl⟩
      first | omega | (rw [IntKind.wrap_i64]; omega)
  case rest =>
    obtain ⟨rfl, rfl⟩ := hcut
    go_wp2_with fail
    refine (fd_crash h8 k (by omega) (by omega) hd).mono ?_
    rintro e w9 ⟨rfl, O9, h9, kcr, _⟩
    have z9 := z8.kp kcr h8n
    have hap : (xs ++ ys).length = xs.length + ys.length := List.length_append
    have hTl : ((xs ++ ys).take N).length = N := by rw [List.length_take]; omega
    have hTb : ∀ c ∈ (xs ++ ys).take N, 0 ≤ c ∧ c ≤ 255 := fun c hc => z9.byt c (List.mem_of_mem_take hc)
    obtain ⟨As, cs, hsl, zs, _, _⟩ := run_cuthi z9 hcap.1 hcap.2 N hNl
    rw [hap] at hsl
    have hrd := fd_read h9 (p := pf) (by decide) _ is hF (by rw [hTl]; omega) hTb
    rw [hTl] at hrd
    replace his : is = decide ((0 : Int) < (N : Int)) := (by rw [his]; simp); subst his
    have HF := Lib.hid hF
    clear hF
    have hN200 : N ≤ 200 := by omega
    have hlt9 := h9.at_.olt
    clear h8 z8 h8n z9 hcap hd kcr hN hap hNl
    go_wp2_with fail
    refine hrd.mono ?_
    rintro e w10 ⟨Ax, cx, rfl, zx, h10, k10, fx⟩
    have zs10 := zs.kp0 k10
    have hsm := same26_c Ax cx As cs _ (by rw [hTl]; omega) w10 zx zs10
    rw [hTl] at hsm
    clear hrd zs zs10
    go_wp2_with fail
    refine hsm.mono ?_
    rintro e w11 ⟨rfl, k11⟩
    have h11 := h10.kp0 k11
    have zx11 := zx.kp0 k11
    clear hsm h10
    have hus := used27_c g _ _ _ w11 h11.at_
    rw [hu] at hus
    go_wp2_with fail
    refine hus.mono ?_
    rintro e w12 ⟨rfl, k12'⟩
    have h12 := h11.kp0 k12'
    have zx12 := zx11.kp0 k12'
    clear h11 hus
    go_wp2_with fail
    refine (fd_crash h12 0 (by omega) (by omega) hc0).mono ?_
    rintro e w13 ⟨rfl, O13, h13, kc, _⟩
    have zx13 := zx12.kp kc (fun hz b hA ho => by have := fx b hA; have := hlt9 _ ho; omega)
    have hrd := fd_read h13 (p := pf) (by decide) ((xs ++ ys).take N) (decide ((0 : Int) < (N : Int))) (HF.out.imp (fun x => ⟨x.1, x.2.1, by simpa using x.2.2⟩) (fun ⟨f, x⟩ => ⟨f, x.1, x.2.1, by simpa using x.2.2⟩)) (by rw [hTl]; omega) hTb
    rw [hTl] at hrd
    clear h12 kc
    go_wp2_with fail
    refine hrd.mono ?_
    rintro e w14 ⟨Ay, cy, rfl, zy, h14, k14, _⟩
    have hsm := same26_c Ax cx Ay cy _ (by rw [hTl]; omega) w14 (zx13.kp0 k14) zy
    rw [hTl] at hsm
    clear hrd h13
    go_wp2_with fail
    refine hsm.mono ?_
    rintro e w15 ⟨rfl, k15⟩
    have h15 := h14.kp0 k15
    clear hsm h14
    go_wp2_with fail
    refine (dead28_c g _ _ _ w15 h15.at_).mono ?_
    rw [hdd]
    rintro e w16 ⟨rfl, rfl⟩
    go_wp2_with fail
    refine (wakes29_c w15).mono ?_
    rintro e w17 ⟨rfl, k17⟩
    have K := (k12.then0 h15.kp).then0 k17
    clear h15
    go_wp2
    go_ret
    exact ⟨rfl, K⟩

theorem diskCuts_w (a0 : Option Addr) (len0 cap0 : Nat) (z0 : List Int) (a1 : Option Addr) (len1 cap1 : Nat) (z1 : List Int) (v2 : Int) (v3 : Bool) (w : World) (h0 : IsInts .u8 w a0 len0 cap0 z0) (l0 : len0 * 1 ≤ 140737488351232) (h1 : IsInts .u8 w a1 len1 cap1 z1) (l1 : len1 * 1 ≤ 140737488351232) (h2 : (Lit.int .i64 v2).wf = true) :
    Calls Try.prog 3 #[.slice a0 len0 cap0, .slice a1 len1 cap1, .int .i64 v2, .bool v3] w fun e' w' => e' = .returned (.bool true) ∧ Below w.heap.size w w' := by
  obtain ⟨us, rfl, c0, b0⟩ := br_ints h0
  obtain ⟨vs, rfl, c1, b1⟩ := br_ints h1
  cases v3 with
  | true => exact (diskCutsT_c a0 cap0 us a1 cap1 vs v2 w b0 b1 (by omega) (by omega) c0 c1).mono fun _ _ h => ⟨h.1, h.2.below0⟩
  | false => exact (diskCutsF_c a0 cap0 us a1 cap1 vs v2 w b0 b1 (by omega) (by omega) c0 c1).mono fun _ _ h => ⟨h.1, h.2.below0⟩
end Go.Proofs.Ytkokgbmeienokaa
