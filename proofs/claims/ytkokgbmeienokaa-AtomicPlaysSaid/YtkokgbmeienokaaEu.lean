/- DiskNames: the walk. -/
import Derived.Test.YtkokgbmeienokaaEt
set_option linter.unusedVariables false
set_option linter.unusedSimpArgs false
set_option linter.unnecessarySimpa false
namespace Go.Proofs.Ytkokgbmeienokaa
open Go.RowKit

theorem run_app1 {w : World} {v : Value} {n : Nat} {xs : List Value} (HO : w.ownsRow 0 5 1 v n xs) {B : Nat} {x : Int} (hB : Blk w B #[.int .u8 x] 5) (hl : n ≤ 100000) :
    ∃ v' w', (Builtin.append_ #[22, 22] 22 #[v, .slice (some ⟨B, 0, none⟩) 1 1]).run Try.prog w = .ok v' w' ∧ w'.ownsRow 0 5 1 v' (n + 1) (xs ++ [.int .u8 x]) ∧ Kp (fun i => v.ownBlock = some i) w w' := by
  obtain ⟨i0, hi, hzz⟩ := Option.map_eq_some_iff.1 info5'
  simp only [Prod.mk.injEq] at hzz
  obtain ⟨hz0, hz1, hz2⟩ := hzz
  obtain ⟨v', w', h1, h2, h3, _⟩ := run_append_own (P := Try.prog) (w := w) 0 22 22 5 i0 (.int .u8 0) 1 1 Try.underlying22 hi hz0 hz1 hz2 rfl (by decide) v n xs HO ⟨B, 0, none⟩ 1 1 [.int .u8 x] rfl (Vw.of_blk hB).add (by simp [Value.oneCell']) (by unfold maxLen; omega) (by omega) (Nat.zero_le _)
  exact ⟨v', w', h1, h2, (Kp.refl _ _).grown h3 (fun k hk _ => hk)⟩

theorem wpList_got {P : Program} {ops : Array Oper} {Q : Exit → Act → World → Prop} {a : Act} {w : World} {rest : List Oper} {o : Oper} (hw : Region.wanted o (yielded ops a.tmps) = true)
    (h : ∀ K : Act → World → Prop, (∀ a w, wpList P ops Q rest a w → K a w) → o.wp P a w K Q) : wpList P ops Q (o :: rest) a w :=
  wpList_step fun K hK => by rw [if_pos hw]; exact h K hK
theorem list_eqg {w w1 : World} {ops : Array Oper} {rest : List Oper} {o : Oper} {a : Act} {Q : Exit → Act → World → Prop} (hw : Region.wanted o (yielded ops a.tmps) = true) (s x : Operand)
    (ho : o.op = .call { callee := .builtin .append, args := #[s, x], argTypes := #[22, 22] }) (hty : o.type = 22) {v y v1 : Value} (hs : a.eval s = v) (hx : a.eval x = y)
    (hrun : (Builtin.append_ #[22, 22] 22 #[v, y]).run Try.prog w = .ok v1 w1) (hK : wpList Try.prog ops Q rest (a.put o.dst v1) w1) : wpList Try.prog ops Q (o :: rest) a w := by
  refine wpList_got hw fun K h => ?_
  unfold Oper.wp execOp
  simp only [ho, hty, resolve, invoke, builtin, Sem.run_bind, Sem.run_pure, Result.andThen_ok, List.map_toArray, List.map_cons, List.map_nil, hs, hx, hrun]
  exact h _ _ hK

theorem fd_syn2 {w w1 : World} {g n : Nat} {O : Nat → Prop} {d d2 : Dk} {p : ByteArray} {x : Int} (h : Fd w w1 g n O d) (hp : p.size ≤ 100) (hn : n ≤ 1000000) (he : d.syn p = (x, d2)) :
    Calls Try.prog 21 #[.pointer (some ⟨g, 0, none⟩), .string p] w1 fun e w' => e = .returned (.int .i64 x) ∧ Kp O w1 w' ∧ ∃ O', Fd w w' g (n + 1) O' d2 ∧ ∀ i, O' i → O i ∨ w1.heap.size ≤ i := by
  refine (sync21_c g n O d p hp hn w1 h.at_).mono ?_
  rintro e w' D
  have D2 := h.did (he ▸ D)
  obtain ⟨O', _, h1, h2, k⟩ := D
  rw [he] at h1
  refine ⟨D2.1, k, O', ⟨h1, fun i hi => ?_, h.kp.trans k (fun i hi e => by have := h.new i e; omega)⟩, h2⟩
  rcases h2 i hi with h3 | h3
  · exact h.new i h3
  · exact Nat.le_trans h.kp.size h3
theorem fd_listp {w w1 : World} {g n : Nat} {O : Nat → Prop} {d : Dk} (h : Fd w w1 g n O d) (hn : n ≤ 1000000) (pre : ByteArray) (ps : List ByteArray) (hps : d.lsp pre = ps) :
    Calls Try.prog 35 #[.pointer (some ⟨g, 0, none⟩), .string pre] w1 fun e w' => ∃ A c, e = .returned (.slice A ps.length c) ∧ Sg w' A ps ∧ Fd w w' g n O d ∧ Kp0 w1 w' := by
  refine (listp35_c g n O d pre hn w1 h.at_).mono ?_
  rintro e w' ⟨A, c, rfl, hs, k⟩
  rw [hps] at hs ⊢
  exact ⟨A, c, rfl, hs, h.kp0 k, k⟩
theorem Blk.sgk {w w' : World} {S : Nat → Prop} {B : Nat} {cs : Array Value} {T : TypeId} (h : Blk w B cs T) (k : Kp S w w') (hn : ¬ S B) : Blk w' B cs T := h.kp k hn

set_option maxRecDepth 100000 in
set_option maxHeartbeats 8000000 in
theorem diskNames_c (a1 : Option Addr) (ca : Nat) (us : List Int) (v1 : Int) (w : World) (ha : Bz w a1 ca us) (la : us.length ≤ 140737488355328) (ka : us.length ≤ ca) :
    Calls Try.prog 7 #[.slice a1 us.length ca, .int .i64 v1] w fun e' w' => e' = .returned (.bool true) ∧ Kp0 w w' := by
  go_enter Try.func7, Try.ntmps7
  go_wp2_with fail
  refine (cutNz_c a1 ca us w ha (by omega) ka 20 (by decide)).mono ?_
  rintro e w1 ⟨A, c, rfl, o1, k1, f1⟩
  have hab : ∀ c ∈ us.take 20, 0 ≤ c ∧ c ≤ 255 := fun c hc => ha.byt c (List.mem_of_mem_take hc)
  have hal : (us.take 20).length ≤ 20 := by rw [List.length_take]; omega
  have zb := bz_own o1 rfl hab
  clear ha ka la o1 f1
  generalize us.take 20 = b at hab hal zb ⊢
  go_wp2_with fail
  refine (new19_c 500 w1).mono ?_
  rintro e w2 ⟨g, O, rfl, h1, hO, k2⟩
  have F2 : Fd w1 w2 g 0 O (al 500 [] none) := ⟨h1, hO, k2⟩
  clear h1 hO k2
  have ka : Kp0 w2 (w2.alloc (.cells #[.string n2, .string pa, .string n1, .string pB, .string nc, .string n10] 9)) := (Kp.refl _ _).alloc _
  have B3 : Blk (w2.alloc (.cells #[.string n2, .string pa, .string n1, .string pB, .string nc, .string n10] 9)) w2.heap.size #[.string n2, .string pa, .string n1, .string pB, .string nc, .string n10] 9 := blk_new _ _ rfl
  have F3 := F2.kp0 ka
  have hB3 : ¬ O w2.heap.size := fun h => Nat.lt_irrefl _ (F2.at_.olt _ h)
  clear F2 ka
  go_wp2_with fail
  go_loopw [19] (fun s wr => ∃ (j n : Nat) (O : Nat → Prop), j ≤ 6 ∧ s = .int .i64 (j : Nat) ∧ n ≤ 2 * j ∧ Fd w1 wr g n O (al 500 (nmL b (nps.take j)) none) ∧ Blk wr w2.heap.size #[.string n2, .string pa, .string n1, .string pB, .string nc, .string n10] 9 ∧ ¬ O w2.heap.size) (fun s _ => (6 - intOf s).toNat)
  case atStart => exact ⟨0, 0, O, by omega, rfl, by omega, F3, B3, hB3⟩
  case round =>
    obtain ⟨j, n, O', hj, rfl, hn', F, B, hBO⟩ := hrel
    clear F3 B3 hB3
    by_cases hlt : j < 6
    · have hjl : j < nps.length := hlt
      obtain ⟨d1, e1, e2⟩ := nm_step b hal j hjl
      have hsz := nps_sz nps[j] (List.getElem_mem hjl)
      have hcell : wr.cell? ⟨w2.heap.size, j, none⟩ = some (.string nps[j]) := by
        rw [B.cell j]
        obtain rfl | rfl | rfl | rfl | rfl | rfl : j = 0 ∨ j = 1 ∨ j = 2 ∨ j = 3 ∨ j = 4 ∨ j = 5 := by omega
        all_goals rfl
      generalize nps[j] = p at e1 e2 hsz hcell
      have E1 := Lib.hid e1
      have E2 := Lib.hid e2
      have hBl := B.lt
      clear e1 e2
      go_wp2_with fail
      refine (fd_app2 F (p := p) hsz (by omega) (by omega) (zb.kp0 F.kp) (fd_own F zb) E1.out).mono ?_
      rintro e w4 ⟨rfl, K4, O4, F4, hO4⟩
      have B4 := B.kp K4 hBO
      have hB4 : ¬ O4 w2.heap.size := fun h => by rcases hO4 _ h with h | h; exact hBO h; omega
      have hz4 := K4.size
      clear F B hBO E1 K4 hO4 hcell
      go_wp2_with fail
      refine (fd_syn2 F4 (p := p) hsz (by omega) E2.out).mono ?_
      rintro e w5 ⟨rfl, K5, O5, F5, hO5⟩
      have B5 := B4.kp K5 hB4
      have hB5 : ¬ O5 w2.heap.size := fun h => by rcases hO5 _ h with h | h; exact hB4 h; omega
      clear F4 B4 hB4 E2 K5 hO5
      go_wp2
      go_roundw
      case rel => exact ⟨j + 1, n + 1 + 1, O5, by omega, by go_num, by omega, F5, B5, hB5⟩
      case measure => simp [intOf]; omega
    · obtain rfl : j = 6 := by omega
      have F6 : Fd w1 wr g n O' (al 500 (n6 b (sy b)) none) := F
      clear F B hBO
      obtain ⟨d1, d2, dn, e1, e2, e3, e4, e5, e6, e7, e8, e9, e10, e11, e12⟩ := names_law b hal
      have E1 := Lib.hid e1
      have E2 := Lib.hid e2
      have E3 := Lib.hid e3
      have E4 := Lib.hid e4
      have E5 := Lib.hid e5
      have E6 := Lib.hid e6
      have E7 := Lib.hid e7
      have E8 := Lib.hid e8
      have E9 := Lib.hid e9
      have E10 := Lib.hid e10
      have E11 := Lib.hid e11
      have E12 := Lib.hid e12
      clear e1 e2 e3 e4 e5 e6 e7 e8 e9 e10 e11 e12
      go_wp2_with fail
      refine (fd_listp F6 (by omega) nbs _ (n6_lsp1 500 b _)).mono ?_
      rintro e w7 ⟨A7, c7, rfl, s7, F7, k7⟩
      have ka : Kp0 w7 (w7.alloc (.cells #[.string n1, .string n10, .string n2] 9)) := (Kp.refl _ _).alloc _
      have B7 : Blk (w7.alloc (.cells #[.string n1, .string n10, .string n2] 9)) w7.heap.size #[.string n1, .string n10, .string n2] 9 := blk_new _ _ rfl
      have hsame := same37_c A7 c7 (some ⟨w7.heap.size, 0, none⟩) 3 [n1, n10, n2] (by simp) _ (s7.kp0 ka) (sg_blk B7)
      have F8 := F7.kp0 ka
      clear F6 F7 s7 B7 ka k7
      go_wp2_with fail
      refine hsame.mono ?_
      rintro e w8 ⟨rfl, k8⟩
      have F9 := F8.kp0 k8
      clear F8 k8 hsame
      go_wp2_with fail
      refine (fd_listp F9 (by omega) es _ (n6_lsp0 500 b _)).mono ?_
      rintro e w10 ⟨A10, c10, rfl, s10, F10, k10⟩
      have ka : Kp0 w10 (w10.alloc (.cells #[.string pa, .string pB, .string n1, .string n10, .string n2, .string nc] 9)) := (Kp.refl _ _).alloc _
      have B10 : Blk (w10.alloc (.cells #[.string pa, .string pB, .string n1, .string n10, .string n2, .string nc] 9)) w10.heap.size #[.string pa, .string pB, .string n1, .string n10, .string n2, .string nc] 9 := blk_new _ _ rfl
      have hsame := same37_c A10 c10 (some ⟨w10.heap.size, 0, none⟩) 6 [pa, pB, n1, n10, n2, nc] (by simp) _ (s10.kp0 ka) (sg_blk B10)
      have F11 := F10.kp0 ka
      clear F9 F10 s10 B10 ka k10
      go_wp2_with fail
      refine hsame.mono ?_
      rintro e w12 ⟨rfl, k12⟩
      have F12 := F11.kp0 k12
      clear F11 k12 hsame
      go_wp2_with fail
      refine (fd_listp F12 (by omega) nz _ (n6_lspz 500 b _)).mono ?_
      rintro e w13 ⟨A13, c13, rfl, s13, F13, k13⟩
      clear F12 s13 k13
      go_wp2_with fail
      refine (fd_app F13 (p := nt) (by decide) (by omega) (by omega) (zb.kp0 F13.kp) (fd_own F13 zb) E1.out).mono ?_
      rintro e w14 ⟨rfl, O14, F14⟩
      clear F13
      have ka : Kp0 w14 (w14.alloc (.cells #[.int .u8 7] 5)) := (Kp.refl _ _).alloc _
      have hlt14 := F14.at_.olt
      go_wp2_with fail
      refine (fd_app (F14.kp0 ka) (p := nt) (bs := [7]) (by decide) (by simp) (by omega) (one_bz (blk_new _ _ rfl) (by omega)) (fun _ b hb ho => ?_) E2.out).mono ?_
      · injection hb with hb; subst hb; exact Nat.lt_irrefl _ (hlt14 _ ho)
      rintro e w15 ⟨rfl, O15, F15⟩
      clear F14 ka hlt14
      go_wp2_with fail
      refine (fd_ren F15 (p := nt) (q := n1) (by decide) (by decide) (by omega) E3.out).mono ?_
      rintro e w16 ⟨rfl, O16, F16⟩
      clear F15
      go_wp2_with fail
      refine (fd_ren F16 (p := nt) (q := n1) (by decide) (by decide) (by omega) E4.out).mono ?_
      rintro e w17 ⟨rfl, O17, F17⟩
      clear F16
      go_wp2_with fail
      refine (fd_crash F17 0 (by omega) (by omega) E5.out).mono ?_
      rintro e w18 ⟨rfl, O18, F18, _, _⟩
      clear F17
      obtain ⟨bb, hbx⟩ : ∃ bb, b ++ [7] = bb := ⟨_, rfl⟩
      have hbb : ∀ c ∈ bb, 0 ≤ c ∧ c ≤ 255 := fun c hc => by
        rw [← hbx] at hc
        rcases List.mem_append.1 hc with h | h
        · exact hab c h
        · rw [List.mem_singleton.1 h]; decide
      have hN : b.length + 1 = bb.length := by rw [← hbx]; simp
      have e9 : u8s b ++ [Value.int .u8 7] = u8s bb := by rw [← hbx]; simp [u8s]
      rw [hbx] at E6
      clear hbx
      have HN := Lib.hid hN
      have HE9 := Lib.hid e9
      clear hN e9
      go_wp2_with fail
      refine (fd_read F18 (p := n1) (by decide) bb true (.inr ⟨_, E6.out, rfl, rfl⟩) (by have := HN.out; omega) hbb).mono ?_
      rintro e w19 ⟨A19, c19, rfl, z19, F19, _, _⟩
      clear F18
      go_wp2_with fail
      refine (fd_read F19 (p := nt) (by decide) [] false (.inl ⟨E7.out, rfl, rfl⟩) (by simp) (by simp)).mono ?_
      rintro e w20 ⟨A20, c20, rfl, _, F20, k20, _⟩
      have z20 := z19.kp0 k20
      clear F19 z19 k20
      have hcp := copybz_c A c b w20 (zb.kp0 F20.kp) (by omega)
      go_wp2_with fail
      refine hcp.mono ?_
      rintro e w21 ⟨A21, c21, rfl, o21, k21, f21⟩
      have ka : Kp0 w21 (w21.alloc (.cells #[.int .u8 7] 5)) := (Kp.refl _ _).alloc _
      have B21 : Blk (w21.alloc (.cells #[.int .u8 7] 5)) w21.heap.size #[.int .u8 7] 5 := blk_new _ _ rfl
      have o22 := own_kp o21 ka (fun _ _ h => h)
      obtain ⟨v23, w23, hrun, o23, K23⟩ := run_app1 o22 B21 (by omega)
      obtain ⟨A23, c23, rfl⟩ := own_sl o23
      have o24 : w23.ownsRow 0 5 1 (.slice A23 bb.length c23) bb.length (u8s bb) := by
        have h1 := HN.out
        have h2 := HE9.out
        rw [← h2, ← h1]; exact o23
      rw [HN.out] at hrun
      have k23 : Kp0 w20 w23 := (k21.then0 ka).trans K23 (fun i hi e => by have := f21 i e; omega)
      have z23 := bz_own o24 rfl hbb
      have F23 := F20.kp0 k23
      have hsame := same26_c A19 c19 A23 c23 bb (by have := HN.out; omega) w23 (z20.kp0 k23) z23
      clear hcp o21 f21 o22 o23 K23 B21 ka o24 z23 z20 F20 k23 k21
      have HR := Lib.hid hrun
      clear hrun
      go_wp2_with (at_builtin; go_loud (refine list_eqg (by rfl) (.tmp 89) (.tmp 90) rfl rfl rfl rfl HR.out ?_))
      go_wp2_with fail
      clear HR
      refine hsame.mono ?_
      rintro e w24 ⟨rfl, k24⟩
      have F24 := F23.kp0 k24
      clear F23 k24 hsame
      have e8' := E8.out
      have hcb : ((b.length : Int) + 1 + 1) = ((bb.length : Int) + 1) := by have := HN.out; omega
      rw [hcb] at e8'
      have HE8 := Lib.hid e8'
      have hbl : bb.length ≤ 21 := by have := HN.out; omega
      have hw1 : IntKind.i64.wrap ((bb.length : Int) + 1) = (bb.length : Int) + 1 := by rw [IntKind.wrap_i64]; omega
      clear e8' hcb E8
      go_wp2_with fail
      refine (fd_cut F24 (p := n1) (by decide) (by omega) HE8.out).mono ?_
      rintro e w25 ⟨rfl, O25, F25⟩
      clear F24 hw1
      go_wp2_with fail
      refine (fd_cut F25 (p := n1) (by decide) (by omega) E9.out).mono ?_
      rintro e w26 ⟨rfl, O26, F26⟩
      clear F25
      go_wp2_with fail
      refine (fd_cut F26 (p := nt) (by decide) (by omega) E10.out).mono ?_
      rintro e w27 ⟨rfl, O27, F27⟩
      clear F26
      go_wp2_with fail
      refine (fd_syn F27 (p := nt) (by decide) (by omega) E11.out).mono ?_
      rintro e w28 ⟨rfl, O28, F28⟩
      clear F27
      go_wp2_with fail
      refine (fd_rem F28 (p := nt) (by decide) (by omega) E12.out).mono ?_
      rintro e w29 ⟨rfl, O29, F29⟩
      clear F28
      go_wp2_with fail
      refine (wakes29_c w29).mono ?_
      rintro e w30 ⟨rfl, k30⟩
      have K := (k1.then0 F29.kp).then0 k30
      clear F29 k30
      go_wp2
      go_ret
      exact ⟨rfl, K⟩

theorem diskNames_w (a1 : Option Addr) (len1 cap1 : Nat) (z1 : List Int) (v1 : Int) (w : World) (h1 : IsInts .u8 w a1 len1 cap1 z1) (l1 : len1 * 1 ≤ 140737488351232) (h3 : (Lit.int .i64 v1).wf = true) :
    Calls Try.prog 7 #[.slice a1 len1 cap1, .int .i64 v1] w fun e' w' => e' = .returned (.bool true) ∧ Below w.heap.size w w' := by
  obtain ⟨us, rfl, c1, b1⟩ := br_ints h1
  exact (diskNames_c a1 cap1 us v1 w b1 (by omega) c1).mono fun _ _ h => ⟨h.1, h.2.below0⟩
end Go.Proofs.Ytkokgbmeienokaa
