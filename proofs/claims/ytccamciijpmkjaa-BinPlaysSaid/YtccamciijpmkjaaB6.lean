/- Package bin: slices.DeleteFunc over boxes; Due. -/
import Derived.Test.YtccamciijpmkjaaB5
import Derived.Deep.CutRange
set_option linter.unusedVariables false
set_option linter.unusedSimpArgs false
namespace Go.Proofs.Ytccamciijpmkjaa
open Go.RowKit Go.Lib Go.Sort

theorem rb_set (c : List Bx) (i : Nat) (x : Bx) (hi : i < c.length) : ((((rb c).set (i * 4) (.string x.f)).set (i * 4 + 1) (.string x.e)).set (i * 4 + 2) (.int .i64 x.n)).set (i * 4 + 3) (.int .i64 x.s) = rb (c.set i x) := by
  have hc : c = c.take i ++ c[i] :: c.drop (i + 1) := by rw [← List.drop_eq_getElem_cons hi, List.take_append_drop]
  have hs : c.set i x = c.take i ++ x :: c.drop (i + 1) := by
    conv => lhs; rw [hc]
    rw [List.set_append_right _ _ (by rw [List.length_take]; omega)]
    rw [List.length_take, Nat.min_eq_left (by omega), Nat.sub_self]
    rfl
  have hl : (rb (c.take i)).length = i * 4 := by rw [rb_len, List.length_take, Nat.min_eq_left (by omega)]
  have hr : rb c = rb (c.take i) ++ ([.string c[i].f, .string c[i].e, .int .i64 c[i].n, .int .i64 c[i].s] ++ rb (c.drop (i + 1))) := by
    conv => lhs; rw [hc, rb_app]
    rfl
  rw [hs, rb_app, hr]
  rw [List.set_append_right _ _ (by omega), List.set_append_right _ _ (by omega), List.set_append_right _ _ (by omega), List.set_append_right _ _ (by omega)]
  congr 1
  rw [hl]
  rw [show i * 4 - i * 4 = 0 by omega, show i * 4 + 1 - i * 4 = 1 by omega, show i * 4 + 2 - i * 4 = 2 by omega, show i * 4 + 3 - i * 4 = 3 by omega]
  rfl
theorem own_box {w : World} {b n g cap : Nat} {c : List Bx} (h : w.ownsRow b 63 4 (.slice (some ⟨g, 0, none⟩) n cap) n (rb c)) (i : Nat) (x : Bx) (hi : i < c.length) :
    ((((w.setCell ⟨g, i * 4, none⟩ (.string x.f)).setCell ⟨g, i * 4 + 1, none⟩ (.string x.e)).setCell ⟨g, i * 4 + 2, none⟩ (.int .i64 x.n)).setCell ⟨g, i * 4 + 3, none⟩ (.int .i64 x.s)).ownsRow b 63 4 (.slice (some ⟨g, 0, none⟩) n cap) n (rb (c.set i x)) := by
  rw [← rb_set c i x hi]
  exact own_set (own_set (own_set (own_set h _ _) _ _) _ _) _ _
theorem kp_box (g i : Nat) (x : Bx) (w : World) : Kp (· = g) w ((((w.setCell ⟨g, i * 4, none⟩ (.string x.f)).setCell ⟨g, i * 4 + 1, none⟩ (.string x.e)).setCell ⟨g, i * 4 + 2, none⟩ (.int .i64 x.n)).setCell ⟨g, i * 4 + 3, none⟩ (.int .i64 x.s)) :=
  ((((Kp.self g w).put _ _).put _ _).put _ _).put _ _

set_option maxRecDepth 100000 in
set_option maxHeartbeats 4000000 in
/-- DeleteFunc over boxes: what the closure strikes goes. -/
theorem delf65_c (G : Nat) (lb : Array Value) (eg : ∀ args w, (callFunc G args).run Try.prog w = .ok (.enter G args) w) (v : Value) (l : List Bx) (p : Bx → Bool) (w : World) (ho : w.ownsRow 0 63 4 v l.length (rb l)) (hl : l.length ≤ 100000)
    (hp : ∀ W x, Kp (fun i => v.ownBlock = some i) w W → Calls Try.prog G (#[x.ag] ++ lb) W fun e' w' => e' = .returned (.bool (p x)) ∧ Kp0 W w') :
    Calls Try.prog 65 #[v, .func (.func G) #[] lb] w fun e' w' => ∃ v', e' = .returned v' ∧ w'.ownsRow 0 63 4 v' (l.filter (fun x => !p x)).length (rb (l.filter (fun x => !p x))) ∧ Kp (fun i => v.ownBlock = some i) w w' ∧ v'.ownBlock = v.ownBlock := by
  have hI := idx73_c G lb eg v l p w ho hl (fun W x k => hp W x (k.mono (fun _ _ x => x.elim)))
  rcases idx_cases p l with ⟨h1, hall⟩ | ⟨k0, hk0, h1, h2, hpk⟩
  · rw [h1] at hI
    have hf : l.filter (fun x => !p x) = l := by
      rw [List.filter_eq_self]
      intro x hx
      rw [hall x hx]; rfl
    rw [hf]
    have HO := Lib.hid ho
    clear hf h1 hp ho hall
    go_enter Try.func65, Try.ntmps65
    go_wp2_with fail
    refine hI.mono ?_
    rintro e' w1 ⟨rfl, k1⟩
    go_wp2
    go_ret
    exact ⟨v, rfl, own_kp (S := fun _ => False) HO.out k1 (fun _ _ x => x), k1.mono (fun _ _ x => x.elim), rfl⟩
  · rw [h1] at hI
    rw [List.findIdx?_eq_some_iff_getElem] at h2
    obtain ⟨_, _, hall⟩ := h2
    rcases own_shape ho with ⟨rfl, h0, _⟩ | ⟨r, cap, rfl, m1, m2, m3, m4⟩
    · omega
    clear m4 h1
    have hfil : ∀ j (hj : j < l.length), (l.take (j + 1)).filter (fun x => !p x) = (l.take j).filter (fun x => !p x) ++ if p l[j] = true then [] else [l[j]] := fun j hj => by
      rw [List.take_add_one, List.getElem?_eq_getElem hj, List.filter_append]
      congr 1
      cases hq : p l[j] <;> simp [hq]
    have hstart : (l.take (k0 + 1)).filter (fun x => !p x) = l.take k0 := by
      rw [hfil k0 hk0, if_pos hpk, List.append_nil, List.filter_eq_self]
      intro x hx
      obtain ⟨i, hi, rfl⟩ := List.mem_take_iff_getElem.1 hx
      have := hall i (by omega)
      simpa using this
    have hne1 : ((k0 : Int) == -1) = false := beq_eq_false_iff_ne.2 (by omega)
    have hp' : ∀ W x, Kp (· = r) w W → Calls Try.prog G (#[x.ag] ++ lb) W fun e' w' => e' = .returned (.bool (p x)) ∧ Kp0 W w' := fun W x k => hp W x (k.mono (fun i _ e => by simp [Value.ownBlock, e]))
    have HP := Lib.hid hp'
    have HO := Lib.hid ho
    have HF := Lib.hid hfil
    have HS := Lib.hid hstart
    clear hp hp' ho hfil hstart hpk hall
    go_enter Try.func65, Try.ntmps65
    go_wp2_with fail
    refine hI.mono ?_
    rintro e' w1 ⟨rfl, k1⟩
    clear hI
    go_wp2_with fail
    go_loopg [5, 6, 7] l.length (fun gg s5 s6 _ wr => ∃ (i j : Nat) (c : List Bx), s5 = .int .i64 i ∧ s6 = .int .i64 j ∧ j ≤ l.length ∧ l.length - j ≤ gg ∧ i < j ∧ Hid (i = ((l.take j).filter (fun x => !p x)).length ∧ c.take i = (l.take j).filter (fun x => !p x) ∧ c.drop j = l.drop j ∧ c.length = l.length ∧ wr.ownsRow 0 63 4 (.slice (some ⟨r, 0, none⟩) l.length cap) l.length (rb c) ∧ Kp (· = r) w wr))
    case atStart =>
      refine ⟨k0, k0 + 1, l, rfl, by go_num, by omega, by omega, by omega, Lib.hid ⟨?_, ?_, rfl, rfl, own_kp (S := fun _ => False) HO.out k1 (fun _ _ x => x), k1.to⟩⟩
      · rw [HS.out, List.length_take]; omega
      · rw [HS.out]
    case round =>
      obtain ⟨i, j, c, rfl, rfl, hjd, hgg, hij, HC⟩ := hrel
      obtain ⟨ci1, ci2, ci3, ci4, own, K⟩ := HC.out
      have hrw := (own.lt r rfl).2
      by_cases hlt : j < l.length
      · have hcj : c[j]'(by omega) = l[j] := by
          have := congrArg (fun z => z[0]?) ci3
          simp only [List.getElem?_drop, Nat.add_zero] at this
          rw [List.getElem?_eq_getElem (by omega : j < c.length), List.getElem?_eq_getElem hlt] at this
          exact Option.some.inj this
        have hce : ∀ W : World, W.ownsRow 0 63 4 (.slice (some ⟨r, 0, none⟩) l.length cap) l.length (rb c) → ∀ t (ht : t < c.length), W.cell? ⟨r, t * 4, none⟩ = some (.string c[t].f) ∧ W.cell? ⟨r, t * 4 + 1, none⟩ = some (.string c[t].e) ∧ W.cell? ⟨r, t * 4 + 2, none⟩ = some (.int .i64 c[t].n) ∧ W.cell? ⟨r, t * 4 + 3, none⟩ = some (.int .i64 c[t].s) := fun W o t ht => by
          have q := own_cells o ci4.symm t ht
          have q0 := q 0 _ rfl
          have q1 := q 1 _ rfl
          have q2 := q 2 _ rfl
          have q3 := q 3 _ rfl
          rw [Nat.zero_add] at q0 q1 q2 q3
          exact ⟨q0, q1, q2, q3⟩
        obtain ⟨x0, x1, x2, x3⟩ := hce wr own j (by omega)
        rw [hcj] at x0 x1 x2 x3
        have hnx := HF.out j hlt
        have HJ : Hid (l[j] = l[j]) := Lib.hid rfl
        obtain ⟨x, hx⟩ : ∃ x, l[j] = x := ⟨_, rfl⟩
        rw [hx] at x0 x1 x2 x3 hnx
        have ka : Kp0 wr (wr.alloc (.cells #[.string x.f, .string x.e, .int .i64 x.n, .int .i64 x.s] 63)) := (Kp.refl _ _).alloc _
        have BX : Blk (wr.alloc (.cells #[.string x.f, .string x.e, .int .i64 x.n, .int .i64 x.s] 63)) wr.heap.size #[.string x.f, .string x.e, .int .i64 x.n, .int .i64 x.s] 63 := blk_new _ _ rfl
        have hcall := HP.out _ x (K.then0 ka)
        have oa := own_kp own ka (fun _ _ x => x)
        have KA := K.then0 ka
        have hltz : (j : Int) < (l.length : Int) := by omega
        have hii : (i : Int) < (l.length : Int) := by omega
        have hi0 : (0 : Int) ≤ (i : Int) ∧ (0 : Int) ≤ (j : Int) := by omega
        have hic : i < c.length := by omega
        go_upto_region 8 with fail
        generalize wr.alloc (.cells #[.string x.f, .string x.e, .int .i64 x.n, .int .i64 x.s] 63) = wa at BX hcall oa KA ⊢
        generalize wr.heap.size = ba at BX ⊢
        have y0 := BX.cell 0
        have y1 := BX.cell 1
        have y2 := BX.cell 2
        have y3 := BX.cell 3
        simp at y0 y1 y2 y3
        cases hq : p x with
        | false =>
          rw [hq] at hcall hnx
          have HN := Lib.hid hnx
          have HV := Lib.hid (And.intro ci1 (And.intro ci2 (And.intro ci3 (And.intro ci4 hx))))
          clear hcj hnx hx ci1 ci2 ci3 HC hq x0 x1 x2 x3 own K ka HJ
          go_wp2_with (go_at_fn G; refine hcall.mono ?_; rintro e' w2 ⟨rfl, kc⟩; have o2 := own_kp oa kc (fun _ _ x => x); have K2 := KA.then0 kc; have B2 := BX.kp0 kc; clear y0 y1 y2 y3 hcall; have y0 := B2.cell 0; have y1 := B2.cell 1; have y2 := B2.cell 2; have y3 := B2.cell 3; simp at y0 y1 y2 y3; obtain ⟨z0, z1, z2, z3⟩ := hce w2 o2 i hic; generalize c[i] = old at z0 z1 z2 z3; have g0 := own_free o2 (i * 4); have g1 := own_free o2 (i * 4 + 1); have g2 := own_free o2 (i * 4 + 2); have g3 := own_free o2 (i * 4 + 3))
          go_roundg (l.length - (j + 1))
          case measure => omega
          case rel =>
            obtain ⟨ci1, ci2, ci3, ci4, hx⟩ := HV.out
            have hnx := HN.out
            rw [if_neg (by simp)] at hnx
            refine ⟨i + 1, j + 1, c.set i x, by go_num, by go_num, by omega, Nat.le_refl _, by omega, Lib.hid ⟨?_, ?_, ?_, by rw [List.length_set]; exact ci4, own_box o2 i x hic, K2.trans (kp_box r i x w2) (fun i _ e => e)⟩⟩
            · rw [hnx, List.length_append, ← ci1]; rfl
            · rw [hnx, ← ci2, List.take_add_one, List.take_set_of_le (Nat.le_refl _), List.getElem?_set_self (by omega)]; rfl
            · rw [List.drop_set_of_lt (by omega), ← List.drop_drop, ci3, List.drop_drop]
        | true =>
          rw [hq] at hcall hnx
          have HN := Lib.hid hnx
          have HV := Lib.hid (And.intro ci1 (And.intro ci2 (And.intro ci3 ci4)))
          clear hcj hnx hx ci1 ci2 ci3 ci4 HC hq x0 x1 x2 x3 own K ka HJ hce
          go_wp2_with (go_at_fn G; refine hcall.mono ?_; rintro e' w2 ⟨rfl, kc⟩)
          go_roundg (l.length - (j + 1))
          case measure => omega
          case rel =>
            obtain ⟨ci1, ci2, ci3, ci4⟩ := HV.out
            have hnx := HN.out
            rw [if_pos (by simp), List.append_nil] at hnx
            exact ⟨i, j + 1, c, rfl, by go_num, by omega, Nat.le_refl _, by omega, Lib.hid ⟨by rw [hnx]; exact ci1, by rw [hnx]; exact ci2, by rw [← List.drop_drop, ci3, List.drop_drop], ci4, own_kp oa kc (fun _ _ x => x), KA.then0 kc⟩⟩
      · obtain rfl : j = l.length := by omega
        have hltz : ¬ (l.length : Int) < (l.length : Int) := by omega
        have hil : i < l.length := hij
        have hcl : ∀ ty, (Builtin.clear_ #[60] ty #[.slice (some ⟨r, i * 4, none⟩) (l.length - i) (cap - i)]).run Try.prog wr = .ok (.tuple #[]) (wr.setCells r (i * 4) (Builtin.zeroCells zB.cells (l.length - i)).toList) :=
          fun ty => run_clear_k wr 60 63 ty zB Try.underlying60 (fun w => Try.zeroValue63 w) r (i * 4) _ _ (by omega) (zB_one _) (fun t ht => own_there own _ (by rw [zB_len] at ht; have := Nat.mul_le_mul_right 4 m1; omega)) (fun t ht => own_free own _)
        obtain ⟨xs', o1, o2⟩ := own_sets (Builtin.zeroCells zB.cells (l.length - i)).toList (i * 4) wr _ own
        have k1 := kp_sets r (Builtin.zeroCells zB.cells (l.length - i)).toList (i * 4) wr
        have o3 := own_short o1 i (by omega)
        rw [o2, rb_take c i (by omega), ci2, List.take_length] at o3
        have hlen : (l.filter (fun x => !p x)).length = i := by
          have := ci1
          rw [List.take_length] at this
          exact this.symm
        have KK := K.trans k1 (fun i _ e => e)
        have hin : (i : Int) ≤ (l.length : Int) ∧ (0 : Int) ≤ (i : Int) := by omega
        have hnc : ¬ cap = i := by omega
        have hnc2 : i ≤ cap := by omega
        generalize wr.setCells r (i * 4) (Builtin.zeroCells zB.cells (l.length - i)).toList = wf at hcl o3 KK
        have HA := Lib.hid hlen
        have HO3 := Lib.hid o3
        clear ci1 ci2 ci3 ci4 HC o1 o2 k1 hlen o3 own
        go_wp2
        go_ret
        exact ⟨_, rfl, by rw [HA.out]; exact HO3.out, KK.mono (fun i _ e => by simp [Value.ownBlock, e]), rfl⟩
end Go.Proofs.Ytccamciijpmkjaa
