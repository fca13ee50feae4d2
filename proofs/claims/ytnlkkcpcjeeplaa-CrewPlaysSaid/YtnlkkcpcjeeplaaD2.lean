/- CrewLate: the walk. -/
import Derived.Test.YtnlkkcpcjeeplaaD1
import Derived.Deep.CutRange
import Derived.Deep.DeepCutAuto
set_option linter.unusedVariables false
set_option linter.unusedSimpArgs false
namespace Go.Proofs.Ytnlkkcpcjeeplaa
open Go.ChangeShapes Go.WideShapes Go.ChangeAt Go.RowKit

theorem lat_map {l : List Nat} {R : Nat → Rn} {x : Nat} {r : Rn} (hx : x ∉ l) (now : Int) : (lat (l ++ [x]) (upd R x r) now).map (fun y => (upd R x r y).n) = (lat l R now).map (fun y => (R y).n) ++ if r.late now = true then [r.n] else [] := by
  rw [lat_snoc hx, List.map_append]
  congr 1
  · refine List.map_congr_left (fun y hy => ?_)
    have hm : y ∈ l := (List.mem_filter.1 hy).1
    rw [upd_ne (fun e => hx (by rw [← e]; exact hm))]
  · cases r.late now
    · rfl
    · simp [upd_at]
theorem row_sh {w : World} {b e n : Nat} {v : Value} {xs : List Value} (h : w.ownsRow b e 1 v n xs) : ∃ A c, v = .slice A n c ∧ ∀ j, j < n → ∃ g, A = some ⟨g, 0, none⟩ ∧ g < w.heap.size ∧ w.cell? ⟨g, j, none⟩ = xs[j]? := by
  rcases own_shape h with ⟨rfl, rfl, _⟩ | ⟨g, cap, rfl, h1, h2, h3, h4⟩
  · exact ⟨none, 0, rfl, fun j hj => by omega⟩
  · exact ⟨_, cap, rfl, fun j hj => ⟨g, rfl, h3, h4 j (by omega)⟩⟩
theorem Cl.none_of {w wr : World} {g : Nat} {s8 : Value} {l : List Nat} {R : Nat → Rn} {O : Nat → Prop} {ns : List Int} (h : Cl w wr g s8 l R O ns) (f e : ByteArray) (hne : ∀ k, ¬ (sF = f ∧ nm k = e)) : fnd l R f e = none := by
  unfold fnd
  rw [List.find?_eq_none]
  intro x hx hr
  obtain ⟨k, hk, rfl⟩ := List.getElem_of_mem hx
  obtain ⟨e1, e2, e3⟩ := h.id k l[k] (List.getElem?_eq_getElem hk)
  unfold isRun at hr
  rw [Bool.and_eq_true, decide_eq_true_iff, decide_eq_true_iff] at hr
  exact hne k ⟨e1.symm.trans hr.1, e2.symm.trans hr.2⟩
theorem Cl.exa_no {w wr : World} {g : Nat} {s8 : Value} {l : List Nat} {R : Nat → Rn} {O : Nat → Prop} {ns : List Int} (h : Cl w wr g s8 l R O ns) (f e : ByteArray) (n : Int) (h9 : (l.length : Int) < n) : exa l R f e n = none := by
  unfold exa
  cases hf : fnd l R f e with
  | none => rfl
  | some x =>
    obtain ⟨k, hk, hx⟩ := List.getElem_of_mem (List.mem_of_find?_eq_some hf)
    obtain ⟨e1, e2, e3⟩ := h.id k x (by rw [List.getElem?_eq_getElem hk, hx])
    rw [Option.filter_some, decide_eq_false (by omega)]
    rfl
theorem exa_new {l : List Nat} {R : Nat → Rn} {x : Nat} {r : Rn} (hx : x ∉ l) (hno : fnd l R r.f r.e = none) : exa (l ++ [x]) (upd R x r) r.f r.e r.n = some x := by
  unfold exa
  rw [fnd_snoc, fnd_upd hx, hno, upd_at, isRun_self]
  simp [upd_at]

set_option maxRecDepth 100000 in
set_option maxHeartbeats 4000000 in
theorem crewLate_c (A1 A2 : Option Addr) (len1 cap1 len2 cap2 : Nat) (v2 : Int) (w : World) (hl1 : len1 ≤ 9223372036854775807) (hl2 : len2 ≤ 9223372036854775807) (hd : RdI w A1 len1) (hh : RdB w A2 len2) :
    Calls Try.prog 11 #[.slice A1 len1 cap1, .slice A2 len2 cap2, .int .i64 v2] w fun e w' => e = .returned (.bool true) ∧ Kp0 w w' := by
  have h1 := crew_new_c w
  go_enter Try.func11, Try.ntmps11
  go_wp2_with fail
  refine h1.mono ?_
  rintro e w1 ⟨rfl, C1, k1⟩
  clear h1
  go_wp2_with fail
  refine (within_x v2 20 (by omega) (by omega) w1).mono ?_
  rintro e w1' ⟨now, hn0, hn1, rfl, rfl⟩
  have hg : w.heap.size < w1.heap.size := C1.lt
  have L0 : Cl w w1 w.heap.size (.slice none 0 0) [] (fun _ => ⟨sF, sX, 1, 0, 0, false⟩) (· = w.heap.size) [] :=
    ⟨C1, fun y hy => by simp at hy, fun x e => by subst e; exact ⟨Nat.le_refl _, hg⟩, fun y hy => by simp at hy, List.nodup_nil, fun k x hk => by simp at hk, World.ownsRow_nil _ _ _ _, fun i hi => by simp [Value.ownBlock] at hi, k1⟩
  generalize hgg : w.heap.size = g at C1 L0 hg ⊢
  have HG := Lib.hid hgg
  clear C1 k1 hgg
  go_wp2_with fail
  go_loopw [8, 9] (fun s8 s9 wr => ∃ (l : List Nat) (R : Nat → Rn) (O : Nat → Prop) (ns : List Int), l.length ≤ 9 ∧ l.length ≤ len1 ∧ s9 = .int .i64 (l.length : Nat) ∧ Cl w wr g s8 l R O ns ∧ Hid (ns = (lat l R now).map (fun x => (R x).n))) (fun _ s9 _ => (9 - intOf s9).toNat)
  case atStart => exact ⟨[], _, _, [], by simp, by simp, rfl, L0, Lib.hid rfl⟩
  case round =>
    clear L0
    obtain ⟨l, R, O, ns, h9, hlen, rfl, L, HN⟩ := hrel
    by_cases hlt : l.length < 9 ∧ l.length < len1
    · obtain ⟨i9, i1⟩ := hlt
      have i9' : (l.length : Int) < 9 := by omega
      have i1' : (l.length : Int) < (len1 : Int) := by omega
      have i0 : (0 : Int) ≤ (l.length : Int) := by omega
      obtain ⟨b1, o1, z, rfl, hb1, hz⟩ := hd l.length i1
      have hno := L.fnd_no i9
      have hnm := nm_of l.length i9
      have s1 := fun W => pl_from d9 l.length (show l.length ≤ 9 by omega) W
      have hA : (d9.extract l.length d9.size).size = 9 - l.length := by rw [ByteArray.size_extract]; show min 9 9 - l.length = 9 - l.length; omega
      have s3 : ∀ W, (Instr.sliceAt 9 (.string (d9.extract l.length d9.size)) none (some (.int .i64 1)) none).run Try.prog W = .ok (.string ((d9.extract l.length d9.size).extract 0 1)) W := fun W => pl_to (d9.extract l.length d9.size) 1 (by omega) W
      have z1 : ((d9.extract l.length d9.size).extract 0 1).size ≤ 1 := by rw [ByteArray.size_extract]; omega
      have hl5 : l.length ≤ 10000 := by omega
      have hsz := L.kp.size
      generalize (d9.extract l.length d9.size).extract 0 1 = dg at s3 hnm z1
      generalize d9.extract l.length d9.size = qa at s1 s3
      have zz : sE.size + dg.size ≤ 9223372036854775807 := by have : sE.size = 1 := rfl; omega
      have zz1 : 1 + dg.size ≤ 9223372036854775807 := by omega
      have hw1 : IntKind.i64.wrap ((l.length : Int) + 1) = (l.length : Int) + 1 := by rw [IntKind.wrap_i64]; omega
      have hw2 : wrap64 ((l.length : Int) + 1) = (l.length : Int) + 1 := by unfold wrap64; omega
      generalize hnme : nm l.length = name at hnm hno
      have HNE := Lib.hid hnme
      have HZ := Lib.hid (And.intro hnm (And.intro s1 (And.intro s3 (And.intro zz (And.intro zz1 (And.intro hw1 hw2))))))
      have hpar := Nat.mod_two_eq_zero_or_one l.length
      have hpa : (l.length : Int).tmod 2 = ((l.length % 2 : Nat) : Int) := rfl
      clear hA hnme hnm s1 s3 zz zz1 hw1 hw2 z1
      generalize hlenn : l.length = i at *
      have HL := Lib.hid hlenn
      have HL5 := Lib.hid hl5
      have HPA := Lib.hid (And.intro hpar hpa)
      clear hlenn hl5 hpar hpa
      obtain ⟨hnm, s1, s3, zz, zz1, hw1, hw2⟩ := HZ.out
      go_wp2_with fail
      refine (run_new_c sF name ((i : Int) + 1) wr).mono ?_
      rintro e w1' ⟨x, rfl, hx, X1, k1⟩
      have hxl : x ∉ l := fun hm => by have := (L.rs x hm).lt; omega
      have ha := add_new_c g O l R x _ w1' (L.cr.kp k1 (fun _ _ x => x)) (L.rs.kp k1 (fun _ _ x => x)) X1 (by rw [HL.out]; exact HL5.out) hno
      change Calls Try.prog 52 #[pt g, .pointer (some ⟨x, 0, none⟩)] w1' _ at ha
      clear hnm s1 s3 zz zz1 hw1 hw2
      go_wp2_with fail
      refine ha.mono ?_
      rintro e w2' ⟨rfl, O', C2, k2, hO'⟩
      clear ha
      have K0 : Kp0 w w2' := (L.kp.then0 k1).trans k2 (fun j hj e => by have := (L.fo j e).1; have := HG.out; omega)
      have HX1 := Lib.hid X1.lt
      have X2 : RunAt w2' x _ := X1.kp k2 (fun e => by have := (L.fo x e).2; omega)
      have r2 : RunsAt w2' l R := (L.rs.kp k1 (fun _ _ x => x)).kp k2 (fun y hy e => (L.fl y hy).2 e)
      have hz2 := cell_kp0 K0 hb1 hz
      clear X1
      go_wp2_with fail
      refine (within_x z 20 (by omega) (by omega) w2').mono ?_
      rintro e w3' ⟨due, hd0, hd1, rfl, rfl⟩
      go_upto_region 13 with fail
      go_cut [12] from 26 to 106 (fun s12 wx => ∃ ph : Int, s12 = .int .i64 ph ∧ (ph = 1 ∨ ph = 4) ∧ Kp0 w2' wx)
      case first =>
        have ka : Kp0 w2' (w2'.alloc (.cells #[.int .i64 1, .int .i64 4] 3)) := (Kp.refl _ _).alloc _
        have B : Blk (w2'.alloc (.cells #[.int .i64 1, .int .i64 4] 3)) w2'.heap.size #[.int .i64 1, .int .i64 4] 3 := blk_new _ _ rfl
        obtain ⟨h2, hm⟩ := HPA.out
        rcases h2 with h2 | h2
        · rw [h2] at hm
          clear h2
          go_wp2_with fail
          go_meet
          exact ⟨1, rfl, .inl rfl, ka⟩
        · rw [h2] at hm
          clear h2
          go_wp2_with fail
          go_meet
          exact ⟨4, rfl, .inr rfl, ka⟩
      case rest =>
      obtain ⟨ph, rfl, hph, k3⟩ := hcut
      clear hz2
      have hxlt := X2.lt
      have X3 := X2.kp k3 (fun x => x)
      have C3 := C2.kp k3 (fun _ _ x => x)
      have r3 := (r2.kp k3 (fun _ _ x => x)).snoc X3 hxl
      have hex := exact_some_c (x := x) (n := (i : Int) + 1) (upd R x ⟨sF, name, (i : Int) + 1, 0, 0, false⟩) C3 r3 (by rw [List.length_append, HL.out]; have := HL5.out; show i + 1 ≤ 100000; exact Nat.le_trans (Nat.add_le_add_right this 1) (by decide)) (exa_new (r := ⟨sF, name, (i : Int) + 1, 0, 0, false⟩) hxl hno)
      obtain ⟨hnm, s1, s3, zz, zz1, hw1, hw2⟩ := HZ.out
      go_wp2_with fail
      refine hex.mono ?_
      rintro e w4' ⟨rfl, k4⟩
      clear hnm s1 s3 zz zz1 hw1 hw2 hex
      have X4 := X3.kp k4 (fun x => x)
      have C4 := C3.kp k4 (fun _ _ x => x)
      have hbg : (⟨sF, name, (i : Int) + 1, 0, 0, false⟩ : Rn).begin ph due = (0, ⟨sF, name, (i : Int) + 1, ph, due, true⟩) := by rcases hph with rfl | rfl <;> rfl
      have hbe := begin_c x _ ph due w4' X4
      rw [hbg] at hbe
      have pn := ptr_ne x w4'
      clear hbg
      go_wp2_with fail
      refine hbe.mono ?_
      rintro e w5' ⟨rfl, X5, k5⟩
      clear hbe pn
      have x1 := (X2.kp k3 (fun x => x)).lt
      have hxw1 : x < w1'.heap.size := HX1.out
      have hxO : ¬ O' x := fun e => by
        rcases hO' x e with e | e
        · have := (L.fo x e).2; omega
        · omega
      have K5 : Kp (fun j => O j ∨ u8.ownBlock = some j) wr w5' := ((((k1.mono (fun _ _ x => x.elim)).trans k2 (fun j _ e => .inl e)).then0 k3).then0 k4).trans k5 (fun j hj e => by subst e; omega)
      have C5 := C4.kp k5 (fun j hj e => hxO (by rw [← e]; exact hj))
      have ow5 := own_kp (own_kp (own_kp (own_kp (own_kp L.ow k1 (fun _ _ x => x)) k2 (fun j hj e => (L.fr j hj).2.1 e)) k3 (fun _ _ x => x)) k4 (fun _ _ x => x)) k5 (fun j hj e => by have := (L.ow.lt j hj).2; omega)
      have KK5 : Kp0 w w5' := L.kp.trans K5 (fun j hj e => by
        rcases e with e | e
        · have := (L.fo j e).1; have := HG.out; omega
        · have := (L.fr j e).1; have := HG.out; omega)
      have hO5 : ∀ j, O' j → O j ∨ (x < j ∧ j < w5'.heap.size) := fun j hj => by
        rcases hO' j hj with e | ⟨e1, e2⟩
        · exact .inl e
        · have := k3.size; have := k4.size; have := k5.size
          exact .inr ⟨by omega, by omega⟩
      clear C4 C3 C2 X4 X3 X2 k5 k4 k3 k2 k1 r3 r2 K0
      go_upto_region 17 with fail
      go_cut [14] from 26 to 106 (fun s14 wx => ∃ h : Bool, s14 = .bool h ∧ w5' = wx)
      case first =>
        by_cases i2 : i < len2
        · obtain ⟨b2, o2, hb, rfl, hb2, hzb⟩ := hh i i2
          have hzb2 := cell_kp0 KK5 hb2 hzb
          have i2' : (i : Int) < (len2 : Int) := by omega
          clear i2
          go_wp2_with fail
          go_meet
          exact ⟨_, rfl, rfl⟩
        · have i2' : ¬ (i : Int) < (len2 : Int) := by omega
          clear i2
          go_wp2_with fail
          go_meet
          exact ⟨_, rfl, rfl⟩
      case rest =>
      obtain ⟨h, rfl, rfl⟩ := hcut
      cases h with
      | true =>
        have hhe := hello_c x _ w5' X5
        have hev : (⟨sF, name, (i : Int) + 1, ph, due, true⟩ : Rn).hello = (0, ⟨sF, name, (i : Int) + 1, 2, 0, false⟩) := by rcases hph with rfl | rfl <;> rfl
        rw [hev] at hhe
        clear hev X5
        go_wp2_with fail
        refine hhe.mono ?_
        rintro e w6' ⟨rfl, X6, k6⟩
        clear hhe
        go_wp2_with fail
        go_roundw
        case rel =>
          have K6 := K5.trans k6 (fun j hj e => by subst e; omega)
          have C6 := C5.kp k6 (fun j hj e => hxO (by rw [← e]; exact hj))
          have ow6 := own_kp ow5 k6 (fun j hj e => by have := (L.ow.lt j hj).2; omega)
          have hs6 := k6.size
          refine ⟨l ++ [x], upd R x ⟨sF, name, (i : Int) + 1, 2, 0, false⟩, O', ns, ?_, ?_, ?_, Cl.step L hx K6 C6 X6 ⟨rfl, by rw [HL.out]; exact HNE.out.symm, by rw [HL.out]⟩ (fun j hj => ?_) ow6 (fun j hj => .inl hj), Lib.hid ?_⟩
          · rw [List.length_append, HL.out]; simp; omega
          · rw [List.length_append, HL.out]; simp; omega
          · rw [List.length_append, HL.out]; go_num
          · rcases hO5 j hj with e | ⟨e1, e2⟩
            · exact .inl e
            · exact .inr ⟨e1, by omega⟩
          · rw [lat_map hxl, ← HN.out]
            simp [Rn.late]
        case measure => simp [intOf]; omega
      | false =>
        by_cases hdn : due ≤ now
        · have hnl : ns.length ≤ 9 := by
            have := HN.out
            rw [this, List.length_map]
            have := List.length_filter_le (fun y => (R y).late now) l
            have h9' := HL.out
            unfold lat
            omega
          have ka : Kp0 w5' (w5'.alloc (.cells #[.int .i64 ((i : Int) + 1)] 3)) := (Kp.refl _ _).alloc _
          have oa := own_kp ow5 ka (fun _ _ x => x)
          have hw1 := HZ.out.2.2.2.2.2.1
          have hw2 := HZ.out.2.2.2.2.2.2
          go_wp2_with (at_builtin; refine list_app rfl _ _ 29 3 (.int .i64 0) 1 8 rfl rfl rfl rfl (by decide) u8 ns.length (ns.map (.int .i64 ·)) rfl w5'.heap.size 0 1 1 [.int .i64 ((i : Int) + 1)] rfl rfl (by simp [Value.oneCell']) (Vw.of_blk (blk_new _ _ rfl)) oa (by omega) (by omega) ?_)
          intro v7 w7 o7 k7 b7
          clear hw1 hw2
          go_wp2_with fail
          go_roundw
          case rel =>
            have hg5 := ka.size
            have hxlt5 := X5.lt
            have hu : ∀ j, u8.ownBlock = some j → j < wr.heap.size := fun j hj => (L.ow.lt j hj).2
            have K7 : Kp (fun j => O j ∨ u8.ownBlock = some j) wr w7 := (K5.then0 ka).trans k7 (fun j hj e => .inr e)
            have C7 := (C5.kp ka (fun _ _ x => x)).kp k7 (fun j hj e => by
              rcases hO' j hj with e' | e'
              · exact (L.fr j e).2.1 e'
              · have := hu j e
                omega)
            have X7 := (X5.kp ka (fun x => x)).kp k7 (fun e => by have := hu x e; omega)
            have hs7 := k7.size
            have hO'lt : ∀ j, O' j → j < w5'.heap.size := fun j hj => by
              rcases hO5 j hj with e | ⟨e1, e2⟩
              · have := (L.fo j e).2; omega
              · exact e2
            have o8 : w7.ownsRow 0 3 1 v7 (ns ++ [(i : Int) + 1]).length ((ns ++ [(i : Int) + 1]).map (.int .i64 ·)) := by
              rw [List.length_append, List.map_append]; exact o7
            refine ⟨l ++ [x], upd R x ⟨sF, name, (i : Int) + 1, ph, due, true⟩, O', ns ++ [(i : Int) + 1], ?_, ?_, ?_, Cl.step L hx K7 C7 X7 ⟨rfl, by rw [HL.out]; exact HNE.out.symm, by rw [HL.out]⟩ (fun j hj => ?_) o8 (fun j hj => ?_), Lib.hid ?_⟩
            · rw [List.length_append, HL.out]; simp; omega
            · rw [List.length_append, HL.out]; simp; omega
            · rw [List.length_append, HL.out]; go_num
            · rcases hO5 j hj with e | ⟨e1, e2⟩
              · exact .inl e
              · exact .inr ⟨e1, by omega⟩
            · rcases b7 with b7 | b7
              · exact .inl (b7 ▸ hj)
              · rw [b7] at hj
                injection hj with hj
                have hj' : w5'.heap.size + 1 = j := by simpa using hj
                exact .inr ⟨by omega, fun e => by have := hO'lt j e; omega⟩
            · rw [lat_map hxl, ← HN.out]
              simp [Rn.late, hdn]
          case measure => simp [intOf]; omega
        · go_wp2_with fail
          go_roundw
          case rel =>
            refine ⟨l ++ [x], upd R x ⟨sF, name, (i : Int) + 1, ph, due, true⟩, O', ns, ?_, ?_, ?_, Cl.step L hx K5 C5 X5 ⟨rfl, by rw [HL.out]; exact HNE.out.symm, by rw [HL.out]⟩ hO5 ow5 (fun j hj => .inl hj), Lib.hid ?_⟩
            · rw [List.length_append, HL.out]; simp; omega
            · rw [List.length_append, HL.out]; simp; omega
            · rw [List.length_append, HL.out]; go_num
            · rw [lat_map hxl, ← HN.out]
              simp [Rn.late, hdn]
          case measure => simp [intOf]; omega
    · have hns := HN.out
      have hl9 : l.length ≤ 100000 := by omega
      have hno1 := L.none_of { data := #[103] } { data := #[101, 49] } (fun k e => by
        have := e.1
        revert this; decide)
      have hno2 := L.exa_no sF { data := #[101, 49] } 99 (by omega)
      have hno3 := L.none_of sF { data := #[110, 111, 110, 101] } (fun k e => by
        have := congrArg ByteArray.size e.2
        have h1 : (nm k).size = 2 := rfl
        have h2 : ({ data := #[110, 111, 110, 101] } : ByteArray).size = 4 := rfl
        omega)
      have hla := late57_c g O l R now wr L.cr L.rs hl9
      obtain ⟨A8, c8, rfl, h8⟩ := row_sh L.ow
      have hlen8 : ns.length = (lat l R now).length := by rw [hns, List.length_map]
      have hlm : ∀ y ∈ lat l R now, y ∈ l := fun y hy => (List.mem_filter.1 hy).1
      have hle : (lat l R now).length ≤ l.length := List.length_filter_le _ _
      have hcell : ∀ W, Kp0 wr W → ∀ j (hj : j < (lat l R now).length), ∃ b, A8 = some ⟨b, 0, none⟩ ∧ W.cell? ⟨b, j, none⟩ = some (.int .i64 (R (lat l R now)[j]).n) := fun W k j hj => by
        obtain ⟨b, e, hb, hc⟩ := h8 j (by omega)
        refine ⟨b, e, cell_kp0 k hb ?_⟩
        rw [hc, hns, List.getElem?_map, List.getElem?_map, List.getElem?_eq_getElem hj]
        rfl
      rw [hlen8]
      generalize lat l R now = lt at hla hlen8 hlm hle hcell
      have HC := Lib.hid hcell
      have HM := Lib.hid hlm
      have hlt9 : lt.length ≤ 100000 := by omega
      have hend : ((l.length : Int) < (len1 : Int) ∧ ¬ (l.length : Int) < 9) ∨ ¬ (l.length : Int) < (len1 : Int) := by omega
      clear hns h8 hcell hlm hlt hlen8
      have CR := fun W (k : Kp0 wr W) => L.cr.kp k (fun _ _ x => x)
      have RR := fun W (k : Kp0 wr W) => L.rs.kp k (fun _ _ x => x)
      have hrest : True := trivial
      rcases hend with ⟨e1, e2⟩ | e1
      all_goals
        go_wp2_with fail
        refine hla.mono ?_
        rintro e w2 ⟨v, rfl, o2, k2, _⟩
        obtain ⟨A3, c3, rfl, h3⟩ := row_sh o2
        clear hla
        have H3 := Lib.hid h3
        clear h3 o2
        go_wp2_with fail
        go_loopw [117] (fun s117 wx => ∃ k : Nat, k ≤ lt.length ∧ s117 = .int .i64 (k : Nat) ∧ Kp0 w2 wx) (fun s117 _ => (lt.length - intOf s117).toNat)
        case atStart => exact ⟨0, by omega, rfl, Kp.refl _ _⟩
        case round =>
          rename_i wx _
          obtain ⟨k, hk, rfl, kx⟩ := hrel
          have kk := k2.then0 kx
          by_cases hkl : k < lt.length
          · obtain ⟨b3, rfl, hb3, hc3⟩ := H3.out k hkl
            obtain ⟨b8, rfl, hc8⟩ := HC.out _ kk k hkl
            rw [List.getElem?_map, List.getElem?_eq_getElem hkl] at hc3
            have hc3 := cell_kp0 kx hb3 (show w2.cell? ⟨b3, k, none⟩ = some (.pointer (some ⟨lt[k], 0, none⟩)) from hc3)
            have hw := who_d lt[k] (R lt[k]) _ (RR _ kk lt[k] (HM.out _ (List.getElem_mem hkl)))
            generalize lt[k] = y at hc3 hc8 hw
            generalize (R y).f = f' at hw
            generalize (R y).e = e' at hw
            generalize (R y).n = n' at hw hc8
            have hkl' : (k : Int) < (lt.length : Int) ∧ (0 : Int) ≤ (k : Int) := by omega
            clear hno1 hno2 hno3 CR RR
            go_wp2_with fail
            refine hw.mono ?_
            rintro e w4 ⟨rfl, q, rfl⟩
            clear hw hc3
            go_wp2_with fail
            go_roundw
            case rel => exact ⟨k + 1, by omega, by go_num, kx.drewN q⟩
            case measure => simp [intOf]; omega
          · obtain rfl : k = lt.length := by omega
            have C1 := CR _ kk
            have R1 := RR _ kk
            have KF := L.kp.then0 kk
            clear kk HC
            go_wp2_with fail
            refine (find_none_c R C1 R1 hl9 hno1).mono ?_
            rintro e w4 ⟨rfl, k4⟩
            have C2 := C1.kp k4 (fun _ _ x => x)
            have R2 := R1.kp k4 (fun _ _ x => x)
            go_wp2_with fail
            refine (exact_none_c R C2 R2 hl9 hno2).mono ?_
            rintro e w5 ⟨rfl, k5⟩
            have C3 := C2.kp k5 (fun _ _ x => x)
            have R3 := R2.kp k5 (fun _ _ x => x)
            go_wp2_with fail
            refine (drop_none_c g O l R sF _ w5 C3 R3 hl9 hno3).mono ?_
            rintro e w6 ⟨rfl, k6⟩
            clear C1 C2 C3 R1 R2 R3 hno1 hno2 hno3
            go_wp2_with fail
            refine (wakes58_c w6).mono ?_
            rintro e w7 ⟨rfl, k7⟩
            go_wp2
            go_ret
            exact ⟨rfl, (((KF.then0 k4).then0 k5).then0 k6).then0 k7⟩

theorem sl_bols {H : Type} {enc : TypeId × Value → H} {P : Program} {W : World} {base : Nat} {spare : Nat → Bool} {held : Bool} {t e : Nat} {a : Option Addr} {len cap : Nat} {d : DataW H} {ps : List MemPlace}
    (hu : P.underlying t = some (.slice e)) (he : P.underlying e = some .bool) (hk : P.cellsOf e = 1) (h : DataW.Trod enc P W base spare held t (.slice a len cap) d ps) : len ≤ 9223372036854775807 ∧ RdB W a len := by
  obtain ⟨V, hS, hV⟩ := sl_of hu hk (by decide) h
  refine ⟨by have := hS.1; have := hS.2.1; omega, fun j hj => ?_⟩
  rcases hS.2.2 with h0 | ⟨b, off, rfl, hc⟩
  · omega
  · obtain ⟨m, D, hD⟩ := hV j hj
    have e1 : (List.range 1).map (V j) = [V j 0] := rfl
    rw [e1] at hD
    obtain ⟨s, hs, _⟩ := DataW.trod_bool he hD
    have hs' : V j 0 = .bool s := by simpa using hs
    have hc0 := hc j hj 0 (by omega)
    rw [hs', Nat.mul_one, Nat.add_zero] at hc0
    exact ⟨b, off, s, rfl, World.block_lt_of_cell? W ⟨b, _, none⟩ hc0, hc0⟩
theorem rdI_of {w : World} {a : Option Addr} {len cap : Nat} {zs : List Int} (hz : IsInts .i64 w a len cap zs) : RdI w a len := by
  intro j hj
  rcases hz with ⟨_, h, _⟩ | ⟨⟨b, off, p⟩, e, h1, h2, h3, h4, _⟩
  · omega
  · have t0 := h4 0 (by omega)
    have t1 := h4 j (by omega)
    have hp : p = none := by
      cases p with
      | none => rfl
      | some p =>
        exfalso
        rw [Addr.add, if_pos rfl] at t0
        unfold World.cell? at t0
        split at t0 <;> simp at t0
    subst hp
    have t2 : w.cell? ⟨b, off + j, none⟩ = some (.int .i64 (zs.getD j 0)) := by
      rw [← t1]
      unfold Addr.add
      by_cases hj0 : j = 0
      · subst hj0; rfl
      · rw [if_neg hj0]
    exact ⟨b, off, _, e, World.block_lt_of_cell? w ⟨b, _, none⟩ t2, t2⟩
theorem crewLate_w (a0 : Option Addr) (len0 cap0 : Nat) (z0 : List Int) (a1 : Option Addr) (len1 cap1 : Nat) (v2 : Int) (w : World) (h0 : IsInts .i64 w a0 len0 cap0 z0) (l0 : len0 * 8 ≤ 140737488351232) (h1 : len1 ≤ 9223372036854775807 ∧ RdB w a1 len1) (_ : (Lit.int .i64 v2).wf = true) :
    Calls Try.prog 11 #[.slice a0 len0 cap0, .slice a1 len1 cap1, .int .i64 v2] w fun e w' => e = .returned (.bool true) ∧ Below w.heap.size w w' :=
  (crewLate_c a0 a1 len0 cap0 len1 cap1 v2 w (by omega) h1.1 (rdI_of h0) h1.2).mono fun _ _ h => ⟨h.1, h.2.below0⟩
end Go.Proofs.Ytnlkkcpcjeeplaa
