/- The reference's scan. -/
import Derived.Test.YtkokgbmeienokaaRh
set_option linter.unusedVariables false
set_option linter.unusedSimpArgs false
namespace Go.Proofs.Ytkokgbmeienokaa
open Go.RowKit

theorem wh_at {bs : List Int} {off n : Nat} (h : off < bs.length) (hn : bs[off] = (n : Int)) :
    wh (bs.drop off) = if 200 < (n : Int) ∨ bs.length < off + 2 + n ∨ bs.getD (off + 1 + n) 0 ≠ 165 then 0 else n + 2 := by
  have hd : bs.drop off = (n : Int) :: bs.drop (off + 1) := by rw [List.drop_eq_getElem_cons h, hn]
  have hg : (bs.drop off).getD (n + 1) 0 = bs.getD (off + 1 + n) 0 := by
    rw [List.getD_eq_getElem?_getD, List.getD_eq_getElem?_getD, List.getElem?_drop]
    congr 2
    omega
  unfold wh
  have hh : (bs.drop off).headD 0 = (n : Int) := by rw [hd]; rfl
  rw [hh, Int.toNat_natCast, hg, List.length_drop]
  by_cases hc : 200 < (n : Int) ∨ bs.length < off + 2 + n ∨ bs.getD (off + 1 + n) 0 ≠ 165
  · rw [if_pos hc, if_pos]
    rcases hc with h1 | h1 | h1
    · exact .inr (.inl h1)
    · exact .inr (.inr (.inl (by omega)))
    · exact .inr (.inr (.inr h1))
  · rw [if_neg hc, if_neg]
    rintro (h1 | h1 | h1 | h1)
    · rw [hd] at h1; cases h1
    · exact hc (.inl h1)
    · exact hc (.inr (.inl (by omega)))
    · exact hc (.inr (.inr h1))

set_option maxRecDepth 100000 in
set_option maxHeartbeats 4000000 in
theorem rscan_c (a : Option Addr) (cap : Nat) (bs : List Int) (w : World) (hr : Bz w a cap bs) (hl : bs.length ≤ 1900000) (hc : bs.length ≤ cap) (hm : cap ≤ 9223372036854775807) :
    Calls Try.prog 61 #[.slice a bs.length cap] w fun e w' => ∃ v, e = .returned (.tuple #[v, .int .i64 ((sc bs).2 : Nat)]) ∧ Rows w' v (sc bs).1 ∧ Kp0 w w' ∧ (∀ i, v.ownBlock = some i → w.heap.size ≤ i) := by
  have S0 : Sn w w bs (.slice none 0 0) 0 [] := ⟨Sf.start bs, Rows.nil w, by simp [Value.ownBlock], Kp.refl _ _⟩
  go_enter Try.func61, Try.ntmps61
  go_wp2_with fail
  go_loopw [4, 5] (fun s4 s5 wr => ∃ (off : Nat) (ls : List (List Int)), s5 = .int .i64 off ∧ Sn w wr bs s4 off ls) (fun _ s5 _ => (bs.length - intOf s5).toNat)
  case atStart => exact ⟨0, [], rfl, S0⟩
  case round =>
    obtain ⟨off, ls, rfl, S⟩ := hrel
    obtain ⟨Av, cv, rfl⟩ := S.rows.len
    have hoff := S.sf.1
    have hls := S.sf.2.1
    have hstop := S.sf.stop
    have hnext := S.sf.next
    by_cases hlt : off < bs.length
    · obtain ⟨B, o, rfl, hB, cz⟩ := (hr.kp0 S.k).cell off hlt
      have hby := hr.byt _ (List.getElem_mem hlt)
      obtain ⟨n, hn⟩ : ∃ n : Nat, bs[off] = (n : Int) := ⟨(bs[off]).toNat, by omega⟩
      have hwh := wh_at hlt hn
      rw [hn] at cz hby
      obtain ⟨m, hmw⟩ : ∃ m, wh (bs.drop off) = m := ⟨_, rfl⟩
      rw [hmw] at hwh hstop hnext
      have hc2 : off + 1 + n < bs.length → wr.cell? ⟨B, o + (off + 1 + n), none⟩ = some (.int .u8 (bs.getD (off + 1 + n) 0)) := by
        intro h
        obtain ⟨B', o', e, _, c⟩ := (hr.kp0 S.k).cell (off + 1 + n) h
        injection e with e; injection e with e1 e2 _; subst e1; subst e2
        rw [c, List.getD_eq_getElem?_getD, List.getElem?_eq_getElem h]; rfl
      obtain ⟨y, hy⟩ : ∃ y, bs.getD (off + 1 + n) 0 = y := ⟨_, rfl⟩
      rw [hy] at hc2 hwh
      clear hn hmw hy
      go_upto_region 5 with fail
      go_cut [36] from 7 to 52 (fun s36 wx => s36 = .bool (decide (m = 0)) ∧ wr = wx)
      case first =>
        clear S hstop hnext
        by_cases i1 : 200 < (n : Int)
        · rw [if_pos (.inl i1)] at hwh
          clear hc2
          go_wp2_with fail
          go_meet
          exact ⟨congrArg Value.bool (decide_eq_true (p := m = 0) hwh).symm, rfl⟩
        · by_cases i2 : bs.length < off + 2 + n
          · rw [if_pos (.inr (.inl i2))] at hwh
            clear hc2
            have i2' : (bs.length : Int) < (off : Int) + 2 + (n : Int) := by omega
            go_wp2_with fail
            go_meet
            exact ⟨congrArg Value.bool (decide_eq_true (p := m = 0) hwh).symm, rfl⟩
          · have hcy := hc2 (by omega)
            have i2' : ¬ (bs.length : Int) < (off : Int) + 2 + (n : Int) := by omega
            have hix : ((off : Int) + 1 + (n : Int)).toNat = off + 1 + n := by omega
            have hix2 : (off : Int) + 1 + (n : Int) < (bs.length : Int) := by omega
            clear hc2
            by_cases i3 : y = 165
            · rw [if_neg (by rintro (h | h | h) <;> contradiction)] at hwh
              subst i3
              have HW := Lib.hid hwh
              clear hwh
              go_wp2_with fail
              go_meet
              exact ⟨congrArg Value.bool (decide_eq_false (p := m = 0) (by rw [HW.out]; omega)).symm, rfl⟩
            · rw [if_pos (.inr (.inr i3))] at hwh
              have i3' : (y != 165) = true := by rw [bne_iff_ne]; exact i3
              have HW := Lib.hid hwh
              clear hwh
              go_wp2_with fail
              go_meet
              exact ⟨congrArg Value.bool (decide_eq_true (p := m = 0) HW.out).symm, rfl⟩
      case rest =>
        obtain ⟨rfl, rfl⟩ := hcut
        by_cases hz : m = 0
        · rw [decide_eq_true hz]
          have HS := Lib.hid (hstop hz)
          clear hstop hnext hwh hz hc2
          go_wp2
          go_ret2
          exact ⟨_, by rw [HS.out]; rfl, by rw [HS.out]; exact S.rows, S.k, S.fr⟩
        · rw [decide_eq_false hz]
          have hm2 : m = n + 2 := by
            by_cases hcc : 200 < (n : Int) ∨ bs.length < off + 2 + n ∨ y ≠ 165
            · rw [if_pos hcc] at hwh; exact absurd hwh hz
            · rw [if_neg hcc] at hwh; exact hwh
          have hb2 : off + 2 + n ≤ bs.length := by
            by_cases hcc : 200 < (n : Int) ∨ bs.length < off + 2 + n ∨ y ≠ 165
            · rw [if_pos hcc] at hwh; exact absurd hwh hz
            · omega
          have Sf2 := hnext hz
          subst hm2
          clear hstop hnext hwh hz hc2 cz
          obtain ⟨A2, c2, hsl2, hb2, hlc2, hcc2⟩ := run_cut (hr.kp0 S.k) hc hm (off + 1) (off + 1 + n) (by omega) (by omega)
          obtain ⟨x, hx⟩ : ∃ x, (bs.take (off + 1 + n)).drop (off + 1) = x := ⟨_, rfl⟩
          have hxl : off + 1 + n - (off + 1) = x.length := by rw [← hx, List.length_drop, List.length_take]; omega
          have e0 : off + (n + 2) - 1 = off + 1 + n := by omega
          rw [e0, hx] at Sf2
          rw [hx] at hb2
          rw [hxl] at hsl2 hlc2
          have i1 : ((off + 1 : Nat) : Int) = (off : Int) + 1 := by omega
          have i2 : ((off + 1 + n : Nat) : Int) = (off : Int) + 1 + (n : Int) := by omega
          rw [i1, i2] at hsl2
          have hxle : x.length ≤ bs.length := by omega
          have hbx := hb2.byt
          obtain ⟨vs, R⟩ := S.rows
          have hv2 : vs.length = ls.length := R.2.1
          have hlt := R.1.lt
          clear hx hxl i1 i2 e0
          go_wp2_with (at_builtin; refine app_any rfl _ (.tmp 45) rfl (.slice none 0 0) 0 [] rfl A2 x.length c2 x rfl rfl hb2 (World.ownsRow_nil _ _ _ _) (by omega) ?_)
          intro v3 w3 o3 k3' b3
          try simp only [Nat.zero_add, List.nil_append] at o3
          have hnl : (0 : Nat) + x.length = x.length := Nat.zero_add _
          obtain ⟨A3, c3, hv3⟩ := own_sl o3
          have k3 : Kp0 wr w3 := (Kp.refl (fun _ => False) _).trans k3' (fun i _ h => by simp [Value.ownBlock] at h)
          have f3 : ∀ i, v3.ownBlock = some i → wr.heap.size ≤ i := by
            intro i hi
            rcases b3 with b3 | b3
            · rw [b3] at hi; simp [Value.ownBlock] at hi
            · rw [b3] at hi; injection hi with hi; omega
          try rw [hnl] at hv3 o3
          subst hv3
          obtain ⟨o3s, o3b, o3c⟩ : (∀ b, A3 = some b → (Value.slice A3 x.length c3).ownBlock = some b.block) ∧ x.length ≤ c3 ∧ c3 ≤ 9223372036854775807 := by
            rcases own_shape o3 with ⟨e, h0, _⟩ | ⟨r, cp, e, h1, h2, _⟩ <;> injection e with e1 e2 e3 <;> subst e1 <;> exact ⟨fun b hb => by first | (cases hb; done) | (injection hb with hb; subst hb; simp [Value.ownBlock]), by omega, by omega⟩
          have bz3 := bz_own o3 rfl hbx
          have kB : Kp0 w3 (w3.alloc (.cells #[.slice A3 x.length c3] 22)) := (Kp.refl _ _).alloc _
          have RB : RowsAt (w3.alloc (.cells #[.slice A3 x.length c3] 22)) (.slice Av ls.length cv) ls vs := by
            obtain ⟨y1, y2, y3⟩ := R
            refine ⟨own_kp (own_kp y1 k3 (fun _ _ h => h)) kB (fun _ _ h => h), y2, fun j hj => ?_⟩
            obtain ⟨A, c, e, b, m1, m2, m3⟩ := y3 j hj
            exact ⟨A, c, e, (b.kp0 k3).kp0 kB, m1, m2, m3⟩
          have oB := RB.1
          rw [hv2] at oB
          clear o3 hbx hb2 k3' b3 hsl2 R
          go_wp2_with (at_builtin; refine list_app rfl (.tmp 37) (.tmp 47) 67 22 (.slice none 0 0) 1 24 rfl Try.underlying67 info22 rfl (by decide) (.slice Av ls.length cv) ls.length vs rfl w3.heap.size 0 1 1 [.slice A3 x.length c3] rfl rfl (by simp [Value.oneCell']) (Vw.of_blk (blk_new _ _ rfl)) oB (by omega) (by omega) ?_)
          intro v4 w4 o4 k4 b4
          have R4 := Rows.snoc RB (bz3.kp0 kB) o3b o3c (fun b hz hA hv => by have h1 := f3 b.block (o3s b hA); have h2 := (hlt _ hv).2; omega) rfl o4 k4 (by simpa using b4)
          have K4 : Kp0 w w4 := ((S.k.then0 k3).then0 kB).trans k4 (fun i hi h => by have := S.fr i h; omega)
          have f4 : ∀ i, v4.ownBlock = some i → w.heap.size ≤ i := by
            intro i hi
            rcases b4 with b4 | b4
            · exact S.fr i (b4 ▸ hi)
            · rw [b4] at hi; simp at hi; have := (S.k.then0 k3).size; omega
          have S4 : Sn w w4 bs v4 (off + (n + 2)) (ls ++ [x]) := ⟨Sf2, R4, f4, K4⟩
          clear R4 o4 k4 b4 RB oB bz3 f4 K4 k3 kB f3 Sf2
          have hsum : ((off + (n + 2) : Nat) : Int) = (off : Int) + (2 + (n : Int)) := by omega
          have HU := Lib.hid hsum
          clear hsum
          go_wp2
          go_roundw
          case rel => exact ⟨off + (n + 2), _, by rw [HU.out], S4⟩
          case measure => simp [intOf]; omega
    · have HS := Lib.hid (hstop (by rw [List.drop_eq_nil_of_le (by omega)]; exact wh_no (.inl rfl)))
      clear hstop hnext
      go_wp2
      go_ret2
      exact ⟨_, by rw [HS.out]; rfl, by rw [HS.out]; exact S.rows, S.k, S.fr⟩
end Go.Proofs.Ytkokgbmeienokaa
