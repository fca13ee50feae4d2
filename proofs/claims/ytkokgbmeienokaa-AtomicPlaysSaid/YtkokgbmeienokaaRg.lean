/- Records scanned. -/
import Derived.Test.YtkokgbmeienokaaRf
set_option linter.unusedVariables false
set_option linter.unusedSimpArgs false
namespace Go.Proofs.Ytkokgbmeienokaa
open Go.RowKit

theorem wh_bd (bs : List Int) : wh bs ≤ bs.length ∧ (wh bs ≠ 0 → 2 ≤ wh bs) := by
  unfold wh
  split
  · simp
  · rename_i h
    exact ⟨by omega, fun _ => by omega⟩

/-- The records that are whole, and how many bytes they have. -/
def sc (bs : List Int) : List (List Int) × Nat :=
  if h : wh bs = 0 then ([], 0) else (((bs.take (wh bs - 1)).drop 1) :: (sc (bs.drop (wh bs))).1, wh bs + (sc (bs.drop (wh bs))).2)
termination_by bs.length
decreasing_by all_goals (have := wh_bd bs; rw [List.length_drop]; omega)

theorem sc_stop {bs : List Int} (h : wh bs = 0) : sc bs = ([], 0) := by rw [sc, dif_pos h]
theorem sc_go {bs : List Int} (h : wh bs ≠ 0) : sc bs = (((bs.take (wh bs - 1)).drop 1) :: (sc (bs.drop (wh bs))).1, wh bs + (sc (bs.drop (wh bs))).2) := by rw [sc, dif_neg h]

/-- So far: these records, off bytes. -/
def Sf (bs : List Int) (ls : List (List Int)) (off : Nat) : Prop := off ≤ bs.length ∧ 2 * ls.length ≤ off ∧ sc bs = (ls ++ (sc (bs.drop off)).1, off + (sc (bs.drop off)).2)
theorem Sf.start (bs : List Int) : Sf bs [] 0 := ⟨Nat.zero_le _, Nat.le_refl _, by simp⟩
theorem Sf.stop {bs : List Int} {ls : List (List Int)} {off : Nat} (h : Sf bs ls off) (h0 : wh (bs.drop off) = 0) : sc bs = (ls, off) := by
  rw [h.2.2, sc_stop h0]; simp
theorem Sf.next {bs : List Int} {ls : List (List Int)} {off : Nat} (h : Sf bs ls off) (h0 : wh (bs.drop off) ≠ 0) :
    Sf bs (ls ++ [(bs.take (off + wh (bs.drop off) - 1)).drop (off + 1)]) (off + wh (bs.drop off)) := by
  have hb := wh_bd (bs.drop off)
  have h2 := hb.2 h0
  rw [List.length_drop] at hb
  refine ⟨by have := h.1; omega, by have := h.2.1; simp; omega, ?_⟩
  rw [h.2.2, sc_go h0]
  have e1 : ((bs.drop off).take (wh (bs.drop off) - 1)).drop 1 = (bs.take (off + wh (bs.drop off) - 1)).drop (off + 1) := by
    rw [List.take_drop, List.drop_drop]
    congr 2
    omega
  rw [e1, List.drop_drop]
  simp [Nat.add_assoc]

structure Sn (w0 w : World) (bs : List Int) (v : Value) (off : Nat) (ls : List (List Int)) : Prop where
  sf : Sf bs ls off
  rows : Rows w v ls
  fr : ∀ i, v.ownBlock = some i → w0.heap.size ≤ i
  k : Kp0 w0 w

theorem info22 : (Try.prog.info? 22).map (fun i => (i.zero, i.size, i.bytes)) = some (some (.slice none 0 0), 1, 24) := by kernel_rfl
set_option maxRecDepth 100000 in
set_option maxHeartbeats 4000000 in
theorem scan_c (a : Option Addr) (cap : Nat) (bs : List Int) (w : World) (hr : Bz w a cap bs) (hl : bs.length ≤ 1900000) (hc : bs.length ≤ cap) (hm : cap ≤ 9223372036854775807) :
    Calls Try.prog 57 #[.slice a bs.length cap] w fun e w' => ∃ v, e = .returned (.tuple #[v, .int .i64 ((sc bs).2 : Nat)]) ∧ Rows w' v (sc bs).1 ∧ Kp0 w w' ∧ (∀ i, v.ownBlock = some i → w.heap.size ≤ i) := by
  have S0 : Sn w w bs (.slice none 0 0) 0 [] := ⟨Sf.start bs, Rows.nil w, by simp [Value.ownBlock], Kp.refl _ _⟩
  go_enter Try.func57, Try.ntmps57
  go_wp2
  refine wp_scope_jumps 0 (fun a' w' => ∃ (off : Nat) (ls : List (List Int)) (v : Value) (u4 u5 u6 u7 u8 u9 u10 u11 u12 u13 u14 u15 u16 u17 u18 u19 u20 u21 u22 u23 u24 u25 u26 u27 : Value), a' = { tmps := #[.slice a bs.length cap, undef, v, .int .i64 (off : Int), u4, u5, u6, u7, u8, u9, u10, u11, u12, u13, u14, u15, u16, u17, u18, u19, u20, u21, u22, u23, u24, u25, u26, u27], defers := [] } ∧ Sn w w' bs v off ls) (fun a' _ => (bs.length - (intOf (a'.tmps.getD 3 undef)).toNat)) rfl ?_ ?_
  · go_wp2
    go_step3
    obtain ⟨A1, c1, hsl1, hb1, hlc1, _⟩ := run_cutlo (hr.kp0 S0.k) hc hm 0 S0.sf.1
    have hsl1' : ∀ W, (Instr.sliceAt 22 (.slice a bs.length cap) (some (.int .i64 0)) none none).run Try.prog W = .ok (.slice A1 (bs.drop 0).length c1) W := hsl1
    have hwc := whole_c A1 c1 (bs.drop 0) w hb1 (by rw [List.length_drop]; omega)
    have hbd := wh_bd (bs.drop 0)
    have hstop := S0.sf.stop
    have hnext := S0.sf.next
    obtain ⟨n, hn⟩ : ∃ n, wh (bs.drop 0) = n := ⟨_, rfl⟩
    rw [hn] at hwc hbd hstop hnext
    rw [List.length_drop] at hbd
    obtain ⟨L1, hL1⟩ : ∃ L1, (bs.drop 0).length = L1 := ⟨_, rfl⟩
    rw [hL1] at hsl1 hwc hlc1 hsl1'
    obtain ⟨vs, R⟩ := S0.rows
    have hoff := S0.sf.1
    have hls := S0.sf.2.1
    clear hn hL1 hsl1
    by_cases hz : n = 0
    · subst hz
      have HS := Lib.hid (hstop rfl)
      clear hstop hnext hbd
      go_wp2_with (go_at_call 87; refine hwc.mono ?_; rintro e w' ⟨rfl, rfl⟩)
      simp only [Exit.jump]
      go_ret2
      exact ⟨_, by rw [HS.out]; rfl, by rw [HS.out]; exact S0.rows, S0.k, S0.fr⟩
    · have Sf2 := hnext hz
      have hn2 := hbd.2 hz
      have hn1 := hbd.1
      clear hstop hnext hbd
      obtain ⟨A2, c2, hsl2, hb2, hlc2, hcc2⟩ := run_cut (hr.kp0 S0.k) hc hm (0 + 1) (0 + n - 1) (by omega) (by omega)
      obtain ⟨x, hx⟩ : ∃ x, (bs.take (0 + n - 1)).drop (0 + 1) = x := ⟨_, rfl⟩
      have hxl : 0 + n - 1 - (0 + 1) = x.length := by rw [← hx, List.length_drop, List.length_take]; omega
      rw [hx] at hb2 Sf2
      rw [hxl] at hsl2 hlc2
      have i1 : ((0 + 1 : Nat) : Int) = 1 := by omega
      have i2 : ((0 + n - 1 : Nat) : Int) = ((n : Int) - 1) := by omega
      rw [i1, i2] at hsl2
      have hxle : x.length ≤ bs.length := by omega
      have hcl := clone_c A2 c2 x w hb2 (by omega)
      have hbx := hb2.byt
      clear hx hxl i1 i2 hb1 hb2 hlc1
      obtain ⟨hv1, hv2, hv3⟩ := R
      have R : RowsAt w (.slice none 0 0) [] vs := ⟨hv1, hv2, hv3⟩
      go_wp2_with (go_at_call 87; refine hwc.mono ?_; rintro e w' ⟨rfl, rfl⟩)
      refine hcl.mono ?_
      rintro e w3 ⟨A3, c3, rfl, o3, k3, f3⟩
      obtain ⟨o3s, o3b, o3c⟩ : (∀ b, A3 = some b → (Value.slice A3 x.length c3).ownBlock = some b.block) ∧ x.length ≤ c3 ∧ c3 ≤ 9223372036854775807 := by
        rcases own_shape o3 with ⟨e, h0, _⟩ | ⟨r, cp, e, h1, h2, _⟩ <;> injection e with e1 e2 e3 <;> subst e1 <;> exact ⟨fun b hb => by first | (cases hb; done) | (injection hb with hb; subst hb; simp [Value.ownBlock]), by omega, by omega⟩
      have bz3 := bz_own o3 rfl hbx
      have kB : Kp0 w3 (w3.alloc (.cells #[.slice A3 x.length c3] 22)) := (Kp.refl _ _).alloc _
      have RB : RowsAt (w3.alloc (.cells #[.slice A3 x.length c3] 22)) (.slice none 0 0) [] vs := by
        obtain ⟨y1, y2, y3⟩ := R
        refine ⟨own_kp (own_kp y1 k3 (fun _ _ h => h)) kB (fun _ _ h => h), y2, fun j hj => ?_⟩
        obtain ⟨A, c, e, b, m1, m2, m3⟩ := y3 j hj
        exact ⟨A, c, e, (b.kp0 k3).kp0 kB, m1, m2, m3⟩
      have oB := RB.1
      have hlt := hv1.lt
      clear o3 hwc hcl hbx
      go_wp2_with (at_builtin; refine list_app rfl (.tmp 11) (.tmp 21) 67 22 (.slice none 0 0) 1 24 rfl Try.underlying67 info22 rfl (by decide) (.slice none 0 0) vs.length vs rfl w3.heap.size 0 1 1 [.slice A3 x.length c3] rfl rfl (by simp [Value.oneCell']) (Vw.of_blk (blk_new _ _ rfl)) oB (by omega) (by omega) ?_)
      intro v4 w4 o4 k4 b4
      have R4 := Rows.snoc RB (bz3.kp0 kB) o3b o3c (fun b hz hA hv => by have h1 := f3 b.block (o3s b hA); have h2 := (hlt _ hv).2; omega) rfl o4 k4 (by simpa using b4)
      have K4 : Kp0 w w4 := ((S0.k.then0 k3).then0 kB).trans k4 (fun i hi h => by have := S0.fr i h; omega)
      have f4 : ∀ i, v4.ownBlock = some i → w.heap.size ≤ i := by
        intro i hi
        rcases b4 with b4 | b4
        · exact S0.fr i (b4 ▸ hi)
        · rw [b4] at hi; simp at hi; have := (S0.k.then0 k3).size; omega
      have S4 : Sn w w4 bs v4 (0 + n) ([] ++ [x]) := ⟨Sf2, R4, f4, K4⟩
      clear R4 o4 k4 b4 RB oB bz3 f4 K4 k3 kB R f3 hv1 hv2 hv3 Sf2
      have hsum : ((0 + n : Nat) : Int) = (n : Int) := by omega
      have HU := Lib.hid hsum
      clear hsum
      go_wp2_with fail
      go_step3
      exact ⟨rfl, _, _, v4, _, _, _, _, _, _, _, _, _, _, _, _, _, _, _, _, _, _, _, _, _, _, _, _, by rw [HU.out], S4⟩
  · rintro a' w1 ⟨off, ls, v, u4, u5, u6, u7, u8, u9, u10, u11, u12, u13, u14, u15, u16, u17, u18, u19, u20, u21, u22, u23, u24, u25, u26, u27, rfl, S⟩
    obtain ⟨A1, c1, hsl1, hb1, hlc1, _⟩ := run_cutlo (hr.kp0 S.k) hc hm off S.sf.1
    have hwc := whole_c A1 c1 (bs.drop off) w1 hb1 (by rw [List.length_drop]; omega)
    have hbd := wh_bd (bs.drop off)
    have hstop := S.sf.stop
    have hnext := S.sf.next
    obtain ⟨n, hn⟩ : ∃ n, wh (bs.drop off) = n := ⟨_, rfl⟩
    rw [hn] at hwc hbd hstop hnext
    rw [List.length_drop] at hbd
    obtain ⟨L1, hL1⟩ : ∃ L1, (bs.drop off).length = L1 := ⟨_, rfl⟩
    rw [hL1] at hsl1 hwc hlc1
    obtain ⟨vs, R⟩ := S.rows
    have hoff := S.sf.1
    have hls := S.sf.2.1
    clear hn hL1
    by_cases hz : n = 0
    · subst hz
      have HS := Lib.hid (hstop rfl)
      clear hstop hnext hbd
      go_wp2_with (go_at_call 87; refine hwc.mono ?_; rintro e w' ⟨rfl, rfl⟩)
      simp only [Exit.jump]
      go_ret2
      exact ⟨_, by rw [HS.out]; rfl, by rw [HS.out]; exact S.rows, S.k, S.fr⟩
    · have Sf2 := hnext hz
      have hn2 := hbd.2 hz
      have hn1 := hbd.1
      clear hstop hnext hbd
      obtain ⟨A2, c2, hsl2, hb2, hlc2, hcc2⟩ := run_cut (hr.kp0 S.k) hc hm (off + 1) (off + n - 1) (by omega) (by omega)
      obtain ⟨x, hx⟩ : ∃ x, (bs.take (off + n - 1)).drop (off + 1) = x := ⟨_, rfl⟩
      have hxl : off + n - 1 - (off + 1) = x.length := by rw [← hx, List.length_drop, List.length_take]; omega
      rw [hx] at hb2 Sf2
      rw [hxl] at hsl2 hlc2
      have i1 : ((off + 1 : Nat) : Int) = ((off : Int) + 1) := by omega
      have i2 : ((off + n - 1 : Nat) : Int) = ((off : Int) + (n : Int) - 1) := by omega
      rw [i1, i2] at hsl2
      have hxle : x.length ≤ bs.length := by omega
      have hcl := clone_c A2 c2 x w1 hb2 (by omega)
      have hbx := hb2.byt
      clear hx hxl i1 i2 hb1 hb2 hlc1
      obtain ⟨hv1, hv2, hv3⟩ := R
      have R : RowsAt w1 v ls vs := ⟨hv1, hv2, hv3⟩
      go_wp2_with (go_at_call 87; refine hwc.mono ?_; rintro e w' ⟨rfl, rfl⟩)
      refine hcl.mono ?_
      rintro e w3 ⟨A3, c3, rfl, o3, k3, f3⟩
      obtain ⟨o3s, o3b, o3c⟩ : (∀ b, A3 = some b → (Value.slice A3 x.length c3).ownBlock = some b.block) ∧ x.length ≤ c3 ∧ c3 ≤ 9223372036854775807 := by
        rcases own_shape o3 with ⟨e, h0, _⟩ | ⟨r, cp, e, h1, h2, _⟩ <;> injection e with e1 e2 e3 <;> subst e1 <;> exact ⟨fun b hb => by first | (cases hb; done) | (injection hb with hb; subst hb; simp [Value.ownBlock]), by omega, by omega⟩
      have bz3 := bz_own o3 rfl hbx
      have kB : Kp0 w3 (w3.alloc (.cells #[.slice A3 x.length c3] 22)) := (Kp.refl _ _).alloc _
      have RB : RowsAt (w3.alloc (.cells #[.slice A3 x.length c3] 22)) v ls vs := by
        obtain ⟨y1, y2, y3⟩ := R
        refine ⟨own_kp (own_kp y1 k3 (fun _ _ h => h)) kB (fun _ _ h => h), y2, fun j hj => ?_⟩
        obtain ⟨A, c, e, b, m1, m2, m3⟩ := y3 j hj
        exact ⟨A, c, e, (b.kp0 k3).kp0 kB, m1, m2, m3⟩
      have oB := RB.1
      have hlt := hv1.lt
      clear o3 hwc hcl hbx
      go_wp2_with (at_builtin; refine list_app rfl (.tmp 11) (.tmp 21) 67 22 (.slice none 0 0) 1 24 rfl Try.underlying67 info22 rfl (by decide) v vs.length vs rfl w3.heap.size 0 1 1 [.slice A3 x.length c3] rfl rfl (by simp [Value.oneCell']) (Vw.of_blk (blk_new _ _ rfl)) oB (by omega) (by omega) ?_)
      intro v4 w4 o4 k4 b4
      have R4 := Rows.snoc RB (bz3.kp0 kB) o3b o3c (fun b hz hA hv => by have h1 := f3 b.block (o3s b hA); have h2 := (hlt _ hv).2; omega) rfl o4 k4 (by simpa using b4)
      have K4 : Kp0 w w4 := ((S.k.then0 k3).then0 kB).trans k4 (fun i hi h => by have := S.fr i h; omega)
      have f4 : ∀ i, v4.ownBlock = some i → w.heap.size ≤ i := by
        intro i hi
        rcases b4 with b4 | b4
        · exact S.fr i (b4 ▸ hi)
        · rw [b4] at hi; simp at hi; have := (S.k.then0 k3).size; omega
      have S4 : Sn w w4 bs v4 (off + n) (ls ++ [x]) := ⟨Sf2, R4, f4, K4⟩
      clear R4 o4 k4 b4 RB oB bz3 f4 K4 k3 kB R f3 hv1 hv2 hv3 Sf2
      have hsum : ((off + n : Nat) : Int) = (off : Int) + (n : Int) := by omega
      have HU := Lib.hid hsum
      clear hsum
      go_wp2_with fail
      go_step3
      exact ⟨rfl, ⟨_, _, v4, _, _, _, _, _, _, _, _, _, _, _, _, _, _, _, _, _, _, _, _, _, _, _, _, by rw [HU.out], S4⟩, by simp [intOf]; omega⟩

end Go.Proofs.Ytkokgbmeienokaa
