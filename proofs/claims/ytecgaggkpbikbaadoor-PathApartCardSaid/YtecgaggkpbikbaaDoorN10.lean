/- NameTells: the walk. -/
import Derived.Test.YtecgaggkpbikbaaDoorN9
import Derived.Test.YtecgaggkpbikbaaDoorOs
set_option linter.unusedVariables false
set_option linter.unusedSimpArgs false
namespace Go.Proofs.YtecgaggkpbikbaaDoor
open Go.RowKit

theorem bless : ∀ l m : List UInt8, Op.bytesLess l m = decide (Lib.compareBytes l m < 0)
  | [], [] => by simp [Op.bytesLess, Lib.compareBytes]
  | [], _ :: _ => by simp [Op.bytesLess, Lib.compareBytes]
  | _ :: _, [] => by simp [Op.bytesLess, Lib.compareBytes]
  | a :: l, b :: m => by
    unfold Op.bytesLess Lib.compareBytes
    rw [bless l m]
    by_cases h1 : a < b
    · rw [if_pos h1, decide_eq_true h1]; rfl
    · rw [if_neg h1, decide_eq_false h1, Bool.false_or]
      by_cases h2 : b < a
      · rw [if_pos h2]
        have : (a == b) = false := by rw [beq_eq_false_iff_ne]; intro e; subst e; exact h1 h2
        rw [this]; rfl
      · rw [if_neg h2]
        have : a = b := by
          rw [UInt8.lt_iff_toNat_lt] at h1 h2
          exact UInt8.toNat_inj.1 (by omega)
        subst this; simp
theorem bless_c (a b : ByteArray) : Op.bytesLess a.toList b.toList = decide (cmb a b < 0) := by rw [ByteArray.toList_eq, ByteArray.toList_eq, bless]; rfl
theorem sg_own {w : World} {v : Value} {ps : List ByteArray} (h : w.ownsRow 0 9 1 v ps.length (ps.map Value.string)) : ∃ A c, v = .slice A ps.length c ∧ Sg w A ps := by
  rcases own_shape h with ⟨rfl, h0, h1⟩ | ⟨g, cap, rfl, h1, h2, h3, h4⟩
  · have : ps = [] := by simpa using h1
    subst this
    exact ⟨none, 0, rfl, sg_nil _ _⟩
  · refine ⟨_, cap, rfl, fun j hj => ⟨g, 0, rfl, h3, ?_⟩⟩
    rw [Nat.zero_add, h4 j (by omega), List.getElem?_map, List.getElem?_eq_getElem hj]; rfl

set_option maxRecDepth 100000 in
set_option maxHeartbeats 4000000 in
theorem nameTells_c (A : Option Addr) (len cap : Nat) (s t af at_ bf bt : ByteArray) (w : World) (hlen : len ≤ 9223372036854775807)
    (hx : ∀ j : Nat, j < len → ∃ b off p, A = some ⟨b, off, none⟩ ∧ b < w.heap.size ∧ p.size ≤ 9223372036854775807 ∧ w.cell? ⟨b, off + j, none⟩ = some (.string p))
    (hs : s.size ≤ 9223372036854775807) (ht : t.size ≤ 9223372036854775807) :
    Calls Tryd.prog 6 #[.slice A len cap, .string s, .string t, .agg #[.string af, .string at_], .agg #[.string bf, .string bt]] w fun e w' => e = .returned (.bool true) ∧ Kp0 w w' := by
  have ka : Kp0 w (w.alloc (.cells #[.string af, .string at_] 30)) := (Kp.refl _ _).alloc _
  have A0 : Blk (w.alloc (.cells #[.string af, .string at_] 30)) w.heap.size #[.string af, .string at_] 30 := blk_new _ _ rfl
  have kb : Kp0 (w.alloc (.cells #[.string af, .string at_] 30)) ((w.alloc (.cells #[.string af, .string at_] 30)).alloc (.cells #[.string bf, .string bt] 30)) := (Kp.refl _ _).alloc _
  have B0 : Blk ((w.alloc (.cells #[.string af, .string at_] 30)).alloc (.cells #[.string bf, .string bt] 30)) (w.heap.size + 1) #[.string bf, .string bt] 30 := blk_new _ _ (by simp)
  have A1 := A0.kp0 kb
  have k0 := ka.then0 kb
  have hz1 : ((w.alloc (.cells #[.string af, .string at_] 30)).alloc (.cells #[.string bf, .string bt] 30)).heap.size = w.heap.size + 1 + 1 := by simp
  clear ka kb A0
  go_enter Tryd.func6, Tryd.ntmps6
  go_upto_region 1 with fail
  generalize (w.alloc (.cells #[.string af, .string at_] 30)).alloc (.cells #[.string bf, .string bt] 30) = W0 at k0 A1 B0 hz1 ⊢
  go_wp2_with fail
  refine (text16_c s 10 (by omega) hs W0).mono ?_
  rintro e w1 ⟨rfl, rfl⟩
  go_wp2_with fail
  refine (text16_c t 10 (by omega) ht W0).mono ?_
  rintro e w1 ⟨rfl, rfl⟩
  have zs := txt_sz s 10
  have zt := txt_sz t 10
  generalize txt s 10 = s' at zs ⊢
  generalize txt t 10 = t' at zt ⊢
  clear hs ht
  go_wp2_with fail
  go_loopw [11, 12] (fun s11 s12 wr => ∃ ps : List ByteArray, ps.length ≤ len ∧ ps.length ≤ 8 ∧ s12 = .int .i64 (ps.length : Nat) ∧ wr.ownsRow 0 9 1 s11 ps.length (ps.map Value.string) ∧ (∀ p ∈ ps, p.size ≤ 9) ∧ Kp0 W0 wr ∧ ∀ g, s11.ownBlock = some g → W0.heap.size ≤ g) (fun _ s12 _ => (8 - intOf s12).toNat)
  case atStart => exact ⟨[], by simp, by simp, rfl, World.ownsRow_nil _ _ _ _, by simp, Kp.refl _ _, by simp [Value.ownBlock]⟩
  case round =>
    obtain ⟨ps, h1, h2, rfl, ho, hp, K, hv⟩ := hrel
    obtain ⟨Ax, cx, rfl, hSg⟩ := sg_own ho
    go_upto_region 4 with fail
    go_cut [25] from 18 to 35 (fun s25 wx => s25 = .bool (decide (ps.length < len ∧ ps.length < 8)) ∧ wr = wx)
    case first =>
      by_cases i1 : ps.length < len
      · by_cases i2 : ps.length < 8
        · go_wp2_with fail
          go_meet
          exact ⟨congrArg Value.bool (by rw [decide_eq_decide]; omega), rfl⟩
        · go_wp2_with fail
          go_meet
          exact ⟨congrArg Value.bool (by rw [decide_eq_decide]; omega), rfl⟩
      · go_wp2_with fail
        go_meet
        exact ⟨congrArg Value.bool (decide_eq_false (fun h => i1 h.1)).symm, rfl⟩
    case rest =>
      obtain ⟨rfl, rfl⟩ := hcut
      by_cases hin : ps.length < len ∧ ps.length < 8
      · rw [decide_eq_true hin]
        obtain ⟨i1, i2⟩ := hin
        obtain ⟨b, off, p, rfl, hb, hpz, hc⟩ := hx _ i1
        have hc1 := ((k0.then0 K).below0.cell (p := ⟨b, _, none⟩) hb).trans hc
        clear hc hSg hx
        go_wp2_with fail
        refine (text16_c p 9 (by omega) hpz wr).mono ?_
        rintro e w1 ⟨rfl, rfl⟩
        have zp := txt_sz p 9
        generalize txt p 9 = q at zp ⊢
        have ho2 := own_kp (S := fun _ => False) ho ((Kp.refl _ _).alloc (.cells #[.string q] 9)) (fun _ _ x => x)
        have K2 := K.alloc (.cells #[.string q] 9)
        clear hc1 hpz ho
        go_wp2_with (at_builtin; refine list_app rfl _ _ 35 9 (.string ByteArray.empty) 1 16 rfl rfl rfl rfl (by decide) (.slice Ax ps.length cx) ps.length _ rfl wr.heap.size 0 1 1 [.string q] rfl rfl (by simp [Value.oneCell']) (Vw.of_blk (blk_new _ _ rfl)) ho2 (by omega) (by omega) ?_)
        intro v81 w2 o81 k2 b2
        obtain ⟨g81, c81, rfl, _, _, _⟩ := own_some o81 (by omega)
        have o82 : w2.ownsRow 0 9 1 (.slice (some ⟨g81, 0, none⟩) (ps.length + 1) c81) (ps ++ [q]).length ((ps ++ [q]).map Value.string) := by
          rw [List.length_append, List.map_append]; exact o81
        have K3 : Kp0 W0 w2 := K2.trans k2 (fun i hi x => by have := hv i x; omega)
        have f81 : ∀ i, (Value.slice (some ⟨g81, 0, none⟩) (ps.length + 1) c81).ownBlock = some i → W0.heap.size ≤ i := by
          intro i hi
          rcases b2 with b2 | b2
          · exact hv i (b2 ▸ hi)
          · rw [b2] at hi; injection hi with hi; have := K.size; (try simp at hi); omega
        have hl2 : (ps ++ [q]).length = ps.length + 1 := by simp
        have hp2 : ∀ p ∈ ps ++ [q], p.size ≤ 9 := by
          intro p h
          rw [List.mem_append] at h
          rcases h with h | h
          · exact hp p h
          · simp at h; subst h; exact zp
        clear k2 b2 o81 ho2 hp hv K2
        go_wp2
        go_roundw
        case rel => exact ⟨ps ++ [q], by rw [hl2]; omega, by rw [hl2]; omega, by rw [hl2]; go_num, o82, hp2, K3, f81⟩
        case measure => simp [intOf]; omega
      · rw [decide_eq_false hin]
        clear hin hv hx
        have A2 := A1.kp0 K
        have B2 := B0.kp0 K
        have K2 := k0.then0 K
        have h1000 : ps.length ≤ 1000 := by omega
        have hps : ∀ p ∈ ps, p.size ≤ 9223372036854775807 := fun p h => by have := hp p h; omega
        clear hp ho K k0 A1 B0
        have a0 := A2.cell 0
        have a1 := A2.cell 1
        have b0 := B2.cell 0
        have b1 := B2.cell 1
        simp at a0 a1 b0 b1
        go_upto_region 7 with fail
        go_cut [13] from 36 to 89 (fun s13 wx => s13 = .bool (lesB af at_ bf bt) ∧ wr = wx)
        case first =>
          have e1 := bless_c af bf
          have e2 := bless_c at_ bt
          have hle := les_iff af at_ bf bt
          by_cases c1 : cmb af bf < 0
          · have HL := Lib.hid (show lesB af at_ bf bt = true from hle.2 (.inl c1))
            rw [decide_eq_true c1] at e1
            clear hle c1 e2
            go_wp2_with fail
            go_meet
            exact ⟨by rw [HL.out], rfl⟩
          · rw [decide_eq_false c1] at e1
            by_cases c2 : af = bf
            · have e3 : (af.toList == bf.toList) = true := by rw [tl_beq, decide_eq_true c2]
              have HL : Hid (lesB af at_ bf bt = decide (cmb at_ bt < 0)) := Lib.hid (by
                by_cases c3 : cmb at_ bt < 0
                · rw [decide_eq_true c3]; exact hle.2 (.inr ⟨c2, c3⟩)
                · rw [decide_eq_false c3]
                  cases h : lesB af at_ bf bt with
                  | false => rfl
                  | true => rcases hle.1 h with h | h
                            · exact absurd h c1
                            · exact absurd h.2 c3)
              clear hle c1 c2
              generalize decide (cmb at_ bt < 0) = r at e2 HL
              go_wp2_with fail
              go_meet
              exact ⟨by rw [HL.out], rfl⟩
            · have e3 : (af.toList == bf.toList) = false := by rw [tl_beq, decide_eq_false c2]
              have HL : Hid (lesB af at_ bf bt = false) := Lib.hid (by
                  cases h : lesB af at_ bf bt with
                  | false => rfl
                  | true => rcases hle.1 h with h | h
                            · exact absurd h c1
                            · exact absurd h.1 c2)
              clear hle c1 c2 e2
              go_wp2_with fail
              go_meet
              exact ⟨by rw [HL.out], rfl⟩
        case rest =>
          obtain ⟨rfl, rfl⟩ := hcut
          clear a0 a1 b0 b1
          have hk := key14_c s' t' (by omega) (by omega)
          have hr1 := right11_c s' (by omega)
          have hq1 := ref17_c s' (by omega)
          have hq2 := ref17_c t' (by omega)
          have hal := all12_c Ax cx ps h1000 hps
          have hrf := ref18_c Ax cx ps h1000 hps
          have hle := less15_c af at_ bf bt
          have hwk := wakes13_c
          generalize lesB af at_ bf bt = L at hle ⊢
          generalize allG [] ps = G at hal hrf
          generalize rgt s' = r1 at hk hr1 hq1
          generalize rgt t' = r2 at hk hq2
          generalize ps.length = n at *
          cases r1 with
          | false =>
            go_wp2_with fail
            refine (hr1 _).mono ?_
            rintro e w1 ⟨rfl, k1⟩
            have K1 := K2.then0 k1
            go_wp2_with fail
            refine (hq1 _).mono ?_
            rintro e v1 ⟨rfl, rfl⟩
            go_wp2_with fail
            refine (hk _).mono ?_
            rintro e w2 ⟨rfl, k2⟩
            have K3 := K1.then0 k2
            go_wp2_with fail
            refine (hq1 _).mono ?_
            rintro e v2 ⟨rfl, rfl⟩
            have S3 := (hSg.kp0 k1).kp0 k2
            go_wp2_with fail
            refine (hal _ S3).mono ?_
            rintro e w4 ⟨rfl, k4⟩
            have K4 := K3.then0 k4
            have S4 := S3.kp0 k4
            go_wp2_with fail
            refine (hrf _ S4).mono ?_
            rintro e w5 ⟨rfl, k5⟩
            have K5 := K4.then0 k5
            have A5 := (((A2.kp0 k1).kp0 k2).kp0 k4).kp0 k5
            have B5 := (((B2.kp0 k1).kp0 k2).kp0 k4).kp0 k5
            have a0 := A5.cell 0
            have a1 := A5.cell 1
            have b0 := B5.cell 0
            have b1 := B5.cell 1
            simp at a0 a1 b0 b1
            clear A5 B5 A2 B2 hal hrf hk hr1 hq1 hq2 hSg S3 S4
            go_wp2_with fail
            refine (hle _).mono ?_
            rintro e w6 ⟨rfl, k6⟩
            have K6 := K5.then0 k6
            clear a0 a1 b0 b1 hle
            go_wp2_with fail
            refine (hwk _).mono ?_
            rintro e w7 ⟨rfl, k7⟩
            go_wp2
            go_ret
            exact ⟨rfl, K6.then0 k7⟩
          | true =>
            cases r2 with
            | false =>
              go_wp2_with fail
              refine (hr1 _).mono ?_
              rintro e w1 ⟨rfl, k1⟩
              have K1 := K2.then0 k1
              go_wp2_with fail
              refine (hq1 _).mono ?_
              rintro e v1 ⟨rfl, rfl⟩
              go_wp2_with fail
              refine (hk _).mono ?_
              rintro e w2 ⟨rfl, k2⟩
              have K3 := K1.then0 k2
              go_wp2_with fail
              refine (hq1 _).mono ?_
              rintro e v2 ⟨rfl, rfl⟩
              go_wp2_with fail
              refine (hq2 _).mono ?_
              rintro e v3 ⟨rfl, rfl⟩
              have S3 := (hSg.kp0 k1).kp0 k2
              go_wp2_with fail
              refine (hal _ S3).mono ?_
              rintro e w4 ⟨rfl, k4⟩
              have K4 := K3.then0 k4
              have S4 := S3.kp0 k4
              go_wp2_with fail
              refine (hrf _ S4).mono ?_
              rintro e w5 ⟨rfl, k5⟩
              have K5 := K4.then0 k5
              have A5 := (((A2.kp0 k1).kp0 k2).kp0 k4).kp0 k5
              have B5 := (((B2.kp0 k1).kp0 k2).kp0 k4).kp0 k5
              have a0 := A5.cell 0
              have a1 := A5.cell 1
              have b0 := B5.cell 0
              have b1 := B5.cell 1
              simp at a0 a1 b0 b1
              clear A5 B5 A2 B2 hal hrf hk hr1 hq1 hq2 hSg S3 S4
              go_wp2_with fail
              refine (hle _).mono ?_
              rintro e w6 ⟨rfl, k6⟩
              have K6 := K5.then0 k6
              clear a0 a1 b0 b1 hle
              go_wp2_with fail
              refine (hwk _).mono ?_
              rintro e w7 ⟨rfl, k7⟩
              go_wp2
              go_ret
              exact ⟨rfl, K6.then0 k7⟩
            | true =>
              go_wp2_with fail
              refine (hr1 _).mono ?_
              rintro e w1 ⟨rfl, k1⟩
              have K1 := K2.then0 k1
              go_wp2_with fail
              refine (hq1 _).mono ?_
              rintro e v1 ⟨rfl, rfl⟩
              go_wp2_with fail
              refine (hk _).mono ?_
              rintro e w2 ⟨rfl, k2⟩
              have K3 := K1.then0 k2
              go_wp2_with fail
              refine (hq1 _).mono ?_
              rintro e v2 ⟨rfl, rfl⟩
              go_wp2_with fail
              refine (hq2 _).mono ?_
              rintro e v3 ⟨rfl, rfl⟩
              have S3 := (hSg.kp0 k1).kp0 k2
              go_wp2_with fail
              refine (hal _ S3).mono ?_
              rintro e w4 ⟨rfl, k4⟩
              have K4 := K3.then0 k4
              have S4 := S3.kp0 k4
              go_wp2_with fail
              refine (hrf _ S4).mono ?_
              rintro e w5 ⟨rfl, k5⟩
              have K5 := K4.then0 k5
              have A5 := (((A2.kp0 k1).kp0 k2).kp0 k4).kp0 k5
              have B5 := (((B2.kp0 k1).kp0 k2).kp0 k4).kp0 k5
              have a0 := A5.cell 0
              have a1 := A5.cell 1
              have b0 := B5.cell 0
              have b1 := B5.cell 1
              simp at a0 a1 b0 b1
              clear A5 B5 A2 B2 hal hrf hk hr1 hq1 hq2 hSg S3 S4
              go_wp2_with fail
              refine (hle _).mono ?_
              rintro e w6 ⟨rfl, k6⟩
              have K6 := K5.then0 k6
              clear a0 a1 b0 b1 hle
              go_wp2_with fail
              refine (hwk _).mono ?_
              rintro e w7 ⟨rfl, k7⟩
              go_wp2
              go_ret
              exact ⟨rfl, K6.then0 k7⟩
theorem nameTells_w (A : Option Addr) (len cap : Nat) (s t af at_ bf bt : ByteArray) (w : World) (hx : Txs w A len) (hs : s.size ≤ maxLen) (ht : t.size ≤ maxLen) :
    Calls Tryd.prog 6 #[.slice A len cap, .string s, .string t, .agg #[.string af, .string at_], .agg #[.string bf, .string bt]] w fun e w' => e = .returned (.bool true) ∧ Below w.heap.size w w' :=
  (nameTells_c A len cap s t af at_ bf bt w hx.1 hx.2 (by unfold maxLen at hs; omega) (by unfold maxLen at ht; omega)).mono fun _ _ h => ⟨h.1, h.2.below0⟩
end Go.Proofs.YtecgaggkpbikbaaDoor
