/- Package name: Key, All; the example. -/
import Derived.Test.YtecgaggkpbikbaaDoorN2
import Derived.Test.YtecgaggkpbikbaaDoorAp
set_option linter.unusedVariables false
set_option linter.unusedSimpArgs false
namespace Go.Proofs.YtecgaggkpbikbaaDoor
open Go.RowKit

def Sg (w : World) (A : Option Addr) (ps : List ByteArray) : Prop := ∀ j (h : j < ps.length), ∃ b off, A = some ⟨b, off, none⟩ ∧ b < w.heap.size ∧ w.cell? ⟨b, off + j, none⟩ = some (.string ps[j])
theorem Sg.kp {w w' : World} {S : Nat → Prop} {A : Option Addr} {ps : List ByteArray} (h : Sg w A ps) (k : Kp S w w') (hn : ∀ a, A = some a → ¬ S a.block) : Sg w' A ps := fun j hj => by
  obtain ⟨b, off, e, hb, hc⟩ := h j hj
  have hk := k.block b hb (hn _ e)
  refine ⟨b, off, e, Nat.lt_of_lt_of_le hb k.size, ?_⟩
  unfold World.cell? at hc ⊢
  rw [hk]; exact hc
theorem Sg.kp0 {w w' : World} {A : Option Addr} {ps : List ByteArray} (h : Sg w A ps) (k : Kp0 w w') : Sg w' A ps := h.kp k (fun _ _ x => x)
theorem sg_blk {w : World} {B : Nat} {ps : List ByteArray} (h : Blk w B (ps.map Value.string).toArray 9) : Sg w (some ⟨B, 0, none⟩) ps := fun j hj => by
  refine ⟨B, 0, rfl, h.lt, ?_⟩
  rw [h.cell]
  simp [List.getElem?_eq_getElem hj]
theorem sg_nil (w : World) (A : Option Addr) : Sg w A [] := fun j hj => by simp at hj

set_option maxRecDepth 100000 in
theorem key14_c (f t : ByteArray) (hf : f.size ≤ 9223372036854775807) (ht : t.size ≤ 9223372036854775807) (w : World) : Calls Tryd.prog 14 #[.agg #[.string f, .string t]] w fun e w' => e = .returned (.bool (rgt f && rgt t)) ∧ Kp0 w w' := by
  have ka : Kp0 w (w.alloc (.cells #[.string f, .string t] 30)) := (Kp.refl _ _).alloc _
  have B : Blk (w.alloc (.cells #[.string f, .string t] 30)) w.heap.size #[.string f, .string t] 30 := blk_new _ _ rfl
  have hr := right11_c f hf (w.alloc (.cells #[.string f, .string t] 30))
  cases h : rgt f with
  | false =>
    rw [h] at hr
    clear h
    go_enter Tryd.func14, Tryd.ntmps14
    go_wp2_with fail
    refine hr.mono ?_
    rintro e w1 ⟨rfl, k1⟩
    go_wp2
    go_ret
    exact ⟨rfl, ka.then0 k1⟩
  | true =>
    rw [h] at hr
    clear h
    go_enter Tryd.func14, Tryd.ntmps14
    go_wp2_with fail
    refine hr.mono ?_
    rintro e w1 ⟨rfl, k1⟩
    have c1 := (B.kp0 k1).cell 1
    simp at c1
    go_wp2_with fail
    refine (right11_c t ht w1).mono ?_
    rintro e w2 ⟨rfl, k2⟩
    clear c1 hr B
    go_wp2
    go_ret
    exact ⟨by rw [Bool.true_and]; rfl, (ka.then0 k1).then0 k2⟩

/-- Is each right, and none there twice? -/
def allG (seen : List ByteArray) : List ByteArray → Bool
  | [] => true
  | p :: r => if rgt p = true ∧ seen.all (fun q => decide (q ≠ p)) = true then allG (p :: seen) r else false
theorem rgt_sz {p : ByteArray} (h : rgt p = true) : p.size ≤ 100 := by
  unfold rgt at h
  rw [Bool.and_eq_true] at h
  have := of_decide_eq_true h.1
  omega

set_option maxRecDepth 100000 in
set_option maxHeartbeats 1000000 in
theorem all12_c (A : Option Addr) (c : Nat) (ps : List ByteArray) (hl : ps.length ≤ 1000) (hz : ∀ p ∈ ps, p.size ≤ 9223372036854775807) (w : World) (hs : Sg w A ps) :
    Calls Tryd.prog 12 #[.slice A ps.length c] w fun e w' => e = .returned (.bool (allG [] ps)) ∧ Kp0 w w' := by
  classical
  have hmm := @run_makeMap Tryd.prog
  have k0 : Kp0 w (w.alloc (.map #[] 0)) := (Kp.refl _ _).alloc _
  have M0 : MapD (w.alloc (.map #[] 0)) w.heap.size 0 (fun _ => none) := MapD.made w
  go_enter Tryd.func12, Tryd.ntmps12
  go_wp2_with fail
  go_loopw [9] (fun s wr => ∃ (j : Nat) (F : ByteArray → Option Value) (seen : List ByteArray), j ≤ ps.length ∧ s = .int .i64 (j : Nat) ∧ MapD wr w.heap.size j F ∧ Kp0 w wr ∧ (∀ p, F p = if p ∈ seen then some (.bool true) else none) ∧ allG [] ps = allG seen (ps.drop j)) (fun s _ => (ps.length - intOf s).toNat)
  case atStart => exact ⟨0, fun _ => none, [], by omega, rfl, M0, k0, fun p => by simp, by simp⟩
  case round =>
    obtain ⟨j, F, seen, hj, rfl, M, K, hF, ha⟩ := hrel
    clear M0 k0
    by_cases hlt : j < ps.length
    · have hdr : ps.drop j = ps[j] :: ps.drop (j + 1) := List.drop_eq_getElem_cons hlt
      obtain ⟨b, off, rfl, hb, hcell⟩ := (hs.kp0 K) j hlt
      have hpz := hz ps[j] (List.getElem_mem hlt)
      rw [hdr] at ha
      generalize ps[j] = p at ha hcell hpz
      clear hdr
      have hrc := right11_c p hpz wr
      by_cases hr : rgt p = true
      · rw [hr] at hrc
        have hp := rgt_sz hr
        have hlk := M.look hp
        by_cases hin : p ∈ seen
        · have ha' : allG [] ps = false := by
            rw [ha, allG, if_neg (fun h => ?_)]
            have := List.all_eq_true.1 h.2 p hin
            simp at this
          have HA := Lib.hid ha'
          have hlk' : ∀ W, Kp0 wr W → (Instr.lookup 49 (.map (some w.heap.size)) (.string p) false).run Tryd.prog W = .ok (.bool true) W := fun W kW => by
            have := (M.kp0 kW).look hp
            rw [hF p, if_pos hin] at this; exact this
          clear ha ha' hlk hF
          go_wp2_with fail
          refine hrc.mono ?_
          rintro e w1 ⟨rfl, k1⟩
          have hlk1 := hlk' w1 k1
          have K1 := K.then0 k1
          clear hlk' hrc M K hs
          go_wp2
          go_ret
          exact ⟨by rw [HA.out]; rfl, K1⟩
        · have ha' : allG [] ps = allG (p :: seen) (ps.drop (j + 1)) := by
            rw [ha, allG, if_pos ⟨hr, List.all_eq_true.2 (fun q hq => decide_eq_true (fun e => hin (e ▸ hq)))⟩]
          have HA := Lib.hid ha'
          have hlk' : ∀ W, Kp0 wr W → (Instr.lookup 49 (.map (some w.heap.size)) (.string p) false).run Tryd.prog W = .ok (.bool false) W := fun W kW => by
            have := (M.kp0 kW).look hp
            rw [hF p, if_neg hin] at this; exact this
          clear ha ha' hlk
          go_wp2_with fail
          refine hrc.mono ?_
          rintro e w1 ⟨rfl, k1⟩
          have hlk1 := hlk' w1 k1
          have K1 := K.then0 k1
          obtain ⟨w2, hrun, M2, k2⟩ := (M.kp0 k1).put (by omega) hp (.bool true)
          have K2 : Kp0 w w2 := K1.trans k2 (fun i hi e => by omega)
          have hF2 : ∀ q, pt F p (some (.bool true)) q = if q ∈ p :: seen then some (.bool true) else none := fun q => by
            by_cases e : q = p
            · subst e; rw [pt_same, if_pos (by simp)]
            · rw [pt_other _ _ e, hF q]; simp [e]
          have HF := Lib.hid hF2
          clear hlk' hrc M K hF hF2 k1 k2 K1
          go_wp2
          go_roundw
          case rel => exact ⟨j + 1, _, p :: seen, by omega, by go_num, M2, K2, HF.out, HA.out⟩
          case measure => simp [intOf]; omega
      · have ha' : allG [] ps = false := by rw [ha, allG, if_neg (fun h => hr h.1)]
        have hf : rgt p = false := by simpa using hr
        rw [hf] at hrc
        have HA := Lib.hid ha'
        clear ha ha' hF hr hf
        go_wp2_with fail
        refine hrc.mono ?_
        rintro e w1 ⟨rfl, k1⟩
        have K1 := K.then0 k1
        clear hrc M K hs
        go_wp2
        go_ret
        exact ⟨by rw [HA.out]; rfl, K1⟩
    · obtain rfl : j = ps.length := by omega
      rw [List.drop_length] at ha
      have ha' : allG [] ps = true := ha
      have HA := Lib.hid ha'
      clear ha ha' hF M hs
      go_wp2
      go_ret
      exact ⟨by rw [HA.out]; rfl, K⟩

set_option maxRecDepth 100000 in
theorem wakes13_c (w : World) : Calls Tryd.prog 13 #[] w fun e w' => e = .returned (.bool true) ∧ Kp0 w w' := by
  have h1 : rgt es = false := by decide
  have h2 : rgt { data := #[97, 49] } = true := by decide
  have c1 := fun W => right11_c es (by decide) W
  have c2 := fun W => right11_c { data := #[97, 49] } (by decide) W
  rw [h1] at c1
  rw [h2] at c2
  go_enter Tryd.func13, Tryd.ntmps13
  go_wp2_with fail
  refine (c1 w).mono ?_
  rintro e w1 ⟨rfl, k1⟩
  go_wp2_with fail
  refine (c2 w1).mono ?_
  rintro e w2 ⟨rfl, k2⟩
  go_wp2
  go_ret
  exact ⟨rfl, k1.then0 k2⟩
end Go.Proofs.YtecgaggkpbikbaaDoor
