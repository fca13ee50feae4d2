/- The reference's Right, All; Text. -/
import Derived.Test.YtecgaggkpbikbaaDoorN8
set_option linter.unusedVariables false
set_option linter.unusedSimpArgs false
namespace Go.Proofs.YtecgaggkpbikbaaDoor
open Go.RowKit

/-- At most n bytes of a text. -/
def txt (s : ByteArray) (n : Nat) : ByteArray := s.extract 0 (min s.size n)
theorem txt_sz (s : ByteArray) (n : Nat) : (txt s n).size ≤ n := by unfold txt; rw [ByteArray.size_extract]; omega
set_option maxRecDepth 100000 in
theorem text16_c (s : ByteArray) (n : Nat) (hn : n ≤ 1000) (hs : s.size ≤ 9223372036854775807) (w : World) : Calls Tryd.prog 16 #[.string s, .int .i64 (n : Int)] w fun e w' => e = .returned (.string (txt s n)) ∧ w = w' := by
  unfold txt
  have hm : (min (s.size : Int) (n : Int)).toNat = min s.size n := by omega
  have HM := Lib.hid hm
  clear hm
  go_enter Tryd.func16, Tryd.ntmps16
  go_wp2
  go_ret
  exact ⟨by rw [← HM.out]; rfl, rfl⟩

theorem all_succ {l : List UInt8} {j : Nat} (h : j < l.length) (p : UInt8 → Bool) : (l.take (j + 1)).all p = ((l.take j).all p && p l[j]) := by
  rw [List.take_add_one, List.getElem?_eq_getElem h, List.all_append]; simp
set_option maxRecDepth 100000 in
theorem ref17_c (s : ByteArray) (hs : s.size ≤ 9223372036854775807) (w : World) : Calls Tryd.prog 17 #[.string s] w fun e w' => e = .returned (.bool (rgt s)) ∧ w = w' := by
  go_enter Tryd.func17, Tryd.ntmps17
  go_wp2_with fail
  go_loopw [3] (fun s3 wr => ∃ j : Nat, j ≤ s.size ∧ s3 = .int .i64 (j : Nat) ∧ w = wr ∧ (s.data.toList.take j).all sgn = true) (fun s3 _ => (s.size - intOf s3).toNat)
  case atStart => exact ⟨0, by omega, rfl, rfl, by simp⟩
  case round =>
    obtain ⟨j, hj, rfl, rfl, ha⟩ := hrel
    by_cases hlt : j < s.size
    · have hl : j < s.data.toList.length := by rw [Array.length_toList]; exact hlt
      have hall := all_succ hl sgn
      have hsz : s.data.toList.length = s.size := by rw [Array.length_toList]; rfl
      have hbad : sgn s.data.toList[j] = false → rgt s = false := fun h => by
        unfold rgt
        have : s.data.toList.all sgn = false := by
          rw [List.all_eq_false]
          exact ⟨_, List.getElem_mem hl, by rw [h]; simp⟩
        rw [this, Bool.and_false]
      rw [ha, Bool.true_and] at hall
      have hc : s.data.toList[j] = s[j]'hlt := rfl
      rw [hc] at hall hbad
      have hs0 : sgn (s[j]'hlt) = sgi ((s[j]'hlt).toNat : Int) := by
        have := sgn_of ((s[j]'hlt).toNat : Int) ⟨by omega, by have := UInt8.toNat_lt (s[j]'hlt); omega⟩
        rw [← this]; simp
      rw [hs0] at hall hbad
      generalize hv : ((s[j]'hlt).toNat : Int) = v at hall hbad
      have hgood : sgi v = true → (s.data.toList.take (j + 1)).all sgn = true := fun h => by rw [hall, h]
      clear hall ha hl hsz hc hs0
      have hj0 : 0 ≤ (j : Int) ∧ (j : Int) < (s.size : Int) := by omega
      by_cases c1 : 97 ≤ v
      · by_cases c2 : v ≤ 122
        · have HG := Lib.hid (hgood (by unfold sgi; simp [c1, c2]))
          clear hgood hbad
          go_wp2
          go_roundw
          case rel => exact ⟨j + 1, by omega, by go_num, trivial, HG.out⟩
          case measure => simp [intOf]; omega
        · have c3 : 48 ≤ v := by omega
          have c4 : ¬ v ≤ 57 := by omega
          have HB := Lib.hid (hbad (by unfold sgi; simp [c1, c2, c3, c4]))
          clear hgood hbad
          go_wp2
          go_ret
          exact ⟨by rw [HB.out]; rfl, rfl⟩
      · by_cases c3 : 48 ≤ v
        · by_cases c4 : v ≤ 57
          · have HG := Lib.hid (hgood (by unfold sgi; simp [c3, c4]))
            clear hgood hbad
            go_wp2
            go_roundw
            case rel => exact ⟨j + 1, by omega, by go_num, trivial, HG.out⟩
            case measure => simp [intOf]; omega
          · have HB := Lib.hid (hbad (by unfold sgi; simp [c1, c3, c4]))
            clear hgood hbad
            go_wp2
            go_ret
            exact ⟨by rw [HB.out]; rfl, rfl⟩
        · have HB := Lib.hid (hbad (by unfold sgi; simp [c1, c3]))
          clear hgood hbad
          go_wp2
          go_ret
          exact ⟨by rw [HB.out]; rfl, rfl⟩
    · obtain rfl : j = s.size := by omega
      have hl : s.data.toList.take s.size = s.data.toList := List.take_of_length_le (by rw [Array.length_toList]; exact Nat.le_refl _)
      rw [hl] at ha
      have hr : rgt s = decide (0 < s.size ∧ s.size ≤ 8) := by unfold rgt; rw [ha, Bool.and_true]
      clear ha hl
      by_cases h1 : 1 ≤ s.size
      · by_cases h2 : s.size ≤ 8
        · have HR := Lib.hid (hr.trans (decide_eq_true ⟨h1, h2⟩))
          clear hr
          have h1' : (1 : Int) ≤ (s.size : Int) := by omega
          have h2' : (s.size : Int) ≤ 8 := by omega
          go_wp2
          go_ret
          exact ⟨by rw [HR.out]; rfl, rfl⟩
        · have HR := Lib.hid (hr.trans (decide_eq_false (fun h => h2 h.2)))
          clear hr
          have h1' : (1 : Int) ≤ (s.size : Int) := by omega
          have h2' : ¬ (s.size : Int) ≤ 8 := by omega
          go_wp2
          go_ret
          exact ⟨by rw [HR.out]; rfl, rfl⟩
      · have HR := Lib.hid (hr.trans (decide_eq_false (fun h => h1 h.1)))
        clear hr
        have h1' : ¬ (1 : Int) ≤ (s.size : Int) := by omega
        go_wp2
        go_ret
        exact ⟨by rw [HR.out]; rfl, rfl⟩

theorem tl_beq (p q : ByteArray) : (p.toList == q.toList) = decide (p = q) := by
  by_cases h : p = q
  · subst h; simp
  · rw [decide_eq_false h, beq_eq_false_iff_ne]
    intro e
    rw [ByteArray.toList_eq, ByteArray.toList_eq] at e
    exact h (ByteArray.ext (Array.toList_inj.mp e))
theorem Sg.at_ {w : World} {b off : Nat} {ps : List ByteArray} (h : Sg w (some ⟨b, off, none⟩) ps) (j : Nat) (hj : j < ps.length) : w.cell? ⟨b, off + j, none⟩ = some (.string ps[j]) := by
  obtain ⟨b', off', e, _, hc⟩ := h j hj
  cases e; exact hc

set_option maxRecDepth 100000 in
set_option maxHeartbeats 1000000 in
theorem ref18_c (A : Option Addr) (c : Nat) (ps : List ByteArray) (hl : ps.length ≤ 1000) (hz : ∀ p ∈ ps, p.size ≤ 9223372036854775807) (w : World) (hs : Sg w A ps) :
    Calls Tryd.prog 18 #[.slice A ps.length c] w fun e w' => e = .returned (.bool (allG [] ps)) ∧ Kp0 w w' := by
  go_enter Tryd.func18, Tryd.ntmps18
  go_wp2_with fail
  go_loopw [7] (fun s7 wr => ∃ i : Nat, i ≤ ps.length ∧ s7 = .int .i64 (i : Nat) ∧ Kp0 w wr ∧ allG [] ps = allG (ps.take i).reverse (ps.drop i)) (fun s7 _ => (ps.length - intOf s7).toNat)
  case atStart => exact ⟨0, by omega, rfl, Kp.refl _ _, by simp⟩
  case round =>
    obtain ⟨i, hi, rfl, K, ha⟩ := hrel
    by_cases hlt : i < ps.length
    · have hdr : ps.drop i = ps[i] :: ps.drop (i + 1) := List.drop_eq_getElem_cons hlt
      have htk : (ps.take (i + 1)).reverse = ps[i] :: (ps.take i).reverse := by
        rw [List.take_add_one, List.getElem?_eq_getElem hlt, List.reverse_append]; rfl
      obtain ⟨b, off, rfl, hb, hcell⟩ := hs i hlt
      have hS : ∀ W, Kp0 w W → Sg W (some ⟨b, off, none⟩) ps := fun W k => hs.kp0 k
      have hcell := (hS _ K).at_ i hlt
      have hpz := hz ps[i] (List.getElem_mem hlt)
      have hrc := ref17_c ps[i] hpz wr
      rw [hdr, allG] at ha
      by_cases hr : rgt ps[i] = true
      · rw [hr] at hrc
        go_wp2_with fail
        refine hrc.mono ?_
        rintro e w1 ⟨rfl, rfl⟩
        clear hrc hcell hpz
        go_wp2_with fail
        go_loopw [4] (fun s4 wq => ∃ k : Nat, k ≤ i ∧ s4 = .int .i64 (k : Nat) ∧ Kp0 w wq ∧ ∀ q ∈ ps.take k, q ≠ ps[i]) (fun s4 _ => (i - intOf s4).toNat)
        case atStart => exact ⟨0, by omega, rfl, K, by simp⟩
        case round =>
          clear K
          obtain ⟨k, hk, rfl, Kq, hq⟩ := hrel
          by_cases hki : k < i
          · have ck := (hS _ Kq).at_ k (by omega)
            have ci := (hS _ Kq).at_ i hlt
            have hkl : k < ps.length := by omega
            by_cases e : ps[k] = ps[i]
            · have heq : (ps[k].toList == ps[i].toList) = true := by rw [tl_beq, decide_eq_true e]
              have HA : Hid (allG [] ps = false) := Lib.hid (by
                rw [ha, if_neg (fun h => ?_)]
                have := List.all_eq_true.1 h.2 ps[k] (List.mem_reverse.2 (List.mem_take_iff_getElem.2 ⟨k, by omega, rfl⟩))
                rw [decide_eq_true_iff] at this
                exact this e)
              clear ha htk hdr hq hs hS hz e
              generalize ps[k] = p at ck heq
              generalize ps[i] = q at ci heq
              go_wp2_with fail
              go_quiet (fail)
              go_wp2
              go_ret
              exact ⟨by rw [HA.out]; rfl, Kq.drewN _⟩
            · have heq : (ps[k].toList == ps[i].toList) = false := by rw [tl_beq, decide_eq_false e]
              have HQ : Hid (∀ q ∈ ps.take (k + 1), q ≠ ps[i]) := Lib.hid (by
                rw [List.take_add_one, List.getElem?_eq_getElem hkl]
                intro q h
                rw [List.mem_append] at h
                rcases h with h | h
                · exact hq q h
                · simp at h; subst h; exact e)
              clear ha htk hdr hq hs hS hz e
              generalize ps[k] = p at ck heq
              have HQ' := HQ
              go_wp2_with fail
              go_quiet (fail)
              go_wp2
              go_roundw
              case rel => exact ⟨k + 1, by omega, by go_num, Kq.drewN _, HQ.out⟩
              case measure => simp [intOf]; omega
          · obtain rfl : k = i := by omega
            have HA : Hid (allG [] ps = allG (ps.take (k + 1)).reverse (ps.drop (k + 1))) := Lib.hid (by
              rw [ha, if_pos ⟨hr, List.all_eq_true.2 (fun q h => decide_eq_true (hq q (List.mem_reverse.1 h)))⟩, htk])
            clear ha htk hdr hq hs hS hz hr
            go_wp2
            go_roundw
            case rel => exact ⟨k + 1, by omega, by go_num, Kq, HA.out⟩
            case measure => simp [intOf]; omega
      · have HA : Hid (allG [] ps = false) := Lib.hid (by rw [ha, if_neg (fun h => hr h.1)])
        have hf : rgt ps[i] = false := by simpa using hr
        rw [hf] at hrc
        clear ha htk hdr hs hS hz hr hf
        generalize ps[i] = p at *
        go_wp2_with fail
        refine hrc.mono ?_
        rintro e w1 ⟨rfl, rfl⟩
        go_wp2
        go_ret
        exact ⟨by rw [HA.out]; rfl, K⟩
    · obtain rfl : i = ps.length := by omega
      rw [List.drop_length] at ha
      have HA : Hid (allG [] ps = true) := Lib.hid ha
      clear ha hs hz
      go_wp2
      go_ret
      exact ⟨by rw [HA.out]; rfl, K⟩
end Go.Proofs.YtecgaggkpbikbaaDoor
