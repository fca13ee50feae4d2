/- Package atomic: Clean. -/
import Derived.Test.YtkokgbmeienokaaEj
set_option linter.unusedVariables false
set_option linter.unusedSimpArgs false
set_option linter.unnecessarySimpa false
namespace Go.Proofs.Ytkokgbmeienokaa
open Go.RowKit

def isT (p : ByteArray) : Bool := Lib.hasSuffix p.data.toList [126]
theorem istemp85_c (p : ByteArray) (hp : p.size ≤ 100) (w : World) : Calls Try.prog 85 #[.string p] w fun e w' => e = .returned (.bool (isT p)) ∧ w = w' := by
  have h : Calls Try.prog 96 #[.string p, .string tl] w fun e w' => e = .returned (.bool (isT p)) ∧ w' = w := Any.strings_HasSuffix Try.suf96 p tl w (by omega)
  go_enter Try.func85, Try.ntmps85
  go_wp2_with fail
  refine h.mono ?_
  rintro e w' ⟨rfl, rfl⟩
  go_wp2
  go_ret
  exact ⟨rfl, rfl⟩

/-- Cleaned along these paths. -/
noncomputable def clnL : List ByteArray → Dk → Int × Dk
  | [], d => (0, d)
  | p :: l, d => if isT p = true then (if (d.rem p).1 ≠ 0 then d.rem p else clnL l (d.rem p).2) else clnL l d
noncomputable def Dk.cln (d : Dk) : Int × Dk := clnL d.lst d
theorem lst_mem (d : Dk) (p : ByteArray) (h : p ∈ d.lst) : p ∈ d.ks := by
  unfold Dk.lst srt at h
  obtain ⟨b, hb, rfl⟩ := List.mem_map.1 h
  have := (List.mergeSort_perm _ _).mem_iff.1 hb
  obtain ⟨q, hq, rfl⟩ := List.mem_map.1 this
  have : (⟨(tol q).toArray⟩ : ByteArray) = q := by cases q; simp [tol]
  rw [this]; exact hq

set_option maxRecDepth 100000 in
set_option maxHeartbeats 2000000 in
theorem clean52_c (g n : Nat) (O : Nat → Prop) (d : Dk) (hn : n ≤ 800000) (hk : d.ks.length ≤ 1000) (w : World) (h : DkAt w g n O d) :
    Calls Try.prog 52 #[.pointer (some ⟨g, 0, none⟩)] w fun e w' => Did w w' g (n + d.ks.length) O d.cln e := by
  have hls := list35_c g n O d (by omega) w h
  have hsz : ∀ p ∈ d.lst, p.size ≤ 100 := fun p hp => by
    obtain ⟨bm, V, I⟩ := h
    exact I.sz p ((I.ks p).1 (lst_mem d p hp))
  have hlen := lst_len d
  have hcl : d.cln = clnL d.lst d := rfl
  rw [hcl, ← hlen]
  rw [← hlen] at hk
  clear hcl hlen
  generalize d.lst = ps at *
  have hOl := h.olt
  go_enter Try.func52, Try.ntmps52
  go_wp2_with fail
  refine hls.mono ?_
  rintro e w1 ⟨v, rfl, o1, k1, f1⟩
  obtain ⟨A, c, rfl⟩ := own_sl o1
  have h1 := h.kp0 k1
  have z1 := k1.size
  have hvO : ∀ i, (Value.slice A ps.length c).ownBlock = some i → w.heap.size ≤ i ∧ i < w1.heap.size := fun i hi => ⟨f1 i hi, (o1.lt i hi).2⟩
  clear hls f1 h
  go_wp2_with fail
  go_loopw [9] (fun s wr => ∃ (j : Nat) (d' : Dk) (n' : Nat) (O' : Nat → Prop), j ≤ ps.length ∧ s = .int .i64 (j : Nat) ∧ DkAt wr g n' O' d' ∧ n' ≤ n + j ∧ (∀ i, O' i → O i ∨ w1.heap.size ≤ i) ∧ Kp O w wr ∧ w1.heap.size ≤ wr.heap.size ∧ wr.ownsRow 0 9 1 (.slice A ps.length c) ps.length (ps.map Value.string) ∧ clnL ps d = clnL (ps.drop j) d') (fun s _ => (ps.length - intOf s).toNat)
  case atStart => exact ⟨0, d, n, O, by omega, rfl, h1, by omega, fun i hi => .inl hi, k1.mono (fun _ _ x => x.elim), Nat.le_refl _, o1, by simp⟩
  case round =>
    obtain ⟨j, d', n', O', hj, rfl, hD, hn', hO', hK, hz, ho, hc⟩ := hrel
    by_cases hlt : j < ps.length
    · have hdr : ps.drop j = ps[j] :: ps.drop (j + 1) := List.drop_eq_getElem_cons hlt
      have hpz := hsz ps[j] (List.getElem_mem hlt)
      obtain ⟨r, rfl, hcell⟩ : ∃ r, A = some ⟨r, 0, none⟩ ∧ wr.cell? ⟨r, j, none⟩ = some (.string ps[j]) := by
        rcases own_shape ho with ⟨e, h0, _⟩ | ⟨r, cap, e, m1, m2, m3, m4⟩
        · omega
        · injection e with e1 _ _
          exact ⟨r, e1, by rw [m4 j (by omega), List.getElem?_map, List.getElem?_eq_getElem hlt]; rfl⟩
      rw [hdr] at hc
      generalize ps[j] = p at hc hpz hcell
      have hti := istemp85_c p hpz
      clear hdr
      by_cases ht : isT p = true
      · have hc' : clnL ps d = if (d'.rem p).1 ≠ 0 then d'.rem p else clnL (ps.drop (j + 1)) (d'.rem p).2 := by rw [hc, clnL, if_pos ht]
        have hrm := remove31_c g n' O' d' p hpz (by omega)
        obtain ⟨s1, d2, hs⟩ : ∃ s1 d2, d'.rem p = (s1, d2) := ⟨_, _, rfl⟩
        simp only [hs] at hrm hc'
        rw [ht] at hti
        clear hs hc ht
        have hnv : ∀ i, (Value.slice (some ⟨r, 0, none⟩) ps.length c).ownBlock = some i → ¬ O' i := fun i hi hO => by
          rcases hO' i hO with h | h
          · have := hOl i h; have := (hvO i hi).1; omega
          · have := (hvO i hi).2; omega
        by_cases hs0 : s1 = 0
        · subst hs0
          rw [if_neg (by simp)] at hc'
          have HC := Lib.hid hc'
          clear hc'
          go_wp2_with fail
          refine (hti wr).mono ?_
          rintro e w3 ⟨rfl, rfl⟩
          clear hti hcell
          go_wp2_with fail
          refine (hrm wr hD).mono ?_
          rintro e w4 ⟨O2, rfl, hD2, hO2, hK2⟩
          have ho2 := own_kp ho hK2 hnv
          have hz2 := hK2.size
          have hO3 : ∀ i, O2 i → O i ∨ w1.heap.size ≤ i := fun i hi => by
            rcases hO2 i hi with h | h
            · exact hO' i h
            · exact .inr (by omega)
          have hK3 : Kp O w w4 := hK.trans hK2 (fun i hi h => by
            rcases hO' i h with h | h
            · exact h
            · omega)
          clear hrm hD hK hK2 ho hO2 hO' hnv
          go_wp2
          go_roundw
          case rel => exact ⟨j + 1, d2, n' + 1, O2, by omega, by go_num, hD2, by omega, hO3, hK3, by omega, ho2, HC.out⟩
          case measure => simp [intOf]; omega
        · rw [if_pos hs0] at hc'
          have HC := Lib.hid hc'
          have hs' : (s1 != 0) = true := by rw [bne_iff_ne]; exact hs0
          clear hc' hs0
          go_wp2_with fail
          refine (hti wr).mono ?_
          rintro e w3 ⟨rfl, rfl⟩
          clear hti hcell
          go_wp2_with fail
          refine (hrm wr hD).mono ?_
          rintro e w4 ⟨O2, rfl, hD2, hO2, hK2⟩
          have hz2 := hK2.size
          have hO3 : ∀ i, O2 i → O i ∨ w.heap.size ≤ i := fun i hi => by
            rcases hO2 i hi with h | h
            · exact (hO' i h).imp id (fun h => by omega)
            · exact .inr (by omega)
          have hK3 : Kp O w w4 := hK.trans hK2 (fun i hi h => by
            rcases hO' i h with h | h
            · exact h
            · omega)
          clear hrm hD hK hK2 ho hO2 hO' hnv
          go_wp2
          go_ret
          rw [HC.out]
          obtain ⟨bm, V, I⟩ := hD2
          exact ⟨O2, rfl, ⟨bm, V, { I with mp := I.mp.mono (by omega) }⟩, hO3, hK3⟩
      · have hc' : clnL ps d = clnL (ps.drop (j + 1)) d' := by rw [hc, clnL, if_neg ht]
        have hf : isT p = false := by simpa using ht
        rw [hf] at hti
        have HC := Lib.hid hc'
        clear hc hc' ht hf
        go_wp2_with fail
        refine (hti wr).mono ?_
        rintro e w3 ⟨rfl, rfl⟩
        clear hti hcell
        go_wp2
        go_roundw
        case rel => exact ⟨j + 1, d', n', O', by omega, by go_num, hD, by omega, hO', hK, hz, ho, HC.out⟩
        case measure => simp [intOf]; omega
    · obtain rfl : j = ps.length := by omega
      rw [List.drop_length] at hc
      have hc' : clnL ps d = (0, d') := hc
      have HC := Lib.hid hc'
      clear hc hc'
      obtain ⟨bm, V, I⟩ := hD
      have hD2 : DkAt wr g (n + ps.length) O' d' := ⟨bm, V, { I with mp := I.mp.mono (by omega) }⟩
      have hO3 : ∀ i, O' i → O i ∨ w.heap.size ≤ i := fun i hi => (hO' i hi).imp id (fun h => by omega)
      clear I ho hO'
      go_wp2
      go_ret
      rw [HC.out]
      exact ⟨O', rfl, hD2, hO3, hK⟩
end Go.Proofs.Ytkokgbmeienokaa
