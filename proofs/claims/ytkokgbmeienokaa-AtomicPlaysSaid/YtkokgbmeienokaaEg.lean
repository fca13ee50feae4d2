/- Package atomic: Write. -/
import Derived.Test.YtkokgbmeienokaaEf
import Derived.Test.YtkokgbmeienokaaEb
set_option linter.unusedVariables false
set_option linter.unusedSimpArgs false
namespace Go.Proofs.Ytkokgbmeienokaa
open Go.RowKit

abbrev tl : ByteArray := { data := #[126] }
noncomputable def Dk.wri (d : Dk) (p : ByteArray) (b : List Int) : Int × Dk :=
  if (d.app (p ++ tl) b).1 ≠ 0 then d.app (p ++ tl) b else if ((d.app (p ++ tl) b).2.syn (p ++ tl)).1 ≠ 0 then (d.app (p ++ tl) b).2.syn (p ++ tl) else ((d.app (p ++ tl) b).2.syn (p ++ tl)).2.ren (p ++ tl) p

set_option maxRecDepth 100000 in
theorem temp84_c (p : ByteArray) (hp : p.size ≤ 90) (w : World) : Calls Try.prog 84 #[.string p] w fun e w' => e = .returned (.string (p ++ tl)) ∧ w = w' := by
  have h1 : p.size + tl.size ≤ 9223372036854775807 := by have : tl.size = 1 := rfl; omega
  go_enter Try.func84, Try.ntmps84
  go_wp2
  go_ret
  exact ⟨rfl, rfl⟩
theorem tl_size (p : ByteArray) : (p ++ tl).size = p.size + 1 := by rw [ByteArray.size_append]; rfl

set_option maxRecDepth 100000 in
theorem write50_c (g n : Nat) (O : Nat → Prop) (d : Dk) (p : ByteArray) (hp : p.size ≤ 90) (A : Option Addr) (c : Nat) (bs : List Int) (hl : bs.length ≤ 1000000) (hn : n ≤ 900000) (w : World) (h : DkAt w g n O d) (hb : Bz w A c bs) (hbO : bs ≠ [] → ∀ b, A = some b → ¬ O b.block) :
    Calls Try.prog 50 #[.pointer (some ⟨g, 0, none⟩), .string p, .slice A bs.length c] w fun e w' => Did w w' g (n + 3) O (d.wri p bs) e := by
  have htmp := temp84_c p hp w
  have hts := tl_size p
  obtain ⟨t, ht⟩ : ∃ t, p ++ tl = t := ⟨_, rfl⟩
  have hw : d.wri p bs = if (d.app t bs).1 ≠ 0 then d.app t bs else if ((d.app t bs).2.syn t).1 ≠ 0 then (d.app t bs).2.syn t else ((d.app t bs).2.syn t).2.ren t p := by rw [← ht]; rfl
  rw [ht] at htmp hts
  clear ht
  have happ := append20_c g n O d t (by omega) A c bs hl (by omega) w h hb hbO
  obtain ⟨s1, d1, hs⟩ : ∃ s1 d1, d.app t bs = (s1, d1) := ⟨_, _, rfl⟩
  simp only [hs] at happ hw
  clear hs
  by_cases hs0 : s1 = 0
  · subst hs0
    rw [if_neg (by simp)] at hw
    obtain ⟨s2, d2, hs⟩ : ∃ s2 d2, d1.syn t = (s2, d2) := ⟨_, _, rfl⟩
    simp only [hs] at hw
    have hsy := fun (O' : Nat → Prop) W (h1 : DkAt W g (n + 1) O' d1) => sync21_c g (n + 1) O' d1 t (by omega) (by omega) W h1
    simp only [hs] at hsy
    clear hs
    by_cases hs2 : s2 = 0
    · subst hs2
      rw [if_neg (by simp)] at hw
      rw [hw]
      clear hw
      go_enter Try.func50, Try.ntmps50
      go_wp2_with fail
      refine htmp.mono ?_
      rintro e w' ⟨rfl, rfl⟩
      go_wp2_with fail
      refine happ.mono ?_
      rintro e w2 ⟨O1, rfl, h1, hO1, k1⟩
      have hsy1 := hsy O1 w2 h1
      clear happ hsy htmp
      go_wp2_with fail
      refine hsy1.mono ?_
      rintro e w3 D
      have D1 := D.seq (Kp.refl _ _) hO1 k1
      clear D
      obtain ⟨O2, rfl, h2, hO2, k2⟩ := D1
      have hre := rename32_c g (n + 1 + 1) O2 d2 t p (by omega) (by omega) (by omega) w3 h2
      clear hsy1 h1 hO1 k1
      go_wp2_with fail
      refine hre.mono ?_
      rintro e w4 D
      have D1 := D.seq (Kp.refl _ _) hO2 k2
      clear D
      obtain ⟨O3, rfl, D2⟩ := D1
      clear hre h2 hO2 k2
      go_wp2
      go_ret
      exact ⟨O3, rfl, D2⟩
    · rw [if_pos hs2] at hw
      rw [hw]
      have hs' : (s2 != 0) = true := by rw [bne_iff_ne]; exact hs2
      clear hw hs2
      go_enter Try.func50, Try.ntmps50
      go_wp2_with fail
      refine htmp.mono ?_
      rintro e w' ⟨rfl, rfl⟩
      go_wp2_with fail
      refine happ.mono ?_
      rintro e w2 ⟨O1, rfl, h1, hO1, k1⟩
      have hsy1 := hsy O1 w2 h1
      clear happ hsy htmp
      go_wp2_with fail
      refine hsy1.mono ?_
      rintro e w3 D
      have D1 := D.seq (Kp.refl _ _) hO1 k1
      clear D
      obtain ⟨O2, rfl, h2, hO2, k2⟩ := D1
      clear hsy1 h1 hO1 k1
      go_wp2
      go_ret
      obtain ⟨bm, V, I⟩ := h2
      exact ⟨O2, rfl, ⟨bm, V, { I with mp := I.mp.mono (by omega) }⟩, hO2, k2⟩
  · rw [if_pos hs0] at hw
    rw [hw]
    have hs' : (s1 != 0) = true := by rw [bne_iff_ne]; exact hs0
    clear hw hs0
    go_enter Try.func50, Try.ntmps50
    go_wp2_with fail
    refine htmp.mono ?_
    rintro e w' ⟨rfl, rfl⟩
    go_wp2_with fail
    refine happ.mono ?_
    rintro e w2 ⟨O1, rfl, h1, hO1, k1⟩
    clear happ htmp
    go_wp2
    go_ret
    obtain ⟨bm, V, I⟩ := h1
    exact ⟨O1, rfl, ⟨bm, V, { I with mp := I.mp.mono (by omega) }⟩, hO1, k1⟩
end Go.Proofs.Ytkokgbmeienokaa
