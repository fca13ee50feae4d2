/- Bytes joined; records written, and looked at. -/
import Derived.Test.YtkokgbmeienokaaRc
set_option linter.unusedVariables false
set_option linter.unusedSimpArgs false
namespace Go.Proofs.Ytkokgbmeienokaa
open Go.RowKit

def Parts (w : World) (P : Nat) (ps : List (List Int)) : Prop := ∀ j (h : j < ps.length), ∃ A c, w.cell? ⟨P, j, none⟩ = some (.slice A (ps[j]).length c) ∧ Bz w A c ps[j] ∧ P < w.heap.size
theorem Parts.kp0 {w w' : World} {P : Nat} {ps : List (List Int)} (h : Parts w P ps) (k : Kp0 w w') : Parts w' P ps := by
  intro j hj
  obtain ⟨A, c, h1, h2, h3⟩ := h j hj
  refine ⟨A, c, ?_, h2.kp0 k, Nat.lt_of_lt_of_le h3 k.size⟩
  rw [← h1]
  exact k.below0.cell (p := ⟨P, j, none⟩) h3

theorem flat_take (ps : List (List Int)) (j : Nat) (h : j < ps.length) : (ps.take (j + 1)).flatten = (ps.take j).flatten ++ ps[j] := by
  rw [List.take_succ_eq_append_getElem h, List.flatten_append, List.flatten_cons, List.flatten_nil, List.append_nil]
theorem flat_le (ps : List (List Int)) (j : Nat) : (ps.take j).flatten.length ≤ ps.flatten.length := by
  have : ps.flatten = (ps.take j).flatten ++ (ps.drop j).flatten := by rw [← List.flatten_append, List.take_append_drop]
  rw [this, List.length_append]; omega

set_option maxRecDepth 100000 in
set_option maxHeartbeats 2000000 in
theorem concat_c (P cp : Nat) (ps : List (List Int)) (hk : ps.length ≤ 8) (ht : ps.flatten.length ≤ 140737488355328) (w : World) (h : Parts w P ps) :
    Calls Try.prog 68 #[.slice (some ⟨P, 0, none⟩) ps.length cp] w fun e w' => Fr w w' e ps.flatten := by
  go_enter Try.func68, Try.ntmps68
  go_wp2_with fail
  go_loopw [3, 11] (fun s i wr => ∃ j : Nat, j ≤ ps.length ∧ i = .int .i64 j ∧ s = .int .i64 ((ps.take j).flatten.length : Nat) ∧ w = wr) (fun _ i _ => (ps.length - intOf i).toNat)
  case atStart => exact ⟨0, by omega, rfl, by simp, rfl⟩
  case round =>
    obtain ⟨j, hj, rfl, rfl, rfl⟩ := hrel
    by_cases hlt : j < ps.length
    · obtain ⟨A, c, hc, hb, _⟩ := h j hlt
      have hs : (ps.take (j + 1)).flatten.length = (ps.take j).flatten.length + (ps[j]).length := by rw [flat_take ps j hlt, List.length_append]
      have hle := flat_le ps (j + 1)
      rw [hs] at hle
      have HS := Lib.hid hs
      clear hs hb h
      generalize (ps[j]).length = m at *
      generalize hL : (ps.take j).flatten.length = L at *
      clear hL
      go_wp2
      go_roundw
      case rel => exact ⟨j + 1, by omega, by go_num, by rw [HS.out]; go_num, by simp⟩
      case measure => simp [intOf]; omega
    · obtain rfl : j = ps.length := by omega
      rw [List.take_length]
      have hN := ht
      obtain ⟨N, hNe⟩ : ∃ N, ps.flatten.length = N := ⟨_, rfl⟩
      rw [hNe] at hN ⊢
      clear hlt hj
      go_wp2_with fail
      refine (grow_c N hN _).mono ?_
      rintro e w1 ⟨v, rfl, o1, k1, f1⟩
      obtain ⟨A1, c1, rfl⟩ := own_sl o1
      go_wp2_with fail
      go_loopw [6, 27] (fun s i wx => ∃ (j : Nat) (A : Option Addr) (c : Nat), j ≤ ps.length ∧ i = .int .i64 j ∧ s = .slice A (ps.take j).flatten.length c ∧ wx.ownsRow 0 5 1 (.slice A (ps.take j).flatten.length c) (ps.take j).flatten.length (u8s (ps.take j).flatten) ∧ Kp0 w wx ∧ (∀ i, (Value.slice A (ps.take j).flatten.length c).ownBlock = some i → w.heap.size ≤ i)) (fun _ i _ => (ps.length - intOf i).toNat)
      case atStart => exact ⟨0, A1, c1, by omega, rfl, rfl, by simpa using o1, k1, by simpa using f1⟩
      case round =>
        obtain ⟨j, A, c, hj, rfl, rfl, o2, K, f2⟩ := hrel
        by_cases hlt : j < ps.length
        · obtain ⟨A2, c2, hc, hb, _⟩ := (h.kp0 K) j hlt
          have hf := flat_take ps j hlt
          have hs : (ps.take (j + 1)).flatten.length = (ps.take j).flatten.length + (ps[j]).length := by rw [hf, List.length_append]
          have hle := flat_le ps (j + 1)
          rw [hs, hNe] at hle
          have HS := Lib.hid hs
          have HF := Lib.hid hf
          clear hs hf h hNe
          obtain ⟨bs, hbs⟩ : ∃ bs, ps[j] = bs := ⟨_, rfl⟩
          rw [hbs] at hb hc HS HF hle
          clear hbs
          generalize (ps.take j).flatten = fl at *
          go_wp2_with (at_builtin; refine app_any rfl _ _ rfl (.slice A fl.length c) fl.length (u8s fl) rfl A2 bs.length c2 bs rfl rfl hb o2 (by omega) ?_)
          intro v3 w3 o3 k3 b3
          obtain ⟨A3, c3, rfl⟩ := own_sl o3
          have K3 : Kp0 w w3 := K.trans k3 (fun i hi h => by have := f2 i h; omega)
          have f3 : ∀ i, (Value.slice A3 (fl.length + bs.length) c3).ownBlock = some i → w.heap.size ≤ i := by
            intro i hi
            rcases b3 with b3 | b3
            · exact f2 i (b3 ▸ hi)
            · rw [b3] at hi; injection hi with hi; have := K.size; omega
          clear b3 k3 o2 hb hc f2 K
          go_wp2
          go_roundw
          case rel => exact ⟨j + 1, A3, c3, by omega, by go_num, by rw [HS.out], by rw [HS.out, HF.out, u8s, List.map_append]; exact o3, K3, by rw [HS.out]; exact f3⟩
          case measure => simp [intOf]; omega
        · obtain rfl : j = ps.length := by omega
          rw [List.take_length] at o2 f2 ⊢
          rw [hNe] at f2 ⊢
          go_wp2
          go_ret
          exact ⟨A, c, by rw [hNe]; rfl, by rw [hNe]; rw [hNe] at o2; exact o2, K, by rw [hNe]; exact f2⟩
end Go.Proofs.Ytkokgbmeienokaa
