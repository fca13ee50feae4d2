/- CodeReads, as its row wants it. -/
import Derived.Test.YtnlkkcpcjeeplaaCw
import Derived.Test.YtnlkkcpcjeeplaaOwn
set_option linter.unusedVariables false
set_option linter.unusedSimpArgs false
namespace Go.Proofs.Ytnlkkcpcjeeplaa
open Go.RowKit

theorem ints_cell {k : IntKind} {w : World} {a : Option Addr} {len cap : Nat} {zs : List Int} (hz : IsInts k w a len cap zs) : ∀ j : Nat, j < len → ∃ b off, a = some ⟨b, off, none⟩ ∧ b < w.heap.size ∧ w.cell? ⟨b, off + j, none⟩ = some (.int k (zs.getD j 0)) := by
  intro j hj
  rcases hz with ⟨_, h, _⟩ | ⟨⟨b, off, p⟩, e, h1, h2, h3, h4, _⟩
  · omega
  · have t0 := h4 0 (by omega)
    have t1 := h4 j (by omega)
    have hp : p = none := by
      cases p with
      | none => rfl
      | some p =>
        exfalso
        rw [Addr.add, if_pos rfl] at t0
        unfold World.cell? at t0
        split at t0 <;> simp at t0
    subst hp
    have t2 : w.cell? ⟨b, off + j, none⟩ = some (.int k (zs.getD j 0)) := by
      rw [← t1]
      unfold Addr.add
      by_cases hj0 : j = 0
      · subst hj0; rfl
      · rw [if_neg hj0]
    exact ⟨b, off, e, World.block_lt_of_cell? w ⟨b, _, none⟩ t2, t2⟩

theorem br_ints {w : World} {a : Option Addr} {len cap : Nat} {zs : List Int} (hz : IsInts .u8 w a len cap zs) : ∃ bs : List Int, bs.length = len ∧ len ≤ cap ∧ Bz w a cap bs := by
  have hc := ints_cell hz
  rcases hz with ⟨rfl, rfl, rfl, rfl⟩ | ⟨x, rfl, h1, h2, h3, h4, h5⟩
  · exact ⟨[], rfl, Nat.le_refl _, .inl ⟨.inl ⟨rfl, rfl, rfl⟩, by simp⟩⟩
  · have hr : ∀ c ∈ zs.take len, 0 ≤ c ∧ c ≤ 255 := by
      intro c hm
      have := h5 c (List.mem_of_mem_take hm)
      have := bounds_u8 this
      omega
    have hlen : (zs.take len).length = len := by rw [List.length_take]; omega
    cases len with
    | zero => exact ⟨[], rfl, h1, .inr ⟨rfl, _, rfl⟩⟩
    | succ n =>
      obtain ⟨b, off, e, hb, _⟩ := hc 0 (by omega)
      refine ⟨zs.take (n + 1), hlen, h1, .inl ⟨.inr ⟨b, off, e, ?_, hb⟩, hr⟩⟩
      intro j u hj
      have hjl := (List.getElem?_eq_some_iff.1 hj).1
      rw [List.length_map, hlen] at hjl
      obtain ⟨b', off', e', _, hcell⟩ := hc j hjl
      rw [e] at e'
      injection e' with e'
      injection e' with e1 e2
      subst e1
      subst e2
      rw [hcell, ← hj, List.getElem?_map, List.getElem?_take_of_lt hjl, List.getElem?_eq_getElem (by omega)]
      simp [List.getD, List.getElem?_eq_getElem (show j < zs.length by omega)]

theorem codeReads_w (a0 : Option Addr) (len0 cap0 : Nat) (zs0 : List Int) (a1 : Option Addr) (len1 cap1 : Nat) (zs1 : List Int) (a2 : Option Addr) (len2 cap2 : Nat) (V : Nat → ByteArray) (a3 : Option Addr) (len3 cap3 : Nat) (zs3 : List Int) (raw : Bool) (w : World)
    (h0 : IsInts .u8 w a0 len0 cap0 zs0) (l0 : len0 * 1 ≤ 140737488351232) (h1 : IsInts .i64 w a1 len1 cap1 zs1) (l1 : len1 * 8 ≤ 140737488351232) (h2 : Sl w a2 len2 cap2 1 (fun i _ => .string (V i))) (h3 : IsInts .i64 w a3 len3 cap3 zs3) (l3 : len3 * 8 ≤ 140737488351232) :
    Calls Try.prog 4 #[.slice a0 len0 cap0, .slice a1 len1 cap1, .slice a2 len2 cap2, .slice a3 len3 cap3, .bool raw] w fun e' w' => e' = .returned (.bool true) ∧ Below w.heap.size w w' := by
  obtain ⟨bs, rfl, hc, hb⟩ := br_ints h0
  refine (reads_c a0 cap0 bs a1 len1 cap1 a2 len2 cap2 a3 len3 cap3 raw w hb (by omega) hc (fun j hj => ?_) (by omega) ?_ (by have := h2.1; have := h2.2.1; omega) (fun j hj => ?_) (by omega)).mono fun _ _ h => ⟨h.1, h.2.below0⟩
  · obtain ⟨b, off, e, hb, hcell⟩ := ints_cell h1 j hj
    exact ⟨b, off, _, e, hb, hcell⟩
  · intro j hj
    rcases h2.2.2 with h | ⟨b, off, rfl, h⟩
    · omega
    · have := h j hj 0 (by omega)
      rw [Nat.mul_one, Nat.add_zero] at this
      exact ⟨b, off, _, rfl, World.block_lt_of_cell? w ⟨b, _, none⟩ this, this⟩
  · obtain ⟨b, off, e, hb, hcell⟩ := ints_cell h3 j hj
    exact ⟨b, off, _, e, hb, hcell⟩
end Go.Proofs.Ytnlkkcpcjeeplaa
