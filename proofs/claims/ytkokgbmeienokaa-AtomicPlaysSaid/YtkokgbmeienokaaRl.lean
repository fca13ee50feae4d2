/- A slice of rows of bytes that came in; RecordForms as its row wants it. -/
import Derived.Test.YtkokgbmeienokaaRk
import Derived.Test.YtkokgbmeienokaaOwn
import Derived.Deep.Matrix
set_option linter.unusedVariables false
set_option linter.unusedSimpArgs false
namespace Go.Proofs.Ytkokgbmeienokaa
open Go.RowKit
open Go.ChangeShapes Go.WideShapes Go.ChangeAt

theorem ints_cell {k : IntKind} {w : World} {a : Option Addr} {len cap : Nat} {zs : List Int} (hz : IsInts k w a len cap zs) : ∀ j : Nat, j < len → ∃ b off, a = some ⟨b, off, none⟩ ∧ b < w.heap.size ∧ w.cell? ⟨b, off + j, none⟩ = some (.int k (zs.getD j 0)) := by
  intro j hj
  rcases hz with ⟨_, h, _⟩ | ⟨⟨b, off, p⟩, e, h1, h2, h3, h4, _⟩
  · omega
  · have t0 := h4 0 (by omega)
    have t1 := h4 j (by omega)
    have hp : p = none := by
      cases p with
      | none => rfl
      | some p =>
        exfalso
        rw [Addr.add, if_pos rfl] at t0
        unfold World.cell? at t0
        split at t0 <;> simp at t0
    subst hp
    have t2 : w.cell? ⟨b, off + j, none⟩ = some (.int k (zs.getD j 0)) := by
      rw [← t1]
      unfold Addr.add
      by_cases hj0 : j = 0
      · subst hj0; rfl
      · rw [if_neg hj0]
    exact ⟨b, off, e, World.block_lt_of_cell? w ⟨b, _, none⟩ t2, t2⟩

theorem br_ints {w : World} {a : Option Addr} {len cap : Nat} {zs : List Int} (hz : IsInts .u8 w a len cap zs) : ∃ bs : List Int, bs.length = len ∧ len ≤ cap ∧ Bz w a cap bs := by
  have hc := ints_cell hz
  rcases hz with ⟨rfl, rfl, rfl, rfl⟩ | ⟨x, rfl, h1, h2, h3, h4, h5⟩
  · exact ⟨[], rfl, Nat.le_refl _, .inl ⟨.inl ⟨rfl, rfl, rfl⟩, by simp⟩⟩
  · have hr : ∀ c ∈ zs.take len, 0 ≤ c ∧ c ≤ 255 := by
      intro c hm
      have := h5 c (List.mem_of_mem_take hm)
      have := bounds_u8 this
      omega
    have hlen : (zs.take len).length = len := by rw [List.length_take]; omega
    cases len with
    | zero => exact ⟨[], rfl, h1, .inr ⟨rfl, _, rfl⟩⟩
    | succ n =>
      obtain ⟨b, off, e, hb, _⟩ := hc 0 (by omega)
      refine ⟨zs.take (n + 1), hlen, h1, .inl ⟨.inr ⟨b, off, e, ?_, hb⟩, hr⟩⟩
      intro j u hj
      have hjl := (List.getElem?_eq_some_iff.1 hj).1
      rw [List.length_map, hlen] at hjl
      obtain ⟨b', off', e', _, hcell⟩ := hc j hjl
      rw [e] at e'
      injection e' with e'
      injection e' with e1 e2
      subst e1
      subst e2
      rw [hcell, ← hj, List.getElem?_map, List.getElem?_take_of_lt hjl, List.getElem?_eq_getElem (by omega)]
      simp [List.getD, List.getElem?_eq_getElem (show j < zs.length by omega)]

theorem ar_of {H : Type} {enc : TypeId × Value → H} {W : World} {base : Nat} {a : Option Addr} {len cap : Nat} {d : DataW H} {ps : List MemPlace}
    (h : DataW.Trod enc Try.prog W base (fun _ => true) true 67 (.slice a len cap) d ps) : Ar W a len := by
  obtain ⟨V, ⟨_, _, hS⟩, hD⟩ := sl_of Try.underlying67 (k := 1) (by kernel_rfl) (by decide) h
  intro j hj
  rcases hS with h0 | ⟨b, off, rfl, hcell⟩
  · omega
  · obtain ⟨m, D, hm⟩ := hD j hj
    have hc := hcell j hj 0 (by decide)
    have hl : (List.range 1).map (V j) = [V j 0] := rfl
    rw [hl] at hm
    obtain ⟨A, L, C, hV⟩ : ∃ A L C, V j 0 = .slice A L C := by
      rcases open_ints Try.underlying22 Try.underlying5 (by kernel_rfl) hm with ⟨e, _⟩ | ⟨x, l, c, zs, e, _⟩
      · injection e with e _; exact ⟨_, _, _, e⟩
      · injection e with e _; exact ⟨_, _, _, e⟩
    rw [hV] at hm hc
    obtain ⟨zs, hz⟩ := isInts_of (enc := enc) (base := base) (held := true) (a := A) (len := L) (cap := C) (d := D.1) (ps := D.2) Try.underlying22 Try.underlying5 (by kernel_rfl) ⟨m, by simpa [Value.cells] using hm⟩
    obtain ⟨bs, hbl, hlc, hb⟩ := br_ints hz
    have hcap : C ≤ 9223372036854775807 := by
      rcases hz with ⟨_, _, h, _⟩ | ⟨x, _, _, h, _⟩
      · omega
      · unfold maxLen at h; omega
    subst hbl
    have hc' : W.cell? ⟨b, off + j, none⟩ = some (.slice A bs.length C) := by simpa using hc
    exact ⟨b, off, A, C, bs, rfl, World.block_lt_of_cell? W ⟨b, _, none⟩ hc', hc', hb, hlc, by omega⟩

theorem recordForms_w (a0 : Option Addr) (len0 cap0 : Nat) (v1 : Int) (w : World) (h0 : Ar w a0 len0) (l0 : len0 ≤ 9223372036854775807) (h1 : (Lit.int .i64 v1).wf = true) :
    Calls Try.prog 13 #[.slice a0 len0 cap0, .int .i64 v1] w fun e' w' => e' = .returned (.bool true) ∧ Below w.heap.size w w' :=
  (recordForms_c a0 len0 cap0 v1 w h0 l0).mono fun _ _ h => ⟨h.1, h.2.below0⟩
end Go.Proofs.Ytkokgbmeienokaa
