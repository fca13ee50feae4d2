/- Rows of bytes; records scanned. -/
import Derived.Test.YtkokgbmeienokaaRe
import Derived.Test.YtkokgbmeienokaaOwn
import Derived.ScopeJumps
import Derived.WalkMore
set_option linter.unusedVariables false
set_option linter.unusedSimpArgs false
namespace Go.Proofs.Ytkokgbmeienokaa
open Go.RowKit

theorem bz_cut {w : World} {a : Option Addr} {cap : Nat} {bs : List Int} (hr : Bz w a cap bs) (hc : bs.length ≤ cap) (lo hi : Nat) (h1 : lo ≤ hi) (h2 : hi ≤ bs.length) :
    ∃ A c, sliced a lo hi cap 1 = .slice A (hi - lo) c ∧ Bz w A c ((bs.take hi).drop lo) ∧ hi - lo ≤ c := by
  refine ⟨if cap = lo then a else a.map (·.add (lo * 1)), cap - lo, rfl, ?_, by omega⟩
  have hb : ∀ c ∈ (bs.take hi).drop lo, 0 ≤ c ∧ c ≤ 255 := fun c hc => hr.byt c (List.mem_of_mem_take (List.mem_of_mem_drop hc))
  rcases hr with ⟨⟨rfl, rfl, rfl⟩ | ⟨B, off, rfl, hV, hB⟩, _⟩ | ⟨rfl, x, rfl⟩
  · obtain rfl : hi = 0 := by simpa using h2
    obtain rfl : lo = 0 := by omega
    exact .inl ⟨.inl ⟨rfl, rfl, rfl⟩, by simp⟩
  · by_cases hcl : cap = lo
    · rw [if_pos hcl]
      exact .inr ⟨List.drop_eq_nil_of_le (by rw [List.length_take]; omega), _, rfl⟩
    · rw [if_neg hcl]
      refine .inl ⟨.inr ⟨B, off + lo, by simp [add_plain'], ?_, hB⟩, hb⟩
      rw [List.map_drop, List.map_take]
      exact (hV.take hi).drop lo
  · refine .inr ⟨by simp, ?_⟩
    by_cases hcl : cap = lo
    · exact ⟨x, by rw [if_pos hcl]⟩
    · exact ⟨_, by rw [if_neg hcl]; rfl⟩

theorem run_cut {w : World} {a : Option Addr} {cap : Nat} {bs : List Int} (hr : Bz w a cap bs) (hc : bs.length ≤ cap) (hm : cap ≤ 9223372036854775807) (lo hi : Nat) (h1 : lo ≤ hi) (h2 : hi ≤ bs.length) :
    ∃ A c, (∀ W, (Instr.sliceAt 22 (.slice a bs.length cap) (some (.int .i64 (lo : Int))) (some (.int .i64 (hi : Int))) none).run Try.prog W = .ok (.slice A (hi - lo) c) W) ∧ Bz w A c ((bs.take hi).drop lo) ∧ hi - lo ≤ c ∧ c ≤ cap := by
  obtain ⟨A, c, e, hb, hcc⟩ := bz_cut hr hc lo hi h1 h2
  have hu : Try.prog.underlying 22 = some (.slice (Try.prog.elem 22)) := by kernel_rfl
  have hs : ∀ W, (sizeOf (Try.prog.elem 22)).run Try.prog W = .ok 1 W := fun W => by kernel_rfl
  refine ⟨A, c, fun W => ?_, hb, hcc, ?_⟩
  · rw [run_sliceAt_slice _ _ _ _ _ _ hu, run_slice_lh _ _ _ _ _ hu _ _ _ _ (by omega) (by omega) (by omega), hs W]
    simp only [Result.andThen, Int.toNat_natCast, e]
  · unfold sliced at e; injection e with _ _ e3; omega
theorem run_cutlo {w : World} {a : Option Addr} {cap : Nat} {bs : List Int} (hr : Bz w a cap bs) (hc : bs.length ≤ cap) (hm : cap ≤ 9223372036854775807) (lo : Nat) (h1 : lo ≤ bs.length) :
    ∃ A c, (∀ W, (Instr.sliceAt 22 (.slice a bs.length cap) (some (.int .i64 (lo : Int))) none none).run Try.prog W = .ok (.slice A (bs.drop lo).length c) W) ∧ Bz w A c (bs.drop lo) ∧ (bs.drop lo).length ≤ c ∧ c ≤ cap := by
  obtain ⟨A, c, e, hb, hcc⟩ := bz_cut hr hc lo bs.length h1 (Nat.le_refl _)
  rw [List.take_length] at hb
  have hu : Try.prog.underlying 22 = some (.slice (Try.prog.elem 22)) := by kernel_rfl
  have hs : ∀ W, (sizeOf (Try.prog.elem 22)).run Try.prog W = .ok 1 W := fun W => by kernel_rfl
  rw [List.length_drop]
  refine ⟨A, c, fun W => ?_, hb, hcc, ?_⟩
  · rw [run_sliceAt_slice _ _ _ _ _ _ hu, run_slice_l _ _ _ _ _ hu _ _ (by omega) (by omega), hs W]
    simp only [Result.andThen, Int.toNat_natCast, e]
  · unfold sliced at e; injection e with _ _ e3; omega

/-- A row of one's own that holds these rows of bytes, each in memory apart from it. -/
def RowsAt (w : World) (v : Value) (ls : List (List Int)) (vs : List Value) : Prop :=
  w.ownsRow 0 22 1 v vs.length vs ∧ vs.length = ls.length ∧
    ∀ j (h : j < ls.length), ∃ A c, vs[j]? = some (.slice A (ls[j]).length c) ∧ Bz w A c ls[j] ∧ (ls[j]).length ≤ c ∧ c ≤ 9223372036854775807 ∧ (∀ b, ls[j] ≠ [] → A = some b → v.ownBlock ≠ some b.block)

def Rows (w : World) (v : Value) (ls : List (List Int)) : Prop := ∃ vs : List Value, RowsAt w v ls vs

theorem Rows.nil (w : World) : Rows w (.slice none 0 0) [] := ⟨[], World.ownsRow_nil _ _ _ _, rfl, fun j h => by simp at h⟩
theorem Rows.len {w : World} {v : Value} {ls : List (List Int)} (h : Rows w v ls) : ∃ A c, v = .slice A ls.length c := by
  obtain ⟨vs, h1, h2, _⟩ := h
  obtain ⟨A, c, rfl⟩ := own_sl h1
  exact ⟨A, c, by rw [h2]⟩
theorem Bz.kp {S : Nat → Prop} {w w' : World} {a : Option Addr} {cap : Nat} {bs : List Int} (h : Bz w a cap bs) (k : Kp S w w') (hn : bs ≠ [] → ∀ b, a = some b → ¬ S b.block) : Bz w' a cap bs := by
  rcases h with ⟨⟨rfl, rfl, rfl⟩ | ⟨B, off, rfl, hV, hB⟩, hb⟩ | h
  · exact .inl ⟨.inl ⟨rfl, rfl, rfl⟩, hb⟩
  · by_cases hz : bs = []
    · subst hz; exact .inr ⟨rfl, _, rfl⟩
    · exact .inl ⟨.inr ⟨B, off, rfl, hV.kp k hB (hn hz _ rfl), Nat.lt_of_lt_of_le hB k.size⟩, hb⟩
  · exact .inr h
theorem Rows.kp {S : Nat → Prop} {w w' : World} {v : Value} {ls : List (List Int)} (h : Rows w v ls) (k : Kp S w w') (hv : ∀ i, v.ownBlock = some i → ¬ S i) (hb : ∀ i, i < w.heap.size → S i → v.ownBlock = some i) : Rows w' v ls := by
  obtain ⟨vs, h1, h2, h3⟩ := h
  refine ⟨vs, own_kp h1 k hv, h2, fun j hj => ?_⟩
  obtain ⟨A, c, e, b, l1, l2, hne⟩ := h3 j hj
  refine ⟨A, c, e, ?_, l1, l2, hne⟩
  rcases b with ⟨⟨rfl, rfl, hz⟩ | ⟨B, off, rfl, hV, hB⟩, hbb⟩ | h
  · exact .inl ⟨.inl ⟨rfl, rfl, hz⟩, hbb⟩
  · by_cases hz : ls[j] = []
    · exact .inr ⟨hz, _, rfl⟩
    · exact .inl ⟨.inr ⟨B, off, rfl, hV.kp k hB (fun hs => hne _ hz rfl (hb B hB hs)), Nat.lt_of_lt_of_le hB k.size⟩, hbb⟩
  · exact .inr h
theorem Rows.kp0 {w w' : World} {v : Value} {ls : List (List Int)} (h : Rows w v ls) (k : Kp0 w w') : Rows w' v ls := h.kp k (fun _ _ x => x) (fun _ _ x => x.elim)

/-- What append leaves. -/
theorem Rows.snoc {w w1 : World} {v v1 : Value} {ls : List (List Int)} {bs : List Int} {A : Option Addr} {c n : Nat} {vs : List Value} (h : RowsAt w v ls vs) (hb : Bz w A c bs) (l1 : bs.length ≤ c) (l2 : c ≤ 9223372036854775807) (hne : ∀ b, bs ≠ [] → A = some b → v.ownBlock ≠ some b.block)
    (hn : n = ls.length) (o1 : w1.ownsRow 0 22 1 v1 (n + 1) (vs ++ [.slice A bs.length c])) (k : Kp (fun i => v.ownBlock = some i) w w1) (b1 : v1.ownBlock = v.ownBlock ∨ v1.ownBlock = some w.heap.size) : Rows w1 v1 (ls ++ [bs]) := by
  obtain ⟨h1, h2, h3⟩ := h
  obtain rfl : n = vs.length := by omega
  have hblk : ∀ (bs : List Int) (A : Option Addr) (c : Nat), Bz w A c bs → bs ≠ [] → ∀ b, A = some b → b.block < w.heap.size := by
    intro bs A c hb hz b hA
    rcases hb with ⟨⟨_, _, h⟩ | ⟨B, off, h, _, hB⟩, _⟩ | ⟨h, _⟩
    · exact absurd h hz
    · rw [h] at hA; injection hA with hA; subst hA; exact hB
    · exact absurd h hz
  have hne' : ∀ (bs : List Int) (A : Option Addr) (c : Nat), Bz w A c bs → (∀ b, bs ≠ [] → A = some b → v.ownBlock ≠ some b.block) → ∀ b, bs ≠ [] → A = some b → v1.ownBlock ≠ some b.block := by
    intro bs A c hb hn b hz hA
    rcases b1 with b1 | b1
    · rw [b1]; exact hn b hz hA
    · rw [b1]; intro h; injection h with h; have := hblk bs A c hb hz b hA; omega
  refine ⟨vs ++ [.slice A bs.length c], by simpa using o1, by simp [h2], fun j hj => ?_⟩
  by_cases hlt : j < ls.length
  · obtain ⟨A', c', e, b, m1, m2, hn⟩ := h3 j hlt
    have e2 : (ls ++ [bs])[j] = ls[j] := List.getElem_append_left hlt
    rw [e2]
    exact ⟨A', c', by rw [List.getElem?_append_left (by omega)]; exact e, b.kp k (fun hz b hA => hn b hz hA), m1, m2, hne' _ _ _ b hn⟩
  · obtain rfl : j = ls.length := by simp at hj; omega
    have e2 : (ls ++ [bs])[ls.length] = bs := by simp
    rw [e2]
    exact ⟨A, c, by rw [← h2]; simp, hb.kp k (fun hz b hA => hne b hz hA), l1, l2, hne' _ _ _ hb hne⟩
end Go.Proofs.Ytkokgbmeienokaa
