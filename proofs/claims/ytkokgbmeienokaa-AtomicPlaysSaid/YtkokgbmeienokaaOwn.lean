/- Small words of my own for the rows and walks of this seat: a slice of whole numbers that came in, and its size. -/
import Derived.WalkKit
import Derived.ProofKit
import Derived.OpenShut
import Derived.SizedLaws
import Derived.ChangeSlices
import Derived.Deep.Slices
namespace Go.Proofs.Ytkokgbmeienokaa
open Go.ChangeShapes Go.WideShapes Go.ChangeAt Go.RowKit

/-- The slice value (a, len, cap) reads as the first len numbers of zs. -/
def IsInts (k : IntKind) (w : World) (a : Option Addr) (len cap : Nat) (zs : List Int) : Prop :=
  (a = none ∧ len = 0 ∧ cap = 0 ∧ zs = []) ∨
  ∃ x, a = some x ∧ len ≤ cap ∧ cap ≤ maxLen ∧ zs.length = cap ∧ (∀ i, i < zs.length → w.cell? (x.add i) = some (.int k (zs.getD i 0))) ∧ ∀ n ∈ zs, (Lit.int k n).wf = true

theorem isInts_of {H : Type} {enc : TypeId × Value → H} {P : Program} {W : World} {base : Nat} {held : Bool} {t e : TypeId} {k : IntKind} {a : Option Addr} {len cap : Nat} {d : DataW H} {ps : List MemPlace}
    (hu : P.underlying t = some (.slice e)) (he : P.underlying e = some (.int k)) (hc : P.cellsOf e = 1) (h : DataW.Trod enc P W base (fun _ => true) held t (.slice a len cap) d ps) : ∃ zs, IsInts k W a len cap zs := by
  obtain ⟨fuel, hf⟩ := h
  rcases open_ints hu he hc hf with ⟨hcs, _⟩ | ⟨x, l, c, zs, hcs, _, hl, hm, hz, _, hcell, hwz⟩
  · simp [Value.cells] at hcs
    obtain ⟨rfl, rfl, rfl⟩ := hcs
    exact ⟨[], .inl ⟨rfl, rfl, rfl, rfl⟩⟩
  · simp [Value.cells] at hcs
    obtain ⟨rfl, rfl, rfl⟩ := hcs
    exact ⟨zs, .inr ⟨_, rfl, hl, hm, by simpa using hz, hcell, hwz⟩⟩

/-- A row's slice of whole numbers is no longer than its weight allows. -/
theorem sized_ints {H : Type} {enc : TypeId × Value → H} {P : Program} {W : World} {base : Nat} {spare : Nat → Bool} {held : Bool} {t e : TypeId} {k : IntKind} {a : Option Addr} {len cap : Nat} {d : DataW H} {ps : List MemPlace} {ts : List TypeId} {ds : List (DataW H)} {j : Nat}
    (hsz : (DataW.weightsEach P ts ds).all (· ≤ reachBytes) = true) (ht : ts[j]? = some t) (hd : ds[j]? = some d) (hu : P.underlying t = some (.slice e)) (he : P.underlying e = some (.int k)) (hc : P.cellsOf e = 1) {B : Nat} (hB : P.bytesOf e = B)
    (h : DataW.Trod enc P W base spare held t (.slice a len cap) d ps) : len * B ≤ 140737488351232 := by
  obtain ⟨fuel, hf⟩ := h
  rcases open_ints hu he hc hf with ⟨hcs, _⟩ | ⟨x, l, c, zs, hcs, _, hl, _, hz, hx, _, _⟩ <;> simp [Value.cells] at hcs <;> obtain ⟨rfl, rfl, rfl⟩ := hcs
  · omega
  · obtain ⟨rfl, _⟩ := Prod.mk.inj hx
    have z := sized_slice hsz ht hd hu
    have hlen : len ≤ zs.length := by rw [hz]; split <;> omega
    have hall : (lits (H := H) k (zs.take len)).length + (lits (H := H) k (zs.drop len)).length = zs.length := by simp [lits]; omega
    rw [hB, hall] at z
    exact Nat.le_trans (Nat.mul_le_mul_right _ hlen) z


/-- A slice value of len elements of k cells each: cell j of element i holds V i j. -/
def Sl (w : World) (a : Option Addr) (len cap k : Nat) (V : Nat → Nat → Value) : Prop :=
  len ≤ cap ∧ cap ≤ 9223372036854775807 ∧ (len = 0 ∨ ∃ b off, a = some ⟨b, off, none⟩ ∧ ∀ i, i < len → ∀ j, j < k → w.cell? ⟨b, off + (i * k + j), none⟩ = some (V i j))

theorem cell_spot {w : World} {a : Addr} {v : Value} (h : w.cell? a = some v) : a.spot = none := by
  unfold World.cell? at h
  split at h
  · cases hs : a.spot with
    | none => rfl
    | some x => simp [hs] at h
  · cases h

theorem add_plain' (b off n : Nat) : (⟨b, off, none⟩ : Addr).add n = ⟨b, off + n, none⟩ := by unfold Addr.add; split <;> simp_all

theorem mapM_get {α β : Type} {f : α → Option β} : ∀ {l : List α} {r : List β}, l.mapM f = some r → r.length = l.length ∧ ∀ i (h : i < l.length), ∃ y, f l[i] = some y ∧ r[i]? = some y
  | [], r, h => by simp at h; subst h; simp
  | x :: l, r, h => by
    simp only [List.mapM_cons, Option.bind_eq_bind, Option.bind_eq_some_iff] at h
    obtain ⟨y, hy, ys, hys, hr⟩ := h
    have hr' : y :: ys = r := by simpa using hr
    subst hr'
    obtain ⟨h1, h2⟩ := mapM_get hys
    refine ⟨by simp [h1], fun i hi => ?_⟩
    cases i with
    | zero => exact ⟨y, hy, rfl⟩
    | succ i => obtain ⟨z, a, b⟩ := h2 i (by simpa using hi); exact ⟨z, a, by simpa using b⟩

theorem sl_of {H : Type} {enc : TypeId × Value → H} {P : Program} {W : World} {base : Nat} {spare : Nat → Bool} {held : Bool} {t e k : Nat} {a : Option Addr} {len cap : Nat} {d : DataW H} {ps : List MemPlace}
    (hu : P.underlying t = some (.slice e)) (hk : P.cellsOf e = k) (h0 : 0 < k) (h : DataW.Trod enc P W base spare held t (.slice a len cap) d ps) :
    ∃ V, Sl W a len cap k V ∧ ∀ i, i < len → ∃ m D, DataW.trod enc P W base spare held m e ((List.range k).map (V i)) = some D := by
  obtain ⟨fuel, hf⟩ := h
  rcases Deep.open_slice hu hf with ⟨hcs, _⟩ | ⟨x, l, c, m, n, D, Pl, hcs, _, hl, hm, hmm, _, hel⟩
  · simp [Value.cells] at hcs
    obtain ⟨rfl, rfl, rfl⟩ := hcs
    exact ⟨fun _ _ => undef, ⟨Nat.le_refl _, by omega, .inl rfl⟩, fun i hi => by omega⟩
  · simp [Value.cells] at hcs
    obtain ⟨rfl, rfl, rfl⟩ := hcs
    have hlm : len ≤ m := by rw [hmm]; split <;> omega
    rw [hk] at hel
    by_cases hz : len = 0
    · exact ⟨fun _ _ => undef, ⟨hl, by unfold maxLen at hm; omega, .inl hz⟩, fun i hi => by omega⟩
    · have hcell : ∀ i, i < m → ∃ cs', (∀ j, j < k → W.cell? ((x.add (i * k)).add j) = cs'[j]? ∧ j < cs'.length) ∧ cs'.length = k ∧ DataW.trod enc P W base spare held n e cs' = some (D i, Pl i) := by
        intro i hi
        obtain ⟨cs', h1, h2⟩ := hel i hi
        unfold World.cells? at h1
        split at h1
        · obtain ⟨g1, g2⟩ := mapM_get h1
          simp at g1
          refine ⟨cs', fun j hj => ?_, g1, h2⟩
          obtain ⟨y, y1, y2⟩ := g2 j (by simpa using hj)
          simp at y1
          exact ⟨y1.trans y2.symm, by omega⟩
        · cases h1
      obtain ⟨b, off, rfl⟩ : ∃ b off, x = ⟨b, off, none⟩ := by
        obtain ⟨cs', h1, h2, _⟩ := hcell 0 (by omega)
        obtain ⟨h3, h4⟩ := h1 0 h0
        rw [List.getElem?_eq_getElem h4] at h3
        have h5 := cell_spot h3
        simp [Addr.add] at h5
        exact ⟨x.block, x.off, by cases x; simp_all⟩
      refine ⟨fun i j => (W.cell? ⟨b, off + (i * k + j), none⟩).getD undef, ⟨hl, by unfold maxLen at hm; omega, .inr ⟨b, off, rfl, fun i hi j hj => ?_⟩⟩, fun i hi => ?_⟩
      · obtain ⟨cs', h1, _, _⟩ := hcell i (by omega)
        obtain ⟨h3, h4⟩ := h1 j hj
        rw [add_plain', add_plain', Nat.add_assoc] at h3
        simp [h3, List.getElem?_eq_getElem h4]
      · obtain ⟨cs', h1, h2, h5⟩ := hcell i (by omega)
        refine ⟨n, (D i, Pl i), ?_⟩
        have : (List.range k).map (fun j => (W.cell? ⟨b, off + (i * k + j), none⟩).getD undef) = cs' := by
          apply List.ext_getElem
          · simp [h2]
          · intro j hj hj'
            simp at hj
            obtain ⟨h3, h4⟩ := h1 j hj
            rw [add_plain', add_plain', Nat.add_assoc] at h3
            simp [h3, List.getElem?_eq_getElem hj']
        rw [this]; exact h5

/-- The element type is a struct of k whole numbers. -/
def allInts (P : Program) (e k : Nat) : Bool :=
  match P.underlying e with
  | some (.struct fs) => fs.size == k && (List.range k).all fun j => match fs[j]? with
    | some f => f.offset == j && P.cellsOf f.type == 1 && (match P.underlying f.type with | some (.int .i64) => true | _ => false)
    | none => false
  | _ => false

theorem ints_row {H : Type} {enc : TypeId × Value → H} {P : Program} {W : World} {base : Nat} {spare : Nat → Bool} {held : Bool} {e k m : Nat} {f : Nat → Value} {D : DataW H × List MemPlace}
    (hc : allInts P e k = true) (h : DataW.trod enc P W base spare held m e ((List.range k).map f) = some D) : ∀ j, j < k → ∃ n, f j = .int .i64 n ∧ (Lit.int .i64 n).wf = true := by
  intro j hj
  unfold allInts at hc
  split at hc
  · rename_i fs hfs
    rw [Bool.and_eq_true, List.all_eq_true] at hc
    obtain ⟨c1, c2⟩ := hc
    have c3 := c2 j (by simpa using hj)
    obtain ⟨xs, n, _, _, _, hlen, hf⟩ := DataW.trod_struct hfs h
    split at c3
    · rename_i fj hfj
      simp only [Bool.and_eq_true, beq_iff_eq] at c3
      obtain ⟨⟨c4, c5⟩, c6⟩ := c3
      split at c6
      · rename_i hint
        have h1 := hf j fj hfj
        rw [c4, c5] at h1
        have h2 : (((List.range k).map f).drop j).take 1 = [f j] := by
          rw [List.drop_eq_getElem_cons (by simpa using hj)]; simp
        rw [h2] at h1
        have hx : ∃ y, xs[j]? = some y := ⟨_, List.getElem?_eq_getElem (by simp at c1; omega)⟩
        obtain ⟨y, hy⟩ := hx
        rw [hy] at h1
        obtain ⟨a, e0, _, wa⟩ := DataW.trod_int hint h1
        simp at e0
        exact ⟨a, e0, wa⟩
      · cases c6
    · cases c3
  · cases hc

/-- A slice of structs of k whole numbers: number j of element i is f i j. -/
theorem sl_ints {H : Type} {enc : TypeId × Value → H} {P : Program} {W : World} {base : Nat} {spare : Nat → Bool} {held : Bool} {t e k : Nat} {a : Option Addr} {len cap : Nat} {d : DataW H} {ps : List MemPlace}
    (hu : P.underlying t = some (.slice e)) (hk : P.cellsOf e = k) (h0 : 0 < k) (hc : allInts P e k = true) (h : DataW.Trod enc P W base spare held t (.slice a len cap) d ps) :
    ∃ f : Nat → Nat → Int, Sl W a len cap k (fun i j => .int .i64 (f i j)) ∧ ∀ i, i < len → ∀ j, j < k → (Lit.int .i64 (f i j)).wf = true := by
  classical
  obtain ⟨V, h1, h2⟩ := sl_of hu hk h0 h
  have hv : ∀ i, i < len → ∀ j, j < k → ∃ n, V i j = .int .i64 n ∧ (Lit.int .i64 n).wf = true := fun i hi => by
    obtain ⟨m, D, hD⟩ := h2 i hi
    exact ints_row hc hD
  refine ⟨fun i j => if hi : i < len then if hj : j < k then Classical.choose (hv i hi j hj) else 0 else 0, ?_, fun i hi j hj => ?_⟩
  · obtain ⟨g1, g2, g3⟩ := h1
    refine ⟨g1, g2, g3.imp id ?_⟩
    rintro ⟨b, off, ha, hcell⟩
    refine ⟨b, off, ha, fun i hi j hj => ?_⟩
    rw [hcell i hi j hj, (Classical.choose_spec (hv i hi j hj)).1]
    simp only [dif_pos hi, dif_pos hj]
  · simp only [dif_pos hi, dif_pos hj]
    exact (Classical.choose_spec (hv i hi j hj)).2

end Go.Proofs.Ytkokgbmeienokaa
