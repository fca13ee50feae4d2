/- RecordForms: the walk. -/
import Derived.Test.YtkokgbmeienokaaRi
set_option linter.unusedVariables false
set_option linter.unusedSimpArgs false
namespace Go.Proofs.Ytkokgbmeienokaa
open Go.RowKit

theorem within22_c (v n : Int) (hn : 1 ≤ n) (h1 : n ≤ 9223372036854775807) (w : World) :
    Calls Try.prog 22 #[.int .i64 v, .int .i64 n] w fun e w' => e = .returned (.int .i64 (v % n)) ∧ w = w' := by
  obtain ⟨t1, t2, t3, t4, t5, t6⟩ := tmod_facts v n hn
  have c0 : (n == 0) = false := by rw [beq_eq_false_iff_ne]; omega
  by_cases h : v.tmod n < 0
  · have e := t1 h
    have HE := Lib.hid e
    clear e t1 t2
    go_enter Try.func22, Try.ntmps22
    go_wp2
    go_ret
    exact ⟨ret_int (by rw [HE.out]), rfl⟩
  · have e := t2 (by omega)
    have HE := Lib.hid e
    clear e t1 t2
    go_enter Try.func22, Try.ntmps22
    go_wp2
    go_ret
    exact ⟨ret_int (by rw [HE.out]), rfl⟩
theorem within22_x (v n : Int) (hn : 1 ≤ n) (h1 : n ≤ 9223372036854775807) (w : World) :
    Calls Try.prog 22 #[.int .i64 v, .int .i64 n] w fun e w' => ∃ r : Nat, (r : Int) < n ∧ e = .returned (.int .i64 (r : Int)) ∧ w = w' :=
  (within22_c v n hn h1 w).mono fun _ _ h => ⟨(v % n).toNat, by have := Int.emod_lt_of_pos v (show 0 < n by omega); have := Int.emod_nonneg v (show n ≠ 0 by omega); omega, by rw [h.1, Int.toNat_of_nonneg (Int.emod_nonneg v (by omega))], h.2⟩

/-- A slice of rows of bytes that came in. -/
def Ar (w : World) (a : Option Addr) (len : Nat) : Prop := ∀ j : Nat, j < len → ∃ b off A c bs, a = some ⟨b, off, none⟩ ∧ b < w.heap.size ∧ w.cell? ⟨b, off + j, none⟩ = some (.slice A bs.length c) ∧ Bz w A c bs ∧ bs.length ≤ c ∧ bs.length ≤ 9223372036854775807

structure Fm (w wr : World) (vb vw ve : Value) (xs : List (List Int)) : Prop where
  rb : wr.ownsRow 0 5 1 vb (fl xs).length (u8s (fl xs))
  rw_ : ∃ vs, RowsAt wr vw xs vs ∧ Av vs xs (fun i => vb.ownBlock = some i ∨ ve.ownBlock = some i)
  re : wr.ownsRow 0 3 1 ve xs.length ((en xs).map (.int .i64 ·))
  len : ∀ x ∈ xs, x.length ≤ 200
  byt : ∀ x ∈ xs, ∀ c ∈ x, 0 ≤ c ∧ c ≤ 255
  fb : ∀ i, vb.ownBlock = some i → w.heap.size ≤ i
  fw : ∀ i, vw.ownBlock = some i → w.heap.size ≤ i
  fe : ∀ i, ve.ownBlock = some i → w.heap.size ≤ i
  k : Kp0 w wr

theorem info67 : (Try.prog.info? 67).map (fun i => i.size) = some 1 := by kernel_rfl
theorem info3' : (Try.prog.info? 3).map (fun i => (i.zero, i.size, i.bytes)) = some (some (.int .i64 0), 1, 8) := by kernel_rfl

theorem own_apart {w : World} {v v' : Value} {n n' e e' s s' : Nat} {xs xs' : List Value} (h : w.ownsRow 0 e s v n xs) (h' : w.ownsRow 0 e' s' v' n' xs') (he : e ≠ e') : ∀ i, v.ownBlock = some i → v'.ownBlock ≠ some i := by
  intro i hi hi'
  obtain ⟨_, ⟨rfl, _⟩ | ⟨q, cap, cur, rfl, _, h3, _⟩⟩ := h
  · cases hi
  · obtain ⟨_, ⟨rfl, _⟩ | ⟨q', cap', cur', rfl, _, h3', _⟩⟩ := h'
    · cases hi'
    · simp [Value.ownBlock] at hi hi'
      subst hi; subst hi'
      rw [h3] at h3'
      injection h3' with h3'
      injection h3' with _ h _
      exact he h

/-- One record more. w1: cut; w2: packed; w3: joined to the bytes; w5: the row; w7: its end. -/
theorem Fm.next {w wr w1 w2 w3 w5 w7 : World} {vb vw ve vb3 vw5 ve7 : Value} {xs : List (List Int)} {x : List Int} {A : Option Addr} {c : Nat} {vs : List Value}
    (F : Fm w wr vb vw ve xs) (hx : x.length ≤ 200) (hbx : ∀ c ∈ x, 0 ≤ c ∧ c ≤ 255) (R : RowsAt wr vw xs vs) (V : Av vs xs (fun i => vb.ownBlock = some i ∨ ve.ownBlock = some i))
    (o1 : w1.ownsRow 0 5 1 (.slice A x.length c) x.length (u8s x)) (K1 : Kp0 wr w1) (f1 : ∀ i, (Value.slice A x.length c).ownBlock = some i → wr.heap.size ≤ i) (K2 : Kp0 w1 w2)
    (o3 : w3.ownsRow 0 5 1 vb3 ((fl xs).length + (pk x).length) (u8s (fl xs) ++ u8s (pk x))) (K3 : Kp (fun i => vb.ownBlock = some i) w2 w3) (b3 : vb3.ownBlock = vb.ownBlock ∨ vb3.ownBlock = some w2.heap.size)
    (o5 : w5.ownsRow 0 22 1 vw5 (xs.length + 1) (vs ++ [.slice A x.length c])) {w4 : World} (K4 : Kp0 w3 w4) (K5 : Kp (fun i => vw.ownBlock = some i) w4 w5) (b5 : vw5.ownBlock = vw.ownBlock ∨ vw5.ownBlock = some w4.heap.size)
    {w6 : World} (K6 : Kp0 w5 w6) (o7 : w7.ownsRow 0 3 1 ve7 (xs.length + 1) ((en xs).map (.int .i64 ·) ++ [.int .i64 ((fl xs).length + (pk x).length : Nat)])) (K7 : Kp (fun i => ve.ownBlock = some i) w6 w7) (b7 : ve7.ownBlock = ve.ownBlock ∨ ve7.ownBlock = some w6.heap.size) :
    Fm w w7 vb3 vw5 ve7 (xs ++ [x]) := by
  have z0 := F.k.size
  have z1 := K1.size
  have z2 := K2.size
  have z3 := K3.size
  have z4 := K4.size
  have z5 := K5.size
  have z6 := K6.size
  have ltb := F.rb.lt
  have ltw := R.1.lt
  have lte := F.re.lt
  have bw := own_apart F.rb R.1 (by decide)
  have be := own_apart F.rb F.re (by decide)
  have we := own_apart R.1 F.re (by decide)
  obtain ⟨oA, oc1, oc2⟩ : (∀ b, A = some b → (Value.slice A x.length c).ownBlock = some b.block) ∧ x.length ≤ c ∧ c ≤ 9223372036854775807 := by
    rcases own_shape o1 with ⟨e, h0, _⟩ | ⟨r, cp, e, h1, h2, _⟩ <;> injection e with e1 e2 e3 <;> subst e1 <;> exact ⟨fun b hb => by first | (cases hb; done) | (injection hb with hb; subst hb; simp [Value.ownBlock]), by omega, by omega⟩
  have ltA := o1.lt
  have K23 : Kp (fun i => vb.ownBlock = some i) w1 w3 := (K2.mono (S' := fun i => vb.ownBlock = some i) (fun _ _ x => x.elim)).trans K3 (fun _ _ h => h)
  have K13 : Kp (fun i => vb.ownBlock = some i) wr w3 := (K1.mono (S' := fun i => vb.ownBlock = some i) (fun _ _ x => x.elim)).trans K23 (fun _ _ h => h)
  have oA3 := own_kp o1 K23 (fun i hi hb => by have := f1 i hi; have := (ltb i hb).2; omega)
  have R4 : RowsAt w4 vw xs vs := (R.kp K13 (fun i hi hb => bw i hb hi) (V.more R (fun i hi => .inl (.inl hi)))).kp0 K4
  have R5 := R4.snoc ((bz_own oA3 rfl hbx).kp0 K4) oc1 oc2 (fun b _ hA hv => by have h1 := f1 b.block (oA b hA); have := (ltw _ hv).2; omega) rfl o5 K5 b5
  have V4 : Av vs xs (fun i => vb3.ownBlock = some i ∨ ve7.ownBlock = some i) := V.more R (fun i hi => by
    rcases hi with hi | hi
    · rcases b3 with b3 | b3
      · exact .inl (.inl (b3 ▸ hi))
      · rw [b3] at hi; injection hi with hi; exact .inr (by omega)
    · rcases b7 with b7 | b7
      · exact .inl (.inr (b7 ▸ hi))
      · rw [b7] at hi; injection hi with hi; exact .inr (by omega))
  have V5 : Av (vs ++ [.slice A x.length c]) (xs ++ [x]) (fun i => vb3.ownBlock = some i ∨ ve7.ownBlock = some i) := V4.snoc R.2.1 (fun _ b hA hb => by
    have h1 := f1 b.block (oA b hA)
    have h2 := (ltA b.block (oA b hA)).2
    rcases hb with hb | hb
    · rcases b3 with b3 | b3
      · rw [b3] at hb; have := (ltb _ hb).2; omega
      · rw [b3] at hb; injection hb with hb; omega
    · rcases b7 with b7 | b7
      · rw [b7] at hb; have := (lte _ hb).2; omega
      · rw [b7] at hb; injection hb with hb; omega)
  have K67 : Kp (fun i => ve.ownBlock = some i) w5 w7 := (K6.mono (S' := fun i => ve.ownBlock = some i) (fun _ _ x => x.elim)).trans K7 (fun _ _ h => h)
  have K45 : Kp (fun i => vw.ownBlock = some i) w3 w5 := (K4.mono (S' := fun i => vw.ownBlock = some i) (fun _ _ x => x.elim)).trans K5 (fun _ _ h => h)
  have hb3 : ∀ i, vb3.ownBlock = some i → vb.ownBlock = some i ∨ wr.heap.size ≤ i := fun i hi => by
    rcases b3 with b3 | b3
    · exact .inl (b3 ▸ hi)
    · rw [b3] at hi; injection hi with hi; exact .inr (by omega)
  have hw5 : ∀ i, vw5.ownBlock = some i → vw.ownBlock = some i ∨ wr.heap.size ≤ i := fun i hi => by
    rcases b5 with b5 | b5
    · exact .inl (b5 ▸ hi)
    · rw [b5] at hi; injection hi with hi; exact .inr (by omega)
  have he7 : ∀ i, ve7.ownBlock = some i → ve.ownBlock = some i ∨ wr.heap.size ≤ i := fun i hi => by
    rcases b7 with b7 | b7
    · exact .inl (b7 ▸ hi)
    · rw [b7] at hi; injection hi with hi; exact .inr (by omega)
  have hxl : ∀ y ∈ xs ++ [x], y.length ≤ 200 := fun y hy => by
    rcases List.mem_append.1 hy with h | h
    · exact F.len y h
    · rw [List.mem_singleton.1 h]; exact hx
  refine ⟨?_, ⟨_, R5.kp K67 (fun i hi hb => ?_) ?_, V5⟩, ?_, hxl, fun y hy => ?_, fun i hi => ?_, fun i hi => ?_, fun i hi => ?_, ?_⟩
  · rw [fl_snoc, List.length_append, u8s, List.map_append]
    refine own_kp (own_kp o3 K45 (fun i hi hb => ?_)) K67 (fun i hi hb => ?_)
    · rcases hb3 i hi with h | h
      · exact bw i h hb
      · have := (ltw _ hb).2; omega
    · rcases hb3 i hi with h | h
      · exact be i h hb
      · have := (lte _ hb).2; omega
  · rcases hw5 i hi with h | h
    · exact we i h hb
    · have := (lte _ hb).2; omega
  · exact (V.more R (Y := fun i => ve.ownBlock = some i) (fun i hi => .inl (.inr hi))).snoc R.2.1 (fun _ b hA hb => by
      have h1 := f1 b.block (oA b hA)
      have := (lte _ hb).2; omega)
  · rw [en_snoc, List.map_append, List.length_append, List.length_singleton, fl_snoc, List.length_append]
    exact o7
  · rcases List.mem_append.1 hy with h | h
    · exact F.byt y h
    · rw [List.mem_singleton.1 h]; exact hbx
  · rcases hb3 i hi with h | h
    · exact F.fb i h
    · omega
  · rcases hw5 i hi with h | h
    · exact F.fw i h
    · omega
  · rcases he7 i hi with h | h
    · exact F.fe i h
    · omega
  · refine (((F.k.then0 K1).trans K23 (fun i hi h => ?_)).trans K45 (fun i hi h => ?_)).trans K67 (fun i hi h => ?_)
    · have := F.fb i h; omega
    · have := F.fw i h; omega
    · have := F.fe i h; omega
end Go.Proofs.Ytkokgbmeienokaa
