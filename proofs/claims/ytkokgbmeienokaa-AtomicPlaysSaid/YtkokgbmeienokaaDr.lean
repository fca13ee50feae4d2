/- Package disk: what a crash leaves; the loop's relation. -/
import Derived.Test.YtkokgbmeienokaaDq
set_option linter.unusedVariables false
set_option linter.unusedSimpArgs false
namespace Go.Proofs.Ytkokgbmeienokaa
open Go.RowKit

theorem list_delr {w w' : World} {ops : Array Oper} {rest : List Oper} {o : Oper} {a : Act} {Q : Exit → Act → World → Prop} (hgd : o.guard = none) (m x : Operand)
    (ho : o.op = .call { callee := .builtin .delete, args := #[m, x], argTypes := #[84, 9] }) {b : Nat} {p : ByteArray} (hm : a.eval m = .map (some b)) (hx : a.eval x = .string p)
    (hrun : (Builtin.delete_ #[84, 9] o.type #[.map (some b), .string p]).run Try.prog w = .ok (.tuple #[]) w') (hK : wpList Try.prog ops Q rest (a.put o.dst (.tuple #[])) w') :
    wpList Try.prog ops Q (o :: rest) a w := by
  refine wpList_plain hgd fun K h => ?_
  unfold Oper.wp execOp
  simp only [ho, resolve, invoke, builtin, Sem.run_bind, Sem.run_pure, Result.andThen_ok, List.map_toArray, List.map_cons, List.map_nil, hm, hx, hrun]
  exact h _ _ hK

theorem list_delm {w : World} {ops : Array Oper} {rest : List Oper} {o : Oper} {a : Act} {Q : Exit → Act → World → Prop} (hgd : o.guard = none) (m x : Operand)
    (ho : o.op = .call { callee := .builtin .delete, args := #[m, x], argTypes := #[84, 9] }) {b r n cnt : Nat} {F : ByteArray → Option Value} {left : ByteArray → Bool} {p : ByteArray} (hm : a.eval m = .map (some b)) (hx : a.eval x = .string p)
    (h : MapR w b r n F left cnt) (hp : p.size ≤ 100)
    (hK : ∀ w' cnt', MapR w' b r n (pt F p none) (pt left p false) cnt' → cnt' ≤ cnt → Kp (· = b) w w' → wpList Try.prog ops Q rest (a.put o.dst (.tuple #[])) w') :
    wpList Try.prog ops Q (o :: rest) a w := by
  obtain ⟨w', cnt', hrun, r1, r2, r3⟩ := h.del hp o.type
  exact list_delr hgd m x ho hm hx hrun (hK w' cnt' r1 r2 r3)

def kept (k : Nat) (f : Fi) : Nat := f.sy + min k (f.b.length - f.sy)
def crF (k : Nat) (f : Fi) : Option Fi := if kept k f = 0 ∧ f.firm = false then none else some ⟨f.b.take (kept k f), kept k f, true⟩
def Dk.crash (d : Dk) (k : Nat) : Dk :=
  { F := fun p => (d.F p).bind (crF k), ks := d.ks.filter (fun p => ((d.F p).bind (crF k)).isSome), quota := d.quota, dead := false, lit := false, fuse := 0 }
theorem kept_le {k : Nat} {f : Fi} (h : f.sy ≤ f.b.length) : kept k f ≤ f.b.length := by unfold kept; omega
theorem crF_some {k : Nat} {f f' : Fi} (h : crF k f = some f') : f' = ⟨f.b.take (kept k f), kept k f, true⟩ := by
  unfold crF at h
  split at h
  · cases h
  · exact (Option.some.inj h).symm
theorem crash_used (d : Dk) (k : Nat) : (d.crash k).used ≤ d.used := by
  unfold Dk.used
  show ((d.ks.filter _).map (d.crash k).len).sum ≤ _
  have hl : ∀ p, (d.crash k).len p ≤ d.len p := by
    intro p
    show (match (d.F p).bind (crF k) with | some f => f.b.length | none => 0) ≤ (match d.F p with | some f => f.b.length | none => 0)
    cases d.F p with
    | none => simp
    | some f =>
      show (match crF k f with | some f => f.b.length | none => 0) ≤ f.b.length
      cases hc : crF k f with
      | none => simp
      | some f' => rw [crF_some hc]; simp; omega
  have : ∀ (l : List ByteArray) (q : ByteArray → Bool), ((l.filter q).map (d.crash k).len).sum ≤ (l.map d.len).sum := by
    intro l q
    induction l with
    | nil => simp
    | cons x l ih =>
      simp only [List.filter_cons]
      split
      · simp only [List.map_cons, List.sum_cons]; have := hl x; omega
      · simp only [List.map_cons, List.sum_cons]; omega
  exact this _ _

/-- What the map gives at a path, read as a file (or none). -/
def Fits (w : World) (O : Nat → Prop) (v : Option Value) (f : Option Fi) : Prop := (f = none → v = none) ∧ ∀ f', f = some f' → ∃ u, v = some u ∧ FileV w O u f'
theorem Fits.mono {w w' : World} {O O' : Nat → Prop} {S : Nat → Prop} {v : Option Value} {f : Option Fi} (h : Fits w O v f) (k : Kp S w w') (hn : ∀ i, S i → ∀ j x, w.cell? ⟨i, j, none⟩ ≠ some (.int .u8 x)) (hO : ∀ i, O i → O' i) : Fits w' O' v f :=
  ⟨h.1, fun f' e => by obtain ⟨u, e1, e2⟩ := h.2 f' e; exact ⟨u, e1, (e2.kp' k hn).mono hO⟩⟩
theorem MapR.cells_r {w : World} {b r n cnt : Nat} {F : ByteArray → Option Value} {left : ByteArray → Bool} (h : MapR w b r n F left cnt) : ∀ i, i = r → ∀ j x, w.cell? ⟨i, j, none⟩ ≠ some (.int .u8 x) := by
  rintro i rfl j x hc
  obtain ⟨D, lf, ⟨es, clock, since, seen, c0, hb, _, _, _, hr, _⟩, _⟩ := h
  unfold World.cell? at hc
  simp [hr] at hc
theorem MapR.ltr {w : World} {b r n cnt : Nat} {F : ByteArray → Option Value} {left : ByteArray → Bool} (h : MapR w b r n F left cnt) : r < w.heap.size := by
  obtain ⟨D, lf, h, _⟩ := h
  exact h.lt

structure CrI (w wr : World) (g bm r n : Nat) (O O' : Nat → Prop) (V : ByteArray → Option Value) (d : Dk) (k : Nat) (left : ByteArray → Bool) (cnt : Nat) : Prop where
  cell : Blk wr g #[.map (some bm), .int .i64 (d.quota : Int), .bool d.dead, .bool d.lit, .int .i64 (d.fuse : Int)] 86
  mp : MapR wr bm r n V left cnt
  fits : ∀ p, p.size ≤ 100 → Fits wr O' (V p) (if left p = true then d.F p else (d.F p).bind (crF k))
  sub : ∀ i, O i → O' i
  new : ∀ i, O' i → O i ∨ w.heap.size ≤ i
  lt : ∀ i, O' i → i < wr.heap.size
  kp : Kp O w wr

theorem CrI.start {w w1 : World} {g bm n cnt : Nat} {O : Nat → Prop} {V : ByteArray → Option Value} {d : Dk} {k : Nat} (h : DkIn w g bm n O V d) (R : MapR w1 bm w.heap.size n V (fun p => (V p).isSome) cnt) (K : Kp0 w w1) :
    CrI w w1 g bm w.heap.size n O O V d k (fun p => (V p).isSome) cnt := by
  refine ⟨h.cell.kp0 K, R, fun p hp => ?_, fun i hi => hi, fun i hi => .inl hi, fun i hi => Nat.lt_of_lt_of_le (h.lt i hi) K.size, K.mono (fun _ _ x => x.elim)⟩
  cases hF : d.F p with
  | none => rw [h.no p hF hp]; exact ⟨fun _ => rfl, fun f' e => by simp at e⟩
  | some f =>
    obtain ⟨u, e1, e2⟩ := h.yes p f hF
    rw [e1]
    exact ⟨fun e => by simp at e, fun f' e => by simp at e; subst e; exact ⟨u, rfl, e2.kp0 K⟩⟩

theorem CrI.put {w wr w2 w5 w6 : World} {g bm r n cnt cnt2 : Nat} {O O' O2 : Nat → Prop} {V : ByteArray → Option Value} {d : Dk} {k : Nat} {left : ByteArray → Bool} {p : ByteArray} {v : Value} {f : Fi}
    (h : CrI w wr g bm r n O O' V d k left cnt) (hr : w.heap.size ≤ r) (hg : g < w.heap.size) (hbO : O bm) (hk : Kp (· = r) wr w2) (k5 : Kp0 w2 w5) (m5 : MapR w5 bm r n V (pt left p false) cnt2)
    (R6 : MapR w6 bm r n (pt V p (some v)) (pt left p false) cnt2) (k6 : Kp (· = bm) w5 w6) (hf : (d.F p).bind (crF k) = some f) (hv : FileV w6 O2 v f) (h2 : ∀ i, O' i → O2 i) (h3 : ∀ i, O2 i → O' i ∨ w.heap.size ≤ i) (h4 : ∀ i, O2 i → i < w6.heap.size) :
    CrI w w6 g bm r n O O2 (pt V p (some v)) d k (pt left p false) cnt2 := by
  have hgb : g ≠ bm := fun e => h.mp.owns.ne h.cell e.symm
  have c5 : Blk w5 g #[.map (some bm), .int .i64 (d.quota : Int), .bool d.dead, .bool d.lit, .int .i64 (d.fuse : Int)] 86 := (h.cell.kp hk (fun e => by omega)).kp0 k5
  refine ⟨c5.kp k6 hgb, R6, fun q hq => ?_, fun i hi => h2 i (h.sub i hi), fun i hi => ?_, h4, ((h.kp.trans hk (fun i hi e => by omega)).trans k5 (fun _ _ x => x.elim)).trans k6 (fun i _ e => by rw [e]; exact hbO)⟩
  · by_cases e : q = p
    · subst e
      rw [pt_same, pt_same, if_neg (by simp), hf]
      exact ⟨fun e => (by cases e), fun f' e => (by injection e with e; subst e; exact ⟨v, rfl, hv⟩)⟩
    · rw [pt_other _ _ e, pt_other _ _ e]
      exact (((h.fits q hq).mono hk h.mp.cells_r (fun _ x => x)).mono k5 (fun _ x => x.elim) (fun _ x => x)).mono k6 m5.owns.cells h2
  · rcases h3 i hi with h5 | h5
    · exact h.new i h5
    · exact .inr h5

theorem CrI.del {w wr w2 w5 w6 : World} {g bm r n cnt cnt2 cnt3 : Nat} {O O' : Nat → Prop} {V : ByteArray → Option Value} {d : Dk} {k : Nat} {left : ByteArray → Bool} {p : ByteArray}
    (h : CrI w wr g bm r n O O' V d k left cnt) (hr : w.heap.size ≤ r) (hg : g < w.heap.size) (hbO : O bm) (hk : Kp (· = r) wr w2) (k5 : Kp0 w2 w5) (m5 : MapR w5 bm r n V (pt left p false) cnt2)
    (R6 : MapR w6 bm r n (pt V p none) (pt (pt left p false) p false) cnt3) (k6 : Kp (· = bm) w5 w6) (hf : (d.F p).bind (crF k) = none) :
    CrI w w6 g bm r n O O' (pt V p none) d k (pt (pt left p false) p false) cnt3 := by
  have hgb : g ≠ bm := fun e => h.mp.owns.ne h.cell e.symm
  have c5 : Blk w5 g #[.map (some bm), .int .i64 (d.quota : Int), .bool d.dead, .bool d.lit, .int .i64 (d.fuse : Int)] 86 := (h.cell.kp hk (fun e => by omega)).kp0 k5
  refine ⟨c5.kp k6 hgb, R6, fun q hq => ?_, h.sub, h.new, fun i hi => Nat.lt_of_lt_of_le (h.lt i hi) (Nat.le_trans hk.size (Nat.le_trans k5.size k6.size)), ((h.kp.trans hk (fun i hi e => by omega)).trans k5 (fun _ _ x => x.elim)).trans k6 (fun i _ e => by rw [e]; exact hbO)⟩
  by_cases e : q = p
  · subst e
    rw [pt_same, pt_same, if_neg (by simp), hf]
    exact ⟨fun _ => rfl, fun f' e => (by cases e)⟩
  · rw [pt_other _ _ e, pt_other _ _ e, pt_other _ _ e]
    exact (((h.fits q hq).mono hk h.mp.cells_r (fun _ x => x)).mono k5 (fun _ x => x.elim) (fun _ x => x)).mono k6 m5.owns.cells (fun _ x => x)

theorem CrI.done {w wr w' : World} {g bm r n cnt : Nat} {O O' : Nat → Prop} {V V0 : ByteArray → Option Value} {d : Dk} {k : Nat} {left : ByteArray → Bool} (h : CrI w wr g bm r n O O' V d k left cnt) (h0 : DkIn w g bm n O V0 d)
    (hl : ∀ p, p.size ≤ 100 → left p = false) (K : Kp (· = g) wr w') (hc : Blk w' g #[.map (some bm), .int .i64 (d.quota : Int), .bool false, .bool false, .int .i64 0] 86) :
    DkAt w' g n O' (d.crash k) ∧ (∀ i, O' i → O i ∨ w.heap.size ≤ i) ∧ Kp O w w' := by
  have hgc : ∀ i, i = g → ∀ j x, wr.cell? ⟨i, j, none⟩ ≠ some (.int .u8 x) := by
    rintro i rfl j x hc
    rw [h.cell.cell j] at hc
    have : j < 5 := by
      rcases Nat.lt_or_ge j 5 with h | h
      · exact h
      · rw [Array.getElem?_eq_none (by simpa using h)] at hc; cases hc
    obtain rfl | rfl | rfl | rfl | rfl : j = 0 ∨ j = 1 ∨ j = 2 ∨ j = 3 ∨ j = 4 := by omega
    all_goals simp at hc
  have hfit : ∀ p, p.size ≤ 100 → Fits w' O' (V p) ((d.F p).bind (crF k)) := fun p hp => by
    have := h.fits p hp
    rw [if_neg (by rw [hl p hp]; simp)] at this
    exact this.mono K hgc (fun _ x => x)
  have hbs : ∀ p f, (d.F p).bind (crF k) = some f → (d.F p).isSome = true := fun p f e => by
    cases hF : d.F p with
    | none => rw [hF] at e; cases e
    | some f => rfl
  have hbm : bm ≠ g := h.mp.owns.ne h.cell
  refine ⟨⟨bm, V, hc, h.mp.owns.kp K hbm, fun p e hp => (hfit p hp).1 e, fun p f e => (hfit p (h0.sz p (hbs p f e))).2 f e, h0.nd.filter _, fun p => ?_, fun p e => ?_, Nat.le_trans (crash_used d k) h0.us, h0.qu, (by simp [Dk.crash]), h.sub g h0.og, h.sub bm h0.om, fun i hi => Nat.lt_of_lt_of_le (h.lt i hi) K.size⟩, h.new, h.kp.trans K (fun i _ e => by rw [e]; exact h0.og)⟩
  · show p ∈ d.ks.filter _ ↔ _
    rw [List.mem_filter]
    refine ⟨fun x => x.2, fun x => ⟨?_, x⟩⟩
    obtain ⟨f, e⟩ := Option.isSome_iff_exists.1 x
    exact (h0.ks p).2 (hbs p f e)
  · obtain ⟨f, e⟩ := Option.isSome_iff_exists.1 e
    exact h0.sz p (hbs p f e)
end Go.Proofs.Ytkokgbmeienokaa
