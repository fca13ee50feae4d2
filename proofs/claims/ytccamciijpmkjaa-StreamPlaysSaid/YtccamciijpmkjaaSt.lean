/- Contracts of package stream. -/
import Derived.Test.YtccamciijpmkjaaBk
import Derived.Maps.AppendAt
import Derived.Deep.RegionLaw
namespace Go.Proofs.Ytccamciijpmkjaa
open Go.RowKit

theorem own_shape {w : World} {b e size n : Nat} {v : Value} {xs : List Value} (h : w.ownsRow b e size v n xs) :
    (v = .slice none 0 0 ∧ n = 0 ∧ xs = []) ∨ ∃ g cap, v = .slice (some ⟨g, 0, none⟩) n cap ∧ n ≤ cap ∧ cap ≤ 9223372036854775807 ∧ g < w.heap.size ∧ (∀ j, j < n * size → w.cell? ⟨g, j, none⟩ = xs[j]?) := by
  have h' := h
  obtain ⟨h1, h2 | ⟨g, cap, cur, rfl, _, h3, h4, h5, _, _⟩⟩ := h
  · obtain ⟨rfl, rfl⟩ := h2
    exact .inl ⟨rfl, rfl, by simpa using h1⟩
  · exact .inr ⟨g, cap, rfl, h4, by unfold maxLen at h5; omega, (Array.getElem?_eq_some_iff.1 h3).1, fun j hj => h'.cellAt j hj⟩

theorem own_kp {S : Nat → Prop} {w w' : World} {b e size n : Nat} {v : Value} {xs : List Value} (h : w.ownsRow b e size v n xs) (k : Kp S w w') (hn : ∀ i, v.ownBlock = some i → ¬ S i) : w'.ownsRow b e size v n xs := by
  have hlt := h.lt
  obtain ⟨h1, h2 | ⟨g, cap, cur, rfl, h6, h3, h4, h5, h7, h8⟩⟩ := h
  · exact ⟨h1, .inl h2⟩
  · exact ⟨h1, .inr ⟨g, cap, cur, rfl, h6, (k.block g (hlt g rfl).2 (hn g rfl)).trans h3, h4, h5, h7, h8⟩⟩

/-- Updates as cells: a number and a state each. -/
def rowsFrom (k : Nat) : List Int → List Value
  | [] => []
  | s :: t => .int .i64 ((k : Int) + 1) :: .int .i64 s :: rowsFrom (k + 1) t
theorem rowsFrom_length (l : List Int) : ∀ k, (rowsFrom k l).length = l.length * 2 := by
  induction l with
  | nil => intro k; rfl
  | cons x l ih => intro k; simp [rowsFrom, ih]; omega
theorem rowsFrom_snoc (l : List Int) (x : Int) : ∀ k, rowsFrom k (l ++ [x]) = rowsFrom k l ++ [.int .i64 (((k + l.length : Nat) : Int) + 1), .int .i64 x] := by
  induction l with
  | nil => intro k; simp [rowsFrom]
  | cons y l ih => intro k; simp only [List.cons_append, rowsFrom, ih, List.length_cons]; congr 5; omega
theorem rowsFrom_num (l : List Int) : ∀ k i, i < l.length → (rowsFrom k l)[i * 2]? = some (.int .i64 (((k + i : Nat) : Int) + 1)) ∧ (rowsFrom k l)[i * 2 + 1]? = some (.int .i64 (l.getD i 0)) := by
  induction l with
  | nil => intro k i hi; simp at hi
  | cons y l ih =>
    intro k i hi
    cases i with
    | zero => simp [rowsFrom]
    | succ i =>
      have := ih (k + 1) i (by simpa using hi)
      rw [show (i + 1) * 2 = i * 2 + 1 + 1 from by omega]
      simp only [rowsFrom, List.getElem?_cons_succ, List.getD_cons_succ]
      refine ⟨this.1.trans (by congr 4; omega), this.2⟩

structure St where
  l : List Int
  acked : Nat
  said : Bool
  delay : Int
  due : Int

def StAt (w : World) (g : Nat) (q : Option Nat) (s : St) : Prop :=
  ∃ v, Blk w g #[v, .int .i64 s.acked, .bool s.said, .int .i64 s.delay, .int .i64 s.due] 78 ∧ w.ownsRow 0 27 2 v s.l.length (rowsFrom 0 s.l) ∧ v.ownBlock = q ∧ s.acked ≤ s.l.length ∧ s.l.length ≤ 100

/-- The blocks that a stream's own writes may turn. -/
def Ft (g : Nat) (q : Option Nat) (i : Nat) : Prop := i = g ∨ q = some i

theorem StAt.kp {S : Nat → Prop} {w w' : World} {g : Nat} {q : Option Nat} {s : St} (h : StAt w g q s) (k : Kp S w w') (hn : ∀ i, Ft g q i → ¬ S i) : StAt w' g q s := by
  obtain ⟨v, h1, h2, rfl, h4⟩ := h
  exact ⟨v, h1.kp k (hn g (.inl rfl)), own_kp h2 k (fun i hi => hn i (.inr hi)), rfl, h4⟩
theorem StAt.kp0 {w w' : World} {g : Nat} {q : Option Nat} {s : St} (h : StAt w g q s) (k : Kp0 w w') : StAt w' g q s := h.kp k (fun _ _ x => x)
theorem StAt.lt {w : World} {g : Nat} {q : Option Nat} {s : St} (h : StAt w g q s) : ∀ i, Ft g q i → i < w.heap.size := by
  obtain ⟨v, h1, h2, rfl, _⟩ := h
  intro i hi
  rcases hi with rfl | hi
  · exact h1.lt
  · exact (h2.lt i hi).2

theorem new_c (w : World) :
    Calls Try.prog 12 #[] w fun e w' => ∃ g, e = .returned (.pointer (some ⟨g, 0, none⟩)) ∧ w.heap.size ≤ g ∧ StAt w' g none ⟨[], 0, false, 0, 0⟩ ∧ Kp0 w w' := by
  go_enter Try.func12, Try.ntmps12
  go_wp2
  go_ret
  exact ⟨w.heap.size, rfl, Nat.le_refl _, ⟨_, Blk.new _ _ _, World.ownsRow_nil _ _ _ _, rfl, Nat.le_refl _, by simp⟩, (Kp.refl _ _).alloc _⟩

theorem acked_c (g : Nat) (q : Option Nat) (s : St) (w : World) (h : StAt w g q s) :
    Calls Try.prog 23 #[.pointer (some ⟨g, 0, none⟩)] w fun e w' => e = .returned (.int .i64 s.acked) ∧ w = w' := by
  obtain ⟨v, h1, _⟩ := h
  have c1 := Blk.cell h1 1
  simp at c1
  go_enter Try.func23, Try.ntmps23
  go_wp2
  go_ret
  exact ⟨rfl, rfl⟩

theorem said_c (g : Nat) (q : Option Nat) (s : St) (w : World) (h : StAt w g q s) :
    Calls Try.prog 22 #[.pointer (some ⟨g, 0, none⟩)] w fun e w' => e = .returned (.bool s.said) ∧ w = w' := by
  obtain ⟨v, h1, _⟩ := h
  have c2 := Blk.cell h1 2
  simp at c2
  go_enter Try.func22, Try.ntmps22
  go_wp2
  go_ret
  exact ⟨rfl, rfl⟩

theorem pending_c (g : Nat) (q : Option Nat) (s : St) (w : World) (h : StAt w g q s) :
    Calls Try.prog 24 #[.pointer (some ⟨g, 0, none⟩)] w fun e w' => e = .returned (.int .i64 ((s.l.length : Int) - s.acked)) ∧ ∃ n, w' = w.drewN n := by
  obtain ⟨v, h1, h2, _, h4, h5⟩ := h
  have c0 := Blk.cell h1 0
  have c1 := Blk.cell h1 1
  simp at c0 c1
  rcases own_shape h2 with ⟨rfl, hn, _⟩ | ⟨r, cap, rfl, hc1, hc2, _, _⟩
  · have H := Lib.hid hn
    clear hn h2 h1
    go_enter Try.func24, Try.ntmps24
    go_wp2_with fail
    go_quiet (fail)
    go_wp2
    go_ret
    exact ⟨ret_int (by rw [H.out]; simp), _, rfl⟩
  · clear h2 h1
    go_enter Try.func24, Try.ntmps24
    go_wp2_with fail
    go_quiet (fail)
    go_wp2
    go_ret
    exact ⟨rfl, _, rfl⟩

/-- The last state. -/
def St.state (s : St) : Int := s.l.getLastD 1

theorem state_c (g : Nat) (q : Option Nat) (s : St) (w : World) (h : StAt w g q s) :
    Calls Try.prog 19 #[.pointer (some ⟨g, 0, none⟩)] w fun e w' => e = .returned (.int .i64 s.state) ∧ ∃ n, w' = w.drewN n := by
  obtain ⟨v, h1, h2, _, h4, h5⟩ := h
  have c0 := Blk.cell h1 0
  simp at c0
  rcases own_shape h2 with ⟨rfl, hn, _⟩ | ⟨r, cap, rfl, hc1, hc2, _, hcell⟩
  · have e : s.state = 1 := by
      have : s.l = [] := List.length_eq_zero_iff.1 hn
      unfold St.state; rw [this]; rfl
    rw [e]
    clear hn h2 h1 e
    go_enter Try.func19, Try.ntmps19
    go_wp2
    go_ret
    exact ⟨rfl, 0, rfl⟩
  · by_cases hz : s.l.length = 0
    · have e : s.state = 1 := by
        have : s.l = [] := List.length_eq_zero_iff.1 hz
        unfold St.state; rw [this]; rfl
      rw [e]
      have hz' : ((s.l.length : Int) == 0) = true := by rw [hz]; rfl
      clear hz h2 h1 e hcell
      go_enter Try.func19, Try.ntmps19
      go_wp2
      go_ret
      exact ⟨rfl, 0, rfl⟩
    · have hz' : ((s.l.length : Int) == 0) = false := by simp; intro e; rw [e] at hz; exact hz rfl
      have hc := hcell ((s.l.length - 1) * 2 + 1) (by omega)
      rw [(rowsFrom_num s.l 0 (s.l.length - 1) (by omega)).2] at hc
      have e : s.state = s.l.getD (s.l.length - 1) 0 := by
        unfold St.state
        rw [List.getLastD_eq_getLast?, List.getLast?_eq_getElem?]
        simp [List.getD, List.getElem?_eq_getElem (show s.l.length - 1 < s.l.length by omega)]
      rw [e]
      have hp : 1 ≤ s.l.length := by omega
      clear hz h2 h1 e hcell
      go_enter Try.func19, Try.ntmps19
      go_wp2_with fail
      go_quiet (fail)
      go_wp2
      go_ret
      exact ⟨rfl, _, rfl⟩

theorem closed_c (g : Nat) (q : Option Nat) (s : St) (w : World) (h : StAt w g q s) :
    Calls Try.prog 20 #[.pointer (some ⟨g, 0, none⟩)] w fun e w' => e = .returned (.bool (ov s.state && ((s.l.length : Int) - s.acked == 0))) ∧ Kp0 w w' := by
  have e : (ov s.state && ((s.l.length : Int) - s.acked == 0)) = (ov s.state && ((s.l.length : Int) - s.acked == 0)) := rfl
  by_cases ho : ov s.state = true
  · rw [ho]
    go_enter Try.func20, Try.ntmps20
    go_wp2_with fail
    refine (state_c g q s _ h).mono ?_
    rintro e w1 ⟨rfl, n1, rfl⟩
    go_wp2_with fail
    refine (over_c _ _).mono ?_
    rintro e w2 ⟨rfl, rfl⟩
    go_wp2_with fail
    refine (pending_c g q s _ (h.kp0 ((Kp.refl _ _).drewN _))).mono ?_
    rintro e w3 ⟨rfl, n2, rfl⟩
    go_wp2
    go_ret
    exact ⟨by simp, (by repeat (first | exact Kp.refl _ _ | apply Kp.drewN | apply Kp.drew | apply Kp.alloc | (refine Kp.setCell ?_ (fun hx => absurd hx (by simp)) _)))⟩
  · have ho' : ov s.state = false := by simpa using ho
    rw [ho']
    clear ho e
    go_enter Try.func20, Try.ntmps20
    go_wp2_with fail
    refine (state_c g q s _ h).mono ?_
    rintro e w1 ⟨rfl, n1, rfl⟩
    go_wp2_with fail
    refine (over_c _ _).mono ?_
    rintro e w2 ⟨rfl, rfl⟩
    go_wp2
    go_ret
    exact ⟨by simp, (Kp.refl _ _).drewN _⟩

/-- The next update: number, state, and whether there is one. -/
def St.front (s : St) : Int × Int × Bool := if s.acked = s.l.length then (0, 0, false) else ((s.acked : Int) + 1, s.l.getD s.acked 0, true)

theorem front_c (g : Nat) (q : Option Nat) (s : St) (w : World) (h : StAt w g q s) :
    Calls Try.prog 21 #[.pointer (some ⟨g, 0, none⟩)] w fun e w' => e = .returned (.tuple #[.agg #[.int .i64 s.front.1, .int .i64 s.front.2.1], .bool s.front.2.2]) ∧ Kp0 w w' := by
  have h0 := h
  obtain ⟨v, h1, h2, _, h4, h5⟩ := h
  have hb : g < w.heap.size := h1.lt
  have c0 := Blk.cell h1 0
  have c1 := Blk.cell h1 1
  simp at c0 c1
  by_cases hp : s.acked = s.l.length
  · have e : s.front = (0, 0, false) := by unfold St.front; rw [if_pos hp]
    have hz : ((s.l.length : Int) - s.acked == 0) = true := by rw [hp]; simp
    rw [e]
    clear e hp
    go_enter Try.func21, Try.ntmps21
    go_wp2_with fail
    refine (pending_c g q s _ (h0.kp0 ((Kp.refl _ _).alloc _))).mono ?_
    rintro e w3 ⟨rfl, n2, rfl⟩
    go_wp2
    exact bodyPost_ret (v := .tuple #[.agg #[.int .i64 0, .int .i64 0], .bool false]) (by simp [results, Try.results21, go_sem]) rfl ⟨rfl, (by repeat (first | exact Kp.refl _ _ | apply Kp.drewN | apply Kp.drew | apply Kp.alloc | (refine Kp.setCell ?_ (fun hx => absurd hx (by simp)) _)))⟩
  · have e : s.front = ((s.acked : Int) + 1, s.l.getD s.acked 0, true) := by unfold St.front; rw [if_neg hp]
    have hz : ((s.l.length : Int) - s.acked == 0) = false := by simp; omega
    rw [e]
    rcases own_shape h2 with ⟨rfl, hn, _⟩ | ⟨r, cap, rfl, hc1, hc2, hr, hcell⟩
    · omega
    · have hca := hcell (s.acked * 2) (by omega)
      have hcb := hcell (s.acked * 2 + 1) (by omega)
      rw [(rowsFrom_num s.l 0 s.acked (by omega)).1] at hca
      rw [(rowsFrom_num s.l 0 s.acked (by omega)).2] at hcb
      rw [Nat.zero_add] at hca
      have hlt : s.acked < s.l.length := by omega
      clear e hp hcell h2 h1
      go_enter Try.func21, Try.ntmps21
      go_wp2_with fail
      refine (pending_c g q s _ (h0.kp0 ((Kp.refl _ _).alloc _))).mono ?_
      rintro e w3 ⟨rfl, n2, rfl⟩
      go_wp2_with fail
      go_region
      go_wp2
      exact bodyPost_ret (v := .tuple #[.agg #[.int .i64 ((s.acked : Int) + 1), .int .i64 (s.l.getD s.acked 0)], .bool true]) (by simp [results, Try.results21, go_sem, List.getD, List.getElem?_eq_getElem hlt]) rfl ⟨rfl, (by repeat (first | exact Kp.refl _ _ | apply Kp.drewN | apply Kp.drew | apply Kp.alloc | (refine Kp.setCell ?_ (fun hx => absurd hx (by simp)) _)))⟩

/-- 'Say', 'Again', 'Ack', told. -/
def St.say (s : St) (now first draw : Int) : (Int × Int × Bool) × St :=
  if s.front.2.2 = true then (if s.said = true then ((0, 0, false), s) else (s.front, { s with said := true, delay := first, due := _root_.Go.Proofs.Ytccamciijpmkjaa.due now first draw })) else ((0, 0, false), s)
def St.again (s : St) (now most draw : Int) : (Int × Int × Bool) × St :=
  if s.front.2.2 = true then (if s.said = true then (if now < s.due then ((0, 0, false), s) else (s.front, { s with delay := _root_.Go.Proofs.Ytccamciijpmkjaa.next s.delay most, due := _root_.Go.Proofs.Ytccamciijpmkjaa.due now (_root_.Go.Proofs.Ytccamciijpmkjaa.next s.delay most) draw })) else ((0, 0, false), s)) else ((0, 0, false), s)
def St.ack (s : St) (n : Int) : Int × St :=
  if s.front.2.2 = true then (if s.said = true then (if (s.front.1 == n) = true then (0, { s with acked := s.acked + 1, said := false }) else (3, s)) else (3, s)) else (3, s)

theorem front_lt {s : St} (h : s.front.2.2 = true) (hl : s.acked ≤ s.l.length) : s.acked + 1 ≤ s.l.length ∧ s.front.1 = (s.acked : Int) + 1 := by
  unfold St.front at *
  split at h
  · cases h
  · rename_i hne; rw [if_neg hne]; exact ⟨by omega, rfl⟩

theorem own_ne {w : World} {g b e size n T : Nat} {cs : Array Value} {v : Value} {xs : List Value} (hb : Blk w g cs T) (ho : w.ownsRow b e size v n xs) (hne : e ≠ T) : ∀ i, v.ownBlock = some i → i ≠ g := by
  intro i hi e'
  subst e'
  obtain ⟨_, ⟨rfl, _⟩ | ⟨g', cap, cur, rfl, _, h3, _⟩⟩ := ho
  · cases hi
  · simp [Value.ownBlock] at hi
    subst hi
    unfold Blk at hb
    rw [hb] at h3
    cases h3
    exact hne rfl

theorem StAt.set1 {w : World} {g : Nat} {q : Option Nat} {s : St} (h : StAt w g q s) (n : Nat) (hn : n ≤ s.l.length) : StAt (w.setCell ⟨g, 1, none⟩ (.int .i64 n)) g q { s with acked := n } := by
  obtain ⟨v, h1, h2, h3, h4, h5⟩ := h
  exact ⟨v, h1.set 1 _, own_kp h2 ((Kp.self g w).put 1 _) (own_ne h1 h2 (by decide)), h3, hn, h5⟩
theorem StAt.set2 {w : World} {g : Nat} {q : Option Nat} {s : St} (h : StAt w g q s) (b : Bool) : StAt (w.setCell ⟨g, 2, none⟩ (.bool b)) g q { s with said := b } := by
  obtain ⟨v, h1, h2, h3, h4, h5⟩ := h
  exact ⟨v, h1.set 2 _, own_kp h2 ((Kp.self g w).put 2 _) (own_ne h1 h2 (by decide)), h3, h4, h5⟩
theorem StAt.set3 {w : World} {g : Nat} {q : Option Nat} {s : St} (h : StAt w g q s) (n : Int) : StAt (w.setCell ⟨g, 3, none⟩ (.int .i64 n)) g q { s with delay := n } := by
  obtain ⟨v, h1, h2, h3, h4, h5⟩ := h
  exact ⟨v, h1.set 3 _, own_kp h2 ((Kp.self g w).put 3 _) (own_ne h1 h2 (by decide)), h3, h4, h5⟩
theorem StAt.set4 {w : World} {g : Nat} {q : Option Nat} {s : St} (h : StAt w g q s) (n : Int) : StAt (w.setCell ⟨g, 4, none⟩ (.int .i64 n)) g q { s with due := n } := by
  obtain ⟨v, h1, h2, h3, h4, h5⟩ := h
  exact ⟨v, h1.set 4 _, own_kp h2 ((Kp.self g w).put 4 _) (own_ne h1 h2 (by decide)), h3, h4, h5⟩
theorem StAt.other {w : World} {g : Nat} {q : Option Nat} {s : St} (h : StAt w g q s) {p : Addr} (hp : ∀ i, Ft g q i → i ≠ p.block) (u : Value) : StAt (w.setCell p u) g q s :=
  h.kp (S := (· = p.block)) ((Kp.self p.block w).setCell (fun _ => rfl) u) hp
theorem StAt.alloc {w : World} {g : Nat} {q : Option Nat} {s : St} (h : StAt w g q s) (o : Obj) : StAt (w.alloc o) g q s := h.kp0 ((Kp.refl _ _).alloc _)
theorem StAt.drewN {w : World} {g : Nat} {q : Option Nat} {s : St} (h : StAt w g q s) (n : Nat) : StAt (w.drewN n) g q s := h.kp0 ((Kp.refl _ _).drewN _)

set_option maxHeartbeats 2000000 in
theorem say_c (g : Nat) (q : Option Nat) (s : St) (now first draw : Int) (w : World) (h : StAt w g q s) :
    Calls Try.prog 16 #[.pointer (some ⟨g, 0, none⟩), .int .i64 now, .int .i64 first, .int .i64 draw] w fun e w' => e = .returned (.tuple #[.agg #[.int .i64 (s.say now first draw).1.1, .int .i64 (s.say now first draw).1.2.1], .bool (s.say now first draw).1.2.2]) ∧ StAt w' g q (s.say now first draw).2 ∧ Kp (Ft g q) w w' := by
  have hg : g < w.heap.size := h.lt g (.inl rfl)
  have hlt := h.lt
  have ha := h.kp0 ((Kp.refl _ _).alloc (.cells #[.int .i64 0, .int .i64 0] 27))
  have hp : ∀ i, Ft g q i → i ≠ w.heap.size := fun i hi => Nat.ne_of_lt (hlt i hi)
  have hx : w.heap.size < w.heap.size → Ft g q w.heap.size := fun x => absurd x (Nat.lt_irrefl _)
  have hy : g < w.heap.size → Ft g q g := fun _ => .inl rfl
  by_cases hf : s.front.2.2 = true
  · by_cases hs : s.said = true
    · have e : s.say now first draw = ((0, 0, false), s) := by unfold St.say; rw [if_pos hf, if_pos hs]
      rw [e]
      clear e
      go_enter Try.func16, Try.ntmps16
      go_wp2_with fail
      refine (front_c g q s _ ha).mono ?_
      rintro e w1 ⟨rfl, k1⟩
      have h1 := ha.kp0 k1
      have b1 := (Blk.new w #[.int .i64 0, .int .i64 0] 27).kp0 k1
      have K1 := ((Kp.refl (Ft g q) w).alloc (.cells #[.int .i64 0, .int .i64 0] 27)).then0 k1
      have n0 : w.heap.size < w1.heap.size := b1.lt
      obtain ⟨v, hb, hrest⟩ := id h1
      have c1 := Blk.cell hb 1
      have c2 := Blk.cell hb 2
      have c3 := Blk.cell hb 3
      have c4 := Blk.cell hb 4
      have f1 := Blk.free hb 1
      have f2 := Blk.free hb 2
      have f3 := Blk.free hb 3
      have f4 := Blk.free hb 4
      simp at c1 c2 c3 c4
      rw [hs] at c2
      have d0 := Blk.cell b1 0
      have d1 := Blk.cell b1 1
      have e0 := Blk.free b1 0
      have e1 := Blk.free b1 1
      simp at d0 d1
      have hg1 := hb.lt
      clear k1 hrest
      go_wp2
      exact bodyPost_ret (v := .tuple #[.agg #[.int .i64 0, .int .i64 0], .bool false]) (by simp [results, Try.results16, go_sem, d0, d1, n0]) rfl ⟨rfl, ((h1.other hp _).other hp _).alloc _, ((K1.setCell hx _).setCell hx _).alloc _⟩
    · have hs' : s.said = false := by simpa using hs
      have e : s.say now first draw = (s.front, { s with said := true, delay := first, due := _root_.Go.Proofs.Ytccamciijpmkjaa.due now first draw }) := by unfold St.say; rw [if_pos hf, if_neg hs]
      rw [e]
      clear e hs
      go_enter Try.func16, Try.ntmps16
      go_wp2_with fail
      refine (front_c g q s _ ha).mono ?_
      rintro e w1 ⟨rfl, k1⟩
      have h1 := ha.kp0 k1
      have b1 := (Blk.new w #[.int .i64 0, .int .i64 0] 27).kp0 k1
      have K1 := ((Kp.refl (Ft g q) w).alloc (.cells #[.int .i64 0, .int .i64 0] 27)).then0 k1
      have n0 : w.heap.size < w1.heap.size := b1.lt
      obtain ⟨v, hb, hrest⟩ := id h1
      have c1 := Blk.cell hb 1
      have c2 := Blk.cell hb 2
      have c3 := Blk.cell hb 3
      have c4 := Blk.cell hb 4
      have f1 := Blk.free hb 1
      have f2 := Blk.free hb 2
      have f3 := Blk.free hb 3
      have f4 := Blk.free hb 4
      simp at c1 c2 c3 c4
      rw [hs'] at c2
      have d0 := Blk.cell b1 0
      have d1 := Blk.cell b1 1
      have e0 := Blk.free b1 0
      have e1 := Blk.free b1 1
      simp at d0 d1
      have hg1 := hb.lt
      clear k1 hrest
      go_wp2_with fail
      refine (due_c _ _ _ _).mono ?_
      rintro e w2 ⟨rfl, rfl⟩
      go_wp2
      exact bodyPost_ret (v := .tuple #[.agg #[.int .i64 s.front.1, .int .i64 s.front.2.1], .bool true]) (by simp [results, Try.results16, go_sem, d0, d1, n0]) rfl ⟨by rw [hf], (((((h1.set2 true).set3 first).set4 _).other hp _).other hp _).alloc _, (((((K1.setCell hy _).setCell hy _).setCell hy _).setCell hx _).setCell hx _).alloc _⟩
  · have hf' : s.front.2.2 = false := by simpa using hf
    have e : s.say now first draw = ((0, 0, false), s) := by unfold St.say; rw [if_neg hf]
    rw [e]
    clear e hf
    go_enter Try.func16, Try.ntmps16
    go_wp2_with fail
    refine (front_c g q s _ ha).mono ?_
    rintro e w1 ⟨rfl, k1⟩
    have h1 := ha.kp0 k1
    have b1 := (Blk.new w #[.int .i64 0, .int .i64 0] 27).kp0 k1
    have K1 := ((Kp.refl (Ft g q) w).alloc (.cells #[.int .i64 0, .int .i64 0] 27)).then0 k1
    have n0 : w.heap.size < w1.heap.size := b1.lt
    obtain ⟨v, hb, hrest⟩ := id h1
    have c1 := Blk.cell hb 1
    have c2 := Blk.cell hb 2
    have c3 := Blk.cell hb 3
    have c4 := Blk.cell hb 4
    have f1 := Blk.free hb 1
    have f2 := Blk.free hb 2
    have f3 := Blk.free hb 3
    have f4 := Blk.free hb 4
    simp at c1 c2 c3 c4
    have d0 := Blk.cell b1 0
    have d1 := Blk.cell b1 1
    have e0 := Blk.free b1 0
    have e1 := Blk.free b1 1
    simp at d0 d1
    have hg1 := hb.lt
    clear k1 hrest
    go_wp2
    exact bodyPost_ret (v := .tuple #[.agg #[.int .i64 0, .int .i64 0], .bool false]) (by simp [results, Try.results16, go_sem, d0, d1, n0]) rfl ⟨rfl, ((h1.other hp _).other hp _).alloc _, ((K1.setCell hx _).setCell hx _).alloc _⟩


set_option maxHeartbeats 2000000 in
theorem again_c (g : Nat) (q : Option Nat) (s : St) (now most draw : Int) (w : World) (h : StAt w g q s) :
    Calls Try.prog 15 #[.pointer (some ⟨g, 0, none⟩), .int .i64 now, .int .i64 most, .int .i64 draw] w fun e w' => e = .returned (.tuple #[.agg #[.int .i64 (s.again now most draw).1.1, .int .i64 (s.again now most draw).1.2.1], .bool (s.again now most draw).1.2.2]) ∧ StAt w' g q (s.again now most draw).2 ∧ Kp (Ft g q) w w' := by
  have hg : g < w.heap.size := h.lt g (.inl rfl)
  have hlt := h.lt
  have ha := h.kp0 ((Kp.refl _ _).alloc (.cells #[.int .i64 0, .int .i64 0] 27))
  have hp : ∀ i, Ft g q i → i ≠ w.heap.size := fun i hi => Nat.ne_of_lt (hlt i hi)
  have hx : w.heap.size < w.heap.size → Ft g q w.heap.size := fun x => absurd x (Nat.lt_irrefl _)
  have hy : g < w.heap.size → Ft g q g := fun _ => .inl rfl
  by_cases hf : s.front.2.2 = true
  · by_cases hs : s.said = true
    · by_cases hd : now < s.due
      · have e : s.again now most draw = ((0, 0, false), s) := by unfold St.again; rw [if_pos hf, if_pos hs, if_pos hd]
        rw [e]
        clear e
        go_enter Try.func15, Try.ntmps15
        go_wp2_with fail
        refine (front_c g q s _ ha).mono ?_
        rintro e w1 ⟨rfl, k1⟩
        have h1 := ha.kp0 k1
        have b1 := (Blk.new w #[.int .i64 0, .int .i64 0] 27).kp0 k1
        have K1 := ((Kp.refl (Ft g q) w).alloc (.cells #[.int .i64 0, .int .i64 0] 27)).then0 k1
        have n0 : w.heap.size < w1.heap.size := b1.lt
        obtain ⟨v, hb, hrest⟩ := id h1
        have c1 := Blk.cell hb 1
        have c2 := Blk.cell hb 2
        have c3 := Blk.cell hb 3
        have c4 := Blk.cell hb 4
        have f1 := Blk.free hb 1
        have f2 := Blk.free hb 2
        have f3 := Blk.free hb 3
        have f4 := Blk.free hb 4
        simp at c1 c2 c3 c4
        rw [hs] at c2
        have d0 := Blk.cell b1 0
        have d1 := Blk.cell b1 1
        have e0 := Blk.free b1 0
        have e1 := Blk.free b1 1
        simp at d0 d1
        have hg1 := hb.lt
        clear k1 hrest
        go_wp2
        exact bodyPost_ret (v := .tuple #[.agg #[.int .i64 0, .int .i64 0], .bool false]) (by simp [results, Try.results15, go_sem, d0, d1, n0]) rfl ⟨rfl, ((h1.other hp _).other hp _).alloc _, ((K1.setCell hx _).setCell hx _).alloc _⟩
      · have hd' : s.due ≤ now := by omega
        have e : s.again now most draw = (s.front, { s with delay := _root_.Go.Proofs.Ytccamciijpmkjaa.next s.delay most, due := _root_.Go.Proofs.Ytccamciijpmkjaa.due now (_root_.Go.Proofs.Ytccamciijpmkjaa.next s.delay most) draw }) := by unfold St.again; rw [if_pos hf, if_pos hs, if_neg hd]
        rw [e]
        clear e hd
        go_enter Try.func15, Try.ntmps15
        go_wp2_with fail
        refine (front_c g q s _ ha).mono ?_
        rintro e w1 ⟨rfl, k1⟩
        have h1 := ha.kp0 k1
        have b1 := (Blk.new w #[.int .i64 0, .int .i64 0] 27).kp0 k1
        have K1 := ((Kp.refl (Ft g q) w).alloc (.cells #[.int .i64 0, .int .i64 0] 27)).then0 k1
        have n0 : w.heap.size < w1.heap.size := b1.lt
        obtain ⟨v, hb, hrest⟩ := id h1
        have c1 := Blk.cell hb 1
        have c2 := Blk.cell hb 2
        have c3 := Blk.cell hb 3
        have c4 := Blk.cell hb 4
        have f1 := Blk.free hb 1
        have f2 := Blk.free hb 2
        have f3 := Blk.free hb 3
        have f4 := Blk.free hb 4
        simp at c1 c2 c3 c4
        rw [hs] at c2
        have d0 := Blk.cell b1 0
        have d1 := Blk.cell b1 1
        have e0 := Blk.free b1 0
        have e1 := Blk.free b1 1
        simp at d0 d1
        have hg1 := hb.lt
        clear k1 hrest
        go_wp2_with fail
        refine (next_c _ _ _).mono ?_
        rintro e w2 ⟨rfl, rfl⟩
        go_wp2_with fail
        refine (due_c _ _ _ _).mono ?_
        rintro e w2 ⟨rfl, rfl⟩
        go_wp2
        exact bodyPost_ret (v := .tuple #[.agg #[.int .i64 s.front.1, .int .i64 s.front.2.1], .bool true]) (by simp [results, Try.results15, go_sem, d0, d1, n0]) rfl ⟨by rw [hf], ((((h1.set3 _).set4 _).other hp _).other hp _).alloc _, ((((K1.setCell hy _).setCell hy _).setCell hx _).setCell hx _).alloc _⟩
    · have hs' : s.said = false := by simpa using hs
      have e : s.again now most draw = ((0, 0, false), s) := by unfold St.again; rw [if_pos hf, if_neg hs]
      rw [e]
      clear e hs
      go_enter Try.func15, Try.ntmps15
      go_wp2_with fail
      refine (front_c g q s _ ha).mono ?_
      rintro e w1 ⟨rfl, k1⟩
      have h1 := ha.kp0 k1
      have b1 := (Blk.new w #[.int .i64 0, .int .i64 0] 27).kp0 k1
      have K1 := ((Kp.refl (Ft g q) w).alloc (.cells #[.int .i64 0, .int .i64 0] 27)).then0 k1
      have n0 : w.heap.size < w1.heap.size := b1.lt
      obtain ⟨v, hb, hrest⟩ := id h1
      have c1 := Blk.cell hb 1
      have c2 := Blk.cell hb 2
      have c3 := Blk.cell hb 3
      have c4 := Blk.cell hb 4
      have f1 := Blk.free hb 1
      have f2 := Blk.free hb 2
      have f3 := Blk.free hb 3
      have f4 := Blk.free hb 4
      simp at c1 c2 c3 c4
      rw [hs'] at c2
      have d0 := Blk.cell b1 0
      have d1 := Blk.cell b1 1
      have e0 := Blk.free b1 0
      have e1 := Blk.free b1 1
      simp at d0 d1
      have hg1 := hb.lt
      clear k1 hrest
      go_wp2
      exact bodyPost_ret (v := .tuple #[.agg #[.int .i64 0, .int .i64 0], .bool false]) (by simp [results, Try.results15, go_sem, d0, d1, n0]) rfl ⟨rfl, ((h1.other hp _).other hp _).alloc _, ((K1.setCell hx _).setCell hx _).alloc _⟩
  · have hf' : s.front.2.2 = false := by simpa using hf
    have e : s.again now most draw = ((0, 0, false), s) := by unfold St.again; rw [if_neg hf]
    rw [e]
    clear e hf
    go_enter Try.func15, Try.ntmps15
    go_wp2_with fail
    refine (front_c g q s _ ha).mono ?_
    rintro e w1 ⟨rfl, k1⟩
    have h1 := ha.kp0 k1
    have b1 := (Blk.new w #[.int .i64 0, .int .i64 0] 27).kp0 k1
    have K1 := ((Kp.refl (Ft g q) w).alloc (.cells #[.int .i64 0, .int .i64 0] 27)).then0 k1
    have n0 : w.heap.size < w1.heap.size := b1.lt
    obtain ⟨v, hb, hrest⟩ := id h1
    have c1 := Blk.cell hb 1
    have c2 := Blk.cell hb 2
    have c3 := Blk.cell hb 3
    have c4 := Blk.cell hb 4
    have f1 := Blk.free hb 1
    have f2 := Blk.free hb 2
    have f3 := Blk.free hb 3
    have f4 := Blk.free hb 4
    simp at c1 c2 c3 c4
    have d0 := Blk.cell b1 0
    have d1 := Blk.cell b1 1
    have e0 := Blk.free b1 0
    have e1 := Blk.free b1 1
    simp at d0 d1
    have hg1 := hb.lt
    clear k1 hrest
    go_wp2
    exact bodyPost_ret (v := .tuple #[.agg #[.int .i64 0, .int .i64 0], .bool false]) (by simp [results, Try.results15, go_sem, d0, d1, n0]) rfl ⟨rfl, ((h1.other hp _).other hp _).alloc _, ((K1.setCell hx _).setCell hx _).alloc _⟩

set_option maxHeartbeats 2000000 in
theorem ack_c (g : Nat) (q : Option Nat) (s : St) (n : Int) (w : World) (h : StAt w g q s) :
    Calls Try.prog 17 #[.pointer (some ⟨g, 0, none⟩), .int .i64 n] w fun e w' => e = .returned (.int .i64 (s.ack n).1) ∧ StAt w' g q (s.ack n).2 ∧ Kp (Ft g q) w w' := by
  have hy : g < w.heap.size → Ft g q g := fun _ => .inl rfl
  have hle : s.acked ≤ s.l.length ∧ s.l.length ≤ 100 := let ⟨_, _, _, _, b, c⟩ := h; ⟨b, c⟩
  by_cases hf : s.front.2.2 = true
  · by_cases hs : s.said = true
    · by_cases hd : (s.front.1 == n) = true
      · have e : s.ack n = (0, { s with acked := s.acked + 1, said := false }) := by unfold St.ack; rw [if_pos hf, if_pos hs, if_pos hd]
        rw [e]
        have hn : (s.front.1 != n) = false := by simpa using hd
        have hfl := (front_lt hf hle.1).1
        clear e hd
        go_enter Try.func17, Try.ntmps17
        go_wp2_with fail
        refine (front_c g q s _ h).mono ?_
        rintro e w1 ⟨rfl, k1⟩
        have h1 := h.kp0 k1
        have K1 := (Kp.refl (Ft g q) w).then0 k1
        obtain ⟨v, hb, hrest⟩ := id h1
        have c1 := Blk.cell hb 1
        have c2 := Blk.cell hb 2
        have f1 := Blk.free hb 1
        have f2 := Blk.free hb 2
        simp at c1 c2
        rw [hs] at c2
        have hg1 := hb.lt
        clear k1 hrest
        go_wp2
        go_ret
        exact ⟨rfl, ((h1.set1 (s.acked + 1) hfl).set2 false).alloc _, ((K1.setCell hy _).setCell hy _).alloc _⟩
      · have e : s.ack n = (3, s) := by unfold St.ack; rw [if_pos hf, if_pos hs, if_neg hd]
        rw [e]
        have hn : (s.front.1 != n) = true := by simpa using hd
        clear e hd
        go_enter Try.func17, Try.ntmps17
        go_wp2_with fail
        refine (front_c g q s _ h).mono ?_
        rintro e w1 ⟨rfl, k1⟩
        have h1 := h.kp0 k1
        have K1 := (Kp.refl (Ft g q) w).then0 k1
        obtain ⟨v, hb, hrest⟩ := id h1
        have c1 := Blk.cell hb 1
        have c2 := Blk.cell hb 2
        have f1 := Blk.free hb 1
        have f2 := Blk.free hb 2
        simp at c1 c2
        rw [hs] at c2
        have hg1 := hb.lt
        clear k1 hrest
        go_wp2
        go_ret
        exact ⟨rfl, h1.alloc _, K1.alloc _⟩
    · have hs' : s.said = false := by simpa using hs
      have e : s.ack n = (3, s) := by unfold St.ack; rw [if_pos hf, if_neg hs]
      rw [e]
      clear e hs
      go_enter Try.func17, Try.ntmps17
      go_wp2_with fail
      refine (front_c g q s _ h).mono ?_
      rintro e w1 ⟨rfl, k1⟩
      have h1 := h.kp0 k1
      have K1 := (Kp.refl (Ft g q) w).then0 k1
      obtain ⟨v, hb, hrest⟩ := id h1
      have c1 := Blk.cell hb 1
      have c2 := Blk.cell hb 2
      have f1 := Blk.free hb 1
      have f2 := Blk.free hb 2
      simp at c1 c2
      rw [hs'] at c2
      have hg1 := hb.lt
      clear k1 hrest
      go_wp2
      go_ret
      exact ⟨rfl, h1.alloc _, K1.alloc _⟩
  · have hf' : s.front.2.2 = false := by simpa using hf
    have e : s.ack n = (3, s) := by unfold St.ack; rw [if_neg hf]
    rw [e]
    clear e hf
    go_enter Try.func17, Try.ntmps17
    go_wp2_with fail
    refine (front_c g q s _ h).mono ?_
    rintro e w1 ⟨rfl, k1⟩
    have h1 := h.kp0 k1
    have K1 := (Kp.refl (Ft g q) w).then0 k1
    obtain ⟨v, hb, hrest⟩ := id h1
    have c1 := Blk.cell hb 1
    have c2 := Blk.cell hb 2
    have f1 := Blk.free hb 1
    have f2 := Blk.free hb 2
    simp at c1 c2

    have hg1 := hb.lt
    clear k1 hrest
    go_wp2
    go_ret
    exact ⟨rfl, h1.alloc _, K1.alloc _⟩

end Go.Proofs.Ytccamciijpmkjaa
