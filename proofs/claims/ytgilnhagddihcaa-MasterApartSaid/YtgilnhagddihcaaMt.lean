/- The master hears. -/
import Derived.Test.YtgilnhagddihcaaMs
set_option linter.unusedVariables false
set_option linter.unusedSimpArgs false
namespace Go.Proofs.Ytgilnhagddihcaa
open Go.RowKit

abbrev es : ByteArray := { data := #[] }
def mcs (k : Int) (F E T : ByteArray) (n st num ep : Int) (its : Value) : Array Value := #[.int .i64 k, .string F, .string E, .string T, .int .i64 n, .int .i64 st, .int .i64 num, .int .i64 ep, its]

def nw (l : List Int) (x : Int) : Bool := l.getLast? != some x
def hl (l : List Int) (x : Int) : List Int := if nw l x = true then l ++ [x] else l

set_option maxRecDepth 100000 in
theorem hear10_c (g : Nat) (F E T : ByteArray) (n st num ep : Int) (its : Value) (w : World) :
    Calls Try.prog 44 #[.pointer (some ⟨g, 0, none⟩), .agg (mcs 10 F E T n st num ep its)] w fun e w' => ∃ r, e = .returned (.slice (some ⟨r, 0, none⟩) 1 1) ∧ Blk w' r (mcs 6 es es es 0 0 0 0 (.slice none 0 0)) 57 ∧ w.heap.size ≤ r ∧ Kp0 w w' := by
  unfold mcs
  go_enter Try.func44, Try.ntmps44
  go_wp2
  go_ret
  exact ⟨_, rfl, blk_new _ _ (by simp), by omega, ((Kp.refl _ _).alloc _).alloc _⟩

set_option maxRecDepth 100000 in
theorem hear0_c (g : Nat) (k : Int) (h10 : (k == 10) = false) (h11 : (k == 11) = false) (F E T : ByteArray) (n st num ep : Int) (its : Value) (w : World) :
    Calls Try.prog 44 #[.pointer (some ⟨g, 0, none⟩), .agg (mcs k F E T n st num ep its)] w fun e w' => e = .returned (.slice none 0 0) ∧ Kp0 w w' := by
  unfold mcs
  go_enter Try.func44, Try.ntmps44
  go_wp2
  go_ret
  exact ⟨rfl, ((Kp.refl _ _).alloc _)⟩

theorem ints_len (l : List Int) : (ints l).length = l.length := by simp [ints]
theorem ints_get (l : List Int) (j : Nat) (h : j < l.length) : (ints l)[j]? = some (.int .i64 l[j]) := by simp [ints, h]

theorem row_sl {w : World} {b e size n : Nat} {v : Value} {xs : List Value} (h : w.ownsRow b e size v n xs) : ∃ A c, v = .slice A n c := by
  rcases own_shape h with ⟨rfl, rfl, _⟩ | ⟨r, cap, rfl, _⟩
  · exact ⟨none, 0, rfl⟩
  · exact ⟨_, _, rfl⟩
theorem nw_nil (x : Int) : nw [] x = true := by simp [nw]
theorem nw_last (l : List Int) (x : Int) (h : 0 < l.length) : nw l x = (l[l.length - 1]'(by omega) != x) := by
  unfold nw
  rw [List.getLast?_eq_getElem?, List.getElem?_eq_getElem (by omega)]
  rfl

theorem own_ne {w : World} {g b e size n : Nat} {T : TypeId} {v : Value} {cs : Array Value} {xs : List Value} (h1 : Blk w g cs T) (h2 : w.ownsRow b e size v n xs) (hT : T ≠ e) : ∀ i, v.ownBlock = some i → i ≠ g := by
  intro i hi
  obtain ⟨_, ⟨rfl, _⟩ | ⟨q, cap, cur, rfl, _, h3, _⟩⟩ := h2
  · cases hi
  · simp [Value.ownBlock] at hi
    subst hi
    intro e
    subst e
    have := (show w.heap[q]? = some (.cells cs T (0, 0)) from h1).symm.trans h3
    injection this with this
    injection this with _ h _
    exact hT h

theorem ms_app {wc wa w1 w3 : World} {g n : Nat} {O : Nat → Prop} {L : Key → List Int} {S : Key → Int} {k : Key} {num : Int} {v1 : Value} {b1 b2 : Nat} {f1 f2 : Key → Value}
    (hg : Blk wc g #[.map (some b1), .map (some b2)] 76) (m1 : MapAs wc b1 n (.slice none 0 0) f1) (m2 : MapAs wc b2 n (.int .i64 0) f2) (hne : b1 ≠ b2)
    (hr : ∀ p, wc.ownsRow 0 3 1 (f1 p) (L p).length (ints (L p))) (hd : ∀ p q i, (f1 p).ownBlock = some i → (f1 q).ownBlock = some i → p = q) (hs : ∀ p, f2 p = .int .i64 (S p))
    (hO : ∀ i, O i ↔ i = g ∨ i = b1 ∨ i = b2 ∨ ∃ p, (f1 p).ownBlock = some i) (hl : ∀ p, (L p).length ≤ n)
    (ka : Kp0 wc wa) (o1 : w1.ownsRow 0 3 1 v1 ((L k).length + 1) (ints (L k) ++ [.int .i64 num])) (K1 : Kp (fun i => (f1 k).ownBlock = some i) wa w1) (b : v1.ownBlock = (f1 k).ownBlock ∨ v1.ownBlock = some wa.heap.size)
    (m1' : MapAs w3 b1 (n + 1) (.slice none 0 0) (upd f1 k v1)) (K3 : Kp (· = b1) w1 w3) :
    ∃ O1, MsAt w3 g O1 (n + 1) (upd L k (L k ++ [num])) S ∧ (∀ i, O1 i → O i ∨ wc.heap.size ≤ i) ∧ Kp O wc w3 := by
  have hgb : b1 ≠ g := m1.ne hg
  have hk1 : ∀ i, (f1 k).ownBlock = some i → i ≠ g := own_ne hg (hr k) (by decide)
  have hb1 : ∀ p i, (f1 p).ownBlock = some i → b1 ≠ i := fun p i h => m1.ne_row (hr p) h
  have hb2 : ∀ p i, (f1 p).ownBlock = some i → b2 ≠ i := fun p i h => m2.ne_row (hr p) h
  have hv1 : ∀ i, v1.ownBlock = some i → (f1 k).ownBlock = some i ∨ wc.heap.size ≤ i := by
    intro i hi
    rcases b with b | b
    · exact .inl (b ▸ hi)
    · rw [b] at hi; injection hi with hi; have := ka.size; omega
  have hv1b : ∀ i, v1.ownBlock = some i → i ≠ b1 := by
    intro i hi
    rcases hv1 i hi with h | h
    · exact (hb1 k i h).symm
    · have := m1.lt; omega
  have Ka : Kp (fun i => (f1 k).ownBlock = some i) wc w1 := (ka.mono (S' := fun i => (f1 k).ownBlock = some i) (fun _ _ x => x.elim)).trans K1 (fun _ _ h => h)
  have K : Kp O wc w3 := (Ka.mono (S' := O) (fun i _ h => (hO i).2 (.inr (.inr (.inr ⟨k, h⟩))))).trans K3 (fun i _ h => (hO i).2 (.inr (.inl h)))
  refine ⟨fun i => i = g ∨ i = b1 ∨ i = b2 ∨ ∃ p, (upd f1 k v1 p).ownBlock = some i, ⟨b1, b2, upd f1 k v1, f2, ?_, m1', ?_, hne, ?_, ?_, hs, fun i => Iff.rfl, ?_⟩, ?_, K⟩
  · exact (hg.kp Ka (fun h => hk1 g h rfl)).kp K3 (fun h => hgb h.symm)
  · exact ((m2.mono (Nat.le_succ n)).kp Ka (fun h => hb2 k b2 h rfl)).kp K3 (fun h => hne h.symm)
  · intro p
    by_cases hp : p = k
    · subst hp
      rw [upd_same, upd_same]
      have : ints (L p ++ [num]) = ints (L p) ++ [.int .i64 num] := by simp [ints]
      rw [this, List.length_append]
      exact own_kp o1 K3 (fun i hi => hv1b i hi)
    · rw [upd_other _ _ hp, upd_other _ _ hp]
      exact own_kp (own_kp (hr p) Ka (fun i hi h => hp (hd p k i hi h))) K3 (fun i hi => (hb1 p i hi).symm)
  · intro p q i hpi hqi
    by_cases hp : p = k <;> by_cases hq : q = k
    · rw [hp, hq]
    · subst hp
      rw [upd_same] at hpi
      rw [upd_other _ _ hq] at hqi
      rcases hv1 i hpi with h | h
      · exact hd _ _ i h hqi
      · have := ((hr q).lt i hqi).2; omega
    · subst hq
      rw [upd_same] at hqi
      rw [upd_other _ _ hp] at hpi
      rcases hv1 i hqi with h | h
      · exact hd _ _ i hpi h
      · have := ((hr p).lt i hpi).2; omega
    · rw [upd_other _ _ hp] at hpi
      rw [upd_other _ _ hq] at hqi
      exact hd _ _ i hpi hqi
  · intro p
    by_cases hp : p = k
    · subst hp; rw [upd_same]; have := hl p; simp; omega
    · rw [upd_other _ _ hp]; have := hl p; omega
  · rintro i (rfl | rfl | rfl | ⟨p, hp⟩)
    · exact .inl ((hO _).2 (.inl rfl))
    · exact .inl ((hO _).2 (.inr (.inl rfl)))
    · exact .inl ((hO _).2 (.inr (.inr (.inl rfl))))
    · by_cases hk : p = k
      · subst hk
        rw [upd_same] at hp
        rcases hv1 i hp with h | h
        · exact .inl ((hO _).2 (.inr (.inr (.inr ⟨p, h⟩))))
        · exact .inr h
      · rw [upd_other _ _ hk] at hp
        exact .inl ((hO _).2 (.inr (.inr (.inr ⟨p, hp⟩))))

theorem MsAt.mono {w : World} {g n m : Nat} {O : Nat → Prop} {L : Key → List Int} {S : Key → Int} (h : MsAt w g O n L S) (hm : n ≤ m) : MsAt w g O m L S := by
  obtain ⟨b1, b2, f1, f2, hg, m1, m2, hne, hr, hd, hs, hO, hl⟩ := h
  exact ⟨b1, b2, f1, f2, hg, m1.mono hm, m2.mono hm, hne, hr, hd, hs, hO, fun p => Nat.le_trans (hl p) hm⟩

/-- A state put at a key. -/
theorem ms_state {w : World} {g n : Nat} {O : Nat → Prop} {L : Key → List Int} {S : Key → Int} (h : MsAt w g O n L S) (hn : n ≤ 1000000) {p : Key} (hp : Small p) (st : Int) :
    ∃ b2, w.cell? ⟨g, 1, none⟩ = some (.map (some b2)) ∧ ∃ w', (Instr.mapUpdate 70 (.map (some b2)) (kvp p) (.int .i64 st)).run Try.prog w = .ok () w' ∧ MsAt w' g O (n + 1) L (upd S p st) ∧ Kp O w w' ∧ w'.cell? ⟨g, 1, none⟩ = some (.map (some b2)) := by
  obtain ⟨b1, b2, f1, f2, hg, m1, m2, hne, hr, hd, hs, hO, hl⟩ := h
  obtain ⟨w', hrun, m2', K⟩ := m2.upd Try.underlying70 hn hp (.int .i64 st)
  have hgb : b2 ≠ g := m2.ne hg
  refine ⟨b2, hg.cell 1, w', hrun, ⟨b1, b2, f1, upd f2 p (.int .i64 st), hg.kp K (fun h => hgb h.symm), (m1.mono (Nat.le_succ n)).kp K hne, m2', hne, fun q => own_kp (hr q) K (fun i hi => (m2.ne_row (hr q) hi).symm), hd, ?_, hO, fun q => Nat.le_succ_of_le (hl q)⟩, K.mono (fun i _ h => (hO i).2 (.inr (.inr (.inl h)))), (hg.kp K (fun h => hgb h.symm)).cell 1⟩
  intro q
  by_cases hq : q = p
  · subst hq; rw [upd_same, upd_same]
  · rw [upd_other _ _ hq, upd_other _ _ hq]; exact hs q

/-- What the state is behind the first half of Hear. -/
def Mid (W : World) (g B : Nat) (O : Nat → Prop) (n : Nat) (L : Key → List Int) (S : Key → Int) (cs ks : Array Value) (wx : World) : Prop :=
  ∃ O1, MsAt wx g O1 (n + 1) L S ∧ Blk wx B cs 57 ∧ Blk wx (B + 1) ks 52 ∧ (∀ i, O1 i → O i ∨ W.heap.size ≤ i) ∧ Kp O W wx

set_option maxRecDepth 100000 in
set_option maxHeartbeats 2000000 in
theorem hear11_c (g n : Nat) (O : Nat → Prop) (L : Key → List Int) (S : Key → Int) (F E T : ByteArray) (hp : Small (F, T)) (n0 st num ep : Int) (its : Value) (w : World) (h : MsAt w g O n L S) (hn : n ≤ 1000) :
    Calls Try.prog 44 #[.pointer (some ⟨g, 0, none⟩), .agg (mcs 11 F E T n0 st num ep its)] w fun e w' => ∃ r O', e = .returned (.slice (some ⟨r, 0, none⟩) 1 1) ∧ Blk w' r (mcs 4 F es T 0 0 num ep (.slice none 0 0)) 57 ∧ w.heap.size ≤ r ∧ MsAt w' g O' (n + 2) (upd L (F, T) (hl (L (F, T)) num)) (upd S (F, T) st) ∧ ¬ O' r ∧ (∀ i, O' i → O i ∨ w.heap.size ≤ i) ∧ Kp O w w' := by
  unfold mcs
  have k0 : Kp0 w ((w.alloc (.cells #[.int .i64 11, .string F, .string E, .string T, .int .i64 n0, .int .i64 st, .int .i64 num, .int .i64 ep, its] 57)).alloc (.cells #[.string F, .string T] 52)) := ((Kp.refl _ _).alloc _).alloc _
  have h1 := h.kp0 k0
  have hB1 : Blk ((w.alloc (.cells #[.int .i64 11, .string F, .string E, .string T, .int .i64 n0, .int .i64 st, .int .i64 num, .int .i64 ep, its] 57)).alloc (.cells #[.string F, .string T] 52)) w.heap.size #[.int .i64 11, .string F, .string E, .string T, .int .i64 n0, .int .i64 st, .int .i64 num, .int .i64 ep, its] 57 := Blk.alloc (blk_new _ _ rfl) _
  have hB2 : Blk ((w.alloc (.cells #[.int .i64 11, .string F, .string E, .string T, .int .i64 n0, .int .i64 st, .int .i64 num, .int .i64 ep, its] 57)).alloc (.cells #[.string F, .string T] 52)) (w.heap.size + 1) #[.string F, .string T] 52 := blk_new _ _ (by simp)
  go_enter Try.func44, Try.ntmps44
  go_upto_region 6 with fail
  have hWs : w.heap.size + 2 ≤ ((w.alloc (.cells #[.int .i64 11, .string F, .string E, .string T, .int .i64 n0, .int .i64 st, .int .i64 num, .int .i64 ep, its] 57)).alloc (.cells #[.string F, .string T] 52)).heap.size := by simp
  generalize hW : ((w.alloc (.cells #[.int .i64 11, .string F, .string E, .string T, .int .i64 n0, .int .i64 st, .int .i64 num, .int .i64 ep, its] 57)).alloc (.cells #[.string F, .string T] 52)) = W at *
  clear hW
  obtain ⟨b1, b2, f1, f2, hg, m1, m2, hne, hr, hd, hs, hO, hl1⟩ := h1
  have lk1 : ∀ w', Kp0 W w' → (Instr.lookup 74 (.map (some b1)) (.agg #[.string F, .string T]) false).run Try.prog w' = .ok (f1 (F, T)) w' := fun w' k => (m1.kp0 k).look Try.underlying74 (zero41 _) hp
  go_cut [6] from 20 to 66 (fun s6 wx => s6 = f1 (F, T) ∧ Kp0 W wx)
  case first =>
    have c0 := hg.cell 0
    have d0 := hB2.cell 0
    have d1 := hB2.cell 1
    have hlk : ∀ n, (Instr.lookup 74 (.map (some b1)) (.agg #[.string F, .string T]) false).run Try.prog (W.drewN n) = .ok (f1 (F, T)) (W.drewN n) := fun n => lk1 _ ((Kp.refl _ _).drewN n)
    simp at c0 d0 d1
    clear hg hB1 hB2 m1 m2 hr hd hs hO hl1 lk1 h k0
    go_quiet (fail)
    go_wp2_with fail
    go_meet
    exact ⟨rfl, (Kp.refl _ _).drewN _⟩
  case rest =>
    obtain ⟨rfl, kw⟩ := hcut
    obtain ⟨w2, rfl⟩ : ∃ w2 : World, w2 = wc := ⟨_, rfl⟩
    generalize hl0 : L (F, T) = l at *
    have hr1 : w2.ownsRow 0 3 1 (f1 (F, T)) l.length (ints l) := own_kp (hl0 ▸ hr (F, T)) kw (fun _ _ x => x)
    obtain ⟨A, c, hA⟩ := row_sl hr1
    rw [hA] at hr1 ⊢
    go_upto_region 7 with fail
    go_cut [6, 39] from 26 to 66 (fun s6 s39 wx => s6 = .slice A l.length c ∧ s39 = .bool (nw l num) ∧ Kp0 w2 wx)
    case first =>
      have d6 := (hB1.kp0 kw).cell 6
      simp at d6
      have hl2 := hl1 (F, T)
      rw [hl0] at hl2
      clear hg hB1 hB2 m1 m2 hr hd hs hO hl1 lk1 h k0
      rcases own_shape hr1 with ⟨e1, h0, _⟩ | ⟨r, cap, e1, q1, q2, q3, q4⟩ <;> injection e1 with e3 e4 e5 <;> subst e3 <;> subst e5
      · rw [h0]
        have e2 : nw l num = true := by rw [List.length_eq_zero_iff.1 h0]; exact nw_nil _
        have HE := Lib.hid e2
        clear e2
        go_quiet (fail)
        go_wp2_with fail
        go_meet
        exact ⟨by rw [h0], by rw [HE.out], (Kp.refl _ _).drewN _⟩
      · rcases Nat.eq_zero_or_pos l.length with h0 | h0
        · have e2 : nw l num = true := by rw [List.length_eq_zero_iff.1 h0]; exact nw_nil _
          rw [h0]
          have HE := Lib.hid e2
          clear e2
          go_quiet (fail)
          go_wp2_with fail
          go_meet
          exact ⟨by rw [h0], by rw [HE.out], (Kp.refl _ _).drewN _⟩
        · have e2 := nw_last l num h0
          have q5 := q4 (l.length - 1) (by omega)
          rw [ints_get l _ (by omega)] at q5
          obtain ⟨z, hz⟩ : ∃ z, l[l.length - 1] = z := ⟨_, rfl⟩
          rw [hz] at q5 e2
          have hll : l.length ≤ 1000 := by omega
          obtain ⟨m, hm⟩ : ∃ m, l.length = m + 1 := ⟨l.length - 1, by omega⟩
          rw [hm] at q1 hll ⊢
          simp [hm] at q5
          have HE := Lib.hid e2
          clear e2 hz hr1 q4
          have w1 : IntKind.i64.wrap ((m : Int) + 1 - 1) = m := by rw [IntKind.wrap_i64]; omega
          have w2 : ((((m + 1 : Nat) : Int)) == 0) = false := by rw [beq_eq_false_iff_ne]; omega
          have w3 : (((m : Int) + 1) == 0) = false := by rw [beq_eq_false_iff_ne]; omega
          go_quiet (fail)
          go_wp2_with fail
          go_meet
          exact ⟨by simp [hm], by rw [HE.out], (Kp.refl _ _).drewN _⟩
    case rest =>
      obtain ⟨rfl, rfl, kw2⟩ := hcut
      have kw3 : Kp0 W wc := kw.then0 kw2
      have hr2 : wc.ownsRow 0 3 1 (.slice A l.length c) l.length (ints l) := own_kp hr1 kw2 (fun _ _ x => x)
      go_upto_if 39 with fail
      go_cut [39] from 40 to 66 (fun s39 wx => s39 = .bool (nw l num) ∧ Mid W g w.heap.size O n (upd L (F, T) (hl l num)) S #[.int .i64 11, .string F, .string E, .string T, .int .i64 n0, .int .i64 st, .int .i64 num, .int .i64 ep, its] #[.string F, .string T] wx)
      case first =>
        have h3 := h.olt
        have hsz : w.heap.size + 2 ≤ W.heap.size := hWs
        have hgo : g < w.heap.size := h3 g ((hO g).2 (.inl rfl))
        have gx := hg.kp0 kw3
        have m1x := m1.kp0 kw3
        have m2x := m2.kp0 kw3
        have hrx : ∀ p, wc.ownsRow 0 3 1 (f1 p) (L p).length (ints (L p)) := fun p => own_kp (hr p) kw3 (fun _ _ x => x)
        have B1x := hB1.kp0 kw3
        have B2x := hB2.kp0 kw3
        cases hb : nw l num with
        | false =>
          have HB := Lib.hid hb
          clear hb
          go_wp2_with fail
          go_meet
          refine ⟨by rw [HB.out], O, ?_, B1x, B2x, fun i hi => .inl hi, kw3.mono (fun _ _ x => x.elim)⟩
          have : upd L (F, T) (hl l num) = L := by
            funext p
            by_cases hp : p = (F, T)
            · subst hp; rw [upd_same, hl0]; unfold hl; rw [HB.out]; rfl
            · rw [upd_other _ _ hp]
          rw [this]
          exact MsAt.mono ⟨b1, b2, f1, f2, gx, m1x, m2x, hne, hrx, hd, hs, hO, hl1⟩ (Nat.le_succ n)
        | true =>
          have HB := Lib.hid hb
          clear hb
          have hfin : hl l num = l ++ [num] := by unfold hl; rw [HB.out]; rfl
          have hlt : ∀ i, (f1 (F, T)).ownBlock = some i → i < w.heap.size := fun i hi => h3 i ((hO i).2 (.inr (.inr (.inr ⟨_, hi⟩))))
          have hng : ∀ i, (f1 (F, T)).ownBlock = some i → i ≠ g := own_ne gx (hrx _) (by decide)
          have hll : l.length ≤ 1000 := by have := hl1 (F, T); rw [hl0] at this; omega
          have hS : ∀ S0 W', Kp S0 wc W' → (∀ i, i = g ∨ i = w.heap.size ∨ i = w.heap.size + 1 → ¬ S0 i) → W'.cell? ⟨g, 0, none⟩ = some (.map (some b1)) ∧ W'.cell? ⟨w.heap.size + 1, 0, none⟩ = some (.string F) ∧ W'.cell? ⟨w.heap.size + 1, 1, none⟩ = some (.string T) ∧ W'.cell? ⟨w.heap.size, 6, none⟩ = some (.int .i64 num) :=
            fun S0 W' k hS0 => ⟨(gx.kp k (hS0 _ (.inl rfl))).cell 0, (B2x.kp k (hS0 _ (.inr (.inr rfl)))).cell 0, (B2x.kp k (hS0 _ (.inr (.inr rfl)))).cell 1, (B1x.kp k (hS0 _ (.inr (.inl rfl)))).cell 6⟩
          have K0 : Kp0 wc wc.drew := (Kp.refl _ _).drew
          have K1 : Kp0 wc (wc.drew.alloc (.cells #[.int .i64 num] 3)) := K0.alloc _
          have N1 : Vw (wc.drew.alloc (.cells #[.int .i64 num] 3)) wc.heap.size 0 [.int .i64 num] := Vw.of_blk (blk_new _ _ rfl)
          have oW : (wc.drew.alloc (.cells #[.int .i64 num] 3)).ownsRow 0 3 1 (.slice A l.length c) l.length (ints l) := own_kp (hA ▸ hl0 ▸ hrx (F, T)) K1 (fun _ _ x => x)
          have hfit : ∀ v1 w1, Kp (fun i => (Value.slice A l.length c).ownBlock = some i) (wc.drew.alloc (.cells #[.int .i64 num] 3)) w1 → ∃ w3, (Instr.mapUpdate 74 (.map (some b1)) (.agg #[.string F, .string T]) v1).run Try.prog w1 = .ok () w3 ∧ MapAs w3 b1 (n + 1) (.slice none 0 0) (upd f1 (F, T) v1) ∧ Kp (· = b1) w1 w3 := by
            intro v1 w1 k1
            exact ((m1x.kp0 K1).kp k1 (fun h => m1x.ne_row (hrx (F, T)) (hA ▸ h) rfl)).upd Try.underlying74 (by omega) hp v1
          have hSA : ∀ w1, Kp (fun i => (Value.slice A l.length c).ownBlock = some i) (wc.drew.alloc (.cells #[.int .i64 num] 3)) w1 → w1.cell? ⟨g, 0, none⟩ = some (.map (some b1)) ∧ w1.cell? ⟨w.heap.size + 1, 0, none⟩ = some (.string F) ∧ w1.cell? ⟨w.heap.size + 1, 1, none⟩ = some (.string T) ∧ w1.cell? ⟨w.heap.size, 6, none⟩ = some (.int .i64 num) := by
            intro w1 k1
            refine hS _ w1 ((K1.mono (S' := fun i => (Value.slice A l.length c).ownBlock = some i) (fun _ _ x => x.elim)).trans k1 (fun _ _ h => h)) ?_
            rintro i hi hb
            have g1 := hlt i (hA ▸ hb)
            have g2 := hng i (hA ▸ hb)
            omega
          have hb1g : b1 ≠ g := m1x.ne gx
          have hb1s : b1 < w.heap.size := h3 b1 ((hO b1).2 (.inr (.inl rfl)))
          have hSB : ∀ w1 w3, Kp (fun i => (Value.slice A l.length c).ownBlock = some i) (wc.drew.alloc (.cells #[.int .i64 num] 3)) w1 → Kp (· = b1) w1 w3 → w3.cell? ⟨g, 0, none⟩ = some (.map (some b1)) ∧ w3.cell? ⟨w.heap.size + 1, 0, none⟩ = some (.string F) ∧ w3.cell? ⟨w.heap.size + 1, 1, none⟩ = some (.string T) ∧ w3.cell? ⟨w.heap.size, 6, none⟩ = some (.int .i64 num) := by
            intro w1 w3 k1 k3
            refine hS (fun i => (Value.slice A l.length c).ownBlock = some i ∨ i = b1) w3 (((K1.mono (S' := fun i => (Value.slice A l.length c).ownBlock = some i ∨ i = b1) (fun _ _ x => x.elim)).trans k1 (fun _ _ h => .inl h)).trans k3 (fun _ _ h => .inr h)) ?_
            rintro i hi (hb | hb)
            · have g1 := hlt i (hA ▸ hb)
              have g2 := hng i (hA ▸ hb)
              omega
            · omega
          have hEnd : ∀ v1 w1 w3, w1.ownsRow 0 3 1 v1 (l.length + 1) (ints l ++ [.int .i64 num]) → Kp (fun i => (Value.slice A l.length c).ownBlock = some i) (wc.drew.alloc (.cells #[.int .i64 num] 3)) w1 → (v1.ownBlock = (Value.slice A l.length c).ownBlock ∨ v1.ownBlock = some (wc.drew.alloc (.cells #[.int .i64 num] 3)).heap.size) → MapAs w3 b1 (n + 1) (.slice none 0 0) (upd f1 (F, T) v1) → Kp (· = b1) w1 w3 →
              Mid W g w.heap.size O n (upd L (F, T) (hl l num)) S #[.int .i64 11, .string F, .string E, .string T, .int .i64 n0, .int .i64 st, .int .i64 num, .int .i64 ep, its] #[.string F, .string T] w3 := by
            intro v1 w1 w3 o1 k1 b m3 k3
            obtain ⟨O1, c1, c2, c3⟩ := ms_app (num := num) gx m1x m2x hne hrx hd hs hO hl1 K1 (hl0 ▸ o1) (hA ▸ k1) (hA ▸ b) m3 k3
            rw [hl0] at c1
            have hOB : ∀ i, w.heap.size ≤ i → ¬ O i := fun i hi ho => by have := h3 i ho; omega
            exact ⟨O1, hfin ▸ c1, B1x.kp c3 (hOB _ (Nat.le_refl _)), B2x.kp c3 (hOB _ (Nat.le_succ _)), fun i hi => (c2 i hi).imp id (fun h => Nat.le_trans kw3.size h), (kw3.mono (S' := O) (fun _ _ x => x.elim)).trans c3 (fun _ _ h => h)⟩
          have HE := Lib.hid hEnd
          have hS0 := hS (fun _ => False) _ K0 (fun _ _ x => x)
          have hS1 := hS (fun _ => False) _ K1 (fun _ _ x => x)
          clear hEnd hfin hS hrx hr hl1 hd hs hO gx m1x m2x B1x B2x hB1 hB2 hg m1 m2 h3 h k0 lk1 hr1 hr2 kw kw2 kw3 hlt hng
          go_wp2_with fail
          go_region_held3 (fun W' => W'.cell? ⟨g, 0, none⟩ = some (.map (some b1)) ∧ W'.cell? ⟨w.heap.size + 1, 0, none⟩ = some (.string F) ∧ W'.cell? ⟨w.heap.size + 1, 1, none⟩ = some (.string T) ∧ W'.cell? ⟨w.heap.size, 6, none⟩ = some (.int .i64 num)) (first | exact hS0 | exact hS1 | exact hSA _ k1 | exact hSB _ _ k1 k3)
            ((refine step_app rfl (.tmp 45) (.tmp 48) 41 3 (.int .i64 0) 1 8 rfl rfl rfl rfl (by decide) (.slice A l.length c) l.length (ints l) (by simp [Act.eval, Act.put]) wc.heap.size 0 1 1 [.int .i64 num] (by simp [Act.eval, Act.put]) rfl (by simp [Value.oneCell']) N1 oW (by omega) (by omega) ?_; intro v1 w1 o1 k1 b1x; obtain ⟨w3, hrun, m3, k3⟩ := hfit v1 w1 k1))
          go_wp2_with fail
          go_meet
          exact ⟨by rw [HB.out], HE.out v1 w1 w3 o1 k1 b1x m3 k3⟩
      case rest =>
        obtain ⟨rfl, O1, a1, a2, a3, a4, a5⟩ := hcut
        obtain ⟨wd, rfl⟩ : ∃ wd : World, wd = wc := ⟨_, rfl⟩
        have K0 : Kp0 wd wd.drew := (Kp.refl _ _).drew
        obtain ⟨b2', c1, w3, hrun, a6, k6, c3⟩ := ms_state (a1.kp0 K0) (by omega) hp st
        have h3 := h.olt
        have h4 := a1.olt
        have hgO : O1 g := by
          obtain ⟨_, _, _, _, _, _, _, _, _, _, _, hO1, _⟩ := a1
          exact (hO1 g).2 (.inl rfl)
        have hgo : O g := (hO g).2 (.inl rfl)
        have hWs2 := kw.size
        have hO1n : ∀ i, w.heap.size ≤ i → i < w.heap.size + 2 → ¬ O1 i := by
          intro i h5 h6 h7
          rcases a4 i h7 with h8 | h8
          · have := h3 i h8; omega
          · omega
        have hS : ∀ S0 W', Kp S0 wd W' → (∀ i, i = w.heap.size ∨ i = w.heap.size + 1 → ¬ S0 i) → W'.cell? ⟨w.heap.size + 1, 0, none⟩ = some (.string F) ∧ W'.cell? ⟨w.heap.size + 1, 1, none⟩ = some (.string T) ∧ W'.cell? ⟨w.heap.size, 5, none⟩ = some (.int .i64 st) :=
          fun S0 W' k hS0 => ⟨(a3.kp k (hS0 _ (.inr rfl))).cell 0, (a3.kp k (hS0 _ (.inr rfl))).cell 1, (a2.kp k (hS0 _ (.inl rfl))).cell 5⟩
        have K6 : Kp O1 wd w3 := (K0.mono (S' := O1) (fun _ _ x => x.elim)).trans k6 (fun _ _ h => h)
        have hn1 : ∀ i, i = w.heap.size ∨ i = w.heap.size + 1 → ¬ O1 i := fun i hi => hO1n i (by omega) (by omega)
        have hS0 := And.intro c1 (hS (fun _ => False) _ K0 (fun _ _ x => x))
        have hS3 := And.intro c3 (hS O1 _ K6 hn1)
        have B3 := a2.kp K6 (hn1 _ (.inl rfl))
        have d1 := B3.cell 1
        have d3 := B3.cell 3
        have d6 := B3.cell 6
        have d7 := B3.cell 7
        simp at d1 d3 d6 d7
        have KA : Kp O w w3 := ((k0.mono (S' := O) (fun _ _ x => x.elim)).trans a5 (fun _ _ h => h)).trans K6 (fun i hi h => by
          rcases a4 i h with h8 | h8
          · exact h8
          · have := k0.size; omega)
        have hO1b : ∀ i, O1 i → O i ∨ w.heap.size ≤ i := fun i hi => (a4 i hi).imp id (fun h => by omega)
        have hst := a6.olt
        unfold kvp kv at hrun
        simp only at hrun
        clear hS K6 hn1 hO1n hWs2 hgo hgO h4 h3 c3 c1 a5 a4 a3 a2 a1 kw kw2 kw3 hB1 hB2 hg m1 m2 hr hd hs hO hl1 h k0 hr1 hr2 lk1 K0
        go_wp2_with fail
        go_region_held3 (fun W' => W'.cell? ⟨g, 1, none⟩ = some (.map (some b2')) ∧ W'.cell? ⟨w.heap.size + 1, 0, none⟩ = some (.string F) ∧ W'.cell? ⟨w.heap.size + 1, 1, none⟩ = some (.string T) ∧ W'.cell? ⟨w.heap.size, 5, none⟩ = some (.int .i64 st)) (first | exact hS0 | exact hS3) (fail)
        go_wp2
        go_ret
        refine ⟨w3.heap.size, O1, rfl, ?_, ?_, ?_, ?_, hO1b, ?_⟩
        · exact blk_new _ _ rfl
        · exact KA.size
        · rw [hl0]; exact a6.kp0 ((Kp.refl _ _).alloc _)
        · intro h; have := hst _ h; omega
        · exact KA.alloc _
end Go.Proofs.Ytgilnhagddihcaa
