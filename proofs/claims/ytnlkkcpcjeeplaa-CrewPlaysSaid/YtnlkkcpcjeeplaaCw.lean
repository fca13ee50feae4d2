/- Package crew: at, Find, Exact, Add, All, Drop. -/
import Derived.Test.YtnlkkcpcjeeplaaRun
import Derived.Test.YtnlkkcpcjeeplaaAp
import Derived.Test.YtnlkkcpcjeeplaaSh
set_option linter.unusedVariables false
set_option linter.unusedSimpArgs false
namespace Go.Proofs.Ytnlkkcpcjeeplaa
open Go.RowKit Go.Lib Go.Sort

abbrev pt (x : Nat) : Value := .pointer (some ⟨x, 0, none⟩)
/-- A crew at g: pointers, in a row of its own; O: the blocks that are the crew's. -/
def CrAt (w : World) (g : Nat) (O : Nat → Prop) (l : List Nat) : Prop :=
  O g ∧ ∃ v, Blk w g #[v] 118 ∧ w.ownsRow 0 47 1 v l.length (l.map pt) ∧ ∀ i, v.ownBlock = some i → O i ∧ i ≠ g
def RunsAt (w : World) (l : List Nat) (R : Nat → Rn) : Prop := ∀ x ∈ l, RunAt w x (R x)
theorem CrAt.kp {S : Nat → Prop} {w w' : World} {g : Nat} {O : Nat → Prop} {l : List Nat} (h : CrAt w g O l) (k : Kp S w w') (hn : ∀ i, O i → ¬ S i) : CrAt w' g O l := by
  obtain ⟨hg, v, hB, ho, hO⟩ := h
  exact ⟨hg, v, hB.kp k (hn g hg), own_kp ho k (fun i hi => hn i (hO i hi).1), hO⟩
theorem RunsAt.kp {S : Nat → Prop} {w w' : World} {l : List Nat} {R : Nat → Rn} (h : RunsAt w l R) (k : Kp S w w') (hn : ∀ x ∈ l, ¬ S x) : RunsAt w' l R := fun x hx => (h x hx).kp k (hn x hx)

theorem who_d (g : Nat) (r : Rn) (w : World) (h : RunAt w g r) :
    Calls Try.prog 44 #[.pointer (some ⟨g, 0, none⟩)] w fun e w' => e = .returned (.tuple #[.string r.f, .string r.e, .int .i64 r.n]) ∧ ∃ q, w' = w.drewN q := by
  have c0 := Blk.cell h 0
  have c1 := Blk.cell h 1
  have c2 := Blk.cell h 2
  simp at c0 c1 c2
  go_enter Try.func44, Try.ntmps44
  go_wp2_with fail
  go_quiet (fail)
  go_wp2
  go_ret3
  exact ⟨rfl, _, rfl⟩

theorem crew_new_c (w : World) : Calls Try.prog 51 #[] w fun e w' => e = .returned (pt w.heap.size) ∧ CrAt w' w.heap.size (· = w.heap.size) [] ∧ Kp0 w w' := by
  go_enter Try.func51, Try.ntmps51
  go_wp2
  go_ret
  exact ⟨rfl, ⟨rfl, _, Blk.new _ _ _, World.ownsRow_nil _ _ _ _, fun i hi => by simp [Value.ownBlock] at hi⟩, (Kp.refl _ _).alloc _⟩

/-- Does a run belong to f, e? -/
def isRun (f e : ByteArray) (r : Rn) : Bool := decide (r.f = f) && decide (r.e = e)
theorem tl_beq (p q : ByteArray) : (p.toList == q.toList) = decide (p = q) := by
  by_cases h : p = q
  · subst h; simp
  · rw [decide_eq_false h, beq_eq_false_iff_ne]
    intro e
    rw [ByteArray.toList_eq, ByteArray.toList_eq] at e
    exact h (ByteArray.ext (Array.toList_inj.mp e))

set_option maxRecDepth 100000 in
theorem at85_c (x bf be : Nat) (f e : ByteArray) (r : Rn) (w : World) (h : RunAt w x r) (hf : w.cell? ⟨bf, 0, none⟩ = some (.string f)) (he : w.cell? ⟨be, 0, none⟩ = some (.string e)) :
    Calls Try.prog 85 #[pt x, .pointer (some ⟨bf, 0, none⟩), .pointer (some ⟨be, 0, none⟩)] w fun e' w' => e' = .returned (.bool (isRun f e r)) ∧ ∃ q, w' = w.drewN q := by
  have hw := who_d x r w h
  have e1 := tl_beq r.f f
  have e2 := tl_beq r.e e
  have hi : isRun f e r = (decide (r.f = f) && decide (r.e = e)) := rfl
  clear h
  generalize r.f = a at *
  generalize r.e = b at *
  generalize r.n = n at *
  cases h1 : decide (a = f) with
  | true =>
    rw [h1] at e1 hi
    rw [Bool.true_and] at hi
    rw [hi]
    clear hi h1
    generalize decide (b = e) = c at e2 ⊢
    go_enter Try.func85, Try.ntmps85
    go_wp2_with fail
    refine hw.mono ?_
    rintro e' w' ⟨rfl, q, rfl⟩
    go_wp2
    go_ret
    exact ⟨rfl, _, rfl⟩
  | false =>
    rw [h1] at e1 hi
    rw [Bool.false_and] at hi
    rw [hi]
    clear hi h1 e2
    go_enter Try.func85, Try.ntmps85
    go_wp2_with fail
    refine hw.mono ?_
    rintro e' w' ⟨rfl, q, rfl⟩
    go_wp2
    go_ret
    exact ⟨rfl, _, rfl⟩

/-- The place of the first that is meant, or -1. -/
def idx (l : List Nat) (p : Nat → Bool) : Int := match l.findIdx? p with | some i => (i : Int) | none => -1
theorem idxBy_find {α : Type} (q : α → Bool) (x : α) : ∀ (zs : List α) (i : Nat), Lib.idxByFrom (fun _ y => q y) x zs i = match zs.findIdx? q with | some k => ((i + k : Nat) : Int) | none => -1
  | [], i => rfl
  | y :: r, i => by
    unfold Lib.idxByFrom
    rw [List.findIdx?_cons, idxBy_find q x r (i + 1)]
    cases q y with
    | true => simp
    | false =>
      cases r.findIdx? q with
      | none => simp
      | some k => show ((i + 1 + k : Nat) : Int) = ((i + (k + 1) : Nat) : Int); omega
theorem range_getD (l : List Nat) (d : Nat) : (List.range l.length).map (fun k => l.getD k d) = l := by
  apply List.ext_getElem
  · simp
  · intro i h1 h2
    simp [List.getElem?_eq_getElem h2]
theorem idx_range (l : List Nat) (d : Nat) (p : Nat → Bool) : Lib.idxBy (fun _ y => p (l.getD y d)) (List.range l.length) default = idx l p := by
  unfold Lib.idxBy idx
  rw [idxBy_find (fun y => p (l.getD y d))]
  have h := List.findIdx?_map (f := fun k => l.getD k d) (p := p) (l := List.range l.length)
  rw [range_getD] at h
  rw [h]
  simp only [Nat.zero_add]
  rfl

set_option maxRecDepth 100000 in
/-- IndexFunc over pointers to runs, whatever the closure. -/
theorem idx84_c (G : Nat) (lb : Array Value) (eg : ∀ args w, (callFunc G args).run Try.prog w = .ok (.enter G args) w) (v : Value) (l : List Nat) (p : Nat → Bool) (w : World) (ho : w.ownsRow 0 47 1 v l.length (l.map pt)) (hl : l.length ≤ 100000)
    (hp : ∀ W x, Below w.heap.size w W → x ∈ l → Go.Proofs.FnGives Try.prog G lb #[pt x] (.bool (p x)) W) :
    Calls Try.prog 84 #[v, .func (.func G) #[] lb] w fun e' w' => e' = .returned (.int .i64 (idx l p)) ∧ ∃ q, w' = w.drewN q := by
  rcases own_shape ho with ⟨rfl, h0, h1⟩ | ⟨r, cap, rfl, m1, m2, m3, m4⟩
  · have : l = [] := List.eq_nil_of_length_eq_zero h0
    subst this
    exact (AnyE.slices_IndexFunc_empty Try.idxf84 none 0 _ w).mono (by rintro e w' ⟨rfl, rfl⟩; exact ⟨rfl, 0, rfl⟩)
  · cases l with
    | nil => exact (AnyE.slices_IndexFunc_empty Try.idxf84 (some ⟨r, 0, none⟩) cap _ w).mono (by rintro e w' ⟨rfl, rfl⟩; exact ⟨rfl, 0, rfl⟩)
    | cons d l' =>
      have hmem : ∀ k, (d :: l').getD k d ∈ d :: l' := fun k => by
        by_cases hk : k < (d :: l').length
        · rw [List.getD_eq_getElem?_getD, List.getElem?_eq_getElem hk]; exact List.getElem_mem hk
        · rw [List.getD_eq_getElem?_getD, List.getElem?_eq_none (by omega)]; exact List.mem_cons_self
      have key := AnyE.slices_IndexFunc Try.idxf84 (fun k => pt ((d :: l').getD k d)) (fun k => p ((d :: l').getD k d)) G lb eg r 0 (d :: l').length cap (List.range (d :: l').length) w
        (fun W x hb => hp W _ hb (hmem x)) (by rw [List.length_range]; exact Nat.le_refl _) (by omega) (fun j hj => by
          rw [List.length_range] at hj
          have e1 : (List.range (d :: l').length)[j]! = j := by rw [List.getElem!_eq_getElem?_getD, List.getElem?_range hj]; rfl
          rw [e1, Nat.zero_add, m4 j (by omega), List.getElem?_map, List.getElem?_eq_getElem hj, List.getD_eq_getElem?_getD, List.getElem?_eq_getElem hj]; rfl)
      refine Calls.mono key ?_
      rintro e' w' ⟨rfl, q, rfl⟩
      refine ⟨?_, q, rfl⟩
      rw [← idx_range (d :: l') d p, List.take_of_length_le (by rw [List.length_range]; exact Nat.le_refl _)]

set_option maxRecDepth 100000 in
theorem at74_c (g : Nat) (O : Nat → Prop) (l : List Nat) (R : Nat → Rn) (f e : ByteArray) (w : World) (h : CrAt w g O l) (hr : RunsAt w l R) (hl : l.length ≤ 100000) :
    Calls Try.prog 74 #[pt g, .string f, .string e] w fun e' w' => e' = .returned (.int .i64 (idx l (fun x => isRun f e (R x)))) ∧ Kp0 w w' := by
  obtain ⟨hg, v, hB, ho, hO⟩ := h
  have k1 : Kp0 w (w.alloc (.cells #[.string f] 9)) := (Kp.refl _ _).alloc _
  have k2 : Kp0 (w.alloc (.cells #[.string f] 9)) ((w.alloc (.cells #[.string f] 9)).alloc (.cells #[.string e] 9)) := (Kp.refl _ _).alloc _
  have F1 : Blk (w.alloc (.cells #[.string f] 9)) w.heap.size #[.string f] 9 := blk_new _ _ rfl
  have F2 : Blk ((w.alloc (.cells #[.string f] 9)).alloc (.cells #[.string e] 9)) (w.heap.size + 1) #[.string e] 9 := blk_new _ _ (by simp)
  have k3 := k1.then0 k2
  have F1 := F1.kp0 k2
  have B3 := hB.kp0 k3
  have o3 := own_kp ho k3 (fun _ _ x => x)
  have r3 := hr.kp k3 (fun _ _ x => x)
  have hs : ((w.alloc (.cells #[.string f] 9)).alloc (.cells #[.string e] 9)).heap.size = w.heap.size + 1 + 1 := by simp
  generalize hW : (w.alloc (.cells #[.string f] 9)).alloc (.cells #[.string e] 9) = W at *
  have hi := idx84_c 85 #[.pointer (some ⟨w.heap.size, 0, none⟩), .pointer (some ⟨w.heap.size + 1, 0, none⟩)] (enters_of Try.func85 (by kernel_rfl) rfl) v l (fun x => isRun f e (R x)) W o3 hl (fun W' x hb hx => by
    have kb := Kp.of_below hb
    have c1 := (F1.kp0 kb).cell 0
    have c2 := (F2.kp0 kb).cell 0
    exact at85_c x w.heap.size (w.heap.size + 1) f e (R x) W' ((r3 x hx).kp kb (fun x => x)) (by simpa using c1) (by simpa using c2))
  have cB := B3.cell 0
  simp at cB
  generalize idx l (fun x => isRun f e (R x)) = res at hi ⊢
  have hW' := Lib.hid hW
  clear hr hB ho r3 o3 F1 F2 k1 k2 hW hs B3
  go_enter Try.func74, Try.ntmps74
  have hW := hW'.out
  go_wp2_with fail
  refine hi.mono ?_
  rintro e' w' ⟨rfl, q, rfl⟩
  go_wp2
  go_ret
  exact ⟨rfl, k3.drewN q⟩

theorem fi_cases (p : Nat → Bool) : ∀ l : List Nat, (l.findIdx? p = none ∧ l.find? p = none) ∨ ∃ i x, l.findIdx? p = some i ∧ l[i]? = some x ∧ l.find? p = some x
  | [] => .inl ⟨rfl, rfl⟩
  | y :: r => by
    cases h : p y with
    | true => exact .inr ⟨0, y, by simp [List.findIdx?_cons, h], rfl, by simp [List.find?_cons, h]⟩
    | false =>
      rcases fi_cases p r with ⟨h1, h2⟩ | ⟨i, x, h1, h2, h3⟩
      · exact .inl ⟨by simp [List.findIdx?_cons, h, h1], by simp [List.find?_cons, h, h2]⟩
      · exact .inr ⟨i + 1, x, by simp [List.findIdx?_cons, h, h1], by simpa using h2, by simp [List.find?_cons, h, h3]⟩
theorem idx_cases (p : Nat → Bool) (l : List Nat) : (idx l p = -1 ∧ l.find? p = none) ∨ ∃ (i : Nat) (x : Nat), idx l p = (i : Int) ∧ i < l.length ∧ l[i]? = some x ∧ l.find? p = some x := by
  rcases fi_cases p l with ⟨h1, h2⟩ | ⟨i, x, h1, h2, h3⟩
  · exact .inl ⟨by unfold idx; rw [h1], h2⟩
  · exact .inr ⟨i, x, by unfold idx; rw [h1], (List.getElem?_eq_some_iff.1 h2).1, h2, h3⟩

def ptO : Option Nat → Value | some x => pt x | none => .pointer none
/-- The run of an executor. -/
def fnd (l : List Nat) (R : Nat → Rn) (f e : ByteArray) : Option Nat := l.find? (fun x => isRun f e (R x))
def exa (l : List Nat) (R : Nat → Rn) (f e : ByteArray) (n : Int) : Option Nat := (fnd l R f e).filter (fun x => decide ((R x).n = n))

set_option maxRecDepth 100000 in
theorem find54_c (g : Nat) (O : Nat → Prop) (l : List Nat) (R : Nat → Rn) (f e : ByteArray) (w : World) (h : CrAt w g O l) (hr : RunsAt w l R) (hl : l.length ≤ 100000) :
    Calls Try.prog 54 #[pt g, .string f, .string e] w fun e' w' => e' = .returned (ptO (fnd l R f e)) ∧ Kp0 w w' := by
  have hc := at74_c g O l R f e w h hr hl
  obtain ⟨hg, v, hB, ho, hO⟩ := h
  unfold fnd
  rcases idx_cases (fun x => isRun f e (R x)) l with ⟨h1, h2⟩ | ⟨i, x, h1, h2, h3, h4⟩
  · rw [h1] at hc
    rw [h2]
    clear h1 h2 hB ho hO hr
    go_enter Try.func54, Try.ntmps54
    go_wp2_with fail
    refine hc.mono ?_
    rintro e' w1 ⟨rfl, k1⟩
    go_wp2
    go_ret
    exact ⟨rfl, k1⟩
  · rw [h1] at hc
    rw [h4]
    rcases own_shape ho with ⟨rfl, h0, _⟩ | ⟨r, cap, rfl, m1, m2, m3, m4⟩
    · omega
    have hx : (l.map pt)[i]? = some (pt x) := by rw [List.getElem?_map, h3]; rfl
    have V := Vw.of_own ho
    have hcell : ∀ W, Kp0 w W → W.cell? ⟨g, 0, none⟩ = some (.slice (some ⟨r, 0, none⟩) l.length cap) ∧ W.cell? ⟨r, i, none⟩ = some (pt x) := fun W k => by
      refine ⟨by have := (hB.kp0 k).cell 0; simpa using this, ?_⟩
      have := (V.kp0 k m3) i _ hx
      rwa [Nat.zero_add] at this
    have hi0 : (0 : Int) ≤ (i : Int) ∧ (i : Int) < (l.length : Int) := by omega
    generalize l.length = n at *
    clear h1 h2 h3 h4 hB ho hO hr m4 hx V
    go_enter Try.func54, Try.ntmps54
    go_wp2_with fail
    refine hc.mono ?_
    rintro e' w1 ⟨rfl, k1⟩
    obtain ⟨q1, q2⟩ := hcell w1 k1
    clear hcell hc
    go_wp2
    go_ret
    exact ⟨rfl, k1⟩

set_option maxRecDepth 100000 in
theorem exact55_c (g : Nat) (O : Nat → Prop) (l : List Nat) (R : Nat → Rn) (f e : ByteArray) (n : Int) (w : World) (h : CrAt w g O l) (hr : RunsAt w l R) (hl : l.length ≤ 100000) :
    Calls Try.prog 55 #[pt g, .string f, .string e, .int .i64 n] w fun e' w' => e' = .returned (ptO (exa l R f e n)) ∧ Kp0 w w' := by
  have hc := find54_c g O l R f e w h hr hl
  have hm : ∀ x, fnd l R f e = some x → x ∈ l := fun x hx => List.mem_of_find?_eq_some hx
  unfold exa
  cases hx : fnd l R f e with
  | none =>
    rw [hx] at hc
    have hc : Calls Try.prog 54 #[pt g, .string f, .string e] w fun e' w' => e' = .returned (.pointer none) ∧ Kp0 w w' := hc
    show Calls Try.prog 55 #[pt g, .string f, .string e, .int .i64 n] w fun e' w' => e' = .returned (.pointer none) ∧ Kp0 w w'
    clear hx hm hr h
    go_enter Try.func55, Try.ntmps55
    go_wp2_with fail
    refine hc.mono ?_
    rintro e' w1 ⟨rfl, k1⟩
    go_wp2
    go_ret
    exact ⟨rfl, k1⟩
  | some x =>
    rw [hx] at hc
    have hc : Calls Try.prog 54 #[pt g, .string f, .string e] w fun e' w' => e' = .returned (pt x) ∧ Kp0 w w' := hc
    have hw : ∀ W, Kp0 w W → _ := fun W k => who_d x (R x) W ((hr x (hm x hx)).kp k (fun x => x))
    have hf : (some x).filter (fun x => decide ((R x).n = n)) = if (R x).n = n then some x else none := by
      rw [Option.filter_some]
      by_cases hn : (R x).n = n
      · rw [if_pos hn, decide_eq_true hn]; rfl
      · rw [if_neg hn, decide_eq_false hn]; rfl
    rw [hf]
    clear hx hm hr h hf
    generalize (R x).f = a at hw
    generalize (R x).e = b at hw
    generalize (R x).n = m at hw ⊢
    by_cases hn : m = n
    · rw [if_pos hn]
      have hb : (m != n) = false := by rw [bne_eq_false_iff_eq]; exact hn
      clear hn
      go_enter Try.func55, Try.ntmps55
      go_wp2_with fail
      refine hc.mono ?_
      rintro e' w1 ⟨rfl, k1⟩
      go_wp2_with fail
      refine (hw w1 k1).mono ?_
      rintro e' w2 ⟨rfl, q, rfl⟩
      go_wp2
      go_ret
      exact ⟨rfl, k1.drewN q⟩
    · rw [if_neg hn]
      have hb : (m != n) = true := by rw [bne_iff_ne]; exact hn
      clear hn
      go_enter Try.func55, Try.ntmps55
      go_wp2_with fail
      refine hc.mono ?_
      rintro e' w1 ⟨rfl, k1⟩
      go_wp2_with fail
      refine (hw w1 k1).mono ?_
      rintro e' w2 ⟨rfl, q, rfl⟩
      go_wp2
      go_ret
      exact ⟨rfl, k1.drewN q⟩

set_option maxRecDepth 100000 in
theorem all56_c (g : Nat) (O : Nat → Prop) (l : List Nat) (w : World) (h : CrAt w g O l) (hl : l.length ≤ 100000) :
    Calls Try.prog 56 #[pt g] w fun e' w' => ∃ v, e' = .returned v ∧ w'.ownsRow w.heap.size 47 1 v l.length (l.map pt) ∧ Kp0 w w' := by
  obtain ⟨hg, v, hB, ho, hO⟩ := h
  have hc : Calls Try.prog 76 #[v] w fun e' w' => ∃ v, e' = .returned v ∧ w'.ownsRow w.heap.size 47 1 v l.length (l.map pt) ∧ Kp0 w w' := by
    rcases own_shape ho with ⟨rfl, h0, h1⟩ | ⟨r, cap, rfl, m1, m2, m3, m4⟩
    · have : l = [] := List.eq_nil_of_length_eq_zero h0
      subst this
      exact (AnyE.slices_Clone_nil Try.clone76 0 0 w).mono (by rintro e w' ⟨rfl, rfl⟩; exact ⟨_, rfl, World.ownsRow_nil _ _ _ _, Kp.refl _ _⟩)
    · have V := Vw.of_own ho
      refine (AnyE.slices_Clone Try.clone76 (i0 := _) (z := .pointer none) (size := 1) (bytes := 8) (hi := rfl) rfl rfl rfl rfl (by omega) (fun w => Try.sizeOf47 w) r 0 l.length cap (l.map pt) w (by simp) (by unfold maxLen; omega) (by omega) (fun j u hj => by have := V j u hj; simpa using this) (fun u hu => by
        obtain ⟨x, _, rfl⟩ := List.mem_map.1 hu; rfl)).mono ?_
      rintro e w' ⟨v', rfl, ho', _, hb⟩
      exact ⟨v', rfl, ho', Kp.of_below hb⟩
  have cB := hB.cell 0
  simp at cB
  clear ho hO hB
  go_enter Try.func56, Try.ntmps56
  go_wp2_with fail
  refine hc.mono ?_
  rintro e' w1 ⟨v1, rfl, o1, k1⟩
  go_wp2
  go_ret
  exact ⟨v1, rfl, o1, k1⟩
end Go.Proofs.Ytnlkkcpcjeeplaa
