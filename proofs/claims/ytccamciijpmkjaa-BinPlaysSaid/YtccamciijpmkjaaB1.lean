/- Package bin: boxes in a row; at, All, New, Clone. -/
import Derived.Test.YtccamciijpmkjaaAp
import Derived.Test.YtccamciijpmkjaaBsh
import Derived.Lib.SliceRun
set_option linter.unusedVariables false
set_option linter.unusedSimpArgs false
namespace Go.Proofs.Ytccamciijpmkjaa
open Go.RowKit

structure Bx where
  f : ByteArray
  e : ByteArray
  n : Int
  s : Int
instance : Inhabited Bx := ⟨⟨ByteArray.empty, ByteArray.empty, 0, 0⟩⟩
def Bx.cs (x : Bx) : List Value := [.string x.f, .string x.e, .int .i64 x.n, .int .i64 x.s]
abbrev Bx.ag (x : Bx) : Value := .agg #[.string x.f, .string x.e, .int .i64 x.n, .int .i64 x.s]
abbrev pt (x : Nat) : Value := .pointer (some ⟨x, 0, none⟩)
/-- The cells of boxes. -/
def rb (l : List Bx) : List Value := l.flatMap Bx.cs
theorem rb_len (l : List Bx) : (rb l).length = l.length * 4 := by
  unfold rb
  induction l with
  | nil => rfl
  | cons x l ih => rw [List.flatMap_cons, List.length_append, ih, List.length_cons]; show 4 + _ = _; omega
theorem rb_app (l m : List Bx) : rb (l ++ m) = rb l ++ rb m := List.flatMap_append
theorem rb_take (l : List Bx) (k : Nat) (hk : k ≤ l.length) : (rb l).take (k * 4) = rb (l.take k) := by
  conv => lhs; rw [← List.take_append_drop k l, rb_app]
  have h : (rb (l.take k)).length = k * 4 := by rw [rb_len, List.length_take, Nat.min_eq_left hk]
  rw [List.take_append_of_le_length (by omega), List.take_of_length_le (by omega)]
theorem rb_drop (l : List Bx) (k : Nat) (hk : k ≤ l.length) : (rb l).drop (k * 4) = rb (l.drop k) := by
  conv => lhs; rw [← List.take_append_drop k l, rb_app]
  have h : (rb (l.take k)).length = k * 4 := by rw [rb_len, List.length_take, Nat.min_eq_left hk]
  rw [← h, List.drop_left]
theorem rb_at (l : List Bx) (k j : Nat) (hk : k < l.length) (hj : j < 4) : (rb l)[k * 4 + j]? = (l[k]).cs[j]? := by
  rw [← List.getElem?_drop, rb_drop l k (by omega), List.drop_eq_getElem_cons hk]
  show ((l[k]).cs ++ rb (l.drop (k + 1)))[j]? = _
  rw [List.getElem?_append_left (by show j < 4; exact hj)]
theorem cs_one (x : Bx) : ∀ v ∈ x.cs, v.oneCell' = true := by
  intro v hv
  unfold Bx.cs at hv
  simp at hv
  rcases hv with rfl | rfl | rfl | rfl <;> rfl
theorem rb_one {l : List Bx} (u : Value) (hu : u ∈ rb l) : u.oneCell' = true := by
  unfold rb at hu
  rw [List.mem_flatMap] at hu
  obtain ⟨x, _, hu⟩ := hu
  exact cs_one x u hu

/-- A bin at g: boxes, in a row of its own; O: the blocks that are the bin's. -/
def BinAt (w : World) (g : Nat) (O : Nat → Prop) (l : List Bx) : Prop :=
  O g ∧ ∃ v, Blk w g #[v] 82 ∧ w.ownsRow 0 63 4 v l.length (rb l) ∧ ∀ i, v.ownBlock = some i → O i ∧ i ≠ g
theorem BinAt.kp {S : Nat → Prop} {w w' : World} {g : Nat} {O : Nat → Prop} {l : List Bx} (h : BinAt w g O l) (k : Kp S w w') (hn : ∀ i, O i → ¬ S i) : BinAt w' g O l := by
  obtain ⟨hg, v, hB, ho, hO⟩ := h
  exact ⟨hg, v, hB.kp k (hn g hg), own_kp ho k (fun i hi => hn i (hO i hi).1), hO⟩
theorem BinAt.lt {w : World} {g : Nat} {O : Nat → Prop} {l : List Bx} (h : BinAt w g O l) : g < w.heap.size := by
  obtain ⟨_, v, hB, _⟩ := h
  exact hB.lt
theorem bin_new_c (w : World) : Calls Try.prog 35 #[] w fun e w' => e = .returned (pt w.heap.size) ∧ BinAt w' w.heap.size (· = w.heap.size) [] ∧ Kp0 w w' := by
  go_enter Try.func35, Try.ntmps35
  go_wp2
  go_ret
  exact ⟨rfl, ⟨rfl, _, Blk.new _ _ _, World.ownsRow_nil _ _ _ _, fun i hi => by simp [Value.ownBlock] at hi⟩, (Kp.refl _ _).alloc _⟩

theorem tl_beq (p q : ByteArray) : (p.toList == q.toList) = decide (p = q) := by
  by_cases h : p = q
  · subst h; simp
  · rw [decide_eq_false h, beq_eq_false_iff_ne]
    intro e
    rw [ByteArray.toList_eq, ByteArray.toList_eq] at e
    exact h (ByteArray.ext (Array.toList_inj.mp e))
/-- Is it the box of that run? -/
def isB (f e : ByteArray) (n : Int) (x : Bx) : Bool := decide (x.f = f) && decide (x.e = e) && (x.n == n)

set_option maxRecDepth 100000 in
theorem at74_c (bf be bn : Nat) (f e : ByteArray) (n : Int) (x : Bx) (w : World) (hf : w.cell? ⟨bf, 0, none⟩ = some (.string f)) (he : w.cell? ⟨be, 0, none⟩ = some (.string e)) (hn : w.cell? ⟨bn, 0, none⟩ = some (.int .i64 n)) :
    Calls Try.prog 74 #[x.ag, pt bf, pt be, pt bn] w fun e' w' => e' = .returned (.bool (isB f e n x)) ∧ Kp0 w w' := by
  have ka : Kp0 w (w.alloc (.cells #[.string x.f, .string x.e, .int .i64 x.n, .int .i64 x.s] 63)) := (Kp.refl _ _).alloc _
  have c1 := World.block_lt_of_cell? w ⟨bf, 0, none⟩ hf
  have c2 := World.block_lt_of_cell? w ⟨be, 0, none⟩ he
  have c3 := World.block_lt_of_cell? w ⟨bn, 0, none⟩ hn
  have e1 := tl_beq x.f f
  have e2 := tl_beq x.e e
  have hi : isB f e n x = (decide (x.f = f) && decide (x.e = e) && (x.n == n)) := rfl
  rw [hi]
  generalize decide (x.f = f) = d1 at *
  generalize decide (x.e = e) = d2 at *
  clear hi
  cases d1 with
  | true =>
    cases d2 with
    | true =>
      simp only [Bool.true_and]
      go_enter Try.func74, Try.ntmps74
      go_wp2
      go_ret
      exact ⟨rfl, ka⟩
    | false =>
      simp only [Bool.true_and, Bool.false_and]
      go_enter Try.func74, Try.ntmps74
      go_wp2
      go_ret
      exact ⟨rfl, ka⟩
  | false =>
    simp only [Bool.false_and]
    go_enter Try.func74, Try.ntmps74
    go_wp2
    go_ret
    exact ⟨rfl, ka⟩

/-- The place of the first that is meant, or -1. -/
def idx (l : List Bx) (p : Bx → Bool) : Int := match l.findIdx? p with | some i => (i : Int) | none => -1
theorem idxBy_find {α : Type} (q : α → Bool) (x : α) : ∀ (zs : List α) (i : Nat), Lib.idxByFrom (fun _ y => q y) x zs i = match zs.findIdx? q with | some k => ((i + k : Nat) : Int) | none => -1
  | [], i => rfl
  | y :: r, i => by
    unfold Lib.idxByFrom
    rw [List.findIdx?_cons, idxBy_find q x r (i + 1)]
    cases q y with
    | true => simp
    | false =>
      cases r.findIdx? q with
      | none => simp
      | some k => show ((i + 1 + k : Nat) : Int) = ((i + (k + 1) : Nat) : Int); omega
theorem idx_lib (l : List Bx) (p : Bx → Bool) : Lib.idxBy (fun _ y => p y) l default = idx l p := by
  unfold Lib.idxBy idx
  rw [idxBy_find p]
  simp only [Nat.zero_add]
theorem own_cells {w : World} {b n g cap : Nat} {l : List Bx} (h : w.ownsRow b 63 4 (.slice (some ⟨g, 0, none⟩) n cap) n (rb l)) (hn : n = l.length) (j : Nat) (hj : j < l.length) : ∀ i v, (l[j]).cs[i]? = some v → w.cell? ⟨g, 0 + j * 4 + i, none⟩ = some v := fun i v hv => by
  have hi : i < 4 := (List.getElem?_eq_some_iff.1 hv).1
  have V := Vw.of_own h
  have := V (j * 4 + i) v (by rw [rb_at l j i hj hi]; exact hv)
  rwa [Nat.zero_add] at this ⊢

set_option maxRecDepth 100000 in
theorem idx73_none (A : Option Addr) (cap : Nat) (fv : Value) (w : World) : Calls Try.prog 73 #[.slice A 0 cap, fv] w fun e' w' => e' = .returned (.int .i64 (-1)) ∧ w' = w := by
  go_enter Try.func73, Try.ntmps73
  go_wp2
  go_loopw [8] (fun s8 wr => s8 = .int .i64 0 ∧ wr = w) (fun _ _ => 0)
  case atStart => exact ⟨rfl, rfl⟩
  case round =>
    obtain ⟨rfl, rfl⟩ := hrel
    go_wp2
    go_ret
    exact ⟨rfl, rfl⟩
set_option maxRecDepth 100000 in
/-- IndexFunc over boxes, whatever the closure. -/
theorem idx73_c (G : Nat) (lb : Array Value) (eg : ∀ args w, (callFunc G args).run Try.prog w = .ok (.enter G args) w) (v : Value) (l : List Bx) (p : Bx → Bool) (w : World) (ho : w.ownsRow 0 63 4 v l.length (rb l)) (hl : l.length ≤ 100000)
    (hp : ∀ W x, Kp0 w W → Calls Try.prog G (#[x.ag] ++ lb) W fun e' w' => e' = .returned (.bool (p x)) ∧ Kp0 W w') :
    Calls Try.prog 73 #[v, .func (.func G) #[] lb] w fun e' w' => e' = .returned (.int .i64 (idx l p)) ∧ Kp0 w w' := by
  cases l with
  | nil =>
    rcases own_shape ho with ⟨rfl, h0, h1⟩ | ⟨r, cap, rfl, m1, m2, m3, m4⟩
    · exact (idx73_none none 0 _ w).mono (by rintro e w' ⟨rfl, rfl⟩; exact ⟨rfl, Kp.refl _ _⟩)
    · exact (idx73_none (some ⟨r, 0, none⟩) cap _ w).mono (by rintro e w' ⟨rfl, rfl⟩; exact ⟨rfl, Kp.refl _ _⟩)
  | cons d l' =>
    rcases own_shape ho with ⟨_, h0, h1⟩ | ⟨r, cap, rfl, m1, m2, m3, m4⟩
    · cases h0
    have key := AnyQ.slices_IndexFunc Try.idxf73 4 (fun w => Try.isAgg63 w) (fun w => Try.sizeOf63 w) Bx.cs (fun _ => rfl) p G lb eg r 0 (d :: l').length cap (d :: l') w
      (fun W x hb => (hp W x (Kp.of_below hb)).mono fun e w' h => ⟨h.1, hb.trans (h.2.below hb.size (fun _ _ x => x))⟩) (Nat.le_refl _) (by omega) m3 (fun j hj i v hv => by
        rw [getElem!_pos (d :: l') j hj] at hv
        exact own_cells ho rfl j hj i v hv)
    refine Calls.mono key ?_
    rintro e' w' ⟨rfl, hb⟩
    refine ⟨?_, Kp.of_below hb⟩
    rw [List.take_length, idx_lib]

set_option maxRecDepth 100000 in
theorem at60_c (g : Nat) (O : Nat → Prop) (l : List Bx) (f e : ByteArray) (n : Int) (w : World) (h : BinAt w g O l) (hl : l.length ≤ 100000) :
    Calls Try.prog 60 #[pt g, .string f, .string e, .int .i64 n] w fun e' w' => e' = .returned (.int .i64 (idx l (isB f e n))) ∧ Kp0 w w' := by
  obtain ⟨hg, v, hB, ho, hO⟩ := h
  have k1 : Kp0 w (w.alloc (.cells #[.string f] 9)) := (Kp.refl _ _).alloc _
  have k2 : Kp0 (w.alloc (.cells #[.string f] 9)) ((w.alloc (.cells #[.string f] 9)).alloc (.cells #[.string e] 9)) := (Kp.refl _ _).alloc _
  have k3 : Kp0 ((w.alloc (.cells #[.string f] 9)).alloc (.cells #[.string e] 9)) (((w.alloc (.cells #[.string f] 9)).alloc (.cells #[.string e] 9)).alloc (.cells #[.int .i64 n] 3)) := (Kp.refl _ _).alloc _
  have F1 : Blk (w.alloc (.cells #[.string f] 9)) w.heap.size #[.string f] 9 := blk_new _ _ rfl
  have F2 : Blk ((w.alloc (.cells #[.string f] 9)).alloc (.cells #[.string e] 9)) (w.heap.size + 1) #[.string e] 9 := blk_new _ _ (by simp)
  have F3 : Blk (((w.alloc (.cells #[.string f] 9)).alloc (.cells #[.string e] 9)).alloc (.cells #[.int .i64 n] 3)) (w.heap.size + 1 + 1) #[.int .i64 n] 3 := blk_new _ _ (by simp)
  have F1 := (F1.kp0 k2).kp0 k3
  have F2 := F2.kp0 k3
  have K := (k1.then0 k2).then0 k3
  have B3 := hB.kp0 K
  have o3 := own_kp ho K (fun _ _ x => x)
  generalize hW : ((w.alloc (.cells #[.string f] 9)).alloc (.cells #[.string e] 9)).alloc (.cells #[.int .i64 n] 3) = W at *
  have hi := idx73_c 74 #[pt w.heap.size, pt (w.heap.size + 1), pt (w.heap.size + 1 + 1)] (enters_of Try.func74 (by kernel_rfl) rfl) v l (isB f e n) W o3 hl (fun W' x kb => by
    have c1 := (F1.kp0 kb).cell 0
    have c2 := (F2.kp0 kb).cell 0
    have c3 := (F3.kp0 kb).cell 0
    exact at74_c w.heap.size (w.heap.size + 1) (w.heap.size + 1 + 1) f e n x W' (by simpa using c1) (by simpa using c2) (by simpa using c3))
  have cB := B3.cell 0
  simp at cB
  generalize idx l (isB f e n) = res at hi ⊢
  have hW' := Lib.hid hW
  clear hB ho o3 F1 F2 F3 k1 k2 k3 hW B3
  go_enter Try.func60, Try.ntmps60
  have hW := hW'.out
  go_wp2_with fail
  refine hi.mono ?_
  rintro e' w' ⟨rfl, k4⟩
  go_wp2
  go_ret
  exact ⟨rfl, K.then0 k4⟩

set_option maxRecDepth 100000 in
theorem all37_c (g : Nat) (O : Nat → Prop) (l : List Bx) (w : World) (h : BinAt w g O l) (hl : l.length ≤ 100000) :
    Calls Try.prog 37 #[pt g] w fun e' w' => ∃ v, e' = .returned v ∧ w'.ownsRow w.heap.size 63 4 v l.length (rb l) ∧ Kp0 w w' := by
  obtain ⟨hg, v, hB, ho, hO⟩ := h
  have hc : Calls Try.prog 64 #[v] w fun e' w' => ∃ v, e' = .returned v ∧ w'.ownsRow w.heap.size 63 4 v l.length (rb l) ∧ Kp0 w w' := by
    rcases own_shape ho with ⟨rfl, h0, h1⟩ | ⟨r, cap, rfl, m1, m2, m3, m4⟩
    · have : l = [] := List.eq_nil_of_length_eq_zero h0
      subst this
      exact (AnyE.slices_Clone_nil Try.clone64 0 0 w).mono (by rintro e w' ⟨rfl, rfl⟩; exact ⟨_, rfl, World.ownsRow_nil _ _ _ _, Kp.refl _ _⟩)
    · have V := Vw.of_own ho
      refine (AnyE.slices_Clone Try.clone64 (i0 := _) (z := .agg #[.string ByteArray.empty, .string ByteArray.empty, .int .i64 0, .int .i64 0]) (size := 4) (bytes := 48) (hi := rfl) rfl rfl rfl rfl (by omega) (fun w => Try.sizeOf63 w) r 0 l.length cap (rb l) w (rb_len l) (by unfold maxLen; omega) (by omega) (fun j u hj => by have := V j u hj; simpa using this) (fun u hu => rb_one u hu)).mono ?_
      rintro e w' ⟨v', rfl, ho', _, hb⟩
      exact ⟨v', rfl, ho', Kp.of_below hb⟩
  have cB := hB.cell 0
  simp at cB
  clear ho hO hB
  go_enter Try.func37, Try.ntmps37
  go_wp2_with fail
  refine hc.mono ?_
  rintro e' w1 ⟨v1, rfl, o1, k1⟩
  go_wp2
  go_ret
  exact ⟨v1, rfl, o1, k1⟩
theorem own_base {w : World} {b e size n : Nat} {v : Value} {xs : List Value} (h : w.ownsRow b e size v n xs) : w.ownsRow 0 e size v n xs := by
  obtain ⟨h1, h2 | ⟨g, cap, cur, e', h6, h3⟩⟩ := h
  · exact ⟨h1, .inl h2⟩
  · exact ⟨h1, .inr ⟨g, cap, cur, e', Nat.zero_le _, h3⟩⟩
set_option maxRecDepth 100000 in
theorem clone40_c (g : Nat) (O : Nat → Prop) (l : List Bx) (w : World) (h : BinAt w g O l) (hl : l.length ≤ 100000) :
    Calls Try.prog 40 #[pt g] w fun e' w' => ∃ g' O', e' = .returned (pt g') ∧ w.heap.size ≤ g' ∧ BinAt w' g' O' l ∧ Kp0 w w' ∧ ∀ i, O' i → w.heap.size ≤ i ∧ i < w'.heap.size := by
  have hA := all37_c g O l w h hl
  clear h
  go_enter Try.func40, Try.ntmps40
  go_wp2_with fail
  refine hA.mono ?_
  rintro e' w1 ⟨v1, rfl, o1, k1⟩
  obtain ⟨A1, cp1, rfl⟩ : ∃ A c, v1 = .slice A l.length c := by
    rcases own_shape o1 with ⟨e, e0, _⟩ | ⟨_, _, e, _⟩
    · exact ⟨none, 0, by rw [e, e0]⟩
    · exact ⟨_, _, e⟩
  obtain ⟨v1, hv1⟩ : ∃ v, Value.slice A1 l.length cp1 = v := ⟨_, rfl⟩
  rw [hv1] at o1
  have ka : Kp0 w1 (w1.alloc (.cells #[v1] 82)) := (Kp.refl _ _).alloc _
  have B : Blk (w1.alloc (.cells #[v1] 82)) w1.heap.size #[v1] 82 := blk_new _ _ rfl
  have o2 := own_kp (own_base o1) ka (fun _ _ x => x)
  have hs := k1.size
  have hlt := o1.lt
  rw [← hv1] at B ka o2 hlt
  clear hA hv1 o1
  go_wp2
  go_ret
  refine ⟨w1.heap.size, fun i => i = w1.heap.size ∨ (Value.slice A1 l.length cp1).ownBlock = some i, rfl, hs, ⟨.inl rfl, _, B, o2, fun i hi => ⟨.inr hi, ?_⟩⟩, k1.then0 ka, fun i hi => ?_⟩
  · have := (hlt i hi).2; omega
  · have hb := B.lt
    rcases hi with rfl | hi
    · exact ⟨hs, hb⟩
    · have := hlt i hi; omega
end Go.Proofs.Ytccamciijpmkjaa
