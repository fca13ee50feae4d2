/- Ga Gb Gc Gd Ge Gf Gg Gh Gi Gj Gk Gl Gm Gq Ha Hb Gr, in one text. -/
import Derived.Test.YtkokgbmeienokaaFc
import Derived.Test.YtkokgbmeienokaaDs
import Derived.Test.YtkokgbmeienokaaEu
import Derived.Test.YtkokgbmeienokaaEp
import Derived.Test.YtkokgbmeienokaaRl
set_option linter.unusedVariables false
set_option linter.unusedSimpArgs false
set_option linter.unnecessarySimpa false
namespace Go.Proofs.Ytkokgbmeienokaa
section

open Go.RowKit

abbrev ptr (x : Nat) : Value := .pointer (some ⟨x, 0, none⟩)
/-- A file of the reference's, with its bytes' slice. -/
structure Rf where
  p : ByteArray
  A : Option Addr
  c : Nat
  b : List Int
  sy : Nat
  fm : Bool
def Rf.cs (f : Rf) : List Value := [.string f.p, .slice f.A f.b.length f.c, .int .i64 (f.sy : Int), .bool f.fm]
abbrev Rf.ag (f : Rf) : Value := .agg #[.string f.p, .slice f.A f.b.length f.c, .int .i64 (f.sy : Int), .bool f.fm]
def Rf.st (f : Rf) : ByteArray × Fi := (f.p, ⟨f.b, f.sy, f.fm⟩)
def rfs (l : List Rf) : List Value := l.flatMap Rf.cs
theorem rfs_len (l : List Rf) : (rfs l).length = l.length * 4 := by
  unfold rfs
  induction l with
  | nil => rfl
  | cons x l ih => rw [List.flatMap_cons, List.length_append, ih, List.length_cons]; show 4 + _ = _; omega
theorem rfs_app (l m : List Rf) : rfs (l ++ m) = rfs l ++ rfs m := List.flatMap_append
theorem rfs_drop (l : List Rf) (k : Nat) (hk : k ≤ l.length) : (rfs l).drop (k * 4) = rfs (l.drop k) := by
  conv => lhs; rw [← List.take_append_drop k l, rfs_app]
  have h : (rfs (l.take k)).length = k * 4 := by rw [rfs_len, List.length_take, Nat.min_eq_left hk]
  rw [← h, List.drop_left]
theorem rfs_at (l : List Rf) (k j : Nat) (hk : k < l.length) (hj : j < 4) : (rfs l)[k * 4 + j]? = (l[k]).cs[j]? := by
  rw [← List.getElem?_drop, rfs_drop l k (by omega), List.drop_eq_getElem_cons hk]
  show ((l[k]).cs ++ rfs (l.drop (k + 1)))[j]? = _
  rw [List.getElem?_append_left (by show j < 4; exact hj)]
theorem cs_one (x : Rf) : ∀ v ∈ x.cs, v.oneCell' = true := by
  intro v hv
  unfold Rf.cs at hv
  simp at hv
  rcases hv with rfl | rfl | rfl | rfl <;> rfl
theorem rf_one {l : List Rf} (u : Value) (hu : u ∈ rfs l) : u.oneCell' = true := by
  unfold rfs at hu
  rw [List.mem_flatMap] at hu
  obtain ⟨x, _, hu⟩ := hu
  exact cs_one x u hu
theorem als_st (fs : List Rf) : als (fs.map Rf.st) = (fs.map (fun f => f.b.length)).sum := by
  unfold als
  rw [List.map_map]
  rfl

def FOk (w : World) (f : Rf) : Prop := Bz w f.A f.c f.b ∧ f.b.length ≤ f.c ∧ f.c ≤ 9223372036854775807 ∧ f.sy ≤ f.b.length
structure RdIn (w : World) (g : Nat) (O : Nat → Prop) (v : Value) (fs : List Rf) (q : Nat) (dead arm : Bool) (n : Int) : Prop where
  cell : Blk w g #[v, .int .i64 (q : Int), .bool dead, .bool arm, .int .i64 n] 104
  ow : w.ownsRow 0 106 4 v fs.length (rfs fs)
  ok : ∀ f ∈ fs, FOk w f
  bo : ∀ f ∈ fs, f.b ≠ [] → ∀ a, f.A = some a → O a.block ∧ a.block ≠ g ∧ v.ownBlock ≠ some a.block
  og : O g
  ov : ∀ i, v.ownBlock = some i → O i ∧ i ≠ g
  lt : ∀ i, O i → i < w.heap.size
  us : als (fs.map Rf.st) ≤ 65536
  qu : q ≤ 65536
  ln : fs.length ≤ 1000
  nn : -1000000 ≤ n ∧ n ≤ 1000000
/-- The reference's plain disk. -/
structure Rk where
  L : Fl
  q : Nat
  dead : Bool
  arm : Bool
  n : Int
def RdAt (w : World) (g : Nat) (O : Nat → Prop) (r : Rk) : Prop := ∃ v fs, RdIn w g O v fs r.q r.dead r.arm r.n ∧ fs.map Rf.st = r.L

theorem FOk.kp {S : Nat → Prop} {w w' : World} {f : Rf} (h : FOk w f) (k : Kp S w w') (hn : f.b ≠ [] → ∀ a, f.A = some a → ¬ S a.block) : FOk w' f := ⟨h.1.kp k hn, h.2⟩
theorem FOk.kp0 {w w' : World} {f : Rf} (h : FOk w f) (k : Kp0 w w') : FOk w' f := ⟨h.1.kp0 k, h.2⟩
theorem RdIn.kp {S : Nat → Prop} {w w' : World} {g : Nat} {O : Nat → Prop} {v : Value} {fs : List Rf} {q : Nat} {dead arm : Bool} {n : Int} (h : RdIn w g O v fs q dead arm n) (k : Kp S w w') (hn : ∀ i, O i → ¬ S i) : RdIn w' g O v fs q dead arm n :=
  ⟨h.cell.kp k (hn _ h.og), own_kp h.ow k (fun i hi => hn i (h.ov i hi).1), fun f hf => (h.ok f hf).kp k (fun hz a ha => hn _ (h.bo f hf hz a ha).1), h.bo, h.og, h.ov, fun i hi => Nat.lt_of_lt_of_le (h.lt i hi) k.size, h.us, h.qu, h.ln, h.nn⟩
theorem RdIn.kp0 {w w' : World} {g : Nat} {O : Nat → Prop} {v : Value} {fs : List Rf} {q : Nat} {dead arm : Bool} {n : Int} (h : RdIn w g O v fs q dead arm n) (k : Kp0 w w') : RdIn w' g O v fs q dead arm n := h.kp k (fun _ _ x => x)
theorem RdAt.kp {S : Nat → Prop} {w w' : World} {g : Nat} {O : Nat → Prop} {r : Rk} (h : RdAt w g O r) (k : Kp S w w') (hn : ∀ i, O i → ¬ S i) : RdAt w' g O r := by
  obtain ⟨v, fs, h, e⟩ := h
  exact ⟨v, fs, h.kp k hn, e⟩
theorem RdAt.kp0 {w w' : World} {g : Nat} {O : Nat → Prop} {r : Rk} (h : RdAt w g O r) (k : Kp0 w w') : RdAt w' g O r := h.kp k (fun _ _ x => x)
theorem RdAt.olt {w : World} {g : Nat} {O : Nat → Prop} {r : Rk} (h : RdAt w g O r) : ∀ i, O i → i < w.heap.size := by
  obtain ⟨v, fs, h, _⟩ := h
  exact h.lt
/-- The disk's own cells turned. -/
theorem RdIn.setg {w w' : World} {g : Nat} {O : Nat → Prop} {v : Value} {fs : List Rf} {q : Nat} {dead arm dead' arm' : Bool} {n n' : Int} (h : RdIn w g O v fs q dead arm n) (k : Kp (· = g) w w')
    (hc : Blk w' g #[v, .int .i64 (q : Int), .bool dead', .bool arm', .int .i64 n'] 104) (hn : -1000000 ≤ n' ∧ n' ≤ 1000000) : RdIn w' g O v fs q dead' arm' n' :=
  ⟨hc, own_kp h.ow k (fun i hi => (h.ov i hi).2), fun f hf => (h.ok f hf).kp k (fun hz a ha => (h.bo f hf hz a ha).2.1), h.bo, h.og, h.ov, fun i hi => Nat.lt_of_lt_of_le (h.lt i hi) k.size, h.us, h.qu, h.ln, hn⟩

/-- A row of files. -/
theorem rf_row {w : World} {b : Nat} {v : Value} {l : List Rf} (h : w.ownsRow b 106 4 v l.length (rfs l)) : ∃ A c, v = .slice A l.length c ∧ l.length ≤ c ∧ c ≤ 9223372036854775807 ∧ ∀ k (hk : k < l.length), ∃ g, A = some ⟨g, 0, none⟩ ∧ g < w.heap.size ∧ ∀ W, Kp0 w W →
    W.cell? ⟨g, k * 4, none⟩ = some (.string (l[k]).p) ∧ W.cell? ⟨g, k * 4 + 1, none⟩ = some (.slice (l[k]).A (l[k]).b.length (l[k]).c) ∧ W.cell? ⟨g, k * 4 + 2, none⟩ = some (.int .i64 ((l[k]).sy : Int)) ∧ W.cell? ⟨g, k * 4 + 3, none⟩ = some (.bool (l[k]).fm) := by
  rcases own_shape h with ⟨e, e0, _⟩ | ⟨g, cap, rfl, m1, m2, m3, m4⟩
  · exact ⟨none, 0, by rw [e, e0], by omega, by omega, fun k hk => by omega⟩
  · refine ⟨_, cap, rfl, m1, m2, fun k hk => ⟨g, rfl, m3, fun W kk => ?_⟩⟩
    have hh : ∀ j (hj : j < 4), W.cell? ⟨g, k * 4 + j, none⟩ = (l[k]).cs[j]? := fun j hj => by
      have e1 := m4 (k * 4 + j) (by omega)
      rw [rfs_at l k j hk hj] at e1
      have e2 : (l[k]).cs[j]? = some ((l[k]).cs[j]'(by show j < 4; exact hj)) := List.getElem?_eq_getElem _
      rw [e2] at e1 ⊢
      have e := kk.block g m3 (fun x => x)
      rw [← e1]
      simp only [World.cell?, e]
    exact ⟨hh 0 (by omega), hh 1 (by omega), hh 2 (by omega), hh 3 (by omega)⟩

theorem new38_c (q : Int) (w : World) :
    Calls Try.prog 38 #[.int .i64 q] w fun e w' => e = .returned (ptr w.heap.size) ∧ RdAt w' w.heap.size (· = w.heap.size) ⟨[], (if q < 0 then 0 else if 65536 < q then 65536 else q.toNat), false, false, 0⟩ ∧ Kp0 w w' := by
  obtain ⟨Q, hQ⟩ : ∃ Q : Nat, (if q < 0 then 0 else if 65536 < q then 65536 else q.toNat) = Q := ⟨_, rfl⟩
  rw [hQ]
  have hQ1 : (if q < 0 then (0 : Int) else if 65536 < q then 65536 else q) = (Q : Int) ∧ Q ≤ 65536 := by
    split at hQ
    · rename_i h; rw [if_pos h]; omega
    · rename_i h
      rw [if_neg h]
      split at hQ
      · rename_i h2; rw [if_pos h2]; omega
      · rename_i h2; rw [if_neg h2]; omega
  have R : RdAt (w.alloc (.cells #[.slice none 0 0, .int .i64 (Q : Int), .bool false, .bool false, .int .i64 0] 104)) w.heap.size (· = w.heap.size) ⟨[], Q, false, false, 0⟩ :=
    ⟨_, [], ⟨Blk.new _ _ _, World.ownsRow_nil _ _ _ _, fun f hf => by simp at hf, fun f hf => by simp at hf, rfl, fun i hi => by simp [Value.ownBlock] at hi, fun i e => by subst e; simp, by simp [als], hQ1.2, by simp, (show (-1000000 : Int) ≤ 0 ∧ (0 : Int) ≤ 1000000 by decide)⟩, rfl⟩
  have HR := Lib.hid R
  have HQ := Lib.hid (show min (max q 0) 65536 = (Q : Int) by
    have := hQ1.1
    split at this
    · omega
    · split at this <;> omega)
  clear R hQ1 hQ
  go_enter Try.func38, Try.ntmps38
  go_wp2
  go_ret
  rw [HQ.out]
  exact ⟨rfl, HR.out, (Kp.refl _ _).alloc _⟩

set_option maxRecDepth 100000 in
theorem used78_c (g : Nat) (O : Nat → Prop) (r : Rk) (w : World) (h : RdAt w g O r) :
    Calls Try.prog 78 #[ptr g] w fun e w' => e = .returned (.int .i64 (als r.L : Nat)) ∧ Kp0 w w' := by
  obtain ⟨v, fs, I, hL⟩ := h
  have hu := I.us
  rw [← hL, als_st]
  rw [als_st] at hu
  obtain ⟨A, c, rfl, m1, m2, hrow⟩ := rf_row I.ow
  have H := Lib.hid hrow
  have cB := I.cell.cell 0
  simp at cB
  have hln := I.ln
  clear hrow I hL
  have hs : ∀ k (hk : k < fs.length), ((fs.take (k + 1)).map (fun f => f.b.length)).sum = ((fs.take k).map (fun f => f.b.length)).sum + fs[k].b.length := fun k hk => by
    rw [List.take_add_one, List.getElem?_eq_getElem hk, List.map_append, List.sum_append]
    simp
  have hle : ∀ k, ((fs.take k).map (fun f => f.b.length)).sum ≤ (fs.map (fun f => f.b.length)).sum := fun k => by
    conv => rhs; rw [← List.take_append_drop k fs]
    rw [List.map_append, List.sum_append]
    omega
  have HS := Lib.hid hs
  have HLE := Lib.hid hle
  clear hs hle
  generalize hT : (fs.map (fun f => f.b.length)).sum = T at hu HLE ⊢
  have HT := Lib.hid hT
  clear hT
  go_enter Try.func78, Try.ntmps78
  go_wp2_with fail
  clear cB
  go_loopw [3, 11] (fun s3 s11 wr => ∃ k : Nat, k ≤ fs.length ∧ s11 = .int .i64 (k : Nat) ∧ s3 = .int .i64 ((((fs.take k).map (fun f => f.b.length)).sum : Nat)) ∧ Kp0 w wr) (fun _ s11 _ => (fs.length - intOf s11).toNat)
  case atStart => exact ⟨0, by omega, rfl, rfl, Kp.refl _ _⟩
  case round =>
    obtain ⟨k, hk, rfl, rfl, kx⟩ := hrel
    by_cases hkl : k < fs.length
    · obtain ⟨b, rfl, _, hc⟩ := H.out k hkl
      obtain ⟨c0, c1, c2, c3⟩ := hc _ kx
      have hkl' : (k : Int) < (fs.length : Int) ∧ (0 : Int) ≤ (k : Int) := by omega
      have h1 := HS.out k hkl
      have h2 := HLE.out (k + 1)
      rw [h1] at h2
      have H1 := Lib.hid h1
      clear hc h1
      generalize ((fs.take k).map (fun f => f.b.length)).sum = s at *
      generalize fs[k].b.length = bl at *
      generalize fs[k].p = fp at *
      generalize fs[k].A = fA at *
      generalize fs[k].c = fc at *
      generalize fs[k].sy = fy at *
      generalize fs[k].fm = ff at *
      go_wp2_with fail
      go_roundw
      case rel => exact ⟨k + 1, by omega, by go_num, by rw [H1.out]; go_num, kx.alloc _⟩
      case measure => simp [intOf]; omega
    · obtain rfl : k = fs.length := by omega
      rw [List.take_length, HT.out]
      go_wp2
      go_ret
      exact ⟨rfl, kx⟩

/-- The place of a file, or -1. -/
def idf (fs : List Rf) (p : ByteArray) : Int := match fs.findIdx? (fun f => decide (f.p = p)) with | some i => (i : Int) | none => -1
theorem tl_beq (p q : ByteArray) : (p.toList == q.toList) = decide (p = q) := by
  by_cases h : p = q
  · subst h; simp
  · rw [decide_eq_false h, beq_eq_false_iff_ne]
    intro e
    rw [ByteArray.toList_eq, ByteArray.toList_eq] at e
    exact h (ByteArray.ext (Array.toList_inj.mp e))

set_option maxRecDepth 100000 in
theorem at80_i {w : World} {g : Nat} {O : Nat → Prop} {v : Value} {fs : List Rf} {q : Nat} {dead arm : Bool} {n : Int} (I : RdIn w g O v fs q dead arm n) (p : ByteArray) :
    Calls Try.prog 80 #[ptr g, .string p] w fun e w' => e = .returned (.int .i64 (idf fs p)) ∧ w = w' := by
  obtain ⟨A, c, rfl, m1, m2, hrow⟩ := rf_row I.ow
  have H := Lib.hid hrow
  have cB := I.cell.cell 0
  simp at cB
  have hln := I.ln
  clear hrow I
  obtain ⟨z, hz⟩ : ∃ z, idf fs p = z := ⟨_, rfl⟩
  rw [hz]
  have HZ := Lib.hid hz
  clear hz
  go_enter Try.func80, Try.ntmps80
  go_wp2_with fail
  go_loopw [11] (fun s11 wr => ∃ k : Nat, k ≤ fs.length ∧ s11 = .int .i64 (k : Nat) ∧ (∀ j (hj : j < k) (hl : j < fs.length), decide (fs[j].p = p) = false) ∧ w = wr) (fun s11 _ => (fs.length - intOf s11).toNat)
  case atStart => exact ⟨0, by omega, rfl, fun j hj => by omega, rfl⟩
  case round =>
    obtain ⟨k, hk, rfl, hno, rfl⟩ := hrel
    have HN := Lib.hid hno
    clear hno
    by_cases hkl : k < fs.length
    · obtain ⟨b, rfl, _, hc⟩ := H.out k hkl
      obtain ⟨c0, _, _, _⟩ := hc _ (Kp.refl _ _)
      have hkl' : (k : Int) < (fs.length : Int) ∧ (0 : Int) ≤ (k : Int) := by omega
      have e1 := tl_beq fs[k].p p
      have hstep : decide (fs[k].p = p) = false → ∀ j (hj : j < k + 1) (hl : j < fs.length), decide (fs[j].p = p) = false := fun hf j hj hl => by
        by_cases e : j = k
        · subst e; exact hf
        · exact HN.out j (by omega) hl
      have hfound : decide (fs[k].p = p) = true → z = (k : Int) := fun hf => by
        rw [← HZ.out]
        unfold idf
        have : fs.findIdx? (fun f => decide (f.p = p)) = some k := by
          rw [List.findIdx?_eq_some_iff_getElem]
          exact ⟨hkl, hf, fun j hj => by have := HN.out j hj (by omega); simp only [Bool.not_eq_true]; exact this⟩
        rw [this]
      have HS := Lib.hid hstep
      have HF := Lib.hid hfound
      clear hstep hfound hc
      generalize decide (fs[k].p = p) = d at e1 HS HF
      generalize fs[k].p = fp at c0 e1
      cases d with
      | true =>
        obtain rfl := HF.out rfl
        go_wp2
        go_ret
        exact ⟨rfl, rfl⟩
      | false =>
        go_wp2_with fail
        go_roundw
        case rel => exact ⟨k + 1, by omega, by go_num, HS.out rfl, trivial⟩
        case measure => simp [intOf]; omega
    · obtain rfl : k = fs.length := by omega
      have : z = -1 := by
        rw [← HZ.out]
        unfold idf
        have : fs.findIdx? (fun f => decide (f.p = p)) = none := by
          rw [List.findIdx?_eq_none_iff]
          intro x hx
          obtain ⟨j, hj, rfl⟩ := List.getElem_of_mem hx
          exact HN.out j hj hj
        rw [this]
      subst this
      go_wp2
      go_ret
      exact ⟨rfl, rfl⟩

def Rk.stop (r : Rk) : Bool × Rk := if r.arm = true ∧ r.n = 0 then (true, { r with dead := true }) else (false, { r with n := r.n - 1 })
set_option maxRecDepth 100000 in
theorem stops79_c (g : Nat) (O : Nat → Prop) (r : Rk) (w : World) (h : RdAt w g O r) (hn : -999999 ≤ r.n) :
    Calls Try.prog 79 #[ptr g] w fun e w' => e = .returned (.bool r.stop.1) ∧ RdAt w' g O r.stop.2 ∧ Kp (· = g) w w' := by
  obtain ⟨v, fs, I, hL⟩ := h
  have nn := I.nn
  have c3 := I.cell.cell 3
  have c4 := I.cell.cell 4
  have f2 := I.cell.free 2
  have f4 := I.cell.free 4
  have c2 := I.cell.cell 2
  simp at c2 c3 c4
  have hD : RdAt (w.setCell ⟨g, 2, none⟩ (.bool true)) g O { r with dead := true } := ⟨v, fs, I.setg ((Kp.self g w).put 2 _) (by simpa using I.cell.set 2 (.bool true)) nn, hL⟩
  have hN : RdAt (w.setCell ⟨g, 4, none⟩ (.int .i64 (r.n - 1))) g O { r with n := r.n - 1 } := ⟨v, fs, I.setg ((Kp.self g w).put 4 _) (by simpa using I.cell.set 4 (.int .i64 (r.n - 1))) (show -1000000 ≤ r.n - 1 ∧ r.n - 1 ≤ 1000000 by omega), hL⟩
  have hw : IntKind.i64.wrap (r.n - 1) = r.n - 1 := by rw [IntKind.wrap_i64]; omega
  have HD := Lib.hid hD
  have HN := Lib.hid hN
  clear I hD hN hL
  unfold Rk.stop
  obtain ⟨L, q, dead, arm, n⟩ := r
  simp only at *
  cases arm with
  | true =>
    by_cases h0 : n = 0
    · subst h0
      rw [if_pos ⟨rfl, rfl⟩]
      clear HN hw
      go_enter Try.func79, Try.ntmps79
      go_wp2
      go_ret
      exact ⟨rfl, HD.out, (Kp.self g w).put 2 _⟩
    · rw [if_neg (by simp [h0])]
      have h0' : (n == 0) = false := by rw [beq_eq_false_iff_ne]; exact h0
      go_enter Try.func79, Try.ntmps79
      go_wp2
      go_ret
      exact ⟨rfl, HN.out, (Kp.self g w).put 4 _⟩
  | false =>
    rw [if_neg (by simp)]
    go_enter Try.func79, Try.ntmps79
    go_wp2
    go_ret
    exact ⟨rfl, HN.out, (Kp.self g w).put 4 _⟩
end

section

open Go.RowKit

abbrev zF : Value := .agg #[.string ByteArray.empty, .slice none 0 0, .int .i64 0, .bool false]
theorem info106 : (Try.prog.info? 106).map (fun i => (i.zero, i.size, i.bytes)) = some (some zF, 4, 56) := by kernel_rfl
/-- Is a path behind another one? -/
def gtP (a b : ByteArray) : Bool := !(Op.bytesLess a.toList b.toList || a.toList == b.toList)
section
variable {α : Type}
def pstep (key : α → ByteArray) (x : α) (s : Bool × List α) (y : α) : Bool × List α :=
  if key y = key x then s else if s.1 = false ∧ gtP (key y) (key x) = true then (true, s.2 ++ [x] ++ [y]) else (s.1, s.2 ++ [y])
def pfold (key : α → ByteArray) (x : α) (l : List α) : Bool × List α := l.foldl (pstep key x) (false, [])
/-- x in its place. -/
def pput (key : α → ByteArray) (x : α) (l : List α) : List α := if (pfold key x l).1 = true then (pfold key x l).2 else (pfold key x l).2 ++ [x]
theorem pfold_take (key : α → ByteArray) (x : α) (l : List α) (k : Nat) (hk : k < l.length) : pfold key x (l.take (k + 1)) = pstep key x (pfold key x (l.take k)) l[k] := by
  unfold pfold
  rw [List.take_add_one, List.getElem?_eq_getElem hk, List.foldl_append]
  rfl
theorem pfold_len (key : α → ByteArray) (x : α) (l : List α) : (pfold key x l).2.length ≤ l.length + (if (pfold key x l).1 = true then 1 else 0) := by
  have : ∀ (l : List α) (s : Bool × List α), (l.foldl (pstep key x) s).2.length + (if s.1 = true then 1 else 0) ≤ s.2.length + l.length + (if (l.foldl (pstep key x) s).1 = true then 1 else 0) := by
    intro l
    induction l with
    | nil => intro s; exact Nat.le_refl _
    | cons y l ih =>
      intro s
      rw [List.foldl_cons]
      have h1 := ih (pstep key x s y)
      have h2 : (pstep key x s y).2.length + (if s.1 = true then 1 else 0) ≤ s.2.length + 1 + (if (pstep key x s y).1 = true then 1 else 0) := by
        unfold pstep
        split
        · omega
        · split
          · rename_i h; simp [h.1]
          · simp
      rw [List.length_cons]
      omega
  have := this l (false, [])
  unfold pfold
  simpa using this
theorem pput_mem (key : α → ByteArray) (x : α) (l : List α) : ∀ y ∈ pput key x l, y = x ∨ y ∈ l := by
  have h : ∀ (m : List α) (s : Bool × List α), (∀ y ∈ m, y ∈ l) → (∀ y ∈ s.2, y = x ∨ y ∈ l) → ∀ y ∈ (m.foldl (pstep key x) s).2, y = x ∨ y ∈ l := by
    intro m
    induction m with
    | nil => intro s _ hs; exact hs
    | cons z m ih =>
      intro s hm hs
      rw [List.foldl_cons]
      refine ih _ (fun y hy => hm y (List.mem_cons_of_mem _ hy)) (fun y hy => ?_)
      unfold pstep at hy
      have hz := hm z List.mem_cons_self
      split at hy
      · exact hs y hy
      · split at hy
        · simp only [List.mem_append, List.mem_singleton] at hy
          rcases hy with (hy | hy) | hy
          · exact hs y hy
          · exact .inl hy
          · subst hy; exact .inr hz
        · simp only [List.mem_append, List.mem_singleton] at hy
          rcases hy with hy | hy
          · exact hs y hy
          · subst hy; exact .inr hz
  intro y hy
  have h1 := h l (false, []) (fun _ h => h) (fun y hy => by simp at hy)
  unfold pput at hy
  split at hy
  · exact h1 y hy
  · rcases List.mem_append.1 hy with hy | hy
    · exact h1 y hy
    · exact .inl (by simpa using hy)
end

/-- What a loop has made, so far. -/
structure OutI (w wr : World) (v : Value) (o : List Rf) : Prop where
  ow : wr.ownsRow 0 106 4 v o.length (rfs o)
  kp : Kp0 w wr
  fr : ∀ i, v.ownBlock = some i → w.heap.size ≤ i
theorem OutI.add {w wr w2 w3 : World} {v v3 : Value} {o : List Rf} {f : Rf} (h : OutI w wr v o) (kA : Kp0 wr w2) (o3 : w3.ownsRow 0 106 4 v3 (o.length + 1) (rfs o ++ f.cs)) (k3 : Kp (fun i => v.ownBlock = some i) w2 w3) (b3 : v3.ownBlock = v.ownBlock ∨ v3.ownBlock = some w2.heap.size) : OutI w w3 v3 (o ++ [f]) := by
  refine ⟨by rw [rfs_app, List.length_append]; simpa [rfs] using o3, (h.kp.then0 kA).trans k3 (fun i hi e => by have := h.fr i e; omega), fun i hi => ?_⟩
  rcases b3 with b3 | b3
  · exact h.fr i (b3 ▸ hi)
  · rw [b3] at hi
    injection hi with hi
    have := h.kp.size
    have := kA.size
    omega
theorem OutI.kp0 {w wr w2 : World} {v : Value} {o : List Rf} (h : OutI w wr v o) (k : Kp0 wr w2) : OutI w w2 v o := ⟨own_kp h.ow k (fun _ _ x => x), h.kp.then0 k, h.fr⟩
/-- The disk's row is a new one. -/
theorem RdIn.row {w wr : World} {g : Nat} {O : Nat → Prop} {v v' : Value} {fs o : List Rf} {q : Nat} {dead arm : Bool} {n : Int} {f : Rf} (h : RdIn w g O v fs q dead arm n) (hf : FOk w f) (hfb : f.b ≠ [] → ∀ a, f.A = some a → a.block ≠ g)
    (ho : ∀ y ∈ o, y = f ∨ y ∈ fs) (I : OutI w wr v' o) (us : als (o.map Rf.st) ≤ 65536) (ln : o.length ≤ 1000) :
    ∃ O', RdIn (wr.setCell ⟨g, 0, none⟩ v') g O' v' o q dead arm n ∧ Kp (· = g) w (wr.setCell ⟨g, 0, none⟩ v') ∧ ∀ i, O' i → O i ∨ (f.b ≠ [] ∧ ∃ a, f.A = some a ∧ a.block = i) ∨ w.heap.size ≤ i := by
  have hgw := h.cell.lt
  have hbz : ∀ y, FOk w y → y.b ≠ [] → ∀ a, y.A = some a → a.block < w.heap.size := fun y hy hz a ha => by
    obtain ⟨B, off, eA, hB, _⟩ := hy.1.cell 0 (List.length_pos_iff.2 hz)
    rw [eA] at ha; injection ha with ha; subst ha
    exact hB
  have kG : Kp (· = g) wr (wr.setCell ⟨g, 0, none⟩ v') := (Kp.self g wr).put 0 _
  have hsz := I.kp.size
  have hsz2 := kG.size
  have hok : ∀ y ∈ o, FOk w y ∧ (y.b ≠ [] → ∀ a, y.A = some a → a.block ≠ g) := fun y hy => by
    rcases ho y hy with rfl | hy
    · exact ⟨hf, hfb⟩
    · exact ⟨h.ok y hy, fun hz a ha => (h.bo y hy hz a ha).2.1⟩
  refine ⟨fun i => O i ∨ (f.b ≠ [] ∧ ∃ a, f.A = some a ∧ a.block = i) ∨ v'.ownBlock = some i, ⟨by simpa using (h.cell.kp0 I.kp).set 0 v', own_kp I.ow kG (fun i hi e => by have := I.fr i hi; omega), fun y hy => ?_, fun y hy hz a ha => ?_, .inl h.og, fun i hi => ⟨.inr (.inr hi), fun e => by have := I.fr i hi; omega⟩, fun i hi => ?_, us, h.qu, ln, h.nn⟩, (I.kp.mono (fun _ _ x => x.elim)).trans kG (fun i _ e => e), fun i hi => ?_⟩
  · exact ((hok y hy).1.kp0 I.kp).kp kG (hok y hy).2
  · have h1 := hbz y (hok y hy).1 hz a ha
    refine ⟨?_, (hok y hy).2 hz a ha, fun e => by have := I.fr _ e; omega⟩
    rcases ho y hy with rfl | hy
    · exact .inr (.inl ⟨hz, a, ha, rfl⟩)
    · exact .inl (h.bo y hy hz a ha).1
  · rcases hi with hi | ⟨hz, a, ha, rfl⟩ | hi
    · have := h.lt i hi; omega
    · have := hbz f hf hz a ha; omega
    · have := (I.ow.lt i hi).2; omega
  · rcases hi with hi | hi | hi
    · exact .inl hi
    · exact .inr (.inl hi)
    · exact .inr (.inr (I.fr i hi))

set_option maxRecDepth 100000 in
set_option maxHeartbeats 4000000 in
theorem put81_i {w : World} {g : Nat} {O : Nat → Prop} {v : Value} {fs : List Rf} {q : Nat} {dead arm : Bool} {n : Int} (I : RdIn w g O v fs q dead arm n) (f : Rf) (hf : FOk w f) (hfb : f.b ≠ [] → ∀ a, f.A = some a → a.block ≠ g) (us : als ((pput Rf.p f fs).map Rf.st) ≤ 65536) (ln : fs.length ≤ 900) :
    Calls Try.prog 81 #[ptr g, f.ag] w fun e w' => e = .returned (.tuple #[]) ∧ ∃ v' O', RdIn w' g O' v' (pput Rf.p f fs) q dead arm n ∧ Kp (· = g) w w' ∧ ∀ i, O' i → O i ∨ (f.b ≠ [] ∧ ∃ a, f.A = some a ∧ a.block = i) ∨ w.heap.size ≤ i := by
  obtain ⟨A, c, rfl, m1, m2, hrow⟩ := rf_row I.ow
  have H := Lib.hid hrow
  have cB := I.cell.cell 0
  simp at cB
  have hgw := I.cell.lt
  have hout : ∀ wr v' o, o = pput Rf.p f fs → OutI w wr v' o → ∃ O', RdIn (wr.setCell ⟨g, 0, none⟩ v') g O' v' (pput Rf.p f fs) q dead arm n ∧ Kp (· = g) w (wr.setCell ⟨g, 0, none⟩ v') ∧ ∀ i, O' i → O i ∨ (f.b ≠ [] ∧ ∃ a, f.A = some a ∧ a.block = i) ∨ w.heap.size ≤ i := fun wr v' o e J => by
    subst e
    refine I.row hf hfb (pput_mem _ _ _) J us ?_
    have := pfold_len Rf.p f fs
    unfold pput
    split
    · split at this <;> omega
    · split at this <;> simp <;> omega
  have HO := Lib.hid hout
  have ka : Kp0 w (w.alloc (.cells #[.string f.p, .slice f.A f.b.length f.c, .int .i64 (f.sy : Int), .bool f.fm] 106)) := (Kp.refl _ _).alloc _
  have BF : Blk (w.alloc (.cells #[.string f.p, .slice f.A f.b.length f.c, .int .i64 (f.sy : Int), .bool f.fm] 106)) w.heap.size #[.string f.p, .slice f.A f.b.length f.c, .int .i64 (f.sy : Int), .bool f.fm] 106 := blk_new _ _ rfl
  have hB := I.cell
  have J0 : OutI w (w.alloc (.cells #[.string f.p, .slice f.A f.b.length f.c, .int .i64 (f.sy : Int), .bool f.fm] 106)) (.slice none 0 0) (pfold Rf.p f (fs.take 0)).2 := ⟨World.ownsRow_nil _ _ _ _, ka, fun i hi => by simp [Value.ownBlock] at hi⟩
  clear I hout hrow us hf hfb
  go_enter Try.func81, Try.ntmps81
  go_wp2_with fail
  generalize hBB : w.heap.size = B at BF ⊢

  have HBB := Lib.hid hBB
  clear cB hBB
  go_loopw [4, 5, 13] (fun s4 s5 s13 wr => ∃ k : Nat, k ≤ fs.length ∧ s13 = .int .i64 (k : Nat) ∧ s5 = .bool (pfold Rf.p f (fs.take k)).1 ∧ OutI w wr s4 (pfold Rf.p f (fs.take k)).2 ∧ (∀ i, s4.ownBlock = some i → B < i) ∧ B < wr.heap.size ∧ Blk wr B #[.string f.p, .slice f.A f.b.length f.c, .int .i64 (f.sy : Int), .bool f.fm] 106) (fun _ _ s13 _ => (fs.length - intOf s13).toNat)
  case atStart => exact ⟨0, by omega, rfl, rfl, J0, fun i hi => by simp [Value.ownBlock] at hi, BF.lt, BF⟩
  case round =>
    clear J0 BF ka
    obtain ⟨k, hk, rfl, rfl, J, hBi, hBl, BF⟩ := hrel
    obtain ⟨A4, cp4, hv4⟩ := own_sl J.ow
    subst hv4
    by_cases hkl : k < fs.length
    · obtain ⟨b, rfl, _, hc⟩ := H.out k hkl
      obtain ⟨c0, c1, c2, c3⟩ := hc _ J.kp
      have hkl' : (k : Int) < (fs.length : Int) ∧ (0 : Int) ≤ (k : Int) := by omega
      have hst := pfold_take Rf.p f fs k hkl
      have hln := pfold_len Rf.p f (fs.take k)
      have hln : (pfold Rf.p f (fs.take k)).2.length ≤ 1000 := by
        rw [List.length_take] at hln
        split at hln <;> omega
      have HST := Lib.hid hst
      clear hst hc
      generalize pfold Rf.p f (fs.take k) = s at *
      obtain ⟨dn, o⟩ := s
      dsimp only at hln J
      have e1 := tl_beq fs[k].p f.p
      have hg : gtP fs[k].p f.p = !(Op.bytesLess fs[k].p.toList f.p.toList || decide (fs[k].p = f.p)) := by unfold gtP; rw [e1]
      have hstep : pstep Rf.p f (dn, o) fs[k] = if decide (fs[k].p = f.p) = true then (dn, o) else if dn = false ∧ gtP fs[k].p f.p = true then (true, o ++ [f] ++ [fs[k]]) else (dn, o ++ [fs[k]]) := by
        unfold pstep
        simp only [decide_eq_true_iff]
      have HSTEP := Lib.hid hstep
      have HG := Lib.hid hg
      clear hstep hg
      generalize hyy : fs[k] = y at *
      have ka : Kp0 wr (wr.alloc (.cells #[.string y.p, .slice y.A y.b.length y.c, .int .i64 (y.sy : Int), .bool y.fm] 106)) := (Kp.refl _ _).alloc _
      have BX : Blk (wr.alloc (.cells #[.string y.p, .slice y.A y.b.length y.c, .int .i64 (y.sy : Int), .bool y.fm] 106)) wr.heap.size #[.string y.p, .slice y.A y.b.length y.c, .int .i64 (y.sy : Int), .bool y.fm] 106 := blk_new _ _ rfl
      go_upto_region 6 with fail
      have J2 := J.kp0 ka
      have BF2 := BF.kp0 ka
      have hXi := fun i hi => (J.ow.lt i hi).2
      have hXl := BX.lt
      have hBX : B < wr.heap.size := hBl
      clear J BF ka c0 c1 c2 c3 hBl
      generalize wr.alloc (.cells #[.string y.p, .slice y.A y.b.length y.c, .int .i64 (y.sy : Int), .bool y.fm] 106) = wa at BX J2 BF2 hXl ⊢
      generalize wr.heap.size = X at BX hXi hXl hBX ⊢
      have x0 : wa.cell? ⟨X, 0, none⟩ = some (.string y.p) := by rw [BX.cell]; rfl
      have x1 : wa.cell? ⟨X, 1, none⟩ = some (.slice y.A y.b.length y.c) := by rw [BX.cell]; rfl
      have x2 : wa.cell? ⟨X, 2, none⟩ = some (.int .i64 (y.sy : Int)) := by rw [BX.cell]; rfl
      have x3 : wa.cell? ⟨X, 3, none⟩ = some (.bool y.fm) := by rw [BX.cell]; rfl
      have y0 : wa.cell? ⟨B, 0, none⟩ = some (.string f.p) := by rw [BF2.cell]; rfl
      have y1 : wa.cell? ⟨B, 1, none⟩ = some (.slice f.A f.b.length f.c) := by rw [BF2.cell]; rfl
      have y2 : wa.cell? ⟨B, 2, none⟩ = some (.int .i64 (f.sy : Int)) := by rw [BF2.cell]; rfl
      have y3 : wa.cell? ⟨B, 3, none⟩ = some (.bool f.fm) := by rw [BF2.cell]; rfl
      have hgg : (!(Op.bytesLess y.p.toList f.p.toList || decide (y.p = f.p))) = gtP y.p f.p := HG.out.symm
      have HX := Lib.hid hXi
      have HBI := Lib.hid hBi
      have JJ := Lib.hid J2
      have HBF := Lib.hid BF2
      have HBX2 := Lib.hid BX
      clear HG hXi hBi hyy
      generalize decide (y.p = f.p) = d1 at e1 hgg HSTEP
      cases d1 with
      | true =>
        clear hgg J2 BF2 BX
        go_wp2_with fail
        go_roundw
        case rel => exact ⟨k + 1, by omega, by go_num, by rw [HST.out, HSTEP.out, if_pos rfl], by rw [HST.out, HSTEP.out, if_pos rfl]; exact JJ.out, HBI.out, by omega, HBF.out⟩
        case measure => simp [intOf]; omega
      | false =>
        rw [if_neg (by simp)] at HSTEP
        rw [Bool.or_false] at hgg
        obtain ⟨d3, hd3⟩ : ∃ d3, gtP y.p f.p = d3 := ⟨_, rfl⟩
        rw [hd3] at HSTEP hgg
        have hbl : Op.bytesLess y.p.toList f.p.toList = !d3 := by rw [← hgg]; simp
        clear hd3 hgg
        have one : ∀ (W : World) (v3 : Value) (w3 : World) (dn' : Bool) (o' : List Rf), W = wa.alloc (.cells #[.string y.p, .slice y.A y.b.length y.c, .int .i64 (y.sy : Int), .bool y.fm] 106) → w3.ownsRow 0 106 4 v3 (o.length + 1) (rfs o ++ [.string y.p, .slice y.A y.b.length y.c, .int .i64 (y.sy : Int), .bool y.fm]) → Kp (fun i => (Value.slice A4 o.length cp4).ownBlock = some i) W w3 → (v3.ownBlock = (Value.slice A4 o.length cp4).ownBlock ∨ v3.ownBlock = some W.heap.size) →
            OutI w w3 v3 (o ++ [y]) ∧ (∀ i, v3.ownBlock = some i → B < i) ∧ B < w3.heap.size ∧ Blk w3 B #[.string f.p, .slice f.A f.b.length f.c, .int .i64 (f.sy : Int), .bool f.fm] 106 := fun W v3 w3 dn' o' hW p5 k5 b5 => by
          subst hW
          have kA : Kp0 wa (wa.alloc (.cells #[.string y.p, .slice y.A y.b.length y.c, .int .i64 (y.sy : Int), .bool y.fm] 106)) := (Kp.refl _ _).alloc _
          have hs1 := kA.size
          have hs2 := k5.size
          refine ⟨JJ.out.add kA p5 k5 b5, fun i hi => ?_, by omega, (HBF.out.kp0 kA).kp k5 (fun e => by have := HBI.out B e; omega)⟩
          rcases b5 with b5 | b5
          · exact HBI.out i (b5 ▸ hi)
          · rw [b5] at hi; injection hi with hi; omega
        have ONE := Lib.hid one
        clear one
        cases dn with
        | true =>
          rw [if_neg (by simp)] at HSTEP
          clear y1 y2 y3 J2 BF2 BX
          have J2 := JJ.out
          have kAJ5 : Kp0 wa (wa.alloc (.cells #[.string y.p, .slice y.A y.b.length y.c, .int .i64 (y.sy : Int), .bool y.fm] 106)) := (Kp.refl _ _).alloc _
          have oJ5 := own_kp J2.ow kAJ5 (fun _ _ x => x)
          go_wp2_with (at_builtin; refine list_app rfl _ _ 102 106 zF 4 56 rfl rfl info106 rfl (by decide) (.slice A4 o.length cp4) (o).length (rfs (o)) rfl wa.heap.size 0 1 1 [.string y.p, .slice y.A y.b.length y.c, .int .i64 (y.sy : Int), .bool y.fm] rfl rfl (by intro u hu; exact cs_one y u hu) (Vw.of_blk (blk_new _ _ rfl)) oJ5 (by omega) (by omega) ?_)
          intro v5 w5 pJ5 kJ5 bJ5
          have FIN := Lib.hid (ONE.out _ v5 w5 true o rfl pJ5 kJ5 (by simpa using bJ5))
          clear pJ5 kJ5 bJ5 oJ5 kAJ5 J2
          go_wp2_with fail
          go_roundw
          case rel => exact ⟨k + 1, by omega, by go_num, by rw [HST.out, HSTEP.out], by rw [HST.out, HSTEP.out]; exact FIN.out⟩
          case measure => simp [intOf]; omega
        | false =>
          cases d3 with
          | false =>
            have hbl : Op.bytesLess y.p.toList f.p.toList = true := hbl
            rw [if_neg (by simp)] at HSTEP
            clear y1 y2 y3 J2 BF2 BX
            have J2 := JJ.out
            have kAJ5 : Kp0 wa (wa.alloc (.cells #[.string y.p, .slice y.A y.b.length y.c, .int .i64 (y.sy : Int), .bool y.fm] 106)) := (Kp.refl _ _).alloc _
            have oJ5 := own_kp J2.ow kAJ5 (fun _ _ x => x)
            go_wp2_with (at_builtin; refine list_app rfl _ _ 102 106 zF 4 56 rfl rfl info106 rfl (by decide) (.slice A4 o.length cp4) (o).length (rfs (o)) rfl wa.heap.size 0 1 1 [.string y.p, .slice y.A y.b.length y.c, .int .i64 (y.sy : Int), .bool y.fm] rfl rfl (by intro u hu; exact cs_one y u hu) (Vw.of_blk (blk_new _ _ rfl)) oJ5 (by omega) (by omega) ?_)
            intro v5 w5 pJ5 kJ5 bJ5
            have FIN := Lib.hid (ONE.out _ v5 w5 true o rfl pJ5 kJ5 (by simpa using bJ5))
            clear pJ5 kJ5 bJ5 oJ5 kAJ5 J2
            go_wp2_with fail
            go_roundw
            case rel => exact ⟨k + 1, by omega, by go_num, by rw [HST.out, HSTEP.out], by rw [HST.out, HSTEP.out]; exact FIN.out⟩
            case measure => simp [intOf]; omega
          | true =>
            have hbl : Op.bytesLess y.p.toList f.p.toList = false := hbl
            rw [if_pos ⟨rfl, rfl⟩] at HSTEP
            clear J2 BF2 BX ONE
            have J2 := JJ.out
            have kAJ5 : Kp0 wa (wa.alloc (.cells #[.string f.p, .slice f.A f.b.length f.c, .int .i64 (f.sy : Int), .bool f.fm] 106)) := (Kp.refl _ _).alloc _
            have oJ5 := own_kp J2.ow kAJ5 (fun _ _ x => x)
            go_wp2_with (at_builtin; refine list_app rfl _ _ 102 106 zF 4 56 rfl rfl info106 rfl (by decide) (.slice A4 o.length cp4) (o).length (rfs (o)) rfl wa.heap.size 0 1 1 [.string f.p, .slice f.A f.b.length f.c, .int .i64 (f.sy : Int), .bool f.fm] rfl rfl (by intro u hu; exact cs_one f u hu) (Vw.of_blk (blk_new _ _ rfl)) oJ5 (by omega) (by omega) ?_)
            intro v5 w5 pJ5 kJ5 bJ5
            have J6 := J2.add (f := f) kAJ5 pJ5 kJ5 (by simpa using bJ5)
            obtain ⟨A5, cp5, hv5⟩ := own_sl pJ5
            subst hv5
            have hs1 := kAJ5.size
            have hs2 := kJ5.size
            have BX5 := (HBX2.out.kp0 kAJ5).kp kJ5 (fun e => by have := HX.out X e; omega)
            have BF5 := (HBF.out.kp0 kAJ5).kp kJ5 (fun e => by have := HBI.out B e; omega)
            have hB5 : ∀ i, (Value.slice A5 (o.length + 1) cp5).ownBlock = some i → B < i ∧ i ≠ X := fun i hi => by
              rcases bJ5 with b5 | b5
              · rw [b5] at hi; have := HBI.out i hi; have := HX.out i hi; omega
              · rw [b5] at hi; injection hi with hi; omega
            clear x0 x1 x2 x3 y0 y1 y2 y3 pJ5 kJ5 bJ5 oJ5 kAJ5 J2
            have x0 : w5.cell? ⟨X, 0, none⟩ = some (.string y.p) := by rw [BX5.cell]; rfl
            have x1 : w5.cell? ⟨X, 1, none⟩ = some (.slice y.A y.b.length y.c) := by rw [BX5.cell]; rfl
            have x2 : w5.cell? ⟨X, 2, none⟩ = some (.int .i64 (y.sy : Int)) := by rw [BX5.cell]; rfl
            have x3 : w5.cell? ⟨X, 3, none⟩ = some (.bool y.fm) := by rw [BX5.cell]; rfl
            have hol : (o ++ [f]).length = o.length + 1 := by simp
            have J7 : OutI w w5 (.slice A5 (o ++ [f]).length cp5) (o ++ [f]) := by rw [hol]; exact J6
            have kA8 : Kp0 w5 (w5.alloc (.cells #[.string y.p, .slice y.A y.b.length y.c, .int .i64 (y.sy : Int), .bool y.fm] 106)) := (Kp.refl _ _).alloc _
            have o8 := own_kp J6.ow kA8 (fun _ _ x => x)
            rw [hol] at o8
            clear J6
            go_wp2_with (at_builtin; refine list_app rfl _ _ 102 106 zF 4 56 rfl rfl info106 rfl (by decide) (.slice A5 (o.length + 1) cp5) (o.length + 1) (rfs (o ++ [f])) rfl w5.heap.size 0 1 1 [.string y.p, .slice y.A y.b.length y.c, .int .i64 (y.sy : Int), .bool y.fm] rfl rfl (cs_one y) (Vw.of_blk (blk_new _ _ rfl)) o8 (by omega) (by omega) ?_)
            intro v9 w9 p9 k9 b9
            have J9 := J7.add (f := y) kA8 (by rw [hol]; exact p9) (by rw [hol]; exact k9) (by rw [hol]; simpa using b9)
            have hs3 := kA8.size
            have hs4 := k9.size
            have BF9 := (BF5.kp0 kA8).kp k9 (fun e => by have := hB5 B e; omega)
            have hB9 : ∀ i, v9.ownBlock = some i → B < i := fun i hi => by
              rcases b9 with b9 | b9
              · exact (hB5 i (b9 ▸ hi)).1
              · rw [b9] at hi; injection hi with hi; omega
            have FIN := Lib.hid (show OutI w w9 v9 (o ++ [f] ++ [y]) ∧ (∀ i, v9.ownBlock = some i → B < i) ∧ B < w9.heap.size ∧ Blk w9 B #[.string f.p, .slice f.A f.b.length f.c, .int .i64 (f.sy : Int), .bool f.fm] 106 from ⟨J9, hB9, by omega, BF9⟩)
            clear J9 hB9 BF9 hs3 hs4 p9 k9 b9 o8 kA8 J7 BX5 BF5 hB5 x0 x1 x2 x3 hol
            go_wp2_with fail
            go_roundw
            case rel => exact ⟨k + 1, by omega, by go_num, by rw [HST.out, HSTEP.out], by rw [HST.out, HSTEP.out]; exact FIN.out⟩
            case measure => simp [intOf]; omega
    · obtain rfl : k = fs.length := by omega
      rw [List.take_length] at J hBi ⊢
      have hp : pput Rf.p f fs = if (pfold Rf.p f fs).1 = true then (pfold Rf.p f fs).2 else (pfold Rf.p f fs).2 ++ [f] := rfl
      have hln := pfold_len Rf.p f fs
      have hln : (pfold Rf.p f fs).2.length ≤ 1000 := by split at hln <;> omega
      have HP := Lib.hid hp
      clear hp
      generalize pfold Rf.p f fs = s at *
      obtain ⟨dn, o⟩ := s
      dsimp only at J hln HP ⊢
      have y0 : wr.cell? ⟨B, 0, none⟩ = some (.string f.p) := by rw [BF.cell]; rfl
      have y1 : wr.cell? ⟨B, 1, none⟩ = some (.slice f.A f.b.length f.c) := by rw [BF.cell]; rfl
      have y2 : wr.cell? ⟨B, 2, none⟩ = some (.int .i64 (f.sy : Int)) := by rw [BF.cell]; rfl
      have y3 : wr.cell? ⟨B, 3, none⟩ = some (.bool f.fm) := by rw [BF.cell]; rfl
      have JJ := Lib.hid J
      have B2 := hB.kp0 J.kp
      have g2 := B2.cell 0
      simp at g2
      have f2 := B2.free 0
      clear J BF hBi H
      cases dn with
      | true =>
        rw [if_pos rfl] at HP
        have FIN := Lib.hid (HO.out wr _ o HP.out.symm JJ.out)
        clear y0 y1 y2 y3 B2 hB
        go_wp2
        go_end0
        obtain ⟨O', h⟩ := FIN.out
        exact ⟨rfl, _, O', h⟩
      | false =>
        rw [if_neg (by simp)] at HP
        have J2 := JJ.out
        have kA5 : Kp0 wr (wr.alloc (.cells #[.string f.p, .slice f.A f.b.length f.c, .int .i64 (f.sy : Int), .bool f.fm] 106)) := (Kp.refl _ _).alloc _
        have o5 := own_kp J2.ow kA5 (fun _ _ x => x)
        have hg3 : ∀ i, (Value.slice A4 o.length cp4).ownBlock = some i → i ≠ g := fun i hi e => by have := J2.fr i hi; omega
        go_wp2_with (at_builtin; refine list_app rfl _ _ 102 106 zF 4 56 rfl rfl info106 rfl (by decide) (.slice A4 o.length cp4) o.length (rfs o) rfl wr.heap.size 0 1 1 [.string f.p, .slice f.A f.b.length f.c, .int .i64 (f.sy : Int), .bool f.fm] rfl rfl (by intro u hu; exact cs_one f u hu) (Vw.of_blk (blk_new _ _ rfl)) o5 (by omega) (by omega) ?_)
        intro v5 w5 p5 k5 b5
        obtain ⟨A5, cp5, hv5⟩ := own_sl p5
        subst hv5
        have J6 := J2.add (f := f) kA5 p5 k5 (by simpa using b5)
        have B6 := (B2.kp0 kA5).kp k5 (fun e => hg3 g e rfl)
        have FIN := Lib.hid (HO.out w5 (.slice A5 (o.length + 1) cp5) _ HP.out.symm J6)
        have g6 := B6.cell 0
        simp at g6
        have f6 := B6.free 0
        clear y0 y1 y2 y3 B2 hB g2 f2 J2 kA5 o5 p5 k5 b5 J6 B6 hg3
        go_wp2
        go_end0
        obtain ⟨O', h⟩ := FIN.out
        exact ⟨rfl, _, O', h⟩
end

section

open Go.RowKit

def pdrop (fs : List Rf) (p : ByteArray) : List Rf := fs.filter (fun y => !decide (y.p = p))
theorem als_filter (P : Rf → Bool) (fs : List Rf) : als ((fs.filter P).map Rf.st) ≤ als (fs.map Rf.st) := by
  rw [als_st, als_st]
  induction fs with
  | nil => simp
  | cons x l ih =>
    rw [List.filter_cons]
    split
    · simp only [List.map_cons, List.sum_cons]; omega
    · simp only [List.map_cons, List.sum_cons]; omega

set_option maxRecDepth 100000 in
set_option maxHeartbeats 2000000 in
theorem drop83_i {w : World} {g : Nat} {O : Nat → Prop} {v : Value} {fs : List Rf} {q : Nat} {dead arm : Bool} {n : Int} (I : RdIn w g O v fs q dead arm n) (p : ByteArray) :
    Calls Try.prog 83 #[ptr g, .string p] w fun e w' => e = .returned (.tuple #[]) ∧ ∃ v' O', RdIn w' g O' v' (pdrop fs p) q dead arm n ∧ Kp (· = g) w w' ∧ ∀ i, O' i → O i ∨ w.heap.size ≤ i := by
  obtain ⟨A, c, rfl, m1, m2, hrow⟩ := rf_row I.ow
  have H := Lib.hid hrow
  have cB := I.cell.cell 0
  simp at cB
  have hln0 := I.ln
  have hgw := I.cell.lt
  have hout : ∀ wr v' o, o = pdrop fs p → OutI w wr v' o → ∃ O', RdIn (wr.setCell ⟨g, 0, none⟩ v') g O' v' (pdrop fs p) q dead arm n ∧ Kp (· = g) w (wr.setCell ⟨g, 0, none⟩ v') ∧ ∀ i, O' i → O i ∨ w.heap.size ≤ i := fun wr v' o e J => by
    subst e
    obtain ⟨O', h1, h2, h3⟩ := I.row (f := ⟨p, none, 0, [], 0, false⟩) ⟨.inl ⟨.inl ⟨rfl, rfl, rfl⟩, by simp⟩, by simp, by simp, by simp⟩ (fun h => absurd rfl h) (fun y hy => .inr (List.mem_filter.1 hy).1) J (Nat.le_trans (als_filter _ _) I.us) (Nat.le_trans (List.length_filter_le _ _) I.ln)
    refine ⟨O', h1, h2, fun i hi => ?_⟩
    rcases h3 i hi with h | ⟨h, _⟩ | h
    · exact .inl h
    · exact absurd rfl h
    · exact .inr h
  have HO := Lib.hid hout
  have hB := I.cell
  have J0 : OutI w w (.slice none 0 0) (pdrop (fs.take 0) p) := ⟨World.ownsRow_nil _ _ _ _, Kp.refl _ _, fun i hi => by simp [Value.ownBlock] at hi⟩
  clear I hout hrow
  go_enter Try.func83, Try.ntmps83
  go_wp2_with fail
  clear cB
  go_loopw [4, 12] (fun s4 s12 wr => ∃ k : Nat, k ≤ fs.length ∧ s12 = .int .i64 (k : Nat) ∧ OutI w wr s4 (pdrop (fs.take k) p)) (fun _ s12 _ => (fs.length - intOf s12).toNat)
  case atStart => exact ⟨0, by omega, rfl, J0⟩
  case round =>
    clear J0
    obtain ⟨k, hk, rfl, J⟩ := hrel
    obtain ⟨A4, cp4, hv4⟩ := own_sl J.ow
    subst hv4
    by_cases hkl : k < fs.length
    · obtain ⟨b, rfl, _, hc⟩ := H.out k hkl
      obtain ⟨c0, c1, c2, c3⟩ := hc _ J.kp
      have hkl' : (k : Int) < (fs.length : Int) ∧ (0 : Int) ≤ (k : Int) := by omega
      have hln : (pdrop (fs.take k) p).length ≤ 1000 := Nat.le_trans (List.length_filter_le _ _) (by rw [List.length_take]; omega)
      have hst : pdrop (fs.take (k + 1)) p = pdrop (fs.take k) p ++ if decide (fs[k].p = p) = true then [] else [fs[k]] := by
        unfold pdrop
        rw [List.take_add_one, List.getElem?_eq_getElem hkl, List.filter_append]
        congr 1
        cases h : decide (fs[k].p = p) <;> simp [h]
      have HST := Lib.hid hst
      clear hst hc
      generalize pdrop (fs.take k) p = o at J HST hln ⊢
      have e1 := tl_beq fs[k].p p
      generalize hyy : fs[k] = y at *
      have ka : Kp0 wr (wr.alloc (.cells #[.string y.p, .slice y.A y.b.length y.c, .int .i64 (y.sy : Int), .bool y.fm] 106)) := (Kp.refl _ _).alloc _
      have BX : Blk (wr.alloc (.cells #[.string y.p, .slice y.A y.b.length y.c, .int .i64 (y.sy : Int), .bool y.fm] 106)) wr.heap.size #[.string y.p, .slice y.A y.b.length y.c, .int .i64 (y.sy : Int), .bool y.fm] 106 := blk_new _ _ rfl
      go_upto_region 4 with fail
      have J2 := J.kp0 ka
      clear J ka c0 c1 c2 c3 hyy
      generalize wr.alloc (.cells #[.string y.p, .slice y.A y.b.length y.c, .int .i64 (y.sy : Int), .bool y.fm] 106) = wa at BX J2 ⊢
      generalize wr.heap.size = X at BX ⊢
      have x0 : wa.cell? ⟨X, 0, none⟩ = some (.string y.p) := by rw [BX.cell]; rfl
      have x1 : wa.cell? ⟨X, 1, none⟩ = some (.slice y.A y.b.length y.c) := by rw [BX.cell]; rfl
      have x2 : wa.cell? ⟨X, 2, none⟩ = some (.int .i64 (y.sy : Int)) := by rw [BX.cell]; rfl
      have x3 : wa.cell? ⟨X, 3, none⟩ = some (.bool y.fm) := by rw [BX.cell]; rfl
      have JJ := Lib.hid J2
      generalize decide (y.p = p) = d1 at e1 HST
      clear BX J2
      cases d1 with
      | true =>
        go_wp2_with fail
        go_roundw
        case rel => exact ⟨k + 1, by omega, by go_num, by rw [HST.out, if_pos rfl, List.append_nil]; exact JJ.out⟩
        case measure => simp [intOf]; omega
      | false =>
        have J2 := JJ.out
        have kA5 : Kp0 wa (wa.alloc (.cells #[.string y.p, .slice y.A y.b.length y.c, .int .i64 (y.sy : Int), .bool y.fm] 106)) := (Kp.refl _ _).alloc _
        have o5 := own_kp J2.ow kA5 (fun _ _ x => x)
        go_wp2_with (at_builtin; refine list_app rfl _ _ 102 106 zF 4 56 rfl rfl info106 rfl (by decide) (.slice A4 o.length cp4) o.length (rfs o) rfl wa.heap.size 0 1 1 [.string y.p, .slice y.A y.b.length y.c, .int .i64 (y.sy : Int), .bool y.fm] rfl rfl (by intro u hu; exact cs_one y u hu) (Vw.of_blk (blk_new _ _ rfl)) o5 (by omega) (by omega) ?_)
        intro v5 w5 p5 k5 b5
        have FIN := Lib.hid (J2.add (f := y) kA5 p5 k5 (by simpa using b5))
        clear p5 k5 b5 o5 kA5 J2
        go_wp2_with fail
        go_roundw
        case rel => exact ⟨k + 1, by omega, by go_num, by rw [HST.out, if_neg (by simp)]; exact FIN.out⟩
        case measure => simp [intOf]; omega
    · obtain rfl : k = fs.length := by omega
      rw [List.take_length] at J
      have B2 := hB.kp0 J.kp
      have g2 := B2.cell 0
      simp at g2
      have f2 := B2.free 0
      have FIN := Lib.hid (HO.out wr (.slice A4 _ cp4) _ rfl J)
      clear J H B2 hB HO
      go_wp2
      go_end0
      obtain ⟨O', h⟩ := FIN.out
      exact ⟨rfl, _, O', h⟩

/-- What stands against an act, as the reference has it. -/
noncomputable def rbg (dead : Bool) (fs : List Rf) (ps : List ByteArray) : Int := if dead = true then 7 else if hasE ps = true then 1 else if idf fs (ps.headD es) < 0 then 3 else 0
set_option maxRecDepth 100000 in
theorem begin82_i {w : World} {g : Nat} {O : Nat → Prop} {v : Value} {fs : List Rf} {q : Nat} {dead arm : Bool} {n : Int} (I : RdIn w g O v fs q dead arm n) (P c : Nat) (ps : List ByteArray) (hl : ps.length ≤ 1000) (h0 : 0 < ps.length) (hT : Ts w P ps) :
    Calls Try.prog 82 #[ptr g, .slice (some ⟨P, 0, none⟩) ps.length c] w fun e w' => e = .returned (.int .i64 (rbg dead fs ps)) ∧ w = w' := by
  have hat := fun p => at80_i I p
  have c2 := I.cell.cell 2
  simp at c2
  clear I
  unfold rbg
  cases dead with
  | true =>
    rw [if_pos rfl]
    go_enter Try.func82, Try.ntmps82
    go_wp2
    go_ret
    exact ⟨rfl, rfl⟩
  | false =>
    rw [if_neg (by simp)]
    have hT2 := hT.2
    have HT := Lib.hid hT2
    obtain ⟨z, hz⟩ : ∃ z, (if hasE ps = true then (1 : Int) else if idf fs (ps.headD es) < 0 then 3 else 0) = z := ⟨_, rfl⟩
    rw [hz]
    have HZ := Lib.hid hz
    clear hz hT hT2
    go_enter Try.func82, Try.ntmps82
    go_wp2_with fail
    clear c2
    go_loopw [13] (fun s13 wr => ∃ k : Nat, k ≤ ps.length ∧ s13 = .int .i64 (k : Nat) ∧ (∀ j (hj : j < k) (hl : j < ps.length), ps[j] ≠ es) ∧ w = wr) (fun s13 _ => (ps.length - intOf s13).toNat)
    case atStart => exact ⟨0, by omega, rfl, fun j hj => by omega, rfl⟩
    case round =>
      obtain ⟨k, hk, rfl, hno, rfl⟩ := hrel
      have HN := Lib.hid hno
      clear hno
      by_cases hkl : k < ps.length
      · have ck := HT.out k hkl
        have hkl' : (k : Int) < (ps.length : Int) ∧ (0 : Int) ≤ (k : Int) := by omega
        by_cases he : ps[k] = es
        · have hm : es ∈ ps := by rw [← he]; exact List.getElem_mem hkl
          obtain rfl : (1 : Int) = z := by rw [← HZ.out, if_pos (hasE_yes hm)]
          rw [he] at ck
          clear he hm
          go_wp2
          go_ret
          exact ⟨rfl, rfl⟩
        · obtain ⟨e1, e2, e3⟩ := tl_ne he
          have hstep : ∀ j (hj : j < k + 1) (hl : j < ps.length), ps[j] ≠ es := fun j hj hl => by
            by_cases e : j = k
            · subst e; exact he
            · exact HN.out j (by omega) hl
          have HS := Lib.hid hstep
          clear hstep he
          generalize ps[k] = pk at ck e1 e2 e3
          go_wp2_with fail
          go_roundw
          case rel => exact ⟨k + 1, by omega, by go_num, HS.out, trivial⟩
          case measure => simp [intOf]; omega
      · obtain rfl : k = ps.length := by omega
        have hm : ¬ es ∈ ps := fun h => by
          obtain ⟨j, hj, e⟩ := List.getElem_of_mem h
          exact HN.out j hj hj e
        have ck := HT.out 0 h0
        have hh : ps.headD es = ps[0] := by
          cases ps with
          | nil => simp at h0
          | cons x l => rfl
        have hz : (if idf fs ps[0] < 0 then (3 : Int) else 0) = z := by
          have h := HZ.out
          rw [hasE_no hm, if_neg (by simp), hh] at h
          exact h
        have h0' : (0 : Int) < (ps.length : Int) := by omega
        have hat := hat ps[0]
        generalize ps[0] = p0 at ck hat hz
        generalize idf fs p0 = ix at hat hz
        have HZ2 := Lib.hid hz
        clear hz hm hh
        by_cases hi : ix < 0
        · obtain rfl : (3 : Int) = z := by rw [← HZ2.out, if_pos hi]
          go_wp2_with fail
          refine hat.mono ?_
          rintro e w' ⟨rfl, rfl⟩
          go_wp2
          go_ret
          exact ⟨rfl, rfl⟩
        · obtain rfl : (0 : Int) = z := by rw [← HZ2.out, if_neg hi]
          go_wp2_with fail
          refine hat.mono ?_
          rintro e w' ⟨rfl, rfl⟩
          go_wp2
          go_ret
          exact ⟨rfl, rfl⟩
end

section

open Go.RowKit

/-- Where a file stands. -/
theorem idf_spec (fs : List Rf) (p : ByteArray) : (idf fs p = -1 ∧ alf (fs.map Rf.st) p = none ∧ ∀ f ∈ fs, f.p ≠ p) ∨ ∃ (i : Nat) (h : i < fs.length), idf fs p = (i : Int) ∧ fs[i].p = p ∧ alf (fs.map Rf.st) p = some ⟨fs[i].b, fs[i].sy, fs[i].fm⟩ := by
  unfold idf
  induction fs with
  | nil => exact .inl ⟨rfl, rfl, fun f hf => by simp at hf⟩
  | cons x l ih =>
    by_cases e : x.p = p
    · refine .inr ⟨0, by simp, ?_, e, ?_⟩
      · rw [List.findIdx?_cons, if_pos (by simpa using e)]
      · rw [List.map_cons]
        show alf ((x.p, _) :: _) p = _
        unfold alf
        rw [if_pos e.symm]; rfl
    · have e' : ¬ p = x.p := fun h => e h.symm
      have ha : alf ((x :: l).map Rf.st) p = alf (l.map Rf.st) p := by
        rw [List.map_cons]
        show alf ((x.p, _) :: _) p = _
        conv => lhs; unfold alf
        rw [if_neg e']
      have hx : (x :: l).findIdx? (fun f => decide (f.p = p)) = (l.findIdx? (fun f => decide (f.p = p))).map (· + 1) := by
        rw [List.findIdx?_cons, if_neg (by simpa using e)]
      rw [ha, hx]
      rcases ih with ⟨h1, h2, h3⟩ | ⟨i, h, h1, h2, h3⟩
      · refine .inl ⟨?_, h2, fun f hf => ?_⟩
        · cases hf : l.findIdx? (fun f => decide (f.p = p)) with
          | none => rfl
          | some j => rw [hf] at h1; (simp at h1) <;> omega
        · rcases List.mem_cons.1 hf with rfl | hf
          · exact e
          · exact h3 f hf
      · refine .inr ⟨i + 1, by simpa using h, ?_, by simpa using h2, by simpa using h3⟩
        cases hf : l.findIdx? (fun f => decide (f.p = p)) with
        | none => rw [hf] at h1; (simp at h1) <;> omega
        | some j => rw [hf] at h1; (simp at h1 ⊢) <;> omega
theorem pfold_map {α β : Type} (h : α → β) (ka : α → ByteArray) (kb : β → ByteArray) (hk : ∀ y, kb (h y) = ka y) (x : α) (l : List α) : pfold kb (h x) (l.map h) = ((pfold ka x l).1, (pfold ka x l).2.map h) := by
  unfold pfold
  have : ∀ (l : List α) (s : Bool × List α), (l.map h).foldl (pstep kb (h x)) (s.1, s.2.map h) = ((l.foldl (pstep ka x) s).1, (l.foldl (pstep ka x) s).2.map h) := by
    intro l
    induction l with
    | nil => intro s; rfl
    | cons y l ih =>
      intro s
      rw [List.map_cons, List.foldl_cons, List.foldl_cons, ← ih]
      congr 1
      unfold pstep
      rw [hk, hk]
      split
      · rfl
      · split
        · simp
        · simp
  exact this l (false, [])
theorem pput_map {α β : Type} (h : α → β) (ka : α → ByteArray) (kb : β → ByteArray) (hk : ∀ y, kb (h y) = ka y) (x : α) (l : List α) : (pput ka x l).map h = pput kb (h x) (l.map h) := by
  unfold pput
  rw [pfold_map h ka kb hk]
  simp only
  split
  · rfl
  · simp
theorem pput_st (f : Rf) (fs : List Rf) : (pput Rf.p f fs).map Rf.st = pput Prod.fst f.st (fs.map Rf.st) := pput_map Rf.st Rf.p Prod.fst (fun _ => rfl) f fs
theorem als_app (l m : Fl) : als (l ++ m) = als l + als m := by unfold als; rw [List.map_append, List.sum_append]
theorem als_pput (p : ByteArray) (v : Fi) (L : Fl) : als (pput Prod.fst (p, v) L) = als (L.filter (fun x => decide (x.1 ≠ p))) + v.b.length := by
  have h : ∀ (l : Fl) (s : Bool × Fl), als (l.foldl (pstep Prod.fst (p, v)) s).2 + (if s.1 = true then v.b.length else 0) = als s.2 + als (l.filter (fun x => decide (x.1 ≠ p))) + (if (l.foldl (pstep Prod.fst (p, v)) s).1 = true then v.b.length else 0) := by
    intro l
    induction l with
    | nil => intro s; rfl
    | cons y l ih =>
      intro s
      rw [List.foldl_cons, List.filter_cons]
      have h1 := ih (pstep Prod.fst (p, v) s y)
      by_cases e : y.1 = p
      · have hp : pstep Prod.fst (p, v) s y = s := by unfold pstep; rw [if_pos e]
        rw [hp] at h1 ⊢
        have hflt : (if decide (y.1 ≠ p) = true then y :: l.filter (fun x => decide (x.1 ≠ p)) else l.filter (fun x => decide (x.1 ≠ p))) = l.filter (fun x => decide (x.1 ≠ p)) := if_neg (by simpa using e)
        rw [hflt]
        exact h1
      · have hflt : (if decide (y.1 ≠ p) = true then y :: l.filter (fun x => decide (x.1 ≠ p)) else l.filter (fun x => decide (x.1 ≠ p))) = y :: l.filter (fun x => decide (x.1 ≠ p)) := if_pos (by simpa using e)
        rw [hflt]
        have h2 : als (y :: l.filter (fun x => decide (x.1 ≠ p))) = y.2.b.length + als (l.filter (fun x => decide (x.1 ≠ p))) := by unfold als; simp
        rw [h2]
        by_cases hd : s.1 = false ∧ gtP y.1 p = true
        · have hp : pstep Prod.fst (p, v) s y = (true, s.2 ++ [(p, v)] ++ [y]) := by unfold pstep; rw [if_neg e, if_pos hd]
          rw [hp] at h1 ⊢
          rw [hd.1]
          simp only [if_true, als_app] at h1 ⊢
          have h3 : als [(p, v)] = v.b.length := by simp [als]
          have h4 : als [y] = y.2.b.length := by simp [als]
          simp only [Bool.false_eq_true, if_false]
          omega
        · have hp : pstep Prod.fst (p, v) s y = (s.1, s.2 ++ [y]) := by unfold pstep; rw [if_neg e, if_neg hd]
          rw [hp] at h1 ⊢
          simp only [als_app] at h1 ⊢
          have h4 : als [y] = y.2.b.length := by simp [als]
          omega
  have := h L (false, [])
  unfold pput pfold
  simp only [Bool.false_eq_true, if_false] at this
  have h0 : als ([] : Fl) = 0 := rfl
  split
  · rename_i hd
    rw [hd] at this
    simp only [if_true] at this
    omega
  · rename_i hd
    rw [if_neg hd] at this
    rw [als_app]
    have h3 : als [(p, v)] = v.b.length := by simp [als]
    omega
theorem als_drop (p : ByteArray) (L : Fl) : als (L.filter (fun x => decide (x.1 ≠ p))) + (alo L p).b.length ≤ als L := by
  induction L with
  | nil => simp [als, alo, alf]
  | cons y l ih =>
    have h2 : als (y :: l) = y.2.b.length + als l := by unfold als; simp
    rw [List.filter_cons, h2]
    by_cases e : y.1 = p
    · rw [if_neg (by simpa using e)]
      have ho : alo (y :: l) p = y.2 := by
        obtain ⟨k, x⟩ := y
        unfold alo alf
        rw [if_pos e.symm]; rfl
      rw [ho]
      omega
    · rw [if_pos (by simpa using e)]
      have ho : alo (y :: l) p = alo l p := by
        obtain ⟨k, x⟩ := y
        unfold alo
        conv => lhs; unfold alf
        rw [if_neg (fun h => e h.symm)]
      rw [ho]
      have h3 : als (y :: l.filter (fun x => decide (x.1 ≠ p))) = y.2.b.length + als (l.filter (fun x => decide (x.1 ≠ p))) := by unfold als; simp
      rw [h3]
      omega

theorem RdIn.cells_g {w : World} {g : Nat} {O : Nat → Prop} {v : Value} {fs : List Rf} {q : Nat} {dead arm : Bool} {n : Int} (h : RdIn w g O v fs q dead arm n) : ∀ i, i = g → ∀ j x, w.cell? ⟨i, j, none⟩ ≠ some (.int .u8 x) := by
  rintro i rfl j x hc
  rw [h.cell.cell j] at hc
  obtain ⟨A, c, hv⟩ := own_sl h.ow
  rw [hv] at hc
  have : j < 5 := by
    rcases Nat.lt_or_ge j 5 with h | h
    · exact h
    · rw [Array.getElem?_eq_none (by simpa using h)] at hc; cases hc
  obtain rfl | rfl | rfl | rfl | rfl : j = 0 ∨ j = 1 ∨ j = 2 ∨ j = 3 ∨ j = 4 := by omega
  all_goals simp at hc
theorem Bz.nog {w w' : World} {g : Nat} {A : Option Addr} {c : Nat} {bs : List Int} (h : Bz w A c bs) (k : Kp (· = g) w w') (hg : ∀ i, i = g → ∀ j x, w.cell? ⟨i, j, none⟩ ≠ some (.int .u8 x)) : Bz w' A c bs :=
  h.kp k (fun hz b hA e => by
    obtain ⟨B, off, eA, _, hc⟩ := h.cell 0 (List.length_pos_iff.2 hz)
    rw [eA] at hA; injection hA with hA; subst hA
    exact hg _ e _ _ hc)

theorem blk_nou8 {w : World} {B : Nat} {cs : Array Value} {T : TypeId} (h : Blk w B cs T) (hn : ∀ v ∈ cs.toList, ∀ x, v ≠ .int .u8 x) : ∀ i, i = B → ∀ j x, w.cell? ⟨i, j, none⟩ ≠ some (.int .u8 x) := by
  rintro i rfl j x hc
  rw [h.cell] at hc
  exact hn _ (Array.mem_toList_iff.2 (Array.mem_of_getElem? hc)) x rfl
/-- What an act of the reference's did. -/
def RDid (w w' : World) (g : Nat) (O : Nat → Prop) (res : Int × Rk) (e : Ending) : Prop := ∃ O', e = .returned (.int .i64 res.1) ∧ RdAt w' g O' res.2 ∧ (∀ i, O' i → O i ∨ w.heap.size ≤ i) ∧ Kp O w w'
noncomputable def Rk.app (r : Rk) (p : ByteArray) (b : List Int) : Int × Rk :=
  if r.dead = true then (7, r) else if p = es then (1, r) else if (r.q : Int) - (als r.L : Nat) < (b.length : Int) then (6, r) else if r.stop.1 = true then (7, r.stop.2)
  else (0, { r.stop.2 with L := pput Prod.fst (p, { alo r.L p with b := (alo r.L p).b ++ b }) r.L })
theorem stop_keeps (r : Rk) : r.stop.2.L = r.L ∧ r.stop.2.q = r.q := by unfold Rk.stop; split <;> exact ⟨rfl, rfl⟩

set_option maxRecDepth 100000 in
set_option maxHeartbeats 4000000 in
theorem rapp40_c (g : Nat) (O : Nat → Prop) (r : Rk) (w : World) (h : RdAt w g O r) (p : ByteArray) (A : Option Addr) (c : Nat) (bs : List Int) (hb : Bz w A c bs) (hl : bs.length ≤ 70000) (hn : -999999 ≤ r.n) (hlen : r.L.length ≤ 900) :
    Calls Try.prog 40 #[ptr g, .string p, .slice A bs.length c] w fun e w' => RDid w w' g O (r.app p bs) e := by
  have h0 := h
  obtain ⟨v, fs, I, hL⟩ := h
  have c1 := I.cell.cell 1
  have c2 := I.cell.cell 2
  simp at c1 c2
  have hrd : r.dead = true ∨ r.dead = false := by cases r.dead <;> simp
  unfold Rk.app
  rcases hrd with hd | hd
  · rw [if_pos hd]
    rw [hd] at c2
    have HR : RDid w w g O (7, r) (.returned (.int .i64 7)) := ⟨O, rfl, h0, fun i hi => .inl hi, Kp.refl _ _⟩
    clear I hL
    go_enter Try.func40, Try.ntmps40
    go_wp2
    go_ret
    exact HR
  · rw [if_neg (by simp [hd])]
    rw [hd] at c2
    by_cases hp : p = es
    · subst hp
      rw [if_pos rfl]
      have HR : RDid w w g O (1, r) (.returned (.int .i64 1)) := ⟨O, rfl, h0, fun i hi => .inl hi, Kp.refl _ _⟩
      have t := tl_es
      clear I hL
      go_enter Try.func40, Try.ntmps40
      go_wp2
      go_ret
      exact HR
    · rw [if_neg hp]
      obtain ⟨t1, t2, t3⟩ := tl_ne hp
      have hus : ∀ W, Kp0 w W → Calls Try.prog 78 #[ptr g] W fun e w' => e = .returned (.int .i64 (als r.L : Nat)) ∧ Kp0 W w' := fun W k => used78_c g O r W (h0.kp0 k)
      have hS : ∀ W, Kp0 w W → W.cell? ⟨g, 1, none⟩ = some (.int .i64 (r.q : Int)) := fun W k => by rw [(I.cell.kp0 k).cell]; rfl
      have us := I.us
      have qu := I.qu
      rw [hL] at us
      have K0 : Kp0 w w.drew := (Kp.refl _ _).drew
      obtain ⟨U, hU⟩ : ∃ U, als r.L = U := ⟨_, rfl⟩
      rw [hU] at hus us ⊢
      have hwq : IntKind.i64.wrap ((r.q : Int) - (U : Int)) = (r.q : Int) - (U : Int) := by rw [IntKind.wrap_i64]; omega
      have HU := Lib.hid hU
      clear hU
      have HI := Lib.hid I
      by_cases hfull : (r.q : Int) - (U : Int) < (bs.length : Int)
      · rw [if_pos hfull]
        clear I hL
        go_enter Try.func40, Try.ntmps40
        go_wp2_with fail
        go_region_held3 (fun W => W.cell? ⟨g, 1, none⟩ = some (.int .i64 (r.q : Int))) (first | exact hS _ K0 | exact hS _ (K0.then0 KU)) ((go_at_call 78; go_fit (hus _ K0); rintro e wB ⟨rfl, KU⟩))
        go_wp2
        go_ret
        exact ⟨O, rfl, h0.kp0 (K0.then0 KU), fun i hi => .inl hi, (K0.then0 KU).mono (fun _ _ x => x.elim)⟩
      · rw [if_neg hfull]
        have hst := fun W (k : Kp0 w W) => stops79_c g O r W (h0.kp0 k) hn
        obtain ⟨sL, sQ⟩ := stop_keeps r
        obtain ⟨sb, r2, hs⟩ : ∃ sb r2, r.stop = (sb, r2) := ⟨_, _, rfl⟩
        rw [hs] at sL sQ ⊢
        simp only [hs] at hst
        dsimp only at sL sQ ⊢
        have hog := I.og
        clear I hL hs
        cases sb with
        | true =>
          rw [if_pos rfl]
          go_enter Try.func40, Try.ntmps40
          go_wp2_with fail
          go_region_held3 (fun W => W.cell? ⟨g, 1, none⟩ = some (.int .i64 (r.q : Int))) (first | exact hS _ K0 | exact hS _ (K0.then0 KU)) ((go_at_call 78; go_fit (hus _ K0); rintro e wB ⟨rfl, KU⟩))
          have hstB := hst _ (K0.then0 KU)
          clear hus hS
          go_wp2_with fail
          refine hstB.mono ?_
          rintro e w3 ⟨rfl, R3, k3⟩
          clear hst hstB
          go_wp2
          go_ret
          exact ⟨O, rfl, R3, fun i hi => .inl hi, ((K0.then0 KU).mono (fun _ _ x => x.elim)).trans k3 (fun i _ e => by rw [e]; exact hog)⟩
        | false =>
          rw [if_neg (by simp)]
          go_enter Try.func40, Try.ntmps40
          go_wp2_with fail
          go_region_held3 (fun W => W.cell? ⟨g, 1, none⟩ = some (.int .i64 (r.q : Int))) (first | exact hS _ K0 | exact hS _ (K0.then0 KU)) ((go_at_call 78; go_fit (hus _ K0); rintro e wB ⟨rfl, KU⟩))
          have hstB := hst _ (K0.then0 KU)
          have hbB := hb.kp0 (K0.then0 KU)
          have hgB := (HI.out.kp0 (K0.then0 KU)).cells_g
          have KB := K0.then0 KU
          clear hus hS KU
          go_wp2_with fail
          refine hstB.mono ?_
          rintro e w3 ⟨rfl, R3, k3⟩
          have hb3 := hbB.nog k3 hgB
          have K3 : Kp O w w3 := (KB.mono (fun _ _ x => x.elim)).trans k3 (fun i _ e => by rw [e]; exact hog)
          have hs3 := K3.size
          clear hst hstB hbB hgB KB k3 hb HI h0
          obtain ⟨v2, fs2, I2, hL2⟩ := R3
          rw [sL] at hL2
          have kA : Kp0 w3 (w3.alloc (.cells #[.string p, .slice none 0 0, .int .i64 0, .bool false] 106)) := (Kp.refl _ _).alloc _
          have BX : Blk (w3.alloc (.cells #[.string p, .slice none 0 0, .int .i64 0, .bool false] 106)) w3.heap.size #[.string p, .slice none 0 0, .int .i64 0, .bool false] 106 := blk_new _ _ rfl
          have hat := at80_i (I2.kp0 kA) p
          have hspec := idf_spec fs2 p
          rw [hL2] at hspec
          have IA := I2.kp0 kA
          have hX : ∀ i, O i → i ≠ w3.heap.size := fun i hi e => by have := I2.lt i hi; omega
          obtain ⟨ix, hix⟩ : ∃ ix, idf fs2 p = ix := ⟨_, rfl⟩
          rw [hix] at hat hspec
          have HSP := Lib.hid hspec
          clear hspec hix
          go_upto_region 10 with fail
          have zA := hb3.kp0 kA
          have KA : Kp O w (w3.alloc (.cells #[.string p, .slice none 0 0, .int .i64 0, .bool false] 106)) := K3.then0 kA
          clear I2 K3 hb3 kA
          generalize w3.alloc (.cells #[.string p, .slice none 0 0, .int .i64 0, .bool false] 106) = wa at *
          generalize w3.heap.size = X at *
          go_upto_if 37 with (go_at_call 80; refine hat.mono ?_; rintro e w' ⟨rfl, rfl⟩)
          go_cut [] from 38 to 44 (fun wx => ∃ (Ao : Option Addr) (co : Nat) (ob : List Int) (osy : Nat) (ofm : Bool), Blk wx X #[.string p, .slice Ao ob.length co, .int .i64 (osy : Int), .bool ofm] 106 ∧ Bz wx Ao co ob ∧ alo r.L p = ⟨ob, osy, ofm⟩ ∧ osy ≤ ob.length ∧ Kp (· = X) wa wx)
          case first =>
            rcases HSP.out with ⟨e1, e2, e3⟩ | ⟨i, hi, e1, e2, e3⟩
            · subst e1
              clear IA zA KA hat
              go_wp2_with fail
              go_meet
              exact ⟨none, 0, [], 0, false, BX, .inl ⟨.inl ⟨rfl, rfl, rfl⟩, by simp⟩, by unfold alo; rw [e2]; rfl, by simp, Kp.refl _ _⟩
            · subst e1
              obtain ⟨A2, cp2, hv2, m1, m2, hrow⟩ := rf_row IA.ow
              subst hv2
              have g0 := IA.cell.cell 0
              simp at g0
              obtain ⟨R, rfl, hR, hc⟩ := hrow i hi
              obtain ⟨d0, d1, d2, d3⟩ := hc _ (Kp.refl _ _)
              have hok := IA.ok fs2[i] (List.getElem_mem hi)
              have hbo := IA.bo fs2[i] (List.getElem_mem hi)
              have hi' : (i : Int) < (fs2.length : Int) ∧ (0 : Int) ≤ (i : Int) := by omega
              have p0 := BX.cell 0
              have p1 := BX.cell 1
              have p2 := BX.cell 2
              have p3 := BX.cell 3
              simp at p0 p1 p2 p3
              have f0 := BX.free 0
              have f1 := BX.free 1
              have f2 := BX.free 2
              have f3 := BX.free 3
              clear hc hrow IA KA hat HSP zA
              generalize fs2[i] = y at *
              obtain ⟨yp, yA, yc, yb, yy, yf⟩ := y
              dsimp only at *
              subst e2
              have hfin : ∃ (Ao : Option Addr) (co : Nat) (ob : List Int) (osy : Nat) (ofm : Bool), Blk ((((wa.setCell ⟨X, 0, none⟩ (.string yp)).setCell ⟨X, 1, none⟩ (.slice yA yb.length yc)).setCell ⟨X, 2, none⟩ (.int .i64 (yy : Int))).setCell ⟨X, 3, none⟩ (.bool yf)) X #[.string yp, .slice Ao ob.length co, .int .i64 (osy : Int), .bool ofm] 106 ∧ Bz ((((wa.setCell ⟨X, 0, none⟩ (.string yp)).setCell ⟨X, 1, none⟩ (.slice yA yb.length yc)).setCell ⟨X, 2, none⟩ (.int .i64 (yy : Int))).setCell ⟨X, 3, none⟩ (.bool yf)) Ao co ob ∧ alo r.L yp = ⟨ob, osy, ofm⟩ ∧ osy ≤ ob.length ∧ Kp (· = X) wa ((((wa.setCell ⟨X, 0, none⟩ (.string yp)).setCell ⟨X, 1, none⟩ (.slice yA yb.length yc)).setCell ⟨X, 2, none⟩ (.int .i64 (yy : Int))).setCell ⟨X, 3, none⟩ (.bool yf)) := by
                have k4 : Kp (· = X) wa ((((wa.setCell ⟨X, 0, none⟩ (.string yp)).setCell ⟨X, 1, none⟩ (.slice yA yb.length yc)).setCell ⟨X, 2, none⟩ (.int .i64 (yy : Int))).setCell ⟨X, 3, none⟩ (.bool yf)) := ((((Kp.self X wa).put 0 _).put 1 _).put 2 _).put 3 _
                refine ⟨yA, yc, yb, yy, yf, by simpa using (((BX.set 0 (.string yp)).set 1 (.slice yA yb.length yc)).set 2 (.int .i64 (yy : Int))).set 3 (.bool yf), hok.1.kp k4 (fun hz a ha e => hX _ (hbo hz a ha).1 e), by unfold alo; rw [e3]; rfl, hok.2.2.2, k4⟩
              have HF := Lib.hid hfin
              clear hfin hok hbo hX e3 BX
              go_wp2_with fail
              go_meet
              exact HF.out
          case rest =>
          obtain ⟨Ao, co, ob, osy, ofm, BX2, zo, hal, hsy, kx⟩ := hcut
          have zb := zA.nog kx (blk_nou8 BX (fun v hv x => by simp at hv; rcases hv with rfl | rfl | rfl | rfl <;> simp))
          have I3 := IA.kp kx (fun i hi e => hX i hi e)
          have K3 : Kp O w wc := KA.trans kx (fun i hi e => by omega)
          have hXl := BX2.lt
          have hol : ob.length + bs.length ≤ 140737488355328 := by
            have h1 := als_drop p r.L
            rw [hal, HU.out] at h1
            dsimp only at h1
            omega
          have hol2 : ob.length ≤ U := by
            have h1 := als_drop p r.L
            rw [hal, HU.out] at h1
            dsimp only at h1
            omega
          have hf2 : als ((pput Prod.fst (p, (⟨ob ++ bs, osy, ofm⟩ : Fi)) r.L)) ≤ 65536 := by
            have h1 := als_drop p r.L
            rw [hal, HU.out] at h1
            dsimp only at h1
            rw [als_pput, List.length_append]
            omega
          have hfl : fs2.length ≤ 900 := by
            have : (fs2.map Rf.st).length = r.L.length := by rw [hL2]
            rw [List.length_map] at this
            omega
          have hgl := I3.cell.lt
          have HF2 := Lib.hid hf2
          have HAL := Lib.hid hal
          have x1 := BX2.cell 1
          simp at x1
          have hX2 := hX
          clear IA zA BX KA hat HSP hX c1 c2 hf2 hal kx
          go_wp2_with (at_builtin; refine app_any rfl _ _ rfl (.slice none 0 0) 0 [] rfl Ao ob.length co ob rfl rfl zo (World.ownsRow_nil _ _ _ _) (by omega) ?_)
          intro v1 w1 o1 k1 b1
          obtain ⟨A1, cp1, hv1⟩ := own_sl o1
          subst hv1
          have K1 : Kp0 wc w1 := k1.mono (fun i hi e => by simp [Value.ownBlock] at e)
          have hb1 : ∀ i, (Value.slice A1 ob.length cp1).ownBlock = some i → wc.heap.size ≤ i := fun i hi => by
            rcases b1 with b1 | b1
            · rw [b1] at hi; simp [Value.ownBlock] at hi
            · rw [b1] at hi; injection hi with hi; omega
          clear k1 b1
          go_wp2_with (at_builtin; refine app_any rfl _ _ rfl (.slice A1 ob.length cp1) ob.length (u8s ob) rfl A bs.length c bs rfl rfl (zb.kp0 K1) o1 (by omega) ?_)
          intro v5 w5 o5 k5 b5
          have hz1 := K1.size
          have K5 : Kp0 wc w5 := K1.trans k5 (fun i hi e => by have := hb1 i e; omega)
          have hb5 : ∀ i, v5.ownBlock = some i → wc.heap.size ≤ i := fun i hi => by
            rcases b5 with b5 | b5
            · exact hb1 i (b5 ▸ hi)
            · rw [b5] at hi; injection hi with hi; omega
          clear k5 b5 o1 hb1 K1
          have hbyt : ∀ x ∈ ob ++ bs, 0 ≤ x ∧ x ≤ 255 := fun x hx => by
            rcases List.mem_append.1 hx with hx | hx
            · exact zo.byt x hx
            · exact zb.byt x hx
          have o6 : w5.ownsRow 0 5 1 v5 (ob ++ bs).length (u8s (ob ++ bs)) := by
            rw [List.length_append]
            have : u8s (ob ++ bs) = u8s ob ++ u8s bs := by simp [u8s]
            rw [this]
            exact o5
          obtain ⟨A5, cp5, hv5⟩ := own_sl o6
          subst hv5
          have z6 := bz_own o6 rfl hbyt
          have hcap : (ob ++ bs).length ≤ cp5 ∧ cp5 ≤ 9223372036854775807 := by
            rcases own_shape o6 with ⟨e, e0, _⟩ | ⟨r, cap, e, e1, e2, _⟩
            · injection e with _ e2 e3
              subst e3; omega
            · injection e with _ _ e3
              subst e3; exact ⟨e1, e2⟩
          have hAn : ∀ a, A5 = some a → wc.heap.size ≤ a.block := fun a ha => by subst ha; exact hb5 _ rfl
          have kS : Kp (· = X) w5 (w5.setCell ⟨X, 1, none⟩ (.slice A5 (ob ++ bs).length cp5)) := (Kp.self X w5).put 1 _
          have z7 := z6.kp kS (fun hz a ha e => by have := hAn a ha; omega)
          have I5 := (I3.kp0 K5).kp kS (fun i hi e => hX2 i hi e)
          have BX5 := (BX2.kp0 K5).set 1 (.slice A5 (ob ++ bs).length cp5)
          have hput := put81_i I5 ⟨p, A5, cp5, ob ++ bs, osy, ofm⟩ ⟨z7, hcap.1, hcap.2, by simp; omega⟩ (fun hz a ha => by have := hAn a ha; omega) (by rw [pput_st, hL2]; exact HF2.out) hfl
          have q0 : (w5.setCell ⟨X, 1, none⟩ (.slice A5 (ob ++ bs).length cp5)).cell? ⟨X, 0, none⟩ = some (.string p) := by rw [BX5.cell]; rfl
          have q2 : (w5.setCell ⟨X, 1, none⟩ (.slice A5 (ob ++ bs).length cp5)).cell? ⟨X, 2, none⟩ = some (.int .i64 (osy : Int)) := by rw [BX5.cell]; rfl
          have q3 : (w5.setCell ⟨X, 1, none⟩ (.slice A5 (ob ++ bs).length cp5)).cell? ⟨X, 3, none⟩ = some (.bool ofm) := by rw [BX5.cell]; rfl
          have q1 : (w5.setCell ⟨X, 1, none⟩ (.slice A5 (ob ++ bs).length cp5)).cell? ⟨X, 1, none⟩ = some (.slice A5 (ob ++ bs).length cp5) := by rw [BX5.cell]; rfl
          have K6 : Kp O w (w5.setCell ⟨X, 1, none⟩ (.slice A5 (ob ++ bs).length cp5)) := (K3.then0 K5).trans kS (fun i hi e => by omega)
          have hfin : ∀ w7, (∃ v' O', RdIn w7 g O' v' (pput Rf.p ⟨p, A5, cp5, ob ++ bs, osy, ofm⟩ fs2) r2.q r2.dead r2.arm r2.n ∧ Kp (· = g) (w5.setCell ⟨X, 1, none⟩ (.slice A5 (ob ++ bs).length cp5)) w7 ∧ ∀ i, O' i → O i ∨ (ob ++ bs ≠ [] ∧ ∃ a, A5 = some a ∧ a.block = i) ∨ (w5.setCell ⟨X, 1, none⟩ (.slice A5 (ob ++ bs).length cp5)).heap.size ≤ i) →
              RDid w w7 g O (0, { L := pput Prod.fst (p, { b := (alo r.L p).b ++ bs, sy := (alo r.L p).sy, firm := (alo r.L p).firm }) r.L, q := r2.q, dead := r2.dead, arm := r2.arm, n := r2.n }) (.returned (.int .i64 0)) := by
            rintro w7 ⟨v', O', J, k7, hO'⟩
            have hs6 := K6.size
            rw [HAL.out]
            refine ⟨O', rfl, ⟨v', _, J, by rw [pput_st, hL2]; rfl⟩, fun i hi => ?_, K6.trans k7 (fun i hi e => by rw [e]; exact hog)⟩
            rcases hO' i hi with h | ⟨_, a, ha, rfl⟩ | h
            · exact .inl h
            · have := hAn a ha; have := K3.size; exact .inr (by omega)
            · exact .inr (by omega)
          have HFIN := Lib.hid hfin
          have f1 := (BX2.kp0 K5).free 1
          have p1 := (BX2.kp0 K5).cell 1
          simp at p1
          dsimp only [Rf.ag] at hput
          simp only [List.length_append] at hput q0 q1 q2 q3
          clear hfin o6 o5 z6 z7 I5 BX5 I3 BX2 K3 K5 K6 kS hAn hb5 hcap zo zb hbyt HAL HF2 hX2 x1
          go_wp2_with fail
          refine hput.mono ?_
          rintro e w7 ⟨rfl, hx⟩
          simp only [← List.length_append] at hx
          have HD := Lib.hid (HFIN.out w7 hx)
          clear hx HFIN hput q0 q1 q2 q3
          go_wp2
          go_ret
          exact HD.out
end

section

open Go.RowKit

theorem own_set {w : World} {b e size n g cap : Nat} {xs : List Value} (h : w.ownsRow b e size (.slice (some ⟨g, 0, none⟩) n cap) n xs) (j : Nat) (u : Value) : (w.setCell ⟨g, j, none⟩ u).ownsRow b e size (.slice (some ⟨g, 0, none⟩) n cap) n (xs.set j u) := by
  obtain ⟨h1, ⟨h2, _⟩ | ⟨g', cap', cur, e', h6, h3, h4, h5, h7, h8⟩⟩ := h
  · cases h2
  · injection e' with e1 e2 e3
    injection e1 with e1
    injection e1 with e1
    subst e1; subst e3
    refine ⟨by rw [List.length_set]; exact h1, .inr ⟨g, cap, cur.setIfInBounds j u, rfl, h6, ?_, h4, h5, by simpa using h7, ?_⟩⟩
    · show (w.setCell ⟨g, j, none⟩ u).heap[g]? = _
      simp [World.setCell, Array.getElem?_modify, h3]
    · rw [Array.toList_setIfInBounds, List.take_set, h8]
theorem own_free {w : World} {b e size n g cap : Nat} {xs : List Value} (h : w.ownsRow b e size (.slice (some ⟨g, 0, none⟩) n cap) n xs) (j : Nat) : w.frozen? ⟨g, j, none⟩ = false := by
  obtain ⟨h1, ⟨h2, _⟩ | ⟨g', cap', cur, e', h6, h3, h4, h5, h7, h8⟩⟩ := h
  · cases h2
  · injection e' with e1 e2 e3
    injection e1 with e1
    injection e1 with e1
    subst e1
    simp [World.frozen?, h3]
theorem rfs_set (c : List Rf) (i : Nat) (x : Rf) (hi : i < c.length) (hp : x.p = c[i].p) : (((rfs c).set (i * 4 + 1) (.slice x.A x.b.length x.c)).set (i * 4 + 2) (.int .i64 (x.sy : Int))).set (i * 4 + 3) (.bool x.fm) = rfs (c.set i x) := by
  have hc : c = c.take i ++ c[i] :: c.drop (i + 1) := by rw [← List.drop_eq_getElem_cons hi, List.take_append_drop]
  have hs : c.set i x = c.take i ++ x :: c.drop (i + 1) := by
    conv => lhs; rw [hc]
    rw [List.set_append_right _ _ (by rw [List.length_take]; omega)]
    rw [List.length_take, Nat.min_eq_left (by omega), Nat.sub_self]
    rfl
  have hl : (rfs (c.take i)).length = i * 4 := by rw [rfs_len, List.length_take, Nat.min_eq_left (by omega)]
  have hr : rfs c = rfs (c.take i) ++ ([.string c[i].p, .slice c[i].A c[i].b.length c[i].c, .int .i64 (c[i].sy : Int), .bool c[i].fm] ++ rfs (c.drop (i + 1))) := by
    conv => lhs; rw [hc, rfs_app]
    rfl
  rw [hs, rfs_app, hr]
  rw [List.set_append_right _ _ (by omega), List.set_append_right _ _ (by omega), List.set_append_right _ _ (by omega)]
  congr 1
  rw [hl]
  rw [show i * 4 + 1 - i * 4 = 1 by omega, show i * 4 + 2 - i * 4 = 2 by omega, show i * 4 + 3 - i * 4 = 3 by omega, ← hp]
  rfl
theorem rfs_same (c : List Rf) (i : Nat) (hi : i < c.length) : (rfs c).set (i * 4 + 1) (.slice c[i].A c[i].b.length c[i].c) = rfs c := by
  have h := rfs_at c i 1 hi (by omega)
  have h2 : (c[i]).cs[1]? = some (.slice c[i].A c[i].b.length c[i].c) := rfl
  rw [h2] at h
  obtain ⟨hlt, he⟩ := List.getElem?_eq_some_iff.1 h
  rw [← he, List.set_getElem_self]

/-- A file of the row turned in its place. -/
theorem RdIn.upd {w w' : World} {g R c : Nat} {O : Nat → Prop} {fs : List Rf} {q : Nat} {dead arm : Bool} {n : Int} (h : RdIn w g O (.slice (some ⟨R, 0, none⟩) fs.length c) fs q dead arm n) (i : Nat) (hi : i < fs.length) (y : Rf) (hy : FOk w y)
    (hyb : y.b ≠ [] → ∀ a, y.A = some a → O a.block ∧ a.block ≠ g ∧ a.block ≠ R) (hle : y.b.length ≤ fs[i].b.length) (k : Kp (· = R) w w') (ho : w'.ownsRow 0 106 4 (.slice (some ⟨R, 0, none⟩) fs.length c) fs.length (rfs (fs.set i y))) :
    RdIn w' g O (.slice (some ⟨R, 0, none⟩) fs.length c) (fs.set i y) q dead arm n := by
  have hRg := (h.ov R rfl).2
  have hsum : als ((fs.set i y).map Rf.st) ≤ als (fs.map Rf.st) := by
    rw [als_st, als_st]
    have hc : fs = fs.take i ++ fs[i] :: fs.drop (i + 1) := by rw [← List.drop_eq_getElem_cons hi, List.take_append_drop]
    have hs : fs.set i y = fs.take i ++ y :: fs.drop (i + 1) := by
      conv => lhs; rw [hc]
      rw [List.set_append_right _ _ (by rw [List.length_take]; omega)]
      rw [List.length_take, Nat.min_eq_left (by omega), Nat.sub_self]
      rfl
    rw [hs]
    conv => rhs; rw [hc]
    simp only [List.map_append, List.sum_append, List.map_cons, List.sum_cons]
    omega
  have hmem : ∀ x ∈ fs.set i y, x = y ∨ x ∈ fs := fun x hx => by
    rcases List.mem_or_eq_of_mem_set hx with h | h
    · exact .inr h
    · exact .inl h
  refine ⟨h.cell.kp k (fun e => hRg e.symm), by rw [List.length_set]; exact ho, fun x hx => ?_, fun x hx hz a ha => ?_, h.og, h.ov, fun j hj => Nat.lt_of_lt_of_le (h.lt j hj) k.size, Nat.le_trans hsum h.us, h.qu, by rw [List.length_set]; exact h.ln, h.nn⟩
  · rcases hmem x hx with rfl | hx
    · exact hy.kp k (fun hz a ha => (hyb hz a ha).2.2)
    · exact (h.ok x hx).kp k (fun hz a ha e => (h.bo x hx hz a ha).2.2 (by rw [e]; rfl))
  · rcases hmem x hx with rfl | hx
    · have := hyb hz a ha
      exact ⟨this.1, this.2.1, fun e => this.2.2 (by simp [Value.ownBlock] at e; exact e.symm)⟩
    · exact h.bo x hx hz a ha

def fup (L : Fl) (p : ByteArray) (v : Fi) : Fl := L.map (fun x => if x.1 = p then (p, v) else x)
theorem fup_set : ∀ (fs : List Rf) (i : Nat) (hi : i < fs.length) (y : Rf), ((fs.map Rf.st).map Prod.fst).Nodup → y.p = fs[i].p → (fs.set i y).map Rf.st = fup (fs.map Rf.st) fs[i].p y.st.2
  | [], i, hi, _, _, _ => by simp at hi
  | x :: l, 0, hi, y, hn, hp => by
    rw [List.map_cons, List.map_cons, List.nodup_cons] at hn
    have hp : y.p = x.p := hp
    show (y :: l).map Rf.st = fup ((x :: l).map Rf.st) x.p y.st.2
    unfold fup
    rw [List.map_cons, List.map_cons, List.map_cons, if_pos (by rfl)]
    congr 1
    · show y.st = (x.p, y.st.2)
      rw [← hp]; rfl
    · symm
      conv => rhs; rw [← List.map_id (l.map Rf.st)]
      refine List.map_congr_left (fun z hz => ?_)
      rw [if_neg (fun e => hn.1 (by show x.p ∈ _; rw [← e]; exact List.mem_map_of_mem hz))]
      rfl
  | x :: l, i + 1, hi, y, hn, hp => by
    rw [List.map_cons, List.map_cons, List.nodup_cons] at hn
    have hi' : i < l.length := by simpa using hi
    have ih := fup_set l i hi' y hn.2 hp
    show (x :: l.set i y).map Rf.st = fup ((x :: l).map Rf.st) l[i].p y.st.2
    unfold fup at ih ⊢
    rw [List.map_cons, List.map_cons, List.map_cons, ih]
    congr 1
    rw [if_neg (fun e => hn.1 (by show x.p ∈ _; rw [show x.p = l[i].p from e]; rw [List.map_map]; exact List.mem_map.2 ⟨l[i], List.getElem_mem hi', rfl⟩))]

noncomputable def Rk.beg (r : Rk) (ps : List ByteArray) : Int := if r.dead = true then 7 else if hasE ps = true then 1 else if (alf r.L (ps.headD es)).isSome = true then 0 else 3
theorem rbg_eq (dead : Bool) (fs : List Rf) (ps : List ByteArray) (r : Rk) (hd : r.dead = dead) (hL : fs.map Rf.st = r.L) : rbg dead fs ps = r.beg ps := by
  unfold rbg Rk.beg
  rw [hd]
  split
  · rfl
  · split
    · rfl
    · rcases idf_spec fs (ps.headD es) with ⟨e1, e2, _⟩ | ⟨i, hi, e1, _, e3⟩
      · rw [hL] at e2
        rw [e1, e2]; rfl
      · rw [hL] at e3
        rw [e1, e3, if_neg (by omega)]; rfl
theorem beg_some {r : Rk} {p : ByteArray} {ps : List ByteArray} (h : r.beg (p :: ps) = 0) : (alf r.L p).isSome = true := by
  unfold Rk.beg at h
  split at h
  · cases h
  · split at h
    · cases h
    · split at h
      · assumption
      · cases h
noncomputable def Rk.syn (r : Rk) (p : ByteArray) : Int × Rk :=
  if r.beg [p] ≠ 0 then (r.beg [p], r) else if r.stop.1 = true then (7, r.stop.2) else (0, { r.stop.2 with L := fup r.L p ⟨(alo r.L p).b, (alo r.L p).b.length, true⟩ })
noncomputable def Rk.rem (r : Rk) (p : ByteArray) : Int × Rk :=
  if r.beg [p] ≠ 0 then (r.beg [p], r) else if r.stop.1 = true then (7, r.stop.2) else (0, { r.stop.2 with L := r.L.filter (fun x => decide (x.1 ≠ p)) })

theorem one_ts (w : World) (p : ByteArray) : Ts (w.alloc (.cells #[.string p] 9)) w.heap.size [p] := ⟨by simp, fun j hj => by
  obtain rfl : j = 0 := by simpa using hj
  exact Blk.cell (Blk.new _ _ _) 0⟩

set_option maxRecDepth 100000 in
set_option maxHeartbeats 4000000 in
theorem rsyn41_c (g : Nat) (O : Nat → Prop) (r : Rk) (w : World) (h : RdAt w g O r) (p : ByteArray) (hn : -999999 ≤ r.n) (hnd : (r.L.map Prod.fst).Nodup) :
    Calls Try.prog 41 #[ptr g, .string p] w fun e w' => RDid w w' g O (r.syn p) e := by
  have h0 := h
  obtain ⟨v, fs, I, hL⟩ := h
  have ka : Kp0 w (w.alloc (.cells #[.string p] 9)) := (Kp.refl _ _).alloc _
  have hbg := begin82_i (I.kp0 ka) w.heap.size 1 [p] (by simp) (by simp) (one_ts w p)
  rw [rbg_eq r.dead fs [p] r rfl hL] at hbg
  have hog := I.og
  unfold Rk.syn
  obtain ⟨z, hz⟩ : ∃ z, r.beg [p] = z := ⟨_, rfl⟩
  rw [hz] at hbg ⊢
  by_cases hz0 : z = 0
  · subst hz0
    rw [if_neg (by simp)]
    have hsome := beg_some hz
    have hst := stops79_c g O r _ (h0.kp0 ka) hn
    obtain ⟨sL, sQ⟩ := stop_keeps r
    obtain ⟨sb, r2, hs⟩ : ∃ sb r2, r.stop = (sb, r2) := ⟨_, _, rfl⟩
    rw [hs] at sL sQ ⊢
    simp only [hs] at hst
    dsimp only at sL sQ ⊢
    clear I hL hs hz
    cases sb with
    | true =>
      rw [if_pos rfl]
      go_enter Try.func41, Try.ntmps41
      go_wp2_with fail
      refine hbg.mono ?_
      rintro e w' ⟨rfl, rfl⟩
      go_wp2_with fail
      refine hst.mono ?_
      rintro e w3 ⟨rfl, R3, k3⟩
      clear hbg hst
      go_wp2
      go_ret
      exact ⟨O, rfl, R3, fun i hi => .inl hi, (ka.mono (fun _ _ x => x.elim)).trans k3 (fun i _ e => by rw [e]; exact hog)⟩
    | false =>
      rw [if_neg (by simp)]
      go_enter Try.func41, Try.ntmps41
      go_wp2_with fail
      refine hbg.mono ?_
      rintro e w' ⟨rfl, rfl⟩
      go_wp2_with fail
      refine hst.mono ?_
      rintro e w3 ⟨rfl, R3, k3⟩
      clear hbg hst
      have K3 : Kp O w w3 := (ka.mono (fun _ _ x => x.elim)).trans k3 (fun i _ e => by rw [e]; exact hog)
      obtain ⟨v2, fs2, I2, hL2⟩ := R3
      rw [sL] at hL2
      have hsp := idf_spec fs2 p
      rw [hL2] at hsp
      rcases hsp with ⟨_, e2, _⟩ | ⟨i, hi, e1, e2, e3⟩
      · rw [e2] at hsome; cases hsome
      have hat : ∀ W, Kp0 w3 W → Calls Try.prog 80 #[ptr g, .string p] W fun e w' => e = .returned (.int .i64 (i : Int)) ∧ W = w' := fun W k => by
        have := at80_i (I2.kp0 k) p
        rwa [e1] at this
      obtain ⟨A2, cp2, hv2, m1, m2, hrow⟩ := rf_row I2.ow
      subst hv2
      obtain ⟨R, rfl, hR, hc⟩ := hrow i hi
      have hS : ∀ W, Kp0 w3 W → W.cell? ⟨g, 0, none⟩ = some (.slice (some ⟨R, 0, none⟩) fs2.length cp2) := fun W k => by rw [(I2.cell.kp0 k).cell]; rfl
      have K0 : Kp0 w3 w3.drew := (Kp.refl _ _).drew
      have hi' : (i : Int) < (fs2.length : Int) ∧ (0 : Int) ≤ (i : Int) := by omega
      obtain ⟨d0, d1, d2, d3⟩ := hc _ K0
      have J := I2.kp0 K0
      have f2 := own_free J.ow (i * 4 + 2)
      have f3 := own_free J.ow (i * 4 + 3)
      have K4 : Kp O w w3.drew := K3.then0 K0
      have hOR : O R := (J.ov R rfl).1
      have hok := J.ok fs2[i] (List.getElem_mem hi)
      have hbo := J.bo fs2[i] (List.getElem_mem hi)
      have hset := rfs_set fs2 i ⟨fs2[i].p, fs2[i].A, fs2[i].c, fs2[i].b, fs2[i].b.length, true⟩ hi rfl
      dsimp only at hset
      rw [rfs_same fs2 i hi] at hset
      have hw5 : RDid w ((w3.drew.setCell ⟨R, i * 4 + 2, none⟩ (.int .i64 (fs2[i].b.length : Int))).setCell ⟨R, i * 4 + 3, none⟩ (.bool true)) g O (0, { L := fup r.L p ⟨(alo r.L p).b, (alo r.L p).b.length, true⟩, q := r2.q, dead := r2.dead, arm := r2.arm, n := r2.n }) (.returned (.int .i64 0)) := by
        have k5 : Kp (· = R) w3.drew ((w3.drew.setCell ⟨R, i * 4 + 2, none⟩ (.int .i64 (fs2[i].b.length : Int))).setCell ⟨R, i * 4 + 3, none⟩ (.bool true)) := ((Kp.self R _).put _ _).put _ _
        have ho := own_set (own_set J.ow (i * 4 + 2) (.int .i64 (fs2[i].b.length : Int))) (i * 4 + 3) (.bool true)
        rw [hset] at ho
        have J5 := J.upd i hi ⟨fs2[i].p, fs2[i].A, fs2[i].c, fs2[i].b, fs2[i].b.length, true⟩ ⟨hok.1, hok.2.1, hok.2.2.1, Nat.le_refl _⟩ (fun hz a ha => by
          have := hbo hz a ha
          exact ⟨this.1, this.2.1, fun e => this.2.2 (by rw [e]; rfl)⟩) (Nat.le_refl _) k5 ho
        refine ⟨O, rfl, ⟨_, _, J5, ?_⟩, fun i hi => .inl hi, K4.trans k5 (fun j _ e => by rw [e]; exact hOR)⟩
        rw [fup_set fs2 i hi ⟨fs2[i].p, fs2[i].A, fs2[i].c, fs2[i].b, fs2[i].b.length, true⟩ (by rw [hL2]; exact hnd) rfl, hL2, e2]
        have hal : alo r.L p = ⟨fs2[i].b, fs2[i].sy, fs2[i].fm⟩ := by unfold alo; rw [e3]; rfl
        rw [hal]; rfl
      have HD := Lib.hid hw5
      clear hw5 hset hok hbo I2 J hc hrow K3 K4 k3 ka hsome e1 e2 e3 hL2
      generalize fs2[i].b.length = bl at *
      generalize fs2[i].p = fp at *
      generalize fs2[i].A = fA at *
      generalize fs2[i].c = fc at *
      generalize fs2[i].sy = fy at *
      generalize fs2[i].fm = ff at *
      go_wp2_with fail
      go_region_held3 (fun W => W.cell? ⟨g, 0, none⟩ = some (.slice (some ⟨R, 0, none⟩) fs2.length cp2)) (first | exact hS _ K0) ((go_at_call 80; go_fit (hat _ K0); rintro e wB ⟨rfl, rfl⟩))
      clear hS hat
      generalize w3.drew = w4 at d0 d1 d2 d3 f2 f3 HD ⊢
      go_wp2
      go_ret
      exact HD.out
  · rw [if_pos hz0]
    have hz' : (z != 0) = true := by rw [bne_iff_ne]; exact hz0
    have HR : RDid w (w.alloc (.cells #[.string p] 9)) g O (z, r) (.returned (.int .i64 z)) := ⟨O, rfl, h0.kp0 ka, fun i hi => .inl hi, ka.mono (fun _ _ x => x.elim)⟩
    have HRR := Lib.hid HR
    clear I hL hz hz0 HR h0
    go_enter Try.func41, Try.ntmps41
    go_wp2_with fail
    refine hbg.mono ?_
    rintro e w' ⟨rfl, rfl⟩
    clear hbg
    go_wp2
    go_ret
    exact HRR.out
set_option maxRecDepth 100000 in
set_option maxHeartbeats 4000000 in
theorem rrem44_c (g : Nat) (O : Nat → Prop) (r : Rk) (w : World) (h : RdAt w g O r) (p : ByteArray) (hn : -999999 ≤ r.n) :
    Calls Try.prog 44 #[ptr g, .string p] w fun e w' => RDid w w' g O (r.rem p) e := by
  have h0 := h
  obtain ⟨v, fs, I, hL⟩ := h
  have ka : Kp0 w (w.alloc (.cells #[.string p] 9)) := (Kp.refl _ _).alloc _
  have hbg := begin82_i (I.kp0 ka) w.heap.size 1 [p] (by simp) (by simp) (one_ts w p)
  rw [rbg_eq r.dead fs [p] r rfl hL] at hbg
  have hog := I.og
  unfold Rk.rem
  obtain ⟨z, hz⟩ : ∃ z, r.beg [p] = z := ⟨_, rfl⟩
  rw [hz] at hbg ⊢
  by_cases hz0 : z = 0
  · subst hz0
    rw [if_neg (by simp)]
    have hsome := beg_some hz
    have hst := stops79_c g O r _ (h0.kp0 ka) hn
    obtain ⟨sL, sQ⟩ := stop_keeps r
    obtain ⟨sb, r2, hs⟩ : ∃ sb r2, r.stop = (sb, r2) := ⟨_, _, rfl⟩
    rw [hs] at sL sQ ⊢
    simp only [hs] at hst
    dsimp only at sL sQ ⊢
    clear I hL hs hz
    cases sb with
    | true =>
      rw [if_pos rfl]
      go_enter Try.func44, Try.ntmps44
      go_wp2_with fail
      refine hbg.mono ?_
      rintro e w' ⟨rfl, rfl⟩
      go_wp2_with fail
      refine hst.mono ?_
      rintro e w3 ⟨rfl, R3, k3⟩
      clear hbg hst
      go_wp2
      go_ret
      exact ⟨O, rfl, R3, fun i hi => .inl hi, (ka.mono (fun _ _ x => x.elim)).trans k3 (fun i _ e => by rw [e]; exact hog)⟩
    | false =>
      rw [if_neg (by simp)]
      go_enter Try.func44, Try.ntmps44
      go_wp2_with fail
      refine hbg.mono ?_
      rintro e w' ⟨rfl, rfl⟩
      go_wp2_with fail
      refine hst.mono ?_
      rintro e w3 ⟨rfl, R3, k3⟩
      clear hbg hst
      have K3 : Kp O w w3 := (ka.mono (fun _ _ x => x.elim)).trans k3 (fun i _ e => by rw [e]; exact hog)
      obtain ⟨v2, fs2, I2, hL2⟩ := R3
      rw [sL] at hL2
      have hdr := drop83_i I2 p
      have hL3 : (pdrop fs2 p).map Rf.st = r.L.filter (fun x => decide (x.1 ≠ p)) := by
        rw [← hL2]
        unfold pdrop
        rw [List.filter_map]
        congr 1
        apply List.filter_congr
        intro x _
        show (!decide (x.p = p)) = decide (x.p ≠ p)
        by_cases e : x.p = p <;> simp [e]
      have hs3 := K3.size
      have hfin : ∀ w7, (∃ v' O', RdIn w7 g O' v' (pdrop fs2 p) r2.q r2.dead r2.arm r2.n ∧ Kp (· = g) w3 w7 ∧ ∀ i, O' i → O i ∨ w3.heap.size ≤ i) → RDid w w7 g O (0, { L := r.L.filter (fun x => decide (x.1 ≠ p)), q := r2.q, dead := r2.dead, arm := r2.arm, n := r2.n }) (.returned (.int .i64 0)) := by
        rintro w7 ⟨v', O', J, k7, hO'⟩
        refine ⟨O', rfl, ⟨v', _, J, hL3⟩, fun i hi => ?_, K3.trans k7 (fun i hi e => by rw [e]; exact hog)⟩
        rcases hO' i hi with h | h
        · exact .inl h
        · exact .inr (by omega)
      have HFIN := Lib.hid hfin
      clear hfin I2 hL2 hL3 K3 k3 hsome
      go_wp2_with fail
      refine hdr.mono ?_
      rintro e w7 ⟨rfl, hx⟩
      have HD := Lib.hid (HFIN.out w7 hx)
      clear hx HFIN hdr
      go_wp2
      go_ret
      exact HD.out
  · rw [if_pos hz0]
    have hz' : (z != 0) = true := by rw [bne_iff_ne]; exact hz0
    have HR : RDid w (w.alloc (.cells #[.string p] 9)) g O (z, r) (.returned (.int .i64 z)) := ⟨O, rfl, h0.kp0 ka, fun i hi => .inl hi, ka.mono (fun _ _ x => x.elim)⟩
    have HRR := Lib.hid HR
    clear I hL hz hz0 HR h0
    go_enter Try.func44, Try.ntmps44
    go_wp2_with fail
    refine hbg.mono ?_
    rintro e w' ⟨rfl, rfl⟩
    clear hbg
    go_wp2
    go_ret
    exact HRR.out

set_option maxRecDepth 100000 in
theorem rfuse45_c (g : Nat) (O : Nat → Prop) (r : Rk) (w : World) (h : RdAt w g O r) (m : Nat) (hm : m ≤ 1000) :
    Calls Try.prog 45 #[ptr g, .int .i64 (m : Int)] w fun e w' => e = .returned (.tuple #[]) ∧ RdAt w' g O { r with arm := true, n := (m : Int) } ∧ Kp (· = g) w w' := by
  obtain ⟨v, fs, I, hL⟩ := h
  have c3 := I.cell.cell 3
  have c4 := I.cell.cell 4
  have f3 := I.cell.free 3
  have f4 := I.cell.free 4
  simp at c3 c4
  have K : Kp (· = g) w ((w.setCell ⟨g, 3, none⟩ (.bool true)).setCell ⟨g, 4, none⟩ (.int .i64 (m : Int))) := ((Kp.self g w).put 3 _).put 4 _
  have D' : RdAt ((w.setCell ⟨g, 3, none⟩ (.bool true)).setCell ⟨g, 4, none⟩ (.int .i64 (m : Int))) g O { r with arm := true, n := (m : Int) } := ⟨v, fs, I.setg K (by simpa using (I.cell.set 3 (.bool true)).set 4 (.int .i64 (m : Int))) (show -1000000 ≤ (m : Int) ∧ (m : Int) ≤ 1000000 by omega), hL⟩
  have HD := Lib.hid D'
  clear I D' hL
  rcases Nat.eq_zero_or_pos m with rfl | h0
  · go_enter Try.func45, Try.ntmps45
    go_wp2
    go_end0
    exact ⟨rfl, HD.out, K⟩
  · have h0' : (0 : Int) < (m : Int) := by omega
    go_enter Try.func45, Try.ntmps45
    go_wp2
    go_end0
    exact ⟨rfl, HD.out, K⟩
end

section

open Go.RowKit

theorem run_cut3 {w : World} {a : Option Addr} {cap : Nat} {bs : List Int} (hr : Bz w a cap bs) (hc : bs.length ≤ cap) (m : Nat) (h2 : m ≤ bs.length) :
    ∃ A, (∀ W, (Instr.sliceAt 22 (.slice a bs.length cap) none (some (.int .i64 (m : Int))) (some (.int .i64 (m : Int)))).run Try.prog W = .ok (.slice A m m) W) ∧ Bz w A m (bs.take m) ∧ (bs.take m ≠ [] → ∀ x, A = some x → ∃ y, a = some y ∧ y.block = x.block) := by
  have hu : Try.prog.underlying 22 = some (.slice (Try.prog.elem 22)) := by kernel_rfl
  have hs : ∀ W, (sizeOf (Try.prog.elem 22)).run Try.prog W = .ok 1 W := fun W => by kernel_rfl
  have hb : ∀ c ∈ bs.take m, 0 ≤ c ∧ c ≤ 255 := fun c hc => hr.byt c (List.mem_of_mem_take hc)
  refine ⟨if m = 0 then a else a.map (·.add (0 * 1)), fun W => ?_, ?_, fun hz x hx => ?_⟩
  · rw [run_sliceAt_slice _ _ _ _ _ _ hu, run_slice_hm _ _ _ _ _ hu _ _ _ _ (by omega) (by omega) (by omega), hs W]
    simp only [Result.andThen, Int.toNat_natCast, sliced, Nat.sub_zero]
  · rcases hr with ⟨⟨rfl, rfl, rfl⟩ | ⟨B, off, rfl, hV, hB⟩, _⟩ | ⟨rfl, x, rfl⟩
    · obtain rfl : m = 0 := by simpa using h2
      exact .inl ⟨.inl ⟨rfl, rfl, rfl⟩, by simp⟩
    · refine .inl ⟨.inr ⟨B, off, ?_, ?_, hB⟩, hb⟩
      · split
        · rfl
        · simp [add_plain']
      · rw [List.map_take]; exact hV.take m
    · refine .inr ⟨by simp, ?_⟩
      split
      · exact ⟨x, rfl⟩
      · exact ⟨_, rfl⟩
  · have hm : m ≠ 0 := fun e => hz (by rw [e]; rfl)
    rw [if_neg hm] at hx
    obtain ⟨y, hy, hyx⟩ := Option.map_eq_some_iff.1 hx
    refine ⟨y, hy, ?_⟩
    rw [← hyx]
    simp [Addr.add]

set_option maxRecDepth 100000 in
theorem stops79_i (g : Nat) (O : Nat → Prop) (r : Rk) (v : Value) (fs : List Rf) (w : World) (I : RdIn w g O v fs r.q r.dead r.arm r.n) (hn : -999999 ≤ r.n) :
    Calls Try.prog 79 #[ptr g] w fun e w' => e = .returned (.bool r.stop.1) ∧ RdIn w' g O v fs r.q r.stop.2.dead r.stop.2.arm r.stop.2.n ∧ Kp (· = g) w w' := by
  have nn := I.nn
  have c3 := I.cell.cell 3
  have c4 := I.cell.cell 4
  have f2 := I.cell.free 2
  have f4 := I.cell.free 4
  have c2 := I.cell.cell 2
  simp at c2 c3 c4
  have hD : RdIn (w.setCell ⟨g, 2, none⟩ (.bool true)) g O v fs r.q true r.arm r.n := I.setg ((Kp.self g w).put 2 _) (by simpa using I.cell.set 2 (.bool true)) nn
  have hN : RdIn (w.setCell ⟨g, 4, none⟩ (.int .i64 (r.n - 1))) g O v fs r.q r.dead r.arm (r.n - 1) := I.setg ((Kp.self g w).put 4 _) (by simpa using I.cell.set 4 (.int .i64 (r.n - 1))) (show -1000000 ≤ r.n - 1 ∧ r.n - 1 ≤ 1000000 by omega)
  have hw : IntKind.i64.wrap (r.n - 1) = r.n - 1 := by rw [IntKind.wrap_i64]; omega
  have HD := Lib.hid hD
  have HN := Lib.hid hN
  clear I hD hN
  unfold Rk.stop
  obtain ⟨L, q, dead, arm, n⟩ := r
  simp only at *
  cases arm with
  | true =>
    by_cases h0 : n = 0
    · subst h0
      rw [if_pos ⟨rfl, rfl⟩]
      clear HN hw
      go_enter Try.func79, Try.ntmps79
      go_wp2
      go_ret
      exact ⟨rfl, HD.out, (Kp.self g w).put 2 _⟩
    · rw [if_neg (by simp [h0])]
      have h0' : (n == 0) = false := by rw [beq_eq_false_iff_ne]; exact h0
      go_enter Try.func79, Try.ntmps79
      go_wp2
      go_ret
      exact ⟨rfl, HN.out, (Kp.self g w).put 4 _⟩
  | false =>
    rw [if_neg (by simp)]
    go_enter Try.func79, Try.ntmps79
    go_wp2
    go_ret
    exact ⟨rfl, HN.out, (Kp.self g w).put 4 _⟩

noncomputable def Rk.cut (r : Rk) (p : ByteArray) (m : Int) : Int × Rk :=
  if r.beg [p] ≠ 0 then (r.beg [p], r) else if m < 0 ∨ ((alo r.L p).b.length : Int) < m then (1, r) else if r.stop.1 = true then (7, r.stop.2) else (0, { r.stop.2 with L := fup r.L p ⟨(alo r.L p).b.take m.toNat, m.toNat, true⟩ })

set_option maxRecDepth 100000 in
set_option maxHeartbeats 4000000 in
theorem rcut43_c (g : Nat) (O : Nat → Prop) (r : Rk) (w : World) (h : RdAt w g O r) (p : ByteArray) (m : Int) (hn : -999999 ≤ r.n) (hnd : (r.L.map Prod.fst).Nodup) :
    Calls Try.prog 43 #[ptr g, .string p, .int .i64 m] w fun e w' => RDid w w' g O (r.cut p m) e := by
  have h0 := h
  obtain ⟨v, fs, I, hL⟩ := h
  have ka : Kp0 w (w.alloc (.cells #[.string p] 9)) := (Kp.refl _ _).alloc _
  have hbg := begin82_i (I.kp0 ka) w.heap.size 1 [p] (by simp) (by simp) (one_ts w p)
  rw [rbg_eq r.dead fs [p] r rfl hL] at hbg
  have hog := I.og
  unfold Rk.cut
  obtain ⟨z, hz⟩ : ∃ z, r.beg [p] = z := ⟨_, rfl⟩
  rw [hz] at hbg ⊢
  by_cases hz0 : z = 0
  · subst hz0
    rw [if_neg (by simp)]
    have hsome := beg_some hz
    clear hz
    have I1 := I.kp0 ka
    have H1 := h0.kp0 ka
    generalize hw1 : w.alloc (.cells #[.string p] 9) = w1 at *
    have hsp := idf_spec fs p
    rw [hL] at hsp
    rcases hsp with ⟨_, e2, _⟩ | ⟨i, hi, e1, e2, e3⟩
    · rw [e2] at hsome; cases hsome
    have hat : ∀ W, Kp0 w1 W → Calls Try.prog 80 #[ptr g, .string p] W fun e w' => e = .returned (.int .i64 (i : Int)) ∧ W = w' := fun W k => by
      have := at80_i (I1.kp0 k) p
      rwa [e1] at this
    obtain ⟨A2, cp2, hv2, m1, m2, hrow⟩ := rf_row I1.ow
    subst hv2
    obtain ⟨R, rfl, hR, hc⟩ := hrow i hi
    have hS : ∀ W, Kp0 w1 W → W.cell? ⟨g, 0, none⟩ = some (.slice (some ⟨R, 0, none⟩) fs.length cp2) := fun W k => by rw [(I1.cell.kp0 k).cell]; rfl
    have K0 : Kp0 w1 w1.drew := (Kp.refl _ _).drew
    have hi' : (i : Int) < (fs.length : Int) ∧ (0 : Int) ≤ (i : Int) := by omega
    have hal : alo r.L p = ⟨fs[i].b, fs[i].sy, fs[i].fm⟩ := by unfold alo; rw [e3]; rfl
    have hRg : R ≠ g := (I1.ov R rfl).2
    rw [hal]
    dsimp only
    have J := I1.kp0 K0
    have JR := H1.kp0 K0
    have kw4 : Kp0 w w1.drew := ka.then0 K0
    obtain ⟨d0, d1, d2, d3⟩ := hc _ K0
    have hlb : fs[i].b.length ≤ 65536 := by
      have h1 := als_drop p r.L
      rw [hal] at h1
      have h2 := I1.us
      rw [hL] at h2
      dsimp only at h1
      omega
    by_cases hbad : m < 0 ∨ ((fs[i].b.length : Nat) : Int) < m
    · rw [if_pos hbad]
      have HR : RDid w w1.drew g O (1, r) (.returned (.int .i64 1)) := ⟨O, rfl, JR, fun i hi => .inl hi, kw4.mono (fun _ _ x => x.elim)⟩
      have HRR := Lib.hid HR
      clear HR h0 I I1 H1 J hL hc hrow e3 hal JR
      generalize fs[i].b.length = bl at *
      generalize fs[i].p = fp at *
      generalize fs[i].A = fA at *
      generalize fs[i].c = fc at *
      generalize fs[i].sy = fy at *
      generalize fs[i].fm = ff at *
      have HW := Lib.hid hw1
      clear hw1
      rcases hbad with hb1 | hb1
      · have HB1 := Lib.hid hb1
        clear hb1
        go_enter Try.func43, Try.ntmps43
        have hw1 := HW.out
        go_wp2_with fail
        refine hbg.mono ?_
        rintro e w' ⟨rfl, rfl⟩
        clear hw1 hbg
        go_wp2_with fail
        go_region_held3 (fun W => W.cell? ⟨g, 0, none⟩ = some (.slice (some ⟨R, 0, none⟩) fs.length cp2)) (first | exact hS _ K0) ((go_at_call 80; go_fit (hat _ K0); rintro e wB ⟨rfl, rfl⟩))
        clear hS hat
        have hb1 : decide (m < 0) = true := decide_eq_true HB1.out
        generalize w1.drew = w4 at d0 d1 d2 d3 HRR ⊢
        go_wp2
        go_ret
        exact HRR.out
      · by_cases hb2 : m < 0
        · have HB1 := Lib.hid hb2
          clear hb1 hb2
          go_enter Try.func43, Try.ntmps43
          have hw1 := HW.out
          go_wp2_with fail
          refine hbg.mono ?_
          rintro e w' ⟨rfl, rfl⟩
          clear hw1 hbg
          go_wp2_with fail
          go_region_held3 (fun W => W.cell? ⟨g, 0, none⟩ = some (.slice (some ⟨R, 0, none⟩) fs.length cp2)) (first | exact hS _ K0) ((go_at_call 80; go_fit (hat _ K0); rintro e wB ⟨rfl, rfl⟩))
          clear hS hat
          have hb1 : decide (m < 0) = true := decide_eq_true HB1.out
          generalize w1.drew = w4 at d0 d1 d2 d3 HRR ⊢
          go_wp2
          go_ret
          exact HRR.out
        · have HB1 := Lib.hid hb1
          have HB2 := Lib.hid hb2
          clear hb1 hb2
          go_enter Try.func43, Try.ntmps43
          have hw1 := HW.out
          go_wp2_with fail
          refine hbg.mono ?_
          rintro e w' ⟨rfl, rfl⟩
          clear hw1 hbg
          go_wp2_with fail
          go_region_held3 (fun W => W.cell? ⟨g, 0, none⟩ = some (.slice (some ⟨R, 0, none⟩) fs.length cp2)) (first | exact hS _ K0) ((go_at_call 80; go_fit (hat _ K0); rintro e wB ⟨rfl, rfl⟩))
          clear hS hat
          have hb1 := HB1.out
          have hb2 : decide (m < 0) = false := decide_eq_false (by have := HB2.out; omega)
          have hb3 : decide (m > (bl : Int)) = true := decide_eq_true hb1
          generalize w1.drew = w4 at d0 d1 d2 d3 HRR ⊢
          go_wp2
          go_ret
          exact HRR.out
    · rw [if_neg hbad]
      obtain ⟨M, rfl⟩ : ∃ M : Nat, m = (M : Int) := ⟨m.toNat, by omega⟩
      have hM : M ≤ fs[i].b.length := by omega
      rw [Int.toNat_natCast]
      have hst := stops79_i g O r _ fs w1.drew J hn
      obtain ⟨sL, sQ⟩ := stop_keeps r
      obtain ⟨sb, r2, hs⟩ : ∃ sb r2, r.stop = (sb, r2) := ⟨_, _, rfl⟩
      rw [hs] at sL sQ ⊢
      simp only [hs] at hst
      dsimp only at sL sQ ⊢
      have hok := J.ok fs[i] (List.getElem_mem hi)
      have hbo := J.bo fs[i] (List.getElem_mem hi)
      have hOR : O R := (J.ov R rfl).1
      have hiL : fs.map Rf.st = r.L := hL
      clear I I1 hs hrow H1 h0 hsome
      have HW := Lib.hid hw1
      clear hw1
      have hbb : decide ((M : Int) > ((fs[i].b.length : Nat) : Int)) = false := decide_eq_false (by omega)
      have hbm : decide ((M : Int) < 0) = false := decide_eq_false (by omega)
      cases sb with
      | true =>
        rw [if_pos rfl]
        have hfin : ∀ w5, RdIn w5 g O (.slice (some ⟨R, 0, none⟩) fs.length cp2) fs r.q r2.dead r2.arm r2.n → Kp (· = g) w1.drew w5 → RDid w w5 g O (7, r2) (.returned (.int .i64 7)) := fun w5 J5 k5 =>
          ⟨O, rfl, ⟨_, fs, by rw [sQ]; exact J5, by rw [hL, sL]⟩, fun i hi => .inl hi, (kw4.mono (fun _ _ x => x.elim)).trans k5 (fun i _ e => by rw [e]; exact hog)⟩
        have HF := Lib.hid hfin
        clear hfin hok hbo hiL J hc hL e3 hal JR kw4
        generalize fs[i].b.length = bl at *
        generalize fs[i].p = fp at *
        generalize fs[i].A = fA at *
        generalize fs[i].c = fc at *
        generalize fs[i].sy = fy at *
        generalize fs[i].fm = ff at *
        go_enter Try.func43, Try.ntmps43
        have hw1 := HW.out
        go_wp2_with fail
        refine hbg.mono ?_
        rintro e w' ⟨rfl, rfl⟩
        clear hw1 hbg
        go_wp2_with fail
        go_region_held3 (fun W => W.cell? ⟨g, 0, none⟩ = some (.slice (some ⟨R, 0, none⟩) fs.length cp2)) (first | exact hS _ K0) ((go_at_call 80; go_fit (hat _ K0); rintro e wB ⟨rfl, rfl⟩))
        clear hS hat
        generalize w1.drew = w4 at d0 d1 d2 d3 HF hst ⊢
        go_wp2_with fail
        refine hst.mono ?_
        rintro e w5 ⟨rfl, J5, k5⟩
        have HD := Lib.hid (HF.out w5 J5 k5)
        clear J5 k5 HF hst
        go_wp2
        go_ret
        exact HD.out
      | false =>
        rw [if_neg (by simp)]
        obtain ⟨A3, hcut3, hz3, hbl3⟩ := run_cut3 hok.1 hok.2.1 M hM
        have htk : (fs[i].b.take M).length = M := by rw [List.length_take]; omega
        have hset := rfs_set fs i ⟨fs[i].p, A3, M, fs[i].b.take M, M, true⟩ hi rfl
        dsimp only at hset
        rw [htk] at hset
        have hfin : ∀ w5, RdIn w5 g O (.slice (some ⟨R, 0, none⟩) fs.length cp2) fs r.q r2.dead r2.arm r2.n → Kp (· = g) w1.drew w5 →
            RDid w (((w5.setCell ⟨R, i * 4 + 1, none⟩ (.slice A3 M M)).setCell ⟨R, i * 4 + 2, none⟩ (.int .i64 (M : Int))).setCell ⟨R, i * 4 + 3, none⟩ (.bool true)) g O (0, { L := fup r.L p ⟨fs[i].b.take M, M, true⟩, q := r2.q, dead := r2.dead, arm := r2.arm, n := r2.n }) (.returned (.int .i64 0)) := fun w5 J5 k5 => by
          have k6 : Kp (· = R) w5 (((w5.setCell ⟨R, i * 4 + 1, none⟩ (.slice A3 M M)).setCell ⟨R, i * 4 + 2, none⟩ (.int .i64 (M : Int))).setCell ⟨R, i * 4 + 3, none⟩ (.bool true)) := (((Kp.self R _).put _ _).put _ _).put _ _
          have ho := own_set (own_set (own_set J5.ow (i * 4 + 1) (.slice A3 M M)) (i * 4 + 2) (.int .i64 (M : Int))) (i * 4 + 3) (.bool true)
          rw [hset] at ho
          have hz5 : Bz w5 A3 M (fs[i].b.take M) := hz3.nog k5 J.cells_g
          have J6 := J5.upd i hi ⟨fs[i].p, A3, M, fs[i].b.take M, M, true⟩ ⟨hz5, by rw [htk]; exact Nat.le_refl _, by show M ≤ _; omega, by rw [htk]; exact Nat.le_refl _⟩ (fun hz a ha => by
            obtain ⟨y, hy, hyx⟩ := hbl3 hz a ha
            have hne : fs[i].b ≠ [] := fun e => hz (by rw [e]; simp)
            have := hbo hne y hy
            rw [← hyx]
            exact ⟨this.1, this.2.1, fun e => this.2.2 (by rw [e]; rfl)⟩) (by rw [htk]; exact hM) k6 ho
          refine ⟨O, rfl, ⟨_, _, by rw [sQ]; exact J6, ?_⟩, fun i hi => .inl hi, ((kw4.mono (fun _ _ x => x.elim)).trans k5 (fun i _ e => by rw [e]; exact hog)).trans k6 (fun j _ e => by rw [e]; exact hOR)⟩
          rw [fup_set fs i hi ⟨fs[i].p, A3, M, fs[i].b.take M, M, true⟩ (by rw [hL]; exact hnd) rfl, hL, e2]
          rfl
        have HF := Lib.hid hfin
        have hrw : ∀ w5, RdIn w5 g O (.slice (some ⟨R, 0, none⟩) fs.length cp2) fs r.q r2.dead r2.arm r2.n → (w5.cell? ⟨R, i * 4, none⟩ = some (.string fs[i].p) ∧ w5.cell? ⟨R, i * 4 + 1, none⟩ = some (.slice fs[i].A fs[i].b.length fs[i].c) ∧ w5.cell? ⟨R, i * 4 + 2, none⟩ = some (.int .i64 (fs[i].sy : Int)) ∧ w5.cell? ⟨R, i * 4 + 3, none⟩ = some (.bool fs[i].fm)) ∧ (∀ j, w5.frozen? ⟨R, j, none⟩ = false) := fun w5 J5 => by
          obtain ⟨A5, c5, hv5, _, _, hrow5⟩ := rf_row J5.ow
          obtain ⟨R5, hR5, _, hc5⟩ := hrow5 i hi
          injection hv5 with hv5 _ _
          rw [← hv5] at hR5
          injection hR5 with hR5
          injection hR5 with hR5
          subst hR5
          exact ⟨hc5 _ (Kp.refl _ _), fun j => own_free J5.ow j⟩
        have HRW := Lib.hid hrw
        have hcap := hok.2.1
        clear hfin hrw hok hbo hiL J hc hL e3 hal JR kw4 hset hz3 hbl3 htk
        generalize fs[i].b.take M = tk at *
        generalize fs[i].b.length = bl at *
        generalize fs[i].p = fp at *
        generalize fs[i].A = fA at *
        generalize fs[i].c = fc at *
        generalize fs[i].sy = fy at *
        generalize fs[i].fm = ff at *
        go_enter Try.func43, Try.ntmps43
        have hw1 := HW.out
        go_wp2_with fail
        refine hbg.mono ?_
        rintro e w' ⟨rfl, rfl⟩
        clear hw1 hbg
        go_wp2_with fail
        go_region_held3 (fun W => W.cell? ⟨g, 0, none⟩ = some (.slice (some ⟨R, 0, none⟩) fs.length cp2)) (first | exact hS _ K0) ((go_at_call 80; go_fit (hat _ K0); rintro e wB ⟨rfl, rfl⟩))
        clear hS hat
        generalize w1.drew = w4 at d0 d1 d2 d3 HF hst ⊢
        go_wp2_with fail
        refine hst.mono ?_
        rintro e w5 ⟨rfl, J5, k5⟩
        have HD := Lib.hid (HF.out w5 J5 k5)
        obtain ⟨⟨r0, r1, r2', r3⟩, rf⟩ := HRW.out w5 J5
        have f1 := rf (i * 4 + 1)
        have f2 := rf (i * 4 + 2)
        have f3 := rf (i * 4 + 3)
        clear J5 k5 HF hst d0 d1 d2 d3 HRW rf
        go_wp2
        go_ret
        exact HD.out
  · rw [if_pos hz0]
    have hz' : (z != 0) = true := by rw [bne_iff_ne]; exact hz0
    have HR : RDid w (w.alloc (.cells #[.string p] 9)) g O (z, r) (.returned (.int .i64 z)) := ⟨O, rfl, h0.kp0 ka, fun i hi => .inl hi, ka.mono (fun _ _ x => x.elim)⟩
    have HRR := Lib.hid HR
    clear I hL hz hz0 HR h0
    go_enter Try.func43, Try.ntmps43
    go_wp2_with fail
    refine hbg.mono ?_
    rintro e w' ⟨rfl, rfl⟩
    clear hbg
    go_wp2
    go_ret
    exact HRR.out
end

section

open Go.RowKit

noncomputable def Rk.ren (r : Rk) (p q : ByteArray) : Int × Rk :=
  if r.beg [p, q] ≠ 0 then (r.beg [p, q], r) else if r.stop.1 = true then (7, r.stop.2) else (0, { r.stop.2 with L := pput Prod.fst (q, ⟨(alo r.L p).b, (alo r.L p).b.length, true⟩) (r.L.filter (fun x => decide (x.1 ≠ p))) })

theorem two_ts (w : World) (p q : ByteArray) : Ts (w.alloc (.cells #[.string p, .string q] 9)) w.heap.size [p, q] := ⟨by simp, fun j hj => by
  obtain rfl | rfl : j = 0 ∨ j = 1 := by simp at hj; omega
  · exact Blk.cell (Blk.new _ _ _) 0
  · exact Blk.cell (Blk.new _ _ _) 1⟩
theorem pdrop_st (fs : List Rf) (p : ByteArray) : (pdrop fs p).map Rf.st = (fs.map Rf.st).filter (fun x => decide (x.1 ≠ p)) := by
  unfold pdrop
  rw [List.filter_map]
  congr 1
  apply List.filter_congr
  intro x _
  show (!decide (x.p = p)) = decide (x.p ≠ p)
  by_cases e : x.p = p <;> simp [e]

set_option maxRecDepth 100000 in
set_option maxHeartbeats 4000000 in
theorem rren42_c (g : Nat) (O : Nat → Prop) (r : Rk) (w : World) (h : RdAt w g O r) (p q : ByteArray) (hn : -999999 ≤ r.n) (hlen : r.L.length ≤ 900) :
    Calls Try.prog 42 #[ptr g, .string p, .string q] w fun e w' => RDid w w' g O (r.ren p q) e := by
  have h0 := h
  obtain ⟨v, fs, I, hL⟩ := h
  have ka : Kp0 w (w.alloc (.cells #[.string p, .string q] 9)) := (Kp.refl _ _).alloc _
  have hbg := begin82_i (I.kp0 ka) w.heap.size 2 [p, q] (by simp) (by simp) (two_ts w p q)
  rw [rbg_eq r.dead fs [p, q] r rfl hL] at hbg
  have hog := I.og
  unfold Rk.ren
  obtain ⟨z, hz⟩ : ∃ z, r.beg [p, q] = z := ⟨_, rfl⟩
  rw [hz] at hbg ⊢
  by_cases hz0 : z = 0
  · subst hz0
    rw [if_neg (by simp)]
    have hsome := beg_some hz
    clear hz
    have hst := stops79_i g O r v fs _ (I.kp0 ka) hn
    obtain ⟨sL, sQ⟩ := stop_keeps r
    obtain ⟨sb, r2, hs⟩ : ∃ sb r2, r.stop = (sb, r2) := ⟨_, _, rfl⟩
    rw [hs] at sL sQ ⊢
    simp only [hs] at hst
    dsimp only at sL sQ ⊢
    have hIu := I.us
    have hbo0 := I.bo
    clear I hs
    cases sb with
    | true =>
      rw [if_pos rfl]
      go_enter Try.func42, Try.ntmps42
      go_wp2_with fail
      refine hbg.mono ?_
      rintro e w' ⟨rfl, rfl⟩
      go_wp2_with fail
      refine hst.mono ?_
      rintro e w3 ⟨rfl, J3, k3⟩
      clear hbg hst
      have HR : RDid w w3 g O (7, r2) (.returned (.int .i64 7)) := ⟨O, rfl, ⟨v, fs, by rw [sQ]; exact J3, by rw [hL, sL]⟩, fun i hi => .inl hi, (ka.mono (fun _ _ x => x.elim)).trans k3 (fun i _ e => by rw [e]; exact hog)⟩
      have HRR := Lib.hid HR
      clear HR J3 k3
      go_wp2
      go_ret
      exact HRR.out
    | false =>
      rw [if_neg (by simp)]
      have hsp := idf_spec fs p
      rw [hL] at hsp
      rcases hsp with ⟨_, e2, _⟩ | ⟨i, hi, e1, e2, e3⟩
      · rw [e2] at hsome; cases hsome
      have hal : alo r.L p = ⟨fs[i].b, fs[i].sy, fs[i].fm⟩ := by unfold alo; rw [e3]; rfl
      rw [hal]
      dsimp only
      obtain ⟨bb, hbb⟩ : ∃ bb, fs[i].b = bb := ⟨_, rfl⟩
      rw [hbb]
      have HBB := Lib.hid hbb
      clear hbb
      have hfl : fs.length ≤ 900 := by
        have : (fs.map Rf.st).length = r.L.length := by rw [hL]
        rw [List.length_map] at this
        omega
      have hdl : als (r.L.filter (fun x => decide (x.1 ≠ p))) + fs[i].b.length ≤ 65536 := by
        have h1 := als_drop p r.L
        rw [hal] at h1
        rw [hL] at hIu
        dsimp only at h1
        omega
      have HAT := Lib.hid e1
      have HDL := Lib.hid hdl
      clear hdl e1 e3 hal hsome hIu
      go_enter Try.func42, Try.ntmps42
      go_wp2_with fail
      refine hbg.mono ?_
      rintro e w' ⟨rfl, rfl⟩
      go_wp2_with fail
      refine hst.mono ?_
      rintro e w3 ⟨rfl, J3, k3⟩
      have K3 : Kp O w w3 := (ka.mono (fun _ _ x => x.elim)).trans k3 (fun i _ e => by rw [e]; exact hog)
      clear hbg hst k3 ka
      have hat : ∀ W, Kp0 w3 W → Calls Try.prog 80 #[ptr g, .string p] W fun e w' => e = .returned (.int .i64 (i : Int)) ∧ W = w' := fun W k => by
        have := at80_i (J3.kp0 k) p
        rwa [HAT.out] at this
      obtain ⟨A2, cp2, hv2, m1, m2, hrow⟩ := rf_row J3.ow
      subst hv2
      obtain ⟨R, rfl, hR, hc⟩ := hrow i hi
      have hS : ∀ W, Kp0 w3 W → (W.cell? ⟨g, 0, none⟩ = some (.slice (some ⟨R, 0, none⟩) fs.length cp2) ∧ W.cell? ⟨R, i * 4, none⟩ = some (.string fs[i].p) ∧ W.cell? ⟨R, i * 4 + 1, none⟩ = some (.slice fs[i].A fs[i].b.length fs[i].c) ∧ W.cell? ⟨R, i * 4 + 2, none⟩ = some (.int .i64 (fs[i].sy : Int)) ∧ W.cell? ⟨R, i * 4 + 3, none⟩ = some (.bool fs[i].fm)) := fun W k => ⟨by rw [(J3.cell.kp0 k).cell]; rfl, hc W k⟩
      have K0 : Kp0 w3 w3.drew := (Kp.refl _ _).drew
      have hi' : (i : Int) < (fs.length : Int) ∧ (0 : Int) ≤ (i : Int) := by omega
      have hok := J3.ok fs[i] (List.getElem_mem hi)
      have hbo := J3.bo fs[i] (List.getElem_mem hi)
      clear hrow hc
      generalize hy : fs[i] = y at *
      obtain ⟨yp, yA, yc, yb, yy, yf⟩ := y
      dsimp only at hS hok hbo HDL e2 ⊢
      subst e2
      have hbb := HBB.out
      dsimp only at hbb
      subst hbb
      clear hy HBB
      go_upto_region 6 with fail
      go_cut [8] from 19 to 27 (fun s8 wx => ∃ X, s8 = ptr X ∧ Blk wx X #[.string yp, .slice yA yb.length yc, .int .i64 (yy : Int), .bool yf] 106 ∧ w3.heap.size ≤ X ∧ Kp0 w3 wx)
      case first =>
        have B4 : Blk (w3.alloc (.cells #[.string yp, .slice yA yb.length yc, .int .i64 (yy : Int), .bool yf] 106)).drew w3.heap.size #[.string yp, .slice yA yb.length yc, .int .i64 (yy : Int), .bool yf] 106 := blk_new _ _ rfl
        have k4 : Kp0 w3 (w3.alloc (.cells #[.string yp, .slice yA yb.length yc, .int .i64 (yy : Int), .bool yf] 106)).drew := ((Kp.refl _ _).alloc _).drew
        have KA := ((Kp.refl (fun _ => False) w3).alloc (.cells #[.string ByteArray.empty, .slice none 0 0, .int .i64 0, .bool false] 106)).drew
        have HB4 := Lib.hid B4
        clear B4 J3 hok hbo K3
        go_region_held3 (fun W => W.cell? ⟨g, 0, none⟩ = some (.slice (some ⟨R, 0, none⟩) fs.length cp2) ∧ W.cell? ⟨R, i * 4, none⟩ = some (.string yp) ∧ W.cell? ⟨R, i * 4 + 1, none⟩ = some (.slice yA yb.length yc) ∧ W.cell? ⟨R, i * 4 + 2, none⟩ = some (.int .i64 (yy : Int)) ∧ W.cell? ⟨R, i * 4 + 3, none⟩ = some (.bool yf)) (first | exact hS _ K0 | exact hS _ KA | exact hS _ k4) ((first | (go_at_call 80; go_fit (hat _ K0); rintro e wB ⟨rfl, rfl⟩) | (go_at_call 80; go_fit (hat _ KA); rintro e wB ⟨rfl, rfl⟩)))
        all_goals
          go_wp2_with fail
          go_meet
          exact ⟨_, rfl, HB4.out, Nat.le_refl _, k4⟩
      case rest =>
      obtain ⟨X, rfl, BX, hX3, kx⟩ := hcut
      have J := J3.kp0 kx
      have hOX : ∀ i, O i → i ≠ X := fun i hi e => by have := J3.lt i hi; omega
      have hXl := BX.lt
      have K4 := K3.then0 kx
      have hok4 := hok.kp0 kx
      have hgX : g ≠ X := hOX g hog
      have hdr := drop83_i J yp
      have HJ := Lib.hid J.cells_g
      have hwX : w.heap.size ≤ X := Nat.le_trans K3.size hX3
      have hwr : R < w3.heap.size := hR
      have hob : yb ≠ [] → ∀ a, yA = some a → O a.block := fun hz a ha => (hbo hz a ha).1
      have hog2 : yb ≠ [] → ∀ a, yA = some a → a.block ≠ g := fun hz a ha => (hbo hz a ha).2.1
      clear J3 J kx K3 hok hS hat
      go_wp2_with fail
      refine hdr.mono ?_
      rintro e wd ⟨rfl, v5, O5, J5, k5, hO5⟩
      clear hdr
      have hok5 : FOk wd ⟨yp, yA, yc, yb, yy, yf⟩ := ⟨hok4.1.nog k5 HJ.out, hok4.2⟩
      have B5 := BX.kp k5 (fun e => hgX e.symm)
      have hO5X : ∀ i, O5 i → i ≠ X := fun i hi e => by
        rcases hO5 i hi with h | h
        · exact hOX i h e
        · omega
      have K5 : Kp O w wd := K4.trans k5 (fun i _ e => by rw [e]; exact hog)
      have hs5 := k5.size
      have kS : Kp (· = X) wd (((wd.setCell ⟨X, 0, none⟩ (.string q)).setCell ⟨X, 2, none⟩ (.int .i64 (yb.length : Int))).setCell ⟨X, 3, none⟩ (.bool true)) := (((Kp.self X wd).put 0 _).put 2 _).put 3 _
      have B6 := ((B5.set 0 (.string q)).set 2 (.int .i64 (yb.length : Int))).set 3 (.bool true)
      have J6 := J5.kp kS (fun i hi e => hO5X i hi e)
      have hbX : yb ≠ [] → ∀ a, yA = some a → a.block ≠ X := fun hz a ha => hOX _ (hbo hz a ha).1
      have hok6 : FOk (((wd.setCell ⟨X, 0, none⟩ (.string q)).setCell ⟨X, 2, none⟩ (.int .i64 (yb.length : Int))).setCell ⟨X, 3, none⟩ (.bool true)) ⟨q, yA, yc, yb, yb.length, true⟩ := ⟨hok5.1.kp kS (fun hz a ha e => hbX hz a ha e), hok5.2.1, hok5.2.2.1, Nat.le_refl _⟩
      have K6 : Kp O w (((wd.setCell ⟨X, 0, none⟩ (.string q)).setCell ⟨X, 2, none⟩ (.int .i64 (yb.length : Int))).setCell ⟨X, 3, none⟩ (.bool true)) := K5.trans kS (fun i hi e => by omega)
      have hput := put81_i J6 ⟨q, yA, yc, yb, yb.length, true⟩ hok6 hog2 (by
        rw [pput_st, pdrop_st, hL]
        show als (pput Prod.fst (q, (⟨yb, yb.length, true⟩ : Fi)) _) ≤ _
        rw [als_pput]
        have h1 := als_drop q (r.L.filter (fun x => decide (x.1 ≠ yp)))
        have h2 := HDL.out
        dsimp only
        omega) (Nat.le_trans (List.length_filter_le _ _) hfl)
      have hfin : ∀ w7, (∃ v' O', RdIn w7 g O' v' (pput Rf.p ⟨q, yA, yc, yb, yb.length, true⟩ (pdrop fs yp)) r.q r2.dead r2.arm r2.n ∧ Kp (· = g) (((wd.setCell ⟨X, 0, none⟩ (.string q)).setCell ⟨X, 2, none⟩ (.int .i64 (yb.length : Int))).setCell ⟨X, 3, none⟩ (.bool true)) w7 ∧ ∀ i, O' i → O5 i ∨ (yb ≠ [] ∧ ∃ a, yA = some a ∧ a.block = i) ∨ (((wd.setCell ⟨X, 0, none⟩ (.string q)).setCell ⟨X, 2, none⟩ (.int .i64 (yb.length : Int))).setCell ⟨X, 3, none⟩ (.bool true)).heap.size ≤ i) →
          RDid w w7 g O (0, { L := pput Prod.fst (q, ⟨yb, yb.length, true⟩) (r.L.filter (fun x => decide (x.1 ≠ yp))), q := r2.q, dead := r2.dead, arm := r2.arm, n := r2.n }) (.returned (.int .i64 0)) := by
        rintro w7 ⟨v', O', J7, k7, hO'⟩
        have hs6 := K6.size
        have hs4 := K4.size
        refine ⟨O', rfl, ⟨v', _, by rw [sQ]; exact J7, by rw [pput_st, pdrop_st, hL]; rfl⟩, fun i hi => ?_, K6.trans k7 (fun i hi e => by rw [e]; exact hog)⟩
        rcases hO' i hi with h | ⟨hz, a, ha, rfl⟩ | h
        · rcases hO5 i h with h | h
          · exact .inl h
          · exact .inr (by omega)
        · exact .inl (hob hz a ha)
        · exact .inr (by omega)
      have HFIN := Lib.hid hfin
      have q0 : (((wd.setCell ⟨X, 0, none⟩ (.string q)).setCell ⟨X, 2, none⟩ (.int .i64 (yb.length : Int))).setCell ⟨X, 3, none⟩ (.bool true)).cell? ⟨X, 0, none⟩ = some (.string q) := by rw [B6.cell]; rfl
      have q1 : (((wd.setCell ⟨X, 0, none⟩ (.string q)).setCell ⟨X, 2, none⟩ (.int .i64 (yb.length : Int))).setCell ⟨X, 3, none⟩ (.bool true)).cell? ⟨X, 1, none⟩ = some (.slice yA yb.length yc) := by rw [B6.cell]; rfl
      have q2 : (((wd.setCell ⟨X, 0, none⟩ (.string q)).setCell ⟨X, 2, none⟩ (.int .i64 (yb.length : Int))).setCell ⟨X, 3, none⟩ (.bool true)).cell? ⟨X, 2, none⟩ = some (.int .i64 (yb.length : Int)) := by rw [B6.cell]; rfl
      have q3 : (((wd.setCell ⟨X, 0, none⟩ (.string q)).setCell ⟨X, 2, none⟩ (.int .i64 (yb.length : Int))).setCell ⟨X, 3, none⟩ (.bool true)).cell? ⟨X, 3, none⟩ = some (.bool true) := by rw [B6.cell]; rfl
      have p0 := B5.cell 0
      have p1 := B5.cell 1
      have p2 := B5.cell 2
      have p3 := B5.cell 3
      simp at p0 p1 p2 p3
      have f0 := B5.free 0
      have f2 := B5.free 2
      have f3 := B5.free 3
      dsimp only [Rf.ag] at hput
      clear hfin hok6 hok5 hok4 J6 B6 J5 B5 BX K4 K5 K6 kS k5 hO5 hO5X hOX hbX hob hog2 HJ HDL hbo
      go_upto_region 9 with fail
      generalize (((wd.setCell ⟨X, 0, none⟩ (.string q)).setCell ⟨X, 2, none⟩ (.int .i64 (yb.length : Int))).setCell ⟨X, 3, none⟩ (.bool true)) = we at q0 q1 q2 q3 hput HFIN ⊢
      clear p0 p1 p2 p3 f0 f2 f3
      go_wp2_with fail
      refine hput.mono ?_
      rintro e w7 ⟨rfl, hx⟩
      have HD := Lib.hid (HFIN.out w7 hx)
      clear hx HFIN hput q0 q1 q2 q3
      go_wp2
      go_ret
      exact HD.out
  · rw [if_pos hz0]
    have hz' : (z != 0) = true := by rw [bne_iff_ne]; exact hz0
    have HR : RDid w (w.alloc (.cells #[.string p, .string q] 9)) g O (z, r) (.returned (.int .i64 z)) := ⟨O, rfl, h0.kp0 ka, fun i hi => .inl hi, ka.mono (fun _ _ x => x.elim)⟩
    have HRR := Lib.hid HR
    clear I hL hz hz0 HR h0
    go_enter Try.func42, Try.ntmps42
    go_wp2_with fail
    refine hbg.mono ?_
    rintro e w' ⟨rfl, rfl⟩
    clear hbg
    go_wp2
    go_ret
    exact HRR.out
end

section

open Go.RowKit

theorem acr_app (k : Nat) (l m : Fl) : acr k (l ++ m) = acr k l ++ acr k m := by
  induction l with
  | nil => rfl
  | cons x l ih =>
    obtain ⟨p, f⟩ := x
    have hc : ∀ l, acr k ((p, f) :: l) = match crF k f with | some f' => (p, f') :: acr k l | none => acr k l := fun _ => rfl
    rw [List.cons_append, hc, hc, ih]
    cases crF k f with
    | none => rfl
    | some f' => rfl
theorem acr_len2 (k : Nat) (l : Fl) : (acr k l).length ≤ l.length := by
  induction l with
  | nil => exact Nat.le_refl _
  | cons x l ih =>
    obtain ⟨p, f⟩ := x
    unfold acr
    cases crF k f with
    | none => show (acr k l).length ≤ _; rw [List.length_cons]; omega
    | some f' => show ((p, f') :: acr k l).length ≤ _; rw [List.length_cons, List.length_cons]; omega
theorem acr_als (k : Nat) (l : Fl) : als (acr k l) ≤ als l := by
  induction l with
  | nil => exact Nat.le_refl _
  | cons x l ih =>
    obtain ⟨p, f⟩ := x
    have h2 : als ((p, f) :: l) = f.b.length + als l := by unfold als; simp
    rw [h2]
    unfold acr
    cases hc : crF k f with
    | none => show als (acr k l) ≤ _; omega
    | some f' =>
      have h3 : als ((p, f') :: acr k l) = f'.b.length + als (acr k l) := by unfold als; simp
      show als ((p, f') :: acr k l) ≤ _
      rw [h3, crF_some hc]
      show (f.b.take _).length + _ ≤ _
      rw [List.length_take]
      omega
def Rk.crash (r : Rk) (k : Nat) : Rk := { L := acr k r.L, q := r.q, dead := false, arm := false, n := r.n }

/-- What the loop of Crash has made, so far. -/
structure CrO (w wr : World) (v : Value) (o : List Rf) : Prop where
  ow : wr.ownsRow 0 106 4 v o.length (rfs o)
  kp : Kp0 w wr
  fr : ∀ i, v.ownBlock = some i → w.heap.size ≤ i
  ok : ∀ f ∈ o, FOk wr f
  by_ : ∀ f ∈ o, f.b ≠ [] → ∀ a, f.A = some a → w.heap.size ≤ a.block ∧ v.ownBlock ≠ some a.block
theorem CrO.kp0 {w wr w2 : World} {v : Value} {o : List Rf} (h : CrO w wr v o) (k : Kp0 wr w2) : CrO w w2 v o := ⟨own_kp h.ow k (fun _ _ x => x), h.kp.then0 k, h.fr, fun f hf => (h.ok f hf).kp0 k, h.by_⟩
theorem FOk.blt {w : World} {f : Rf} (h : FOk w f) : f.b ≠ [] → ∀ a, f.A = some a → a.block < w.heap.size := fun hz a ha => by
  obtain ⟨B, off, eA, hB, _⟩ := h.1.cell 0 (List.length_pos_iff.2 hz)
  rw [eA] at ha; injection ha with ha; subst ha
  exact hB
theorem CrO.add {w wr w3 : World} {v v3 : Value} {o : List Rf} {f : Rf} (h : CrO w wr v o) (o3 : w3.ownsRow 0 106 4 v3 (o.length + 1) (rfs o ++ f.cs)) (k3 : Kp (fun i => v.ownBlock = some i) wr w3) (b3 : v3.ownBlock = v.ownBlock ∨ ∃ j, v3.ownBlock = some j ∧ wr.heap.size ≤ j) (hf : FOk wr f) (hfb : f.b ≠ [] → ∀ a, f.A = some a → w.heap.size ≤ a.block ∧ v.ownBlock ≠ some a.block) : CrO w w3 v3 (o ++ [f]) := by
  have hall : ∀ y ∈ o ++ [f], FOk wr y ∧ (y.b ≠ [] → ∀ a, y.A = some a → w.heap.size ≤ a.block ∧ v.ownBlock ≠ some a.block) := fun y hy => by
    rcases List.mem_append.1 hy with hy | hy
    · exact ⟨h.ok y hy, h.by_ y hy⟩
    · rw [List.mem_singleton] at hy; subst hy; exact ⟨hf, hfb⟩
  refine ⟨by rw [rfs_app, List.length_append]; simpa [rfs] using o3, h.kp.trans k3 (fun i hi e => by have := h.fr i e; omega), fun i hi => ?_, fun y hy => ?_, fun y hy hz a ha => ?_⟩
  · rcases b3 with b3 | ⟨j, b3, hj⟩
    · exact h.fr i (b3 ▸ hi)
    · rw [b3] at hi
      injection hi with hi
      have := h.kp.size
      omega
  · exact (hall y hy).1.kp k3 (fun hz a ha e => ((hall y hy).2 hz a ha).2 e)
  · have h1 := (hall y hy).2 hz a ha
    have h2 := (hall y hy).1.blt hz a ha
    refine ⟨h1.1, fun e => ?_⟩
    rcases b3 with b3 | ⟨j, b3, hj⟩
    · exact h1.2 (b3 ▸ e)
    · rw [b3] at e; injection e with e; omega

theorem CrO.turn {w wr w2 : World} {v : Value} {o : List Rf} {X : Nat} (h : CrO w wr v o) (k : Kp (· = X) wr w2) (hX : w.heap.size ≤ X) (hv : ∀ i, v.ownBlock = some i → i ≠ X) (hb : ∀ f ∈ o, f.b ≠ [] → ∀ a, f.A = some a → a.block ≠ X) : CrO w w2 v o :=
  ⟨own_kp h.ow k (fun i hi e => hv i hi e), h.kp.new k hX, h.fr, fun f hf => (h.ok f hf).kp k (fun hz a ha e => hb f hf hz a ha e), h.by_⟩

set_option maxRecDepth 100000 in
set_option maxHeartbeats 4000000 in
theorem rcrash46_c (g : Nat) (O : Nat → Prop) (r : Rk) (w : World) (h : RdAt w g O r) (k : Nat) (hk : k ≤ 1000000) :
    Calls Try.prog 46 #[ptr g, .int .i64 (k : Int)] w fun e w' => e = .returned (.tuple #[]) ∧ ∃ O', RdAt w' g O' (r.crash k) ∧ (∀ i, O' i → O i ∨ w.heap.size ≤ i) ∧ Kp O w w' := by
  obtain ⟨v, fs, I, hL⟩ := h
  obtain ⟨A, c, rfl, m1, m2, hrow⟩ := rf_row I.ow
  have H := Lib.hid hrow
  have cB := I.cell.cell 0
  simp at cB
  have hln0 := I.ln
  have hgw := I.cell.lt
  have hog := I.og
  have hout : ∀ wr v' o, o.map Rf.st = acr k r.L → CrO w wr v' o → Kp0 w wr ∧ Blk wr g #[.slice A fs.length c, .int .i64 (r.q : Int), .bool r.dead, .bool r.arm, .int .i64 r.n] 104 ∧ Hid (∃ O', RdAt (((wr.setCell ⟨g, 0, none⟩ v').setCell ⟨g, 2, none⟩ (.bool false)).setCell ⟨g, 3, none⟩ (.bool false)) g O' (r.crash k) ∧ (∀ i, O' i → O i ∨ w.heap.size ≤ i) ∧ Kp O w (((wr.setCell ⟨g, 0, none⟩ v').setCell ⟨g, 2, none⟩ (.bool false)).setCell ⟨g, 3, none⟩ (.bool false))) := fun wr v' o hoL J => by
    have B := I.cell.kp0 J.kp
    refine ⟨J.kp, B, Lib.hid ?_⟩
    have k3 : Kp (· = g) wr (((wr.setCell ⟨g, 0, none⟩ v').setCell ⟨g, 2, none⟩ (.bool false)).setCell ⟨g, 3, none⟩ (.bool false)) := (((Kp.self g wr).put 0 _).put 2 _).put 3 _
    have hs := J.kp.size
    have hs2 := k3.size
    refine ⟨fun i => i = g ∨ (w.heap.size ≤ i ∧ i < wr.heap.size), ⟨v', o, ⟨(show Blk _ g #[v', .int .i64 (r.q : Int), .bool false, .bool false, .int .i64 r.n] 104 from by simpa using ((B.set 0 v').set 2 (.bool false)).set 3 (.bool false)), own_kp J.ow k3 (fun i hi e => by have := J.fr i hi; omega), fun f hf => (J.ok f hf).kp k3 (fun hz a ha e => by have := (J.by_ f hf hz a ha).1; omega), fun f hf hz a ha => ?_, .inl rfl, fun i hi => ?_, fun i hi => ?_, ?_, I.qu, ?_, I.nn⟩, hoL⟩, fun i hi => ?_, (J.kp.mono (fun _ _ x => x.elim)).trans k3 (fun i _ e => by rw [e]; exact hog)⟩
    · have h1 := J.by_ f hf hz a ha
      have h2 := (J.ok f hf).blt hz a ha
      exact ⟨.inr ⟨h1.1, h2⟩, by omega, h1.2⟩
    · have h1 := J.fr i hi
      have h2 := (J.ow.lt i hi).2
      exact ⟨.inr ⟨h1, h2⟩, by omega⟩
    · rcases hi with rfl | hi
      · omega
      · omega
    · rw [hoL]
      have := I.us
      rw [hL] at this
      exact Nat.le_trans (acr_als k r.L) this
    · have h1 : (o.map Rf.st).length = (acr k r.L).length := by rw [hoL]
      have h2 := acr_len2 k r.L
      have h3 : (fs.map Rf.st).length = r.L.length := by rw [hL]
      rw [List.length_map] at h1 h3
      omega
    · rcases hi with rfl | hi
      · exact .inl hog
      · exact .inr hi.1
  have HO := Lib.hid hout
  have hok : ∀ j (hj : j < fs.length), FOk w fs[j] := fun j hj => I.ok _ (List.getElem_mem hj)
  have HOK := Lib.hid hok
  have hlb : ∀ j (hj : j < fs.length), fs[j].b.length ≤ 65536 := fun j hj => by
    have h1 := I.us
    rw [als_st] at h1
    have : ∀ (l : List Rf) (x : Rf), x ∈ l → x.b.length ≤ (l.map (fun f => f.b.length)).sum := by
      intro l x
      induction l with
      | nil => intro h; cases h
      | cons y l ih =>
        intro h
        simp only [List.map_cons, List.sum_cons]
        rcases List.mem_cons.1 h with rfl | h
        · omega
        · have := ih h; omega
    exact Nat.le_trans (this fs _ (List.getElem_mem hj)) h1
  have HLB := Lib.hid hlb
  have HL := Lib.hid hL
  have J0 : CrO w w (.slice none 0 0) [] := ⟨World.ownsRow_nil _ _ _ _, Kp.refl _ _, fun i hi => by simp [Value.ownBlock] at hi, fun f hf => by simp at hf, fun f hf => by simp at hf⟩
  clear I hout hok hlb hrow hL
  go_enter Try.func46, Try.ntmps46
  go_wp2_with fail
  clear cB
  go_loopw [4, 13] (fun s4 s13 wr => ∃ (j : Nat) (o : List Rf), j ≤ fs.length ∧ s13 = .int .i64 (j : Nat) ∧ o.length ≤ j ∧ o.map Rf.st = acr k ((fs.take j).map Rf.st) ∧ CrO w wr s4 o) (fun _ s13 _ => (fs.length - intOf s13).toNat)
  case atStart => exact ⟨0, [], by omega, rfl, by simp, rfl, J0⟩
  case round =>
    clear J0
    obtain ⟨j, o, hj, rfl, hoj, hoL, J⟩ := hrel
    obtain ⟨A4, cp4, hv4⟩ := own_sl J.ow
    subst hv4
    by_cases hjl : j < fs.length
    · obtain ⟨b, rfl, _, hc⟩ := H.out j hjl
      obtain ⟨c0, c1, c2, c3⟩ := hc _ J.kp
      have hjl' : (j : Int) < (fs.length : Int) ∧ (0 : Int) ≤ (j : Int) := by omega
      have hst : acr k ((fs.take (j + 1)).map Rf.st) = acr k ((fs.take j).map Rf.st) ++ acr k [fs[j].st] := by
        rw [List.take_add_one, List.getElem?_eq_getElem hjl, List.map_append, acr_app]
        rfl
      rw [← hoL] at hst
      have HST := Lib.hid hst
      have hok := (HOK.out j hjl).kp0 J.kp
      have hlb := HLB.out j hjl
      clear hst hc hoL
      generalize hyy : fs[j] = y at *
      obtain ⟨yp, yA, yc, yb, yy, yf⟩ := y
      dsimp only at c0 c1 c2 c3 hlb
      have ka : Kp0 wr (wr.alloc (.cells #[.string yp, .slice yA yb.length yc, .int .i64 (yy : Int), .bool yf] 106)) := (Kp.refl _ _).alloc _
      have BX : Blk (wr.alloc (.cells #[.string yp, .slice yA yb.length yc, .int .i64 (yy : Int), .bool yf] 106)) wr.heap.size #[.string yp, .slice yA yb.length yc, .int .i64 (yy : Int), .bool yf] 106 := blk_new _ _ rfl
      go_upto_region 4 with fail
      have hXw : w.heap.size ≤ wr.heap.size := J.kp.size
      have hXo := fun i hi => (J.ow.lt i hi).2
      have hbX := fun f hf hz a ha => (J.ok f hf).blt hz a ha
      have J2 := J.kp0 ka
      have hok2 := hok.kp0 ka
      have hyA : yb ≠ [] → ∀ a, yA = some a → a.block < wr.heap.size := hok.blt
      clear J ka hok c0 c1 c2 c3 hyy
      generalize wr.alloc (.cells #[.string yp, .slice yA yb.length yc, .int .i64 (yy : Int), .bool yf] 106) = wa at BX J2 hok2 ⊢
      generalize wr.heap.size = X at BX hXw hXo hyA hbX ⊢
      have hsy : yy ≤ yb.length := hok2.2.2.2
      obtain ⟨M, hM⟩ : ∃ M, kept k ⟨yb, yy, yf⟩ = M := ⟨_, rfl⟩
      have hMe : M = yy + min k (yb.length - yy) := by rw [← hM]; rfl
      have x0 : wa.cell? ⟨X, 0, none⟩ = some (.string yp) := by rw [BX.cell]; rfl
      have x1 : wa.cell? ⟨X, 1, none⟩ = some (.slice yA yb.length yc) := by rw [BX.cell]; rfl
      have x2 : wa.cell? ⟨X, 2, none⟩ = some (.int .i64 (yy : Int)) := by rw [BX.cell]; rfl
      have x3 : wa.cell? ⟨X, 3, none⟩ = some (.bool yf) := by rw [BX.cell]; rfl
      go_cut [7] from 14 to 48 (fun s wx => s = .int .i64 (M : Nat) ∧ wa = wx)
      case first =>
        clear hM BX J2 hok2 hXo hyA hbX
        generalize yb.length = bl at *
        have hw1 : IntKind.i64.wrap ((bl : Int) - (yy : Int)) = (bl : Int) - yy := by rw [IntKind.wrap_i64]; omega
        have HM := Lib.hid hMe
        clear hMe
        go_wp2_with fail
        all_goals
          go_meet
          have := HM.out
          refine ⟨congrArg (Value.int .i64) ?_, rfl⟩
          first | omega | (rw [IntKind.wrap_i64]; omega)
      case rest =>
      obtain ⟨rfl, rfl⟩ := hcut
      have hMl : M ≤ yb.length := by omega
      have hcr : acr k [(yp, (⟨yb, yy, yf⟩ : Fi))] = if M = 0 ∧ yf = false then [] else [(yp, ⟨yb.take M, M, true⟩)] := by
        have hc : acr k [(yp, (⟨yb, yy, yf⟩ : Fi))] = match crF k ⟨yb, yy, yf⟩ with | some f' => [(yp, f')] | none => [] := rfl
        rw [hc]
        unfold crF
        rw [hM]
        by_cases h : M = 0 ∧ yf = false
        · rw [if_pos h, if_pos h]
        · rw [if_neg h, if_neg h]
      have HCR := Lib.hid hcr
      clear hM hMe hcr x2 x3 x0
      obtain ⟨A1, cp1, hsl, hb1, n1, n2⟩ := run_cuthi hok2.1 hok2.2.1 hok2.2.2.1 M hMl
      have htk : (yb.take M).length = M := by rw [List.length_take]; omega
      have hXl := BX.lt
      have JJ := Lib.hid J2
      have HTK := Lib.hid htk
      have HB := Lib.hid hb1
      clear hok2 J2 htk hb1
      have hM0 : 0 ≤ (M : Int) := by omega
      go_wp2_with (at_builtin; refine app_any rfl _ _ rfl (.slice none 0 0) 0 [] rfl A1 M cp1 (yb.take M) rfl HTK.out HB.out (World.ownsRow_nil _ _ _ _) (by omega) ?_)
      intro v1 w1 o1 k1 b1
      have K1 : Kp0 wa w1 := k1.mono (fun i hi e => by simp [Value.ownBlock] at e)
      have hb1 : ∀ i, v1.ownBlock = some i → wa.heap.size ≤ i := fun i hi => by
        rcases b1 with b1 | b1
        · rw [b1] at hi; simp [Value.ownBlock] at hi
        · rw [b1] at hi; injection hi with hi; omega
      have o2 : w1.ownsRow 0 5 1 v1 (yb.take M).length (u8s (yb.take M)) := by
        rw [HTK.out]; simpa using o1
      clear k1 b1 o1
      obtain ⟨A5, cp5, hv5⟩ := own_sl o2
      subst hv5
      have z5 := bz_own o2 rfl (fun x hx => HB.out.byt x hx)
      have hcap : M ≤ cp5 ∧ cp5 ≤ 9223372036854775807 := by
        rcases own_shape o2 with ⟨e, e0, _⟩ | ⟨r, cap, e, e1, e2, _⟩
        · injection e with _ e2 e3
          have := HTK.out
          subst e3; omega
        · injection e with _ _ e3
          have := HTK.out
          subst e3; exact ⟨by omega, e2⟩
      have hA5 : ∀ a, A5 = some a → wa.heap.size ≤ a.block ∧ a.block < w1.heap.size := fun a ha => by subst ha; exact ⟨hb1 _ rfl, (o2.lt _ rfl).2⟩
      have B1 := BX.kp0 K1
      have hs1 := K1.size
      have J1 := JJ.out.kp0 K1
      have p1 := B1.cell 1
      simp at p1
      have f1 := B1.free 1
      have B2 := B1.set 1 (.slice A5 M cp5)
      have k2 : Kp (· = X) w1 (w1.setCell ⟨X, 1, none⟩ (.slice A5 M cp5)) := (Kp.self X w1).put 1 _
      have J2 := J1.turn k2 hXw (fun i hi => Nat.ne_of_lt (hXo i hi)) (fun f hf hz a ha => Nat.ne_of_lt (hbX f hf hz a ha))
      have z6 := z5.kp k2 (fun hz a ha e => by have := (hA5 a ha).1; omega)
      have hs2 := k2.size
      have B2 : Blk (w1.setCell ⟨X, 1, none⟩ (.slice A5 M cp5)) X #[.string yp, .slice A5 M cp5, .int .i64 (yy : Int), .bool yf] 106 := by simpa using B2
      clear J1 B1 BX z5 o2 hb1 K1 JJ HB hsl n1 n2 k2
      go_upto_region 6 with fail
      clear p1 f1 x1
      have hln : o.length ≤ 100000 := by omega
      generalize w1.setCell ⟨X, 1, none⟩ (.slice A5 M cp5) = w2 at B2 J2 z6 hs2 ⊢
      have x0 : w2.cell? ⟨X, 0, none⟩ = some (.string yp) := by rw [B2.cell]; rfl
      have x1 : w2.cell? ⟨X, 1, none⟩ = some (.slice A5 M cp5) := by rw [B2.cell]; rfl
      have x2 : w2.cell? ⟨X, 2, none⟩ = some (.int .i64 (yy : Int)) := by rw [B2.cell]; rfl
      have x3 : w2.cell? ⟨X, 3, none⟩ = some (.bool yf) := by rw [B2.cell]; rfl
      by_cases hdel : M = 0 ∧ yf = false
      · obtain ⟨rfl, rfl⟩ := hdel
        rw [if_pos ⟨rfl, rfl⟩] at HCR
        have JJ := Lib.hid J2
        clear J2 z6 B2 hA5 hyA hXo hbX
        go_wp2_with fail
        go_roundw
        case rel => exact ⟨j + 1, o, by omega, by go_num, by omega, by rw [HST.out]; show _ = _ ++ acr k [(yp, _)]; rw [HCR.out, List.append_nil], JJ.out⟩
        case measure => simp [intOf]; omega
      · rw [if_neg hdel] at HCR
        have f2 := B2.free 2
        have f3 := B2.free 3
        have B4 : Blk ((w2.setCell ⟨X, 2, none⟩ (.int .i64 (M : Int))).setCell ⟨X, 3, none⟩ (.bool true)) X #[.string yp, .slice A5 M cp5, .int .i64 (M : Int), .bool true] 106 := by simpa using (B2.set 2 (.int .i64 (M : Int))).set 3 (.bool true)
        have k4 : Kp (· = X) w2 ((w2.setCell ⟨X, 2, none⟩ (.int .i64 (M : Int))).setCell ⟨X, 3, none⟩ (.bool true)) := ((Kp.self X w2).put 2 _).put 3 _
        have J4 := J2.turn k4 hXw (fun i hi => Nat.ne_of_lt (hXo i hi)) (fun f hf hz a ha => Nat.ne_of_lt (hbX f hf hz a ha))
        have z7 := z6.kp k4 (fun hz a ha e => by have := (hA5 a ha).1; omega)
        have hs4 := k4.size
        have HX : Hid (¬ (M = 0 ∧ yf = false)) := Lib.hid hdel
        have hcase : (M ≠ 0 ∧ True) ∨ (M = 0 ∧ yf = true) := by
          by_cases h : M = 0
          · refine .inr ⟨h, ?_⟩
            cases yf with
            | true => rfl
            | false => exact absurd ⟨h, rfl⟩ hdel
          · exact .inl ⟨h, trivial⟩
        have JJ := Lib.hid J4
        have HZ7 := Lib.hid z7
        have HA5 := Lib.hid hA5
        have HXO := Lib.hid hXo
        have HBX := Lib.hid hbX
        have HB4 := Lib.hid B4
        clear J2 z6 J4 z7 B2 B4 hdel hyA k4 hA5 hXo hbX
        have hend : ∀ v9 w9, w9.ownsRow 0 106 4 v9 (o.length + 1) (rfs o ++ [.string yp, .slice A5 M cp5, .int .i64 (M : Int), .bool true]) → Kp (fun i => (Value.slice A4 o.length cp4).ownBlock = some i) (((w2.setCell ⟨X, 2, none⟩ (.int .i64 (M : Int))).setCell ⟨X, 3, none⟩ (.bool true)).alloc (.cells #[.string yp, .slice A5 M cp5, .int .i64 (M : Int), .bool true] 106)) w9 →
            (v9.ownBlock = (Value.slice A4 o.length cp4).ownBlock ∨ v9.ownBlock = some (((w2.setCell ⟨X, 2, none⟩ (.int .i64 (M : Int))).setCell ⟨X, 3, none⟩ (.bool true)).heap.size + 1)) →
            (o ++ [(⟨yp, A5, cp5, yb.take M, M, true⟩ : Rf)]).length ≤ j + 1 ∧ (o ++ [(⟨yp, A5, cp5, yb.take M, M, true⟩ : Rf)]).map Rf.st = acr k ((fs.take (j + 1)).map Rf.st) ∧ CrO w w9 v9 (o ++ [⟨yp, A5, cp5, yb.take M, M, true⟩]) := fun v9 w9 p9 k9 b9 => by
          have kA : Kp0 ((w2.setCell ⟨X, 2, none⟩ (.int .i64 (M : Int))).setCell ⟨X, 3, none⟩ (.bool true)) (((w2.setCell ⟨X, 2, none⟩ (.int .i64 (M : Int))).setCell ⟨X, 3, none⟩ (.bool true)).alloc (.cells #[.string yp, .slice A5 M cp5, .int .i64 (M : Int), .bool true] 106)) := (Kp.refl _ _).alloc _
          have hcs : (⟨yp, A5, cp5, yb.take M, M, true⟩ : Rf).cs = [.string yp, .slice A5 M cp5, .int .i64 (M : Int), .bool true] := by unfold Rf.cs; simp only [HTK.out]
          have hsA : (((w2.setCell ⟨X, 2, none⟩ (.int .i64 (M : Int))).setCell ⟨X, 3, none⟩ (.bool true)).alloc (.cells #[.string yp, .slice A5 M cp5, .int .i64 (M : Int), .bool true] 106)).heap.size = ((w2.setCell ⟨X, 2, none⟩ (.int .i64 (M : Int))).setCell ⟨X, 3, none⟩ (.bool true)).heap.size + 1 := by simp
          refine ⟨by rw [List.length_append]; show o.length + 1 ≤ _; omega, ?_, (JJ.out.kp0 kA).add (f := ⟨yp, A5, cp5, yb.take M, M, true⟩) (by rw [hcs]; exact p9) k9 ?_ ⟨HZ7.out.kp0 kA, by show (yb.take M).length ≤ cp5; rw [HTK.out]; exact hcap.1, hcap.2, by show M ≤ (yb.take M).length; rw [HTK.out]; exact Nat.le_refl _⟩ (fun hz a ha => ?_)⟩
          · rw [HST.out, List.map_append]
            congr 1
            show _ = acr k [(yp, _)]
            rw [HCR.out]; rfl
          · rcases b9 with b9 | b9
            · exact .inl b9
            · exact .inr ⟨_, b9, by rw [hsA]; exact Nat.le_refl _⟩
          · have h1 := HA5.out a ha
            have h2 : w.heap.size ≤ a.block := by omega
            exact ⟨h2, fun e => by have := HXO.out _ e; omega⟩
        have HE := Lib.hid hend
        have q0 : ((w2.setCell ⟨X, 2, none⟩ (.int .i64 (M : Int))).setCell ⟨X, 3, none⟩ (.bool true)).cell? ⟨X, 0, none⟩ = some (.string yp) := by rw [HB4.out.cell]; rfl
        have q1 : ((w2.setCell ⟨X, 2, none⟩ (.int .i64 (M : Int))).setCell ⟨X, 3, none⟩ (.bool true)).cell? ⟨X, 1, none⟩ = some (.slice A5 M cp5) := by rw [HB4.out.cell]; rfl
        have q2 : ((w2.setCell ⟨X, 2, none⟩ (.int .i64 (M : Int))).setCell ⟨X, 3, none⟩ (.bool true)).cell? ⟨X, 2, none⟩ = some (.int .i64 (M : Int)) := by rw [HB4.out.cell]; rfl
        have q3 : ((w2.setCell ⟨X, 2, none⟩ (.int .i64 (M : Int))).setCell ⟨X, 3, none⟩ (.bool true)).cell? ⟨X, 3, none⟩ = some (.bool true) := by rw [HB4.out.cell]; rfl
        have oA := own_kp JJ.out.ow ((Kp.refl (fun _ => False) ((w2.setCell ⟨X, 2, none⟩ (.int .i64 (M : Int))).setCell ⟨X, 3, none⟩ (.bool true))).alloc (.cells #[.string yp, .slice A5 M cp5, .int .i64 (M : Int), .bool true] 106)) (fun _ _ x => x)
        clear hend hcap
        obtain ⟨z, hz, hzz⟩ : ∃ z : Bool, ((M : Int) == 0) = z ∧ (z = true → yf = true) := by
          refine ⟨_, rfl, fun h => ?_⟩
          rcases hcase with ⟨h1, _⟩ | ⟨_, h1⟩
          · rw [beq_iff_eq] at h; omega
          · exact h1
        clear hcase
        cases z with
        | true =>
          obtain rfl := hzz rfl
          clear hzz
          go_upto_region 8 with (fail)
          clear x0 x1 x2 x3 f2 f3
          generalize (w2.setCell ⟨X, 2, none⟩ (.int .i64 (M : Int))).setCell ⟨X, 3, none⟩ (.bool true) = w4 at q0 q1 q2 q3 oA HE ⊢
          go_wp2_with (at_builtin; refine list_app rfl _ _ 102 106 zF 4 56 rfl rfl info106 rfl (by decide) (.slice A4 o.length cp4) o.length (rfs o) rfl w4.heap.size 0 1 1 [.string yp, .slice A5 M cp5, .int .i64 (M : Int), .bool true] rfl rfl (by simp [Value.oneCell']) (Vw.of_blk (blk_new _ _ rfl)) oA (by omega) (by omega) ?_)
          intro v9 w9 p9 k9 b9
          have FIN := Lib.hid (HE.out v9 w9 p9 k9 (by simpa using b9))
          clear p9 k9 b9 oA HE q0 q1 q2 q3
          go_wp2_with fail
          go_roundw
          case rel => exact ⟨j + 1, _, by omega, by go_num, FIN.out⟩
          case measure => simp [intOf]; omega
        | false =>
          clear hzz
          go_upto_region 8 with (fail)
          clear x0 x1 x2 x3 f2 f3
          generalize (w2.setCell ⟨X, 2, none⟩ (.int .i64 (M : Int))).setCell ⟨X, 3, none⟩ (.bool true) = w4 at q0 q1 q2 q3 oA HE ⊢
          go_wp2_with (at_builtin; refine list_app rfl _ _ 102 106 zF 4 56 rfl rfl info106 rfl (by decide) (.slice A4 o.length cp4) o.length (rfs o) rfl w4.heap.size 0 1 1 [.string yp, .slice A5 M cp5, .int .i64 (M : Int), .bool true] rfl rfl (by simp [Value.oneCell']) (Vw.of_blk (blk_new _ _ rfl)) oA (by omega) (by omega) ?_)
          intro v9 w9 p9 k9 b9
          have FIN := Lib.hid (HE.out v9 w9 p9 k9 (by simpa using b9))
          clear p9 k9 b9 oA HE q0 q1 q2 q3
          go_wp2_with fail
          go_roundw
          case rel => exact ⟨j + 1, _, by omega, by go_num, FIN.out⟩
          case measure => simp [intOf]; omega
    · obtain rfl : j = fs.length := by omega
      rw [List.take_length, HL.out] at hoL
      obtain ⟨k1, B, hfin⟩ := HO.out wr _ o hoL J
      have g0 := B.cell 0
      have g2 := B.cell 2
      have g3 := B.cell 3
      simp at g0 g2 g3
      have f0 := B.free 0
      have f2 := B.free 2
      have f3 := B.free 3
      clear HO J B k1 H HOK HLB
      go_wp2
      go_end0
      exact ⟨rfl, hfin.out⟩
end

section

open Go.RowKit

theorem info9s : (Try.prog.info? 9).map (fun i => (i.zero, i.size, i.bytes)) = some (some (.string ByteArray.empty), 1, 16) := by kernel_rfl
set_option maxRecDepth 100000 in
theorem rread53_c (g : Nat) (O : Nat → Prop) (r : Rk) (p : ByteArray) (w : World) (h : RdAt w g O r) :
    Calls Try.prog 53 #[ptr g, .string p] w fun e w' => ∃ A c, e = .returned (.tuple #[.slice A (alo r.L p).b.length c, .bool (alf r.L p).isSome]) ∧ Bz w A c (alo r.L p).b ∧ (alo r.L p).b.length ≤ 65536 ∧ ((alo r.L p).b ≠ [] → ∀ a, A = some a → O a.block) ∧ w = w' := by
  obtain ⟨v, fs, I, hL⟩ := h
  have hat := at80_i I p
  obtain ⟨A, c, rfl, m1, m2, hrow⟩ := rf_row I.ow
  have cB := I.cell.cell 0
  simp at cB
  have hln := I.ln
  have hus := I.us
  have hsp := idf_spec fs p
  rw [hL] at hsp
  have hdr := als_drop p r.L
  have hdl : als r.L ≤ 65536 := by rw [← hL]; exact hus
  unfold alo at hdr ⊢
  rcases hsp with ⟨h1, h2, _⟩ | ⟨i, hi, h1, h2, h3⟩
  · rw [h1] at hat
    rw [h2]
    clear I hrow
    go_enter Try.func53, Try.ntmps53
    go_wp2_with fail
    refine hat.mono ?_
    rintro e w' ⟨rfl, rfl⟩
    go_wp2
    go_ret2
    exact ⟨none, 0, rfl, .inl ⟨.inl ⟨rfl, rfl, rfl⟩, by simp⟩, by simp, fun h => absurd rfl h, rfl⟩
  · rw [h1] at hat
    rw [h3] at hdr ⊢
    obtain ⟨b, rfl, _, hc⟩ := hrow i hi
    obtain ⟨c0, c1, c2, c3⟩ := hc _ (Kp.refl _ _)
    have hm : fs[i] ∈ fs := List.getElem_mem hi
    have hok := (I.ok _ hm).1
    have hbo := I.bo _ hm
    simp only [Option.getD_some, Option.isSome_some] at hdr ⊢
    have hi' : (i : Int) < (fs.length : Int) ∧ (0 : Int) ≤ (i : Int) := by omega
    have HX := Lib.hid hok
    have HY := Lib.hid hbo
    clear I hrow hc hok hbo hm h3 h2 h1 hL
    generalize fs[i] = y at *
    obtain ⟨yp, yA, yc, yb, ysy, yf⟩ := y
    dsimp only at *
    generalize hyl : yb.length = m at *
    have HM := Lib.hid hyl
    clear hyl
    go_enter Try.func53, Try.ntmps53
    go_wp2_with fail
    refine hat.mono ?_
    rintro e w' ⟨rfl, rfl⟩
    go_wp2
    go_ret2
    exact ⟨yA, yc, rfl, HX.out, by omega, fun h a ha => (HY.out h a ha).1, rfl⟩

def isPre (pre p : ByteArray) : Bool := decide (pre.size ≤ p.size) && ((p.extract 0 pre.size).toList == pre.toList)
def Rk.lsp (r : Rk) (pre : ByteArray) : List ByteArray := (r.L.map (·.1)).filter (isPre pre)
set_option maxRecDepth 100000 in
set_option maxHeartbeats 2000000 in
theorem rlist48_c (g : Nat) (O : Nat → Prop) (r : Rk) (pre : ByteArray) (w : World) (h : RdAt w g O r) :
    Calls Try.prog 48 #[ptr g, .string pre] w fun e w' => ∃ A c, e = .returned (.slice A (r.lsp pre).length c) ∧ Sg w' A (r.lsp pre) ∧ (r.lsp pre).length ≤ 1000 ∧ Kp0 w w' := by
  obtain ⟨v, fs, I, hL⟩ := h
  have hlsp : r.lsp pre = (fs.map Rf.p).filter (isPre pre) := by
    unfold Rk.lsp
    rw [← hL, List.map_map]; rfl
  rw [hlsp]
  obtain ⟨A, c, rfl, m1, m2, hrow⟩ := rf_row I.ow
  have H := Lib.hid hrow
  have cB := I.cell.cell 0
  simp at cB
  have hln0 := I.ln
  clear I hrow hL hlsp
  generalize hZ : (fs.map Rf.p).filter (isPre pre) = Z
  have HZ := Lib.hid hZ
  clear hZ
  go_enter Try.func48, Try.ntmps48
  go_wp2_with fail
  clear cB
  go_loopw [5, 13] (fun s5 s13 wr => ∃ k : Nat, k ≤ fs.length ∧ s13 = .int .i64 (k : Nat) ∧ Kp0 w wr ∧ wr.ownsRow 0 9 1 s5 (((fs.take k).map Rf.p).filter (isPre pre)).length ((((fs.take k).map Rf.p).filter (isPre pre)).map Value.string) ∧ (∀ i, s5.ownBlock = some i → w.heap.size ≤ i)) (fun _ s13 _ => (fs.length - intOf s13).toNat)
  case atStart => exact ⟨0, by omega, rfl, Kp.refl _ _, World.ownsRow_nil _ _ _ _, fun i hi => by simp [Value.ownBlock] at hi⟩
  case round =>
    obtain ⟨k, hk, rfl, kw, ho, hfr⟩ := hrel
    obtain ⟨A4, cp4, hv4⟩ := own_sl ho
    subst hv4
    by_cases hkl : k < fs.length
    · obtain ⟨b, rfl, _, hc⟩ := H.out k hkl
      obtain ⟨c0, c1, c2, c3⟩ := hc _ kw
      have hkl' : (k : Int) < (fs.length : Int) ∧ (0 : Int) ≤ (k : Int) := by omega
      have hln : (((fs.take k).map Rf.p).filter (isPre pre)).length ≤ 1000 := Nat.le_trans (List.length_filter_le _ _) (by rw [List.length_map, List.length_take]; omega)
      have hst : ((fs.take (k + 1)).map Rf.p).filter (isPre pre) = ((fs.take k).map Rf.p).filter (isPre pre) ++ if isPre pre fs[k].p = true then [fs[k].p] else [] := by
        rw [List.take_add_one, List.getElem?_eq_getElem hkl, List.map_append, List.filter_append]
        congr 1
        cases h : isPre pre fs[k].p <;> simp [h]
      have HST := Lib.hid hst
      clear hst hc
      generalize ((fs.take k).map Rf.p).filter (isPre pre) = o at ho HST hln hfr ⊢
      have e1 : isPre pre fs[k].p = (decide (pre.size ≤ fs[k].p.size) && ((fs[k].p.extract 0 pre.size).toList == pre.toList)) := rfl
      generalize isPre pre fs[k].p = d1 at e1 HST
      generalize hyy : fs[k] = y at *
      have ka : Kp0 wr (wr.alloc (.cells #[.string y.p, .slice y.A y.b.length y.c, .int .i64 (y.sy : Int), .bool y.fm] 106)) := (Kp.refl _ _).alloc _
      have BX : Blk (wr.alloc (.cells #[.string y.p, .slice y.A y.b.length y.c, .int .i64 (y.sy : Int), .bool y.fm] 106)) wr.heap.size #[.string y.p, .slice y.A y.b.length y.c, .int .i64 (y.sy : Int), .bool y.fm] 106 := blk_new _ _ rfl
      go_upto_region 5 with fail
      have kw2 := kw.then0 ka
      have ho2 := own_kp ho ka (fun _ _ x => x)
      clear ho ka c0 c1 c2 c3 hyy kw
      generalize wr.alloc (.cells #[.string y.p, .slice y.A y.b.length y.c, .int .i64 (y.sy : Int), .bool y.fm] 106) = wa at BX kw2 ho2 ⊢
      generalize wr.heap.size = X at BX ⊢
      have x0 : wa.cell? ⟨X, 0, none⟩ = some (.string y.p) := by rw [BX.cell]; rfl
      clear BX
      have FIN0 : d1 = false → Kp0 w wa ∧ wa.ownsRow 0 9 1 (.slice A4 o.length cp4) (((fs.take (k + 1)).map Rf.p).filter (isPre pre)).length ((((fs.take (k + 1)).map Rf.p).filter (isPre pre)).map Value.string) ∧ (∀ i, (Value.slice A4 o.length cp4).ownBlock = some i → w.heap.size ≤ i) := fun h0 => by
        rw [HST.out, h0, if_neg (by simp), List.append_nil]
        exact ⟨kw2, ho2, hfr⟩
      have F0 := Lib.hid FIN0
      clear FIN0
      by_cases hle : pre.size ≤ y.p.size
      · cases he : ((y.p.extract 0 pre.size).toList == pre.toList) with
        | true =>
          rw [he, decide_eq_true hle] at e1
          subst e1
          have kA5 : Kp0 wa (wa.alloc (.cells #[.string y.p] 9)) := (Kp.refl _ _).alloc _
          have o5 := own_kp ho2 kA5 (fun _ _ x => x)
          have KW := Lib.hid kw2
          have HFR := Lib.hid hfr
          go_wp2_with (at_builtin; refine list_app rfl _ _ 43 9 (.string ByteArray.empty) 1 16 rfl rfl info9s rfl (by decide) (.slice A4 o.length cp4) o.length (o.map Value.string) rfl wa.heap.size 0 1 1 [.string y.p] rfl rfl (by intro u hu; simp at hu; subst hu; rfl) (Vw.of_blk (blk_new _ _ rfl)) o5 (by omega) (by omega) ?_)
          intro v5 w5 p5 k5 b5
          have k5' : Kp0 w w5 := (KW.out.then0 kA5).trans k5 (fun i hi e => by have := HFR.out i e; omega)
          have b5' : ∀ i, v5.ownBlock = some i → w.heap.size ≤ i := fun i hi => by
            rcases b5 with b5 | b5
            · exact HFR.out i (b5 ▸ hi)
            · rw [b5] at hi
              injection hi with hi
              have h1 := KW.out.size
              have h2 := kA5.size
              simp at h2 hi
              omega
          have FIN := Lib.hid (show Kp0 w w5 ∧ w5.ownsRow 0 9 1 v5 (((fs.take (k + 1)).map Rf.p).filter (isPre pre)).length ((((fs.take (k + 1)).map Rf.p).filter (isPre pre)).map Value.string) ∧ (∀ i, v5.ownBlock = some i → w.heap.size ≤ i) by
            rw [HST.out, if_pos (by decide), List.length_append, List.map_append]
            exact ⟨k5', p5, b5'⟩)
          clear p5 k5 b5 o5 kA5 ho2 kw2 k5' b5'
          go_wp2_with fail
          go_roundw
          case rel => exact ⟨k + 1, by omega, by go_num, FIN.out⟩
          case measure => simp [intOf]; omega
        | false =>
          rw [he, decide_eq_true hle] at e1
          subst e1
          clear ho2 kw2
          go_wp2_with fail
          go_roundw
          case rel => exact ⟨k + 1, by omega, by go_num, F0.out rfl⟩
          case measure => simp [intOf]; omega
      · rw [decide_eq_false hle] at e1
        subst e1
        clear ho2 kw2
        have hle' : y.p.size < pre.size := by omega
        go_wp2_with fail
        go_roundw
        case rel => exact ⟨k + 1, by omega, by go_num, F0.out rfl⟩
        case measure => simp [intOf]; omega
    · obtain rfl : k = fs.length := by omega
      rw [List.take_length, HZ.out] at ho
      have hle : Z.length ≤ 1000 := by rw [← HZ.out]; exact Nat.le_trans (List.length_filter_le _ _) (by rw [List.length_map]; omega)
      have hs := Lib.hid (sg_own ho)
      rw [List.take_length, HZ.out]
      clear H ho
      go_wp2
      go_ret
      exact ⟨_, _, rfl, hs.out, hle, kw⟩
end

section

open Go.RowKit

theorem le_sum_mem {l : List Nat} {x : Nat} (h : x ∈ l) : x ≤ l.sum := by
  induction l with
  | nil => cases h
  | cons y l ih =>
    rw [List.sum_cons]
    rcases List.mem_cons.1 h with rfl | h
    · omega
    · have := ih h; omega
/-- What Same looks at. -/
structure Alike (d : Dk) (r : Rk) : Prop where
  dead : d.dead = r.dead
  used : d.used = als r.L
  quota : d.quota = r.q
  lst : d.lsp es = r.lsp es
  F : ∀ x ∈ r.L, d.F x.1 = some x.2 ∧ x.1.size ≤ 100
  le : als r.L ≤ 65536
  qu : r.q ≤ 65536

set_option maxRecDepth 100000 in
set_option maxHeartbeats 4000000 in
theorem same47_c (g n : Nat) (O : Nat → Prop) (d : Dk) (g2 : Nat) (O2 : Nat → Prop) (r : Rk) (hn : n ≤ 1000000) (al : Alike d r) (w : World) (hd : DkAt w g n O d) (hr : RdAt w g2 O2 r) :
    Calls Try.prog 47 #[.pointer (some ⟨g, 0, none⟩), ptr g2] w fun e w' => e = .returned (.bool true) ∧ Kp0 w w' := by
  have c28 : ∀ W, Kp0 w W → Calls Try.prog 28 #[.pointer (some ⟨g, 0, none⟩)] W fun e w' => e = .returned (.bool r.dead) ∧ W = w' := fun W k => by
    have := dead28_c g n O d W (hd.kp0 k)
    rw [al.dead] at this; exact this
  have c27 : ∀ W, Kp0 w W → Calls Try.prog 27 #[.pointer (some ⟨g, 0, none⟩)] W fun e w' => e = .returned (.int .i64 (als r.L : Nat)) ∧ Kp0 w w' := fun W k => (used27_c g n O d W (hd.kp0 k)).mono (by rintro e w' ⟨rfl, k'⟩; exact ⟨by rw [al.used], k.then0 k'⟩)
  have c36 : ∀ W, Kp0 w W → Calls Try.prog 36 #[.pointer (some ⟨g, 0, none⟩)] W fun e w' => e = .returned (.int .i64 ((r.q : Int) - (als r.L : Int))) ∧ Kp0 w w' := fun W k => (room36_c g n O d W (hd.kp0 k)).mono (by rintro e w' ⟨rfl, k'⟩; exact ⟨by rw [al.used, al.quota], k.then0 k'⟩)
  have c78 : ∀ W, Kp0 w W → Calls Try.prog 78 #[ptr g2] W fun e w' => e = .returned (.int .i64 (als r.L : Nat)) ∧ Kp0 w w' := fun W k => (used78_c g2 O2 r W (hr.kp0 k)).mono (by rintro e w' ⟨rfl, k'⟩; exact ⟨rfl, k.then0 k'⟩)
  have hl0 := al.lst
  have c35 : ∀ W, Kp0 w W → Calls Try.prog 35 #[.pointer (some ⟨g, 0, none⟩), .string es] W fun e w' => ∃ A c, e = .returned (.slice A (r.lsp es).length c) ∧ (∀ W', Kp0 w' W' → Sg W' A (r.lsp es)) ∧ Kp0 W w' ∧ Kp0 w w' := fun W k => (listp35_c g n O d es hn W (hd.kp0 k)).mono (by rintro e w' ⟨A, c, rfl, s, k'⟩; rw [hl0] at s ⊢; exact ⟨A, c, rfl, fun W' kk => s.kp0 kk, k', k.then0 k'⟩)
  have hle : (r.lsp es).length ≤ 1000 := by
    obtain ⟨v, fs, I, hL⟩ := hr
    have := I.ln
    unfold Rk.lsp
    rw [← hL]
    exact Nat.le_trans (List.length_filter_le _ _) (by simpa using this)
  have c48 : ∀ W, Kp0 w W → Calls Try.prog 48 #[ptr g2, .string es] W fun e w' => ∃ A c, e = .returned (.slice A (r.lsp es).length c) ∧ (∀ W', Kp0 w' W' → Sg W' A (r.lsp es)) ∧ Kp0 W w' ∧ Kp0 w w' := fun W k => (rlist48_c g2 O2 r es W (hr.kp0 k)).mono (by rintro e w' ⟨A, c, rfl, s, _, k'⟩; exact ⟨A, c, rfl, fun W' kk => s.kp0 kk, k', k.then0 k'⟩)
  have c37 : ∀ W A1 c1 A2 c2, Kp0 w W → Sg W A1 (r.lsp es) → Sg W A2 (r.lsp es) → Calls Try.prog 37 #[.slice A1 (r.lsp es).length c1, .slice A2 (r.lsp es).length c2] W fun e w' => e = .returned (.bool true) ∧ Kp0 w w' := fun W A1 c1 A2 c2 k s1 s2 => (same37_c A1 c1 A2 c2 (r.lsp es) (by omega) W s1 s2).mono (by rintro e w' ⟨rfl, k'⟩; exact ⟨rfl, k.then0 k'⟩)
  obtain ⟨v, fs, I, hL⟩ := hr
  have hS : ∀ W, Kp0 w W → W.cell? ⟨g2, 2, none⟩ = some (.bool r.dead) ∧ W.cell? ⟨g2, 1, none⟩ = some (.int .i64 (r.q : Int)) := fun W k => ⟨by simpa using (I.cell.kp0 k).cell 2, by simpa using (I.cell.kp0 k).cell 1⟩
  have hcB : ∀ W, Kp0 w W → W.cell? ⟨g2, 0, none⟩ = some v := fun W k => by simpa using (I.cell.kp0 k).cell 0
  have hln := I.ln
  have c25 : ∀ k (hk : k < fs.length), ∀ W, Kp0 w W → Calls Try.prog 25 #[.pointer (some ⟨g, 0, none⟩), .string fs[k].p] W fun e w' => ∃ A c, e = .returned (.tuple #[.slice A fs[k].b.length c, .bool true]) ∧ Bz w' A c fs[k].b ∧ Bz w' fs[k].A fs[k].c fs[k].b ∧ fs[k].b.length ≤ 65536 ∧ Kp0 W w' := fun k hk W kw => by
    have hm : fs[k] ∈ fs := List.getElem_mem hk
    have hx : fs[k].st ∈ r.L := by rw [← hL]; exact List.mem_map_of_mem hm
    obtain ⟨hF, hp⟩ := al.F _ hx
    have hb := (I.ok _ hm).1
    have hl : fs[k].b.length ≤ 65536 := by
      have h1 := I.us
      rw [als_st] at h1
      have h2 : fs[k].b.length ≤ (fs.map (fun f => f.b.length)).sum := le_sum_mem (List.mem_map_of_mem (f := fun f => f.b.length) hm)
      omega
    refine (read25_c g n O d fs[k].p hp fs[k].b true (.inr ⟨_, hF, rfl, rfl⟩) (by omega) W (hd.kp0 kw)).mono ?_
    rintro e w' ⟨A, c, rfl, o, k', _⟩
    exact ⟨A, c, rfl, bz_own o rfl hb.byt, hb.kp0 (kw.then0 k'), hl, k'⟩
  obtain ⟨A, c, rfl, m1, m2, hrow⟩ := rf_row I.ow
  have H := Lib.hid hrow
  have hle1 := al.le
  have hqu := al.qu
  have HF := Lib.hid c25
  have HCB := Lib.hid hcB
  have K0 : Kp0 w w.drew := (Kp.refl _ _).drew
  have nd : (r.dead != r.dead) = false := by simp
  have nu : (((als r.L : Nat) : Int) != ((als r.L : Nat) : Int)) = false := by simp
  have nw : IntKind.i64.wrap ((r.q : Int) - (als r.L : Int)) = (r.q : Int) - (als r.L : Int) := by rw [IntKind.wrap_i64]; omega
  clear al hl0 hd hrow I c25 hcB hL
  go_enter Try.func47, Try.ntmps47
  go_wp2_with fail
  go_region_held3 (fun W => W.cell? ⟨g2, 2, none⟩ = some (.bool r.dead) ∧ W.cell? ⟨g2, 1, none⟩ = some (.int .i64 (r.q : Int))) (exact hS _ (by assumption)) (first | (go_at_call 28; go_fit (c28 _ (by assumption)); rintro e wA ⟨rfl, rfl⟩) | (go_at_call 27; go_fit (c27 _ (by assumption)); rintro e wB ⟨rfl, KB⟩) | (go_at_call 78; go_fit (c78 _ (by assumption)); rintro e wC ⟨rfl, KC⟩) | (go_at_call 36; go_fit (c36 _ (by assumption)); rintro e wD ⟨rfl, KD⟩) | (go_at_call 35; go_fit (c35 _ (by assumption)); rintro e wE ⟨A1, c1, rfl, S1, KE1, KE⟩) | (go_at_call 48; go_fit (c48 _ (by assumption)); rintro e wF ⟨A2, c2, rfl, S2, KF1, KF⟩) | (go_at_call 37; go_fit (c37 _ _ _ _ _ (by assumption) (by first | exact S1 _ KF1 | exact S1 _ (Kp.refl _ _)) (by first | exact S2 _ KE1 | exact S2 _ (Kp.refl _ _))); rintro e wG ⟨rfl, KG⟩))
  have cB := HCB.out _ KG
  clear c28 c27 c36 c78 c35 c48 c37 hS KB KD KC S1 KE1 KE S2 KF1 KF nd nu nw K0
  generalize wG = w1 at *
  go_wp2_with fail
  clear cB
  go_loopw [52] (fun s52 wr => ∃ k : Nat, k ≤ fs.length ∧ s52 = .int .i64 (k : Nat) ∧ Kp0 w wr) (fun s52 _ => (fs.length - intOf s52).toNat)
  case atStart => exact ⟨0, by omega, rfl, KG⟩
  case round =>
    obtain ⟨k, hk, rfl, kw⟩ := hrel
    by_cases hkl : k < fs.length
    · obtain ⟨b, rfl, _, hc⟩ := H.out k hkl
      obtain ⟨c0, c1, c2, c3⟩ := hc _ kw
      have hkl' : (k : Int) < (fs.length : Int) ∧ (0 : Int) ≤ (k : Int) := by omega
      have hrd := HF.out k hkl
      clear hc
      generalize hyy : fs[k] = y at *
      have ka : Kp0 wr (wr.alloc (.cells #[.string y.p, .slice y.A y.b.length y.c, .int .i64 (y.sy : Int), .bool y.fm] 106)) := (Kp.refl _ _).alloc _
      have BX : Blk (wr.alloc (.cells #[.string y.p, .slice y.A y.b.length y.c, .int .i64 (y.sy : Int), .bool y.fm] 106)) wr.heap.size #[.string y.p, .slice y.A y.b.length y.c, .int .i64 (y.sy : Int), .bool y.fm] 106 := blk_new _ _ rfl
      go_upto_region 6 with fail
      have kw2 := kw.then0 ka
      clear ka c0 c1 c2 c3 hyy kw
      generalize wr.alloc (.cells #[.string y.p, .slice y.A y.b.length y.c, .int .i64 (y.sy : Int), .bool y.fm] 106) = wa at BX kw2 ⊢
      generalize wr.heap.size = X at BX ⊢
      have x0 : wa.cell? ⟨X, 0, none⟩ = some (.string y.p) := by rw [BX.cell]; rfl
      have hrd := hrd wa kw2
      go_wp2_with fail
      refine hrd.mono ?_
      rintro e w3 ⟨A3, c3, rfl, b1, b2, hbl, k3⟩
      have BX3 := BX.kp0 k3
      have x1 : w3.cell? ⟨X, 1, none⟩ = some (.slice y.A y.b.length y.c) := by rw [BX3.cell]; rfl
      have hsm := same26_c A3 c3 y.A y.c y.b (by omega) w3 b1 b2
      have kw3 := kw2.then0 k3
      clear BX BX3 x0 hrd b1 b2 k3
      go_wp2_with fail
      refine hsm.mono ?_
      rintro e w4 ⟨rfl, k4⟩
      have kw4 := kw3.then0 k4
      clear hsm k4 kw3 x1
      go_wp2_with fail
      go_roundw
      case rel => exact ⟨k + 1, by omega, by go_num, kw4⟩
      case measure => simp [intOf]; omega
    · obtain rfl : k = fs.length := by omega
      go_wp2
      go_ret
      exact ⟨rfl, kw⟩
end

section

open Go.RowKit

set_option maxRecDepth 100000 in
set_option maxHeartbeats 2000000 in
theorem crash24_m (g n : Nat) (O : Nat → Prop) (d : Dk) (m : Int) (k : Nat) (hmk : max m 0 = (k : Int)) (hmk2 : max 0 m = (k : Int)) (hk : k ≤ 9223372036854775807) (hn : n ≤ 1000000) (w : World) (h : DkAt w g n O d) :
    Calls Try.prog 24 #[.pointer (some ⟨g, 0, none⟩), .int .i64 m] w fun e w' => e = .returned (.tuple #[]) ∧ ∃ O', DkAt w' g n O' (d.crash k) ∧ (∀ i, O' i → O i ∨ w.heap.size ≤ i) ∧ Kp O w w' := by
  obtain ⟨bm, V0, h⟩ := h
  have c0 := h.cell.cell 0
  simp at c0
  have hus : d.used ≤ 65536 := Nat.le_trans h.us h.qu
  have hgl := h.cell.lt
  go_enter Try.func24, Try.ntmps24
  go_wp2_with (refine list_range rfl (.tmp 10) rfl rfl h.mp ?_)
  intro w1 cnt R1 K1 hs1 hcn
  have hst := CrI.start (k := k) h R1 K1
  go_wp2_with fail
  go_loopw [6] (fun s wx => ∃ (O' : Nat → Prop) (V : ByteArray → Option Value) (left : ByteArray → Bool) (cnt : Nat), CrI w wx g bm w.heap.size n O O' V d k left cnt) (fun _ wx => wx.rangeLeft bm w.heap.size)
  case atStart => exact ⟨_, _, _, _, hst⟩
  case round =>
    obtain ⟨O', V, left, cnt, I⟩ := hrel
    have HC := Lib.hid I.mp.left_eq
    have cc := I.cell.cell 0
    simp at cc
    go_wp2_with (at_next; refine list_next rfl _ rfl rfl I.mp ?_ ?_)
    · intro hc0 hno
      have c2 := I.cell.cell 2
      have c3 := I.cell.cell 3
      have c4 := I.cell.cell 4
      have f2 := I.cell.free 2
      have f3 := I.cell.free 3
      have f4 := I.cell.free 4
      simp at c2 c3 c4
      have B := ((I.cell.set 2 (.bool false)).set 3 (.bool false)).set 4 (.int .i64 0)
      have K := ((((Kp.self g wr).put 2 (.bool false)).put 3 (.bool false)).put 4 (.int .i64 0))
      have hfin := I.done h hno K (by simpa using B)
      clear I B K hno h R1 hst c0
      go_wp2
      go_end0
      exact ⟨rfl, O', hfin⟩
    · intro p v w2 cnt2 hp hl hF R2 hlt hk2 hen
      have hfp := I.fits p hp
      rw [if_pos hl] at hfp
      obtain ⟨f, hf⟩ : ∃ f, d.F p = some f := by
        cases hF2 : d.F p with
        | none => rw [hfp.1 hF2] at hF; cases hF
        | some f => exact ⟨f, rfl⟩
      obtain ⟨v', e1, hfv⟩ := hfp.2 f hf
      rw [hF] at e1
      injection e1 with e1
      subst e1
      obtain ⟨A, c, rfl, hb, l1, l2, hsy, ho⟩ := hfv
      have hlen : f.b.length ≤ 65536 := by
        have := len_le_used d p h.ks
        unfold Dk.len at this
        rw [hf] at this
        exact Nat.le_trans this hus
      obtain ⟨fb, fs, ff⟩ := f
      simp only at hb l1 hsy ho hlen hF hen
      go_upto_region 3 with fail
      have Ka : Kp0 w2 (w2.alloc (.cells #[.slice A fb.length c, .int .i64 (fs : Int), .bool ff] 90)) := (Kp.refl _ _).alloc _
      have B3 : Blk (w2.alloc (.cells #[.slice A fb.length c, .int .i64 (fs : Int), .bool ff] 90)) w2.heap.size #[.slice A fb.length c, .int .i64 (fs : Int), .bool ff] 90 := blk_new _ _ rfl
      have R3 := R2.kp0 Ka
      have hb3 := (hb.kp hk2 (fun hz b hA e => by
        obtain ⟨B, off, eA, _, hc⟩ := hb.cell 0 (List.length_pos_iff.2 hz)
        rw [eA] at hA; injection hA with hA; subst hA
        exact I.mp.cells_r _ e _ _ hc)).kp0 Ka
      have cg3 := ((I.cell.kp hk2 (fun e => by omega)).kp0 Ka)
      obtain ⟨M, hM⟩ : ∃ M, kept k ⟨fb, fs, ff⟩ = M := ⟨_, rfl⟩
      have hMe : M = fs + min k (fb.length - fs) := by rw [← hM]; rfl
      have q0 := B3.cell 0
      have q1 := B3.cell 1
      have q2 := B3.cell 2
      simp only [List.getElem?_toArray, List.getElem?_cons_zero, List.getElem?_cons_succ] at q0 q1 q2
      generalize hw3 : w2.alloc (.cells #[.slice A fb.length c, .int .i64 (fs : Int), .bool ff] 90) = w3 at *
      go_cut [6] from 17 to 28 (fun s wx => s = .int .i64 (M : Nat) ∧ w3 = wx)
      case first =>
        clear hM hb hb3 R3 cg3 B3 Ka hk2 R2 I hfp hf h hst R1 ho hF hen
        generalize fb.length = L at *
        have hw1 : IntKind.i64.wrap ((L : Int) - (fs : Int)) = (L : Int) - fs := by rw [IntKind.wrap_i64]; omega
        have HM := Lib.hid hMe
        clear hMe
        go_wp2_with fail
        all_goals
          go_meet
          have := HM.out
          refine ⟨congrArg (Value.int .i64) ?_, rfl⟩
          first | omega | (rw [IntKind.wrap_i64]; omega) | (trace_state; omega)
      case rest =>
        obtain ⟨rfl, rfl⟩ := hcut
        have hcr : (d.F p).bind (crF k) = if M = 0 ∧ ff = false then none else some ⟨fb.take M, M, true⟩ := by
          rw [hf]
          show crF k ⟨fb, fs, ff⟩ = _
          unfold crF
          rw [hM]
        have cg0 := cg3.cell 0
        simp only [List.getElem?_toArray, List.getElem?_cons_zero] at cg0
        have hMl : M ≤ fb.length := by omega
        have hgL := hgl
        have hHS : w.heap.size ≤ w.heap.size := Nat.le_refl _
        by_cases hdel : M = 0 ∧ ff = false
        · obtain ⟨rfl, rfl⟩ := hdel
          rw [if_pos ⟨rfl, rfl⟩] at hcr
          have hfin := fun w6 cnt3 (R6 : MapR w6 bm w.heap.size n (pt V p none) (pt (pt left p false) p false) cnt3) (k6 : Kp (· = bm) w3 w6) => I.del hHS hgL h.om hk2 Ka R3 R6 k6 hcr
          have HF := Lib.hid hfin
          clear hfin hcr hM hMe hMl hb hb3 cg3 B3 I hfp hf h hst R1 ho hF hen R2 hk2 Ka c0 cc
          go_wp2_with (at_delete; refine list_delm rfl (.tmp 39) (.tmp 40) rfl rfl rfl R3 hp ?_)
          intro w6 cnt3 R6 hle k6
          have I6 := HF.out w6 cnt3 R6 k6
          have HL := Lib.hid R6.left_eq
          clear HF
          go_wp2
          go_roundw
          case rel => exact ⟨_, _, _, _, I6⟩
          case measure => rw [HL.out, HC.out]; omega
        · rw [if_neg hdel] at hcr
          obtain ⟨A1, c1, hsl, hb1, m1, m2⟩ := run_cuthi hb3 l1 l2 M hMl
          have htk : (fb.take M).length = M := by rw [List.length_take]; omega
          have hcl : ∀ W, Kp0 w3 W → Calls Try.prog 71 #[.slice A1 M c1] W fun e w' => ∃ A c, e = .returned (.slice A M c) ∧ w'.ownsRow 0 5 1 (.slice A M c) M (u8s (fb.take M)) ∧ Kp0 w3 w' ∧ (∀ i, (Value.slice A M c).ownBlock = some i → w3.heap.size ≤ i) := fun W kW => by
            have := clone_c A1 c1 (fb.take M) W (hb1.kp0 kW) (by rw [htk]; omega)
            unfold Fr at this
            rw [htk] at this
            exact this.mono (by rintro e w' ⟨A, c, e1, e2, e3, e4⟩; exact ⟨A, c, e1, e2, kW.then0 e3, fun i hi => Nat.le_trans kW.size (e4 i hi)⟩)
          have hwh : ∀ W, Kp0 w3 W → ∀ A c, Calls Try.prog 70 #[.slice A M c] W fun e w' => e = .returned (.agg #[.slice A M c, .int .i64 (M : Int), .bool true]) ∧ Kp0 w3 w' ∧ Kp0 W w' := fun W kW A c => (whole70_c A M c W).mono (by rintro e w' ⟨rfl, k'⟩; exact ⟨rfl, kW.then0 k', k'⟩)
          have hS : ∀ W, Kp0 w3 W → W.cell? ⟨g, 0, none⟩ = some (.map (some bm)) ∧ W.cell? ⟨w2.heap.size, 0, none⟩ = some (.slice A fb.length c) := fun W kW => ⟨by simpa using (cg3.kp0 kW).cell 0, by simpa using (B3.kp0 kW).cell 0⟩
          have hw2 : w.heap.size ≤ w2.heap.size := Nat.le_trans I.kp.size hk2.size
          have hbl : bm < w.heap.size := h.lt bm h.om
          have hbg : bm ≠ g := h.mp.ne h.cell
          have hw23 : w2.heap.size < w3.heap.size := B3.lt
          have hEnd : ∀ A2 c2 wA wB, wA.ownsRow 0 5 1 (.slice A2 M c2) M (u8s (fb.take M)) → Kp0 w3 wA → (∀ i, (Value.slice A2 M c2).ownBlock = some i → w3.heap.size ≤ i) → Kp0 wA wB →
              ∃ w6, (Instr.mapUpdate 84 (.map (some bm)) (.string p) (.agg #[.slice A2 M c2, .int .i64 (M : Int), .bool true])).run Try.prog wB = .ok () w6 ∧ (w6.cell? ⟨g, 0, none⟩ = some (.map (some bm)) ∧ w6.cell? ⟨w2.heap.size, 0, none⟩ = some (.slice A fb.length c)) ∧
                ∃ O2 V2, CrI w w6 g bm w.heap.size n O O2 V2 d k (pt left p false) cnt2 := by
            intro A2 c2 wA wB o2 kA f2 kB
            have k3B := kA.then0 kB
            obtain ⟨w6, hrun, R6, k6⟩ := (R3.kp0 k3B).put_old hn hp (by rw [hF]; rfl) (.agg #[.slice A2 M c2, .int .i64 (M : Int), .bool true])
            have o2' : wA.ownsRow 0 5 1 (.slice A2 M c2) (fb.take M).length (u8s (fb.take M)) := by rw [htk]; exact o2
            have b2 := bz_own o2' htk.symm (fun x hx => hb.byt x (List.mem_of_mem_take hx))
            have hA2 : ∀ b, A2 = some b → w3.heap.size ≤ b.block ∧ b.block < wA.heap.size := fun b hA => by
              subst hA
              rcases own_shape o2 with ⟨e, _, _⟩ | ⟨r, cap, e, _, _, hr, _⟩
              · cases e
              · injection e with e1 _ _
                injection e1 with e1
                subst e1
                exact ⟨f2 r (by simp [Value.ownBlock]), hr⟩
            have hcap : M ≤ c2 ∧ c2 ≤ 9223372036854775807 := by
              rcases own_shape o2 with ⟨e, e0, _⟩ | ⟨r, cap, e, e1, e2, _⟩
              · injection e with _ _ e3
                subst e3; omega
              · injection e with _ _ e3
                subst e3; exact ⟨e1, e2⟩
            have b6 := (b2.kp0 kB).kp k6 (fun hz b hA e => by have := (hA2 b hA).1; omega)
            have hz6 : wA.heap.size ≤ w6.heap.size := Nat.le_trans kB.size k6.size
            refine ⟨w6, hrun, ⟨by simpa using ((cg3.kp0 k3B).kp k6 (fun e => hbg e.symm)).cell 0, by simpa using ((B3.kp0 k3B).kp k6 (fun e => by omega)).cell 0⟩,
              fun i => O' i ∨ (Value.slice A2 M c2).ownBlock = some i, _, I.put hHS hgL h.om hk2 (Ka.then0 k3B) (R3.kp0 k3B) R6 k6 hcr ⟨A2, c2, by rw [htk], b6, by rw [htk]; exact hcap.1, hcap.2, by simp [htk], ?_⟩ (fun i hi => .inl hi) ?_ ?_⟩
            · rintro _ b rfl; exact .inr rfl
            · rintro i (hi | hi)
              · exact .inl hi
              · have := f2 i hi
                exact .inr (by omega)
            · rintro i (hi | hi)
              · exact Nat.lt_of_lt_of_le (I.lt i hi) (Nat.le_trans hk2.size (Nat.le_trans Ka.size (Nat.le_trans k3B.size k6.size)))
              · rcases own_shape o2 with ⟨e, _, _⟩ | ⟨r, cap, e, _, _, hr, _⟩
                · rw [e] at hi; simp [Value.ownBlock] at hi
                · rw [e] at hi; simp [Value.ownBlock] at hi
                  omega
          have HE := Lib.hid hEnd
          have K0 : Kp0 w3 w3.drew := (Kp.refl _ _).drew
          have hM0 : 0 ≤ (M : Int) := by omega
          have hMc : (M : Int) ≤ (c : Int) := by omega
          clear hEnd hcr hM hMe hb hb1 hb3 cg3 B3 I hfp hf h hst R1 R3 ho hF hen R2 hk2 Ka c0 cc htk
          go_upto_region 4 with fail
          go_cut [35] from 29 to 35 (fun s wx => s = .bool false ∧ w3 = wx)
          case first =>
            clear hS hcl hwh hsl HE
            by_cases hz : M = 0
            · subst hz
              have hff : ff = true := by
                cases ff with
                | true => rfl
                | false => exact absurd ⟨rfl, rfl⟩ hdel
              subst hff
              go_wp2_with fail
              go_meet
              exact ⟨rfl, rfl⟩
            · have hz' : ((M : Int) == 0) = false := by rw [beq_eq_false_iff_ne]; omega
              go_wp2_with fail
              go_meet
              exact ⟨rfl, rfl⟩
          case rest =>
            obtain ⟨rfl, rfl⟩ := hcut
            go_wp2_with fail
            go_region_held3 (fun W => W.cell? ⟨g, 0, none⟩ = some (.map (some bm)) ∧ W.cell? ⟨w2.heap.size, 0, none⟩ = some (.slice A fb.length c)) (first | exact hS _ K0 | exact hS _ KA | exact hS _ KB | exact hS6) (first | (go_at_call 71; go_fit (hcl _ K0); rintro e wA ⟨A2, c2, rfl, o2, KA, f2⟩) | (go_at_call 70; go_fit (hwh _ KA A2 c2); rintro e wB ⟨rfl, KB, kab⟩; obtain ⟨w6, hrun, hS6, O2, V2, I6⟩ := HE.out A2 c2 wA wB o2 KA f2 kab))
            have HL := Lib.hid I6.mp.left_eq
            go_wp2
            go_roundw
            case rel => exact ⟨_, _, _, _, I6⟩
            case measure => rw [HL.out, HC.out]; exact hlt
set_option maxRecDepth 100000 in
set_option maxHeartbeats 4000000 in
theorem rcrash46_m (g : Nat) (O : Nat → Prop) (r : Rk) (w : World) (h : RdAt w g O r) (m : Int) (k : Nat) (hmk : max m 0 = (k : Int)) (hmk2 : max 0 m = (k : Int)) (hk : k ≤ 1000000) :
    Calls Try.prog 46 #[ptr g, .int .i64 m] w fun e w' => e = .returned (.tuple #[]) ∧ ∃ O', RdAt w' g O' (r.crash k) ∧ (∀ i, O' i → O i ∨ w.heap.size ≤ i) ∧ Kp O w w' := by
  obtain ⟨v, fs, I, hL⟩ := h
  obtain ⟨A, c, rfl, m1, m2, hrow⟩ := rf_row I.ow
  have H := Lib.hid hrow
  have cB := I.cell.cell 0
  simp at cB
  have hln0 := I.ln
  have hgw := I.cell.lt
  have hog := I.og
  have hout : ∀ wr v' o, o.map Rf.st = acr k r.L → CrO w wr v' o → Kp0 w wr ∧ Blk wr g #[.slice A fs.length c, .int .i64 (r.q : Int), .bool r.dead, .bool r.arm, .int .i64 r.n] 104 ∧ Hid (∃ O', RdAt (((wr.setCell ⟨g, 0, none⟩ v').setCell ⟨g, 2, none⟩ (.bool false)).setCell ⟨g, 3, none⟩ (.bool false)) g O' (r.crash k) ∧ (∀ i, O' i → O i ∨ w.heap.size ≤ i) ∧ Kp O w (((wr.setCell ⟨g, 0, none⟩ v').setCell ⟨g, 2, none⟩ (.bool false)).setCell ⟨g, 3, none⟩ (.bool false))) := fun wr v' o hoL J => by
    have B := I.cell.kp0 J.kp
    refine ⟨J.kp, B, Lib.hid ?_⟩
    have k3 : Kp (· = g) wr (((wr.setCell ⟨g, 0, none⟩ v').setCell ⟨g, 2, none⟩ (.bool false)).setCell ⟨g, 3, none⟩ (.bool false)) := (((Kp.self g wr).put 0 _).put 2 _).put 3 _
    have hs := J.kp.size
    have hs2 := k3.size
    refine ⟨fun i => i = g ∨ (w.heap.size ≤ i ∧ i < wr.heap.size), ⟨v', o, ⟨(show Blk _ g #[v', .int .i64 (r.q : Int), .bool false, .bool false, .int .i64 r.n] 104 from by simpa using ((B.set 0 v').set 2 (.bool false)).set 3 (.bool false)), own_kp J.ow k3 (fun i hi e => by have := J.fr i hi; omega), fun f hf => (J.ok f hf).kp k3 (fun hz a ha e => by have := (J.by_ f hf hz a ha).1; omega), fun f hf hz a ha => ?_, .inl rfl, fun i hi => ?_, fun i hi => ?_, ?_, I.qu, ?_, I.nn⟩, hoL⟩, fun i hi => ?_, (J.kp.mono (fun _ _ x => x.elim)).trans k3 (fun i _ e => by rw [e]; exact hog)⟩
    · have h1 := J.by_ f hf hz a ha
      have h2 := (J.ok f hf).blt hz a ha
      exact ⟨.inr ⟨h1.1, h2⟩, by omega, h1.2⟩
    · have h1 := J.fr i hi
      have h2 := (J.ow.lt i hi).2
      exact ⟨.inr ⟨h1, h2⟩, by omega⟩
    · rcases hi with rfl | hi
      · omega
      · omega
    · rw [hoL]
      have := I.us
      rw [hL] at this
      exact Nat.le_trans (acr_als k r.L) this
    · have h1 : (o.map Rf.st).length = (acr k r.L).length := by rw [hoL]
      have h2 := acr_len2 k r.L
      have h3 : (fs.map Rf.st).length = r.L.length := by rw [hL]
      rw [List.length_map] at h1 h3
      omega
    · rcases hi with rfl | hi
      · exact .inl hog
      · exact .inr hi.1
  have HO := Lib.hid hout
  have hok : ∀ j (hj : j < fs.length), FOk w fs[j] := fun j hj => I.ok _ (List.getElem_mem hj)
  have HOK := Lib.hid hok
  have hlb : ∀ j (hj : j < fs.length), fs[j].b.length ≤ 65536 := fun j hj => by
    have h1 := I.us
    rw [als_st] at h1
    have : ∀ (l : List Rf) (x : Rf), x ∈ l → x.b.length ≤ (l.map (fun f => f.b.length)).sum := by
      intro l x
      induction l with
      | nil => intro h; cases h
      | cons y l ih =>
        intro h
        simp only [List.map_cons, List.sum_cons]
        rcases List.mem_cons.1 h with rfl | h
        · omega
        · have := ih h; omega
    exact Nat.le_trans (this fs _ (List.getElem_mem hj)) h1
  have HLB := Lib.hid hlb
  have HL := Lib.hid hL
  have J0 : CrO w w (.slice none 0 0) [] := ⟨World.ownsRow_nil _ _ _ _, Kp.refl _ _, fun i hi => by simp [Value.ownBlock] at hi, fun f hf => by simp at hf, fun f hf => by simp at hf⟩
  clear I hout hok hlb hrow hL
  go_enter Try.func46, Try.ntmps46
  go_wp2_with fail
  clear cB
  go_loopw [4, 13] (fun s4 s13 wr => ∃ (j : Nat) (o : List Rf), j ≤ fs.length ∧ s13 = .int .i64 (j : Nat) ∧ o.length ≤ j ∧ o.map Rf.st = acr k ((fs.take j).map Rf.st) ∧ CrO w wr s4 o) (fun _ s13 _ => (fs.length - intOf s13).toNat)
  case atStart => exact ⟨0, [], by omega, rfl, by simp, rfl, J0⟩
  case round =>
    clear J0
    obtain ⟨j, o, hj, rfl, hoj, hoL, J⟩ := hrel
    obtain ⟨A4, cp4, hv4⟩ := own_sl J.ow
    subst hv4
    by_cases hjl : j < fs.length
    · obtain ⟨b, rfl, _, hc⟩ := H.out j hjl
      obtain ⟨c0, c1, c2, c3⟩ := hc _ J.kp
      have hjl' : (j : Int) < (fs.length : Int) ∧ (0 : Int) ≤ (j : Int) := by omega
      have hst : acr k ((fs.take (j + 1)).map Rf.st) = acr k ((fs.take j).map Rf.st) ++ acr k [fs[j].st] := by
        rw [List.take_add_one, List.getElem?_eq_getElem hjl, List.map_append, acr_app]
        rfl
      rw [← hoL] at hst
      have HST := Lib.hid hst
      have hok := (HOK.out j hjl).kp0 J.kp
      have hlb := HLB.out j hjl
      clear hst hc hoL
      generalize hyy : fs[j] = y at *
      obtain ⟨yp, yA, yc, yb, yy, yf⟩ := y
      dsimp only at c0 c1 c2 c3 hlb
      have ka : Kp0 wr (wr.alloc (.cells #[.string yp, .slice yA yb.length yc, .int .i64 (yy : Int), .bool yf] 106)) := (Kp.refl _ _).alloc _
      have BX : Blk (wr.alloc (.cells #[.string yp, .slice yA yb.length yc, .int .i64 (yy : Int), .bool yf] 106)) wr.heap.size #[.string yp, .slice yA yb.length yc, .int .i64 (yy : Int), .bool yf] 106 := blk_new _ _ rfl
      go_upto_region 4 with fail
      have hXw : w.heap.size ≤ wr.heap.size := J.kp.size
      have hXo := fun i hi => (J.ow.lt i hi).2
      have hbX := fun f hf hz a ha => (J.ok f hf).blt hz a ha
      have J2 := J.kp0 ka
      have hok2 := hok.kp0 ka
      have hyA : yb ≠ [] → ∀ a, yA = some a → a.block < wr.heap.size := hok.blt
      clear J ka hok c0 c1 c2 c3 hyy
      generalize wr.alloc (.cells #[.string yp, .slice yA yb.length yc, .int .i64 (yy : Int), .bool yf] 106) = wa at BX J2 hok2 ⊢
      generalize wr.heap.size = X at BX hXw hXo hyA hbX ⊢
      have hsy : yy ≤ yb.length := hok2.2.2.2
      obtain ⟨M, hM⟩ : ∃ M, kept k ⟨yb, yy, yf⟩ = M := ⟨_, rfl⟩
      have hMe : M = yy + min k (yb.length - yy) := by rw [← hM]; rfl
      have x0 : wa.cell? ⟨X, 0, none⟩ = some (.string yp) := by rw [BX.cell]; rfl
      have x1 : wa.cell? ⟨X, 1, none⟩ = some (.slice yA yb.length yc) := by rw [BX.cell]; rfl
      have x2 : wa.cell? ⟨X, 2, none⟩ = some (.int .i64 (yy : Int)) := by rw [BX.cell]; rfl
      have x3 : wa.cell? ⟨X, 3, none⟩ = some (.bool yf) := by rw [BX.cell]; rfl
      go_cut [7] from 14 to 48 (fun s wx => s = .int .i64 (M : Nat) ∧ wa = wx)
      case first =>
        clear hM BX J2 hok2 hXo hyA hbX
        generalize yb.length = bl at *
        have hw1 : IntKind.i64.wrap ((bl : Int) - (yy : Int)) = (bl : Int) - yy := by rw [IntKind.wrap_i64]; omega
        have HM := Lib.hid hMe
        clear hMe
        go_wp2_with fail
        all_goals
          go_meet
          have := HM.out
          refine ⟨congrArg (Value.int .i64) ?_, rfl⟩
          first | omega | (rw [IntKind.wrap_i64]; omega)
      case rest =>
      obtain ⟨rfl, rfl⟩ := hcut
      have hMl : M ≤ yb.length := by omega
      have hcr : acr k [(yp, (⟨yb, yy, yf⟩ : Fi))] = if M = 0 ∧ yf = false then [] else [(yp, ⟨yb.take M, M, true⟩)] := by
        have hc : acr k [(yp, (⟨yb, yy, yf⟩ : Fi))] = match crF k ⟨yb, yy, yf⟩ with | some f' => [(yp, f')] | none => [] := rfl
        rw [hc]
        unfold crF
        rw [hM]
        by_cases h : M = 0 ∧ yf = false
        · rw [if_pos h, if_pos h]
        · rw [if_neg h, if_neg h]
      have HCR := Lib.hid hcr
      clear hM hMe hcr x2 x3 x0
      obtain ⟨A1, cp1, hsl, hb1, n1, n2⟩ := run_cuthi hok2.1 hok2.2.1 hok2.2.2.1 M hMl
      have htk : (yb.take M).length = M := by rw [List.length_take]; omega
      have hXl := BX.lt
      have JJ := Lib.hid J2
      have HTK := Lib.hid htk
      have HB := Lib.hid hb1
      clear hok2 J2 htk hb1
      have hM0 : 0 ≤ (M : Int) := by omega
      go_wp2_with (at_builtin; refine app_any rfl _ _ rfl (.slice none 0 0) 0 [] rfl A1 M cp1 (yb.take M) rfl HTK.out HB.out (World.ownsRow_nil _ _ _ _) (by omega) ?_)
      intro v1 w1 o1 k1 b1
      have K1 : Kp0 wa w1 := k1.mono (fun i hi e => by simp [Value.ownBlock] at e)
      have hb1 : ∀ i, v1.ownBlock = some i → wa.heap.size ≤ i := fun i hi => by
        rcases b1 with b1 | b1
        · rw [b1] at hi; simp [Value.ownBlock] at hi
        · rw [b1] at hi; injection hi with hi; omega
      have o2 : w1.ownsRow 0 5 1 v1 (yb.take M).length (u8s (yb.take M)) := by
        rw [HTK.out]; simpa using o1
      clear k1 b1 o1
      obtain ⟨A5, cp5, hv5⟩ := own_sl o2
      subst hv5
      have z5 := bz_own o2 rfl (fun x hx => HB.out.byt x hx)
      have hcap : M ≤ cp5 ∧ cp5 ≤ 9223372036854775807 := by
        rcases own_shape o2 with ⟨e, e0, _⟩ | ⟨r, cap, e, e1, e2, _⟩
        · injection e with _ e2 e3
          have := HTK.out
          subst e3; omega
        · injection e with _ _ e3
          have := HTK.out
          subst e3; exact ⟨by omega, e2⟩
      have hA5 : ∀ a, A5 = some a → wa.heap.size ≤ a.block ∧ a.block < w1.heap.size := fun a ha => by subst ha; exact ⟨hb1 _ rfl, (o2.lt _ rfl).2⟩
      have B1 := BX.kp0 K1
      have hs1 := K1.size
      have J1 := JJ.out.kp0 K1
      have p1 := B1.cell 1
      simp at p1
      have f1 := B1.free 1
      have B2 := B1.set 1 (.slice A5 M cp5)
      have k2 : Kp (· = X) w1 (w1.setCell ⟨X, 1, none⟩ (.slice A5 M cp5)) := (Kp.self X w1).put 1 _
      have J2 := J1.turn k2 hXw (fun i hi => Nat.ne_of_lt (hXo i hi)) (fun f hf hz a ha => Nat.ne_of_lt (hbX f hf hz a ha))
      have z6 := z5.kp k2 (fun hz a ha e => by have := (hA5 a ha).1; omega)
      have hs2 := k2.size
      have B2 : Blk (w1.setCell ⟨X, 1, none⟩ (.slice A5 M cp5)) X #[.string yp, .slice A5 M cp5, .int .i64 (yy : Int), .bool yf] 106 := by simpa using B2
      clear J1 B1 BX z5 o2 hb1 K1 JJ HB hsl n1 n2 k2
      go_upto_region 6 with fail
      clear p1 f1 x1
      have hln : o.length ≤ 100000 := by omega
      generalize w1.setCell ⟨X, 1, none⟩ (.slice A5 M cp5) = w2 at B2 J2 z6 hs2 ⊢
      have x0 : w2.cell? ⟨X, 0, none⟩ = some (.string yp) := by rw [B2.cell]; rfl
      have x1 : w2.cell? ⟨X, 1, none⟩ = some (.slice A5 M cp5) := by rw [B2.cell]; rfl
      have x2 : w2.cell? ⟨X, 2, none⟩ = some (.int .i64 (yy : Int)) := by rw [B2.cell]; rfl
      have x3 : w2.cell? ⟨X, 3, none⟩ = some (.bool yf) := by rw [B2.cell]; rfl
      by_cases hdel : M = 0 ∧ yf = false
      · obtain ⟨rfl, rfl⟩ := hdel
        rw [if_pos ⟨rfl, rfl⟩] at HCR
        have JJ := Lib.hid J2
        clear J2 z6 B2 hA5 hyA hXo hbX
        go_wp2_with fail
        go_roundw
        case rel => exact ⟨j + 1, o, by omega, by go_num, by omega, by rw [HST.out]; show _ = _ ++ acr k [(yp, _)]; rw [HCR.out, List.append_nil], JJ.out⟩
        case measure => simp [intOf]; omega
      · rw [if_neg hdel] at HCR
        have f2 := B2.free 2
        have f3 := B2.free 3
        have B4 : Blk ((w2.setCell ⟨X, 2, none⟩ (.int .i64 (M : Int))).setCell ⟨X, 3, none⟩ (.bool true)) X #[.string yp, .slice A5 M cp5, .int .i64 (M : Int), .bool true] 106 := by simpa using (B2.set 2 (.int .i64 (M : Int))).set 3 (.bool true)
        have k4 : Kp (· = X) w2 ((w2.setCell ⟨X, 2, none⟩ (.int .i64 (M : Int))).setCell ⟨X, 3, none⟩ (.bool true)) := ((Kp.self X w2).put 2 _).put 3 _
        have J4 := J2.turn k4 hXw (fun i hi => Nat.ne_of_lt (hXo i hi)) (fun f hf hz a ha => Nat.ne_of_lt (hbX f hf hz a ha))
        have z7 := z6.kp k4 (fun hz a ha e => by have := (hA5 a ha).1; omega)
        have hs4 := k4.size
        have HX : Hid (¬ (M = 0 ∧ yf = false)) := Lib.hid hdel
        have hcase : (M ≠ 0 ∧ True) ∨ (M = 0 ∧ yf = true) := by
          by_cases h : M = 0
          · refine .inr ⟨h, ?_⟩
            cases yf with
            | true => rfl
            | false => exact absurd ⟨h, rfl⟩ hdel
          · exact .inl ⟨h, trivial⟩
        have JJ := Lib.hid J4
        have HZ7 := Lib.hid z7
        have HA5 := Lib.hid hA5
        have HXO := Lib.hid hXo
        have HBX := Lib.hid hbX
        have HB4 := Lib.hid B4
        clear J2 z6 J4 z7 B2 B4 hdel hyA k4 hA5 hXo hbX
        have hend : ∀ v9 w9, w9.ownsRow 0 106 4 v9 (o.length + 1) (rfs o ++ [.string yp, .slice A5 M cp5, .int .i64 (M : Int), .bool true]) → Kp (fun i => (Value.slice A4 o.length cp4).ownBlock = some i) (((w2.setCell ⟨X, 2, none⟩ (.int .i64 (M : Int))).setCell ⟨X, 3, none⟩ (.bool true)).alloc (.cells #[.string yp, .slice A5 M cp5, .int .i64 (M : Int), .bool true] 106)) w9 →
            (v9.ownBlock = (Value.slice A4 o.length cp4).ownBlock ∨ v9.ownBlock = some (((w2.setCell ⟨X, 2, none⟩ (.int .i64 (M : Int))).setCell ⟨X, 3, none⟩ (.bool true)).heap.size + 1)) →
            (o ++ [(⟨yp, A5, cp5, yb.take M, M, true⟩ : Rf)]).length ≤ j + 1 ∧ (o ++ [(⟨yp, A5, cp5, yb.take M, M, true⟩ : Rf)]).map Rf.st = acr k ((fs.take (j + 1)).map Rf.st) ∧ CrO w w9 v9 (o ++ [⟨yp, A5, cp5, yb.take M, M, true⟩]) := fun v9 w9 p9 k9 b9 => by
          have kA : Kp0 ((w2.setCell ⟨X, 2, none⟩ (.int .i64 (M : Int))).setCell ⟨X, 3, none⟩ (.bool true)) (((w2.setCell ⟨X, 2, none⟩ (.int .i64 (M : Int))).setCell ⟨X, 3, none⟩ (.bool true)).alloc (.cells #[.string yp, .slice A5 M cp5, .int .i64 (M : Int), .bool true] 106)) := (Kp.refl _ _).alloc _
          have hcs : (⟨yp, A5, cp5, yb.take M, M, true⟩ : Rf).cs = [.string yp, .slice A5 M cp5, .int .i64 (M : Int), .bool true] := by unfold Rf.cs; simp only [HTK.out]
          have hsA : (((w2.setCell ⟨X, 2, none⟩ (.int .i64 (M : Int))).setCell ⟨X, 3, none⟩ (.bool true)).alloc (.cells #[.string yp, .slice A5 M cp5, .int .i64 (M : Int), .bool true] 106)).heap.size = ((w2.setCell ⟨X, 2, none⟩ (.int .i64 (M : Int))).setCell ⟨X, 3, none⟩ (.bool true)).heap.size + 1 := by simp
          refine ⟨by rw [List.length_append]; show o.length + 1 ≤ _; omega, ?_, (JJ.out.kp0 kA).add (f := ⟨yp, A5, cp5, yb.take M, M, true⟩) (by rw [hcs]; exact p9) k9 ?_ ⟨HZ7.out.kp0 kA, by show (yb.take M).length ≤ cp5; rw [HTK.out]; exact hcap.1, hcap.2, by show M ≤ (yb.take M).length; rw [HTK.out]; exact Nat.le_refl _⟩ (fun hz a ha => ?_)⟩
          · rw [HST.out, List.map_append]
            congr 1
            show _ = acr k [(yp, _)]
            rw [HCR.out]; rfl
          · rcases b9 with b9 | b9
            · exact .inl b9
            · exact .inr ⟨_, b9, by rw [hsA]; exact Nat.le_refl _⟩
          · have h1 := HA5.out a ha
            have h2 : w.heap.size ≤ a.block := by omega
            exact ⟨h2, fun e => by have := HXO.out _ e; omega⟩
        have HE := Lib.hid hend
        have q0 : ((w2.setCell ⟨X, 2, none⟩ (.int .i64 (M : Int))).setCell ⟨X, 3, none⟩ (.bool true)).cell? ⟨X, 0, none⟩ = some (.string yp) := by rw [HB4.out.cell]; rfl
        have q1 : ((w2.setCell ⟨X, 2, none⟩ (.int .i64 (M : Int))).setCell ⟨X, 3, none⟩ (.bool true)).cell? ⟨X, 1, none⟩ = some (.slice A5 M cp5) := by rw [HB4.out.cell]; rfl
        have q2 : ((w2.setCell ⟨X, 2, none⟩ (.int .i64 (M : Int))).setCell ⟨X, 3, none⟩ (.bool true)).cell? ⟨X, 2, none⟩ = some (.int .i64 (M : Int)) := by rw [HB4.out.cell]; rfl
        have q3 : ((w2.setCell ⟨X, 2, none⟩ (.int .i64 (M : Int))).setCell ⟨X, 3, none⟩ (.bool true)).cell? ⟨X, 3, none⟩ = some (.bool true) := by rw [HB4.out.cell]; rfl
        have oA := own_kp JJ.out.ow ((Kp.refl (fun _ => False) ((w2.setCell ⟨X, 2, none⟩ (.int .i64 (M : Int))).setCell ⟨X, 3, none⟩ (.bool true))).alloc (.cells #[.string yp, .slice A5 M cp5, .int .i64 (M : Int), .bool true] 106)) (fun _ _ x => x)
        clear hend hcap
        obtain ⟨z, hz, hzz⟩ : ∃ z : Bool, ((M : Int) == 0) = z ∧ (z = true → yf = true) := by
          refine ⟨_, rfl, fun h => ?_⟩
          rcases hcase with ⟨h1, _⟩ | ⟨_, h1⟩
          · rw [beq_iff_eq] at h; omega
          · exact h1
        clear hcase
        cases z with
        | true =>
          obtain rfl := hzz rfl
          clear hzz
          go_upto_region 8 with (fail)
          clear x0 x1 x2 x3 f2 f3
          generalize (w2.setCell ⟨X, 2, none⟩ (.int .i64 (M : Int))).setCell ⟨X, 3, none⟩ (.bool true) = w4 at q0 q1 q2 q3 oA HE ⊢
          go_wp2_with (at_builtin; refine list_app rfl _ _ 102 106 zF 4 56 rfl rfl info106 rfl (by decide) (.slice A4 o.length cp4) o.length (rfs o) rfl w4.heap.size 0 1 1 [.string yp, .slice A5 M cp5, .int .i64 (M : Int), .bool true] rfl rfl (by simp [Value.oneCell']) (Vw.of_blk (blk_new _ _ rfl)) oA (by omega) (by omega) ?_)
          intro v9 w9 p9 k9 b9
          have FIN := Lib.hid (HE.out v9 w9 p9 k9 (by simpa using b9))
          clear p9 k9 b9 oA HE q0 q1 q2 q3
          go_wp2_with fail
          go_roundw
          case rel => exact ⟨j + 1, _, by omega, by go_num, FIN.out⟩
          case measure => simp [intOf]; omega
        | false =>
          clear hzz
          go_upto_region 8 with (fail)
          clear x0 x1 x2 x3 f2 f3
          generalize (w2.setCell ⟨X, 2, none⟩ (.int .i64 (M : Int))).setCell ⟨X, 3, none⟩ (.bool true) = w4 at q0 q1 q2 q3 oA HE ⊢
          go_wp2_with (at_builtin; refine list_app rfl _ _ 102 106 zF 4 56 rfl rfl info106 rfl (by decide) (.slice A4 o.length cp4) o.length (rfs o) rfl w4.heap.size 0 1 1 [.string yp, .slice A5 M cp5, .int .i64 (M : Int), .bool true] rfl rfl (by simp [Value.oneCell']) (Vw.of_blk (blk_new _ _ rfl)) oA (by omega) (by omega) ?_)
          intro v9 w9 p9 k9 b9
          have FIN := Lib.hid (HE.out v9 w9 p9 k9 (by simpa using b9))
          clear p9 k9 b9 oA HE q0 q1 q2 q3
          go_wp2_with fail
          go_roundw
          case rel => exact ⟨j + 1, _, by omega, by go_num, FIN.out⟩
          case measure => simp [intOf]; omega
    · obtain rfl : j = fs.length := by omega
      rw [List.take_length, HL.out] at hoL
      obtain ⟨k1, B, hfin⟩ := HO.out wr _ o hoL J
      have g0 := B.cell 0
      have g2 := B.cell 2
      have g3 := B.cell 3
      simp at g0 g2 g3
      have f0 := B.free 0
      have f2 := B.free 2
      have f3 := B.free 3
      clear HO J B k1 H HOK HLB
      go_wp2
      go_end0
      exact ⟨rfl, hfin.out⟩

set_option maxRecDepth 100000 in
theorem fuse30_m (g n : Nat) (O : Nat → Prop) (d : Dk) (m : Int) (hm : m ≤ 1000) (w : World) (h : DkAt w g n O d) :
    Calls Try.prog 30 #[.pointer (some ⟨g, 0, none⟩), .int .i64 m] w fun e w' => e = .returned (.tuple #[]) ∧ DkAt w' g n O (lt d m.toNat) ∧ Kp (· = g) w w' := by
  by_cases h0 : 0 ≤ m
  · have := fuse30_c g n O d m.toNat (by omega) w h
    rwa [show ((m.toNat : Nat) : Int) = m by omega] at this
  · have e0 : m.toNat = 0 := by omega
    rw [e0]
    obtain ⟨bm, V, h⟩ := h
    have c3 := h.cell.cell 3
    have c4 := h.cell.cell 4
    have f3 := h.cell.free 3
    have f4 := h.cell.free 4
    simp at c3 c4
    have K : Kp (· = g) w ((w.setCell ⟨g, 3, none⟩ (.bool true)).setCell ⟨g, 4, none⟩ (.int .i64 0)) := ((Kp.self g w).put 3 _).put 4 _
    have D' := h.setg (d' := { d with lit := true, fuse := 0 }) K (by simpa using (h.cell.set 3 (.bool true)).set 4 (.int .i64 0)) rfl rfl rfl (by show 0 ≤ 9223372036854775807; omega)
    have hmx : max 0 m = 0 := by omega
    have hmx2 : max m 0 = 0 := by omega
    have HD := Lib.hid D'
    clear h D'
    go_enter Try.func30, Try.ntmps30
    go_wp2
    go_end0
    exact ⟨rfl, ⟨bm, V, HD.out⟩, K⟩
set_option maxRecDepth 100000 in
theorem rfuse45_m (g : Nat) (O : Nat → Prop) (r : Rk) (w : World) (h : RdAt w g O r) (m : Int) (hm : m ≤ 1000) :
    Calls Try.prog 45 #[ptr g, .int .i64 m] w fun e w' => e = .returned (.tuple #[]) ∧ RdAt w' g O { r with arm := true, n := (m.toNat : Int) } ∧ Kp (· = g) w w' := by
  by_cases h0 : 0 ≤ m
  · have := rfuse45_c g O r w h m.toNat (by omega)
    rwa [show ((m.toNat : Nat) : Int) = m by omega] at this ⊢
  · have e0 : m.toNat = 0 := by omega
    rw [e0]
    obtain ⟨v, fs, I, hL⟩ := h
    have c3 := I.cell.cell 3
    have c4 := I.cell.cell 4
    have f3 := I.cell.free 3
    have f4 := I.cell.free 4
    simp at c3 c4
    have K : Kp (· = g) w ((w.setCell ⟨g, 3, none⟩ (.bool true)).setCell ⟨g, 4, none⟩ (.int .i64 0)) := ((Kp.self g w).put 3 _).put 4 _
    have D' : RdAt ((w.setCell ⟨g, 3, none⟩ (.bool true)).setCell ⟨g, 4, none⟩ (.int .i64 0)) g O { r with arm := true, n := ((0 : Nat) : Int) } := ⟨v, fs, I.setg K (by simpa using (I.cell.set 3 (.bool true)).set 4 (.int .i64 0)) (show (-1000000 : Int) ≤ 0 ∧ (0 : Int) ≤ 1000000 by omega), hL⟩
    have HD := Lib.hid D'
    have hmx : max 0 m = 0 := by omega
    have hmx2 : max m 0 = 0 := by omega
    clear I D' hL
    go_enter Try.func45, Try.ntmps45
    go_wp2
    go_end0
    exact ⟨rfl, HD.out, K⟩
end

section

open Go.RowKit Go.Sort

def ltk (a b : ByteArray) : Prop := tol a < tol b
theorem ltk_trans {a b c : ByteArray} (h : ltk a b) (h2 : ltk b c) : ltk a c := List.lt_trans h h2
theorem ltk_irr (a : ByteArray) : ¬ ltk a a := List.lt_irrefl _
theorem ltk_tri {a b : ByteArray} (h : ¬ ltk a b) (h2 : a ≠ b) : ltk b a := by
  have : tol b ≤ tol a := List.not_lt.1 h
  rcases List.le_iff_lt_or_eq.1 this with h | h
  · exact h
  · exact absurd (tol_inj h.symm) h2
theorem gtP_iff (a b : ByteArray) : gtP a b = true ↔ ltk b a := by
  unfold gtP
  rw [bytesLess_eq, tl_beq, Lib.toList_data, Lib.toList_data]
  by_cases e : a = b
  · subst e
    simp [ltk_irr]
  · rw [decide_eq_false e, Bool.or_false]
    by_cases hl : ltk a b
    · rw [decide_eq_true (show a.data.toList < b.data.toList from hl)]
      constructor
      · intro h; simp at h
      · intro h; exact absurd (ltk_trans hl h) (ltk_irr _)
    · rw [decide_eq_false (show ¬ a.data.toList < b.data.toList from hl)]
      exact ⟨fun _ => ltk_tri hl e, fun _ => rfl⟩

abbrev Srt (L : Fl) : Prop := L.Pairwise (fun a b => ltk a.1 b.1)
theorem Srt.nodup {L : Fl} (h : Srt L) : (L.map (·.1)).Nodup := by
  unfold List.Nodup
  rw [List.pairwise_map]
  exact h.imp (fun {a b} hab (e : a.1 = b.1) => by rw [e] at hab; exact ltk_irr _ hab)
theorem alf_mem {L : Fl} (hn : (L.map (·.1)).Nodup) (p : ByteArray) (f : Fi) : alf L p = some f ↔ (p, f) ∈ L := by
  induction L with
  | nil => simp [alf]
  | cons x l ih =>
    obtain ⟨k, v⟩ := x
    rw [List.map_cons, List.nodup_cons] at hn
    unfold alf
    by_cases e : p = k
    · subst e
      rw [if_pos rfl]
      constructor
      · intro h; injection h with h; subst h; exact List.mem_cons_self
      · intro h
        rcases List.mem_cons.1 h with h | h
        · injection h with _ h; rw [h]
        · exact absurd (List.mem_map_of_mem (f := (·.1)) h) hn.1
    · rw [if_neg e, ih hn.2, List.mem_cons]
      constructor
      · exact .inr
      · rintro (h | h)
        · injection h with h _; exact absurd h e
        · exact h
theorem alf_isSome {L : Fl} {p : ByteArray} : (alf L p).isSome = true ↔ p ∈ L.map (·.1) := by
  constructor
  · intro h
    refine Classical.byContradiction fun hn => ?_
    rw [alf_none hn] at h
    cases h
  · exact alf_some
theorem alf_ext {L : Fl} (hn : (L.map (·.1)).Nodup) {G : ByteArray → Option Fi} (h : ∀ p f, G p = some f ↔ (p, f) ∈ L) (p : ByteArray) : G p = alf L p := by
  cases hG : G p with
  | some f => exact ((alf_mem hn p f).2 ((h p f).1 hG)).symm
  | none =>
    cases hA : alf L p with
    | none => rfl
    | some f => rw [(h p f).2 ((alf_mem hn p f).1 hA)] at hG; cases hG

theorem pfold_mem (x : ByteArray × Fi) (y : ByteArray × Fi) : ∀ (l : Fl) (s : Bool × Fl), y ∈ (l.foldl (pstep Prod.fst x) s).2 ∨ (y = x ∧ (l.foldl (pstep Prod.fst x) s).1 = false) ↔ y ∈ s.2 ∨ (y ∈ l ∧ y.1 ≠ x.1) ∨ (y = x ∧ s.1 = false) := by
  intro l
  induction l with
  | nil => intro s; simp
  | cons z l ih =>
    intro s
    rw [List.foldl_cons, ih]
    unfold pstep
    by_cases e : z.1 = x.1
    · rw [if_pos e]
      constructor
      · rintro (h | ⟨h, h2⟩ | h)
        · exact .inl h
        · exact .inr (.inl ⟨List.mem_cons_of_mem _ h, h2⟩)
        · exact .inr (.inr h)
      · rintro (h | ⟨h, h2⟩ | h)
        · exact .inl h
        · rcases List.mem_cons.1 h with rfl | h
          · exact absurd e h2
          · exact .inr (.inl ⟨h, h2⟩)
        · exact .inr (.inr h)
    · rw [if_neg e]
      by_cases hd : s.1 = false ∧ gtP z.1 x.1 = true
      · rw [if_pos hd]
        simp only [List.mem_append, List.mem_cons, List.not_mem_nil, or_false]
        constructor
        · rintro (((h | h) | h) | ⟨h, h2⟩ | ⟨_, h⟩)
          · exact .inl h
          · exact .inr (.inr ⟨h, hd.1⟩)
          · exact .inr (.inl ⟨.inl h, h ▸ e⟩)
          · exact .inr (.inl ⟨.inr h, h2⟩)
          · cases h
        · rintro (h | ⟨h | h, h2⟩ | ⟨h, _⟩)
          · exact .inl (.inl (.inl h))
          · exact .inl (.inr h)
          · exact .inr (.inl ⟨h, h2⟩)
          · exact .inl (.inl (.inr h))
      · rw [if_neg hd]
        simp only [List.mem_append, List.mem_cons, List.not_mem_nil, or_false]
        constructor
        · rintro ((h | h) | ⟨h, h2⟩ | h)
          · exact .inl h
          · exact .inr (.inl ⟨.inl h, h ▸ e⟩)
          · exact .inr (.inl ⟨.inr h, h2⟩)
          · exact .inr (.inr h)
        · rintro (h | ⟨h | h, h2⟩ | h)
          · exact .inl (.inl h)
          · exact .inl (.inr h)
          · exact .inr (.inl ⟨h, h2⟩)
          · exact .inr (.inr h)
theorem pput_iff (x : ByteArray × Fi) (L : Fl) (y : ByteArray × Fi) : y ∈ pput Prod.fst x L ↔ y = x ∨ (y ∈ L ∧ y.1 ≠ x.1) := by
  have h := pfold_mem x y L (false, [])
  unfold pput pfold
  simp only [List.not_mem_nil, false_or, and_true] at h
  split
  · rename_i hd
    rw [hd] at h
    simp only [Bool.true_eq_false, and_false, or_false] at h
    rw [h]; exact or_comm
  · rename_i hd
    have hd : (L.foldl (pstep Prod.fst x) (false, [])).1 = false := by simpa using hd
    rw [hd] at h
    simp only [and_true] at h
    rw [List.mem_append, List.mem_singleton, h]; exact or_comm
theorem pfold_srt (x : ByteArray × Fi) : ∀ (l : Fl) (s : Bool × Fl), Srt l → Srt s.2 → (∀ a ∈ s.2, ∀ y ∈ l, ltk a.1 y.1) → (s.1 = false → ∀ a ∈ s.2, ltk a.1 x.1) → (s.1 = true → ∀ y ∈ l, ltk x.1 y.1) →
    Srt (l.foldl (pstep Prod.fst x) s).2 ∧ ((l.foldl (pstep Prod.fst x) s).1 = false → ∀ a ∈ (l.foldl (pstep Prod.fst x) s).2, ltk a.1 x.1) := by
  intro l
  induction l with
  | nil => intro s _ h2 _ h4 _; exact ⟨h2, h4⟩
  | cons z l ih =>
    intro s h1 h2 h3 h4 h5
    rw [Srt, List.pairwise_cons] at h1
    rw [List.foldl_cons]
    have h3a : ∀ a ∈ s.2, ltk a.1 z.1 := fun a ha => h3 a ha z List.mem_cons_self
    have h3b : ∀ a ∈ s.2, ∀ y ∈ l, ltk a.1 y.1 := fun a ha y hy => h3 a ha y (List.mem_cons_of_mem _ hy)
    unfold pstep
    by_cases e : z.1 = x.1
    · rw [if_pos e]
      exact ih s h1.2 h2 h3b h4 (fun h y hy => h5 h y (List.mem_cons_of_mem _ hy))
    · rw [if_neg e]
      by_cases hd : s.1 = false ∧ gtP z.1 x.1 = true
      · rw [if_pos hd]
        have hxz := (gtP_iff _ _).1 hd.2
        refine ih _ h1.2 ?_ ?_ (fun h => by cases h) (fun _ y hy => ltk_trans hxz (h1.1 y hy))
        · rw [show s.2 ++ [x] ++ [z] = s.2 ++ [x, z] by simp]
          refine List.pairwise_append.2 ⟨h2, ?_, ?_⟩
          · refine List.pairwise_cons.2 ⟨fun y hy => ?_, List.pairwise_singleton _ _⟩
            rw [List.mem_singleton] at hy; subst hy; exact hxz
          · intro a ha y hy
            rcases List.mem_cons.1 hy with rfl | hy
            · exact h4 hd.1 a ha
            · rw [List.mem_singleton] at hy; subst hy; exact h3a a ha
        · intro a ha y hy
          simp only [List.mem_append, List.mem_singleton] at ha
          rcases ha with (ha | rfl) | rfl
          · exact h3b a ha y hy
          · exact ltk_trans hxz (h1.1 y hy)
          · exact h1.1 y hy
      · rw [if_neg hd]
        refine ih _ h1.2 ?_ ?_ (fun h a ha => ?_) (fun h y hy => h5 h y (List.mem_cons_of_mem _ hy))
        · refine List.pairwise_append.2 ⟨h2, List.pairwise_singleton _ _, fun a ha y hy => ?_⟩
          rw [List.mem_singleton] at hy; subst hy; exact h3a a ha
        · intro a ha y hy
          simp only [List.mem_append, List.mem_singleton] at ha
          rcases ha with ha | rfl
          · exact h3b a ha y hy
          · exact h1.1 y hy
        · simp only [List.mem_append, List.mem_singleton] at ha
          rcases ha with ha | rfl
          · exact h4 h a ha
          · refine ltk_tri (fun hh => hd ⟨h, (gtP_iff _ _).2 hh⟩) (fun h => e h.symm)
theorem pput_srt {x : ByteArray × Fi} {L : Fl} (h : Srt L) : Srt (pput Prod.fst x L) := by
  have := pfold_srt x L (false, []) h List.Pairwise.nil (fun a ha => by cases ha) (fun _ a ha => by cases ha) (fun h => by cases h)
  unfold pput pfold
  split
  · exact this.1
  · rename_i hd
    refine List.pairwise_append.2 ⟨this.1, List.pairwise_singleton _ _, fun a ha y hy => ?_⟩
    rw [List.mem_singleton] at hy; subst hy
    exact this.2 (by simpa using hd) a ha
theorem pput_len (x : ByteArray × Fi) (L : Fl) : (pput Prod.fst x L).length ≤ L.length + 1 := by
  have := pfold_len Prod.fst x L
  unfold pput
  split
  · rename_i hd; rw [if_pos hd] at this; exact this
  · rename_i hd; rw [if_neg hd] at this; rw [List.length_append]; simp; omega
theorem alf_pput {x : ByteArray × Fi} {L : Fl} (h : Srt L) (p : ByteArray) : pt (alf L) x.1 (some x.2) p = alf (pput Prod.fst x L) p := by
  refine alf_ext (pput_srt h).nodup (G := pt (alf L) x.1 (some x.2)) (fun p f => ?_) p
  rw [pput_iff]
  by_cases e : p = x.1
  · subst e
    rw [pt_same]
    constructor
    · intro h; injection h with h; subst h; exact .inl rfl
    · rintro (h | ⟨_, h⟩)
      · rw [← h]
      · exact absurd rfl h
  · rw [pt_other _ _ e, alf_mem h.nodup]
    constructor
    · exact fun h => .inr ⟨h, e⟩
    · rintro (h | h)
      · rw [← h] at e; exact absurd rfl e
      · exact h.1
theorem fup_map (L : Fl) (p : ByteArray) (v : Fi) : (fup L p v).map (·.1) = L.map (·.1) := by
  unfold fup
  rw [List.map_map]
  refine List.map_congr_left (fun x _ => ?_)
  show (if x.1 = p then (p, v) else x).1 = x.1
  split
  · rename_i h; exact h.symm
  · rfl
theorem srt_map {L : Fl} : Srt L ↔ (L.map (·.1)).Pairwise ltk := by rw [List.pairwise_map]
theorem alf_fup {L : Fl} {p : ByteArray} {v : Fi} (h : (alf L p).isSome = true) (z : ByteArray) : pt (alf L) p (some v) z = alf (fup L p v) z := by
  induction L with
  | nil => cases h
  | cons x l ih =>
    obtain ⟨k, f⟩ := x
    unfold fup
    rw [List.map_cons]
    by_cases ek : k = p
    · subst ek
      rw [if_pos rfl]
      by_cases ez : z = k
      · subst ez; rw [pt_same]; simp [alf]
      · rw [pt_other _ _ ez]
        simp only [alf, if_neg ez]
        have : ∀ m : Fl, alf m z = alf (m.map (fun x => if x.1 = k then (k, v) else x)) z := by
          intro m
          induction m with
          | nil => rfl
          | cons y m ih =>
            obtain ⟨k2, f2⟩ := y
            rw [List.map_cons]
            by_cases e2 : k2 = k
            · subst e2
              rw [if_pos rfl]
              simp only [alf, if_neg ez]
              exact ih
            · rw [if_neg e2]
              simp only [alf]
              split
              · rfl
              · exact ih
        exact this l
    · rw [if_neg ek]
      have hl : (alf l p).isSome = true := by
        have := h
        simp only [alf, if_neg (show ¬ p = k from fun e => ek e.symm)] at this
        exact this
      have ih := ih hl
      by_cases ez : z = k
      · subst ez
        rw [pt_other _ _ ek]; simp [alf]
      · have e1 : pt (alf ((k, f) :: l)) p (some v) z = pt (alf l) p (some v) z := by
          by_cases ezp : z = p
          · rw [ezp, pt_same, pt_same]
          · rw [pt_other _ _ ezp, pt_other _ _ ezp]; simp [alf, ez]
        rw [e1, ih]
        simp only [alf, if_neg ez]
        rfl
theorem acr_srt (k : Nat) {L : Fl} (h : Srt L) : Srt (acr k L) := by
  induction L with
  | nil => exact h
  | cons x l ih =>
    obtain ⟨p, f⟩ := x
    rw [Srt, List.pairwise_cons] at h
    unfold acr
    cases hc : crF k f with
    | none => exact ih h.2
    | some f' =>
      refine List.pairwise_cons.2 ⟨fun y hy => ?_, ih h.2⟩
      have := acr_sub k l y.1 (List.mem_map_of_mem (f := (·.1)) hy)
      obtain ⟨z, hz, e⟩ := List.mem_map.1 this
      have h2 := h.1 z hz
      rw [show z.1 = y.1 from e] at h2
      exact h2

/-- The disk is the reference's. -/
structure Rel (d : Dk) (r : Rk) : Prop where
  F : ∀ p, d.F p = alf r.L p
  so : Srt r.L
  q : d.quota = r.q
  dead : d.dead = r.dead
  arm : d.lit = r.arm
  fu : r.arm = true → (d.fuse : Int) = r.n
/-- A disk's keys are its files'. -/
structure Kys (d : Dk) : Prop where
  nd : d.ks.Nodup
  ks : ∀ p, p ∈ d.ks ↔ (d.F p).isSome = true
  sz : ∀ p, (d.F p).isSome = true → p.size ≤ 100
  us : d.used ≤ d.quota
  qu : d.quota ≤ 65536
theorem DkAt.kys {w : World} {g n : Nat} {O : Nat → Prop} {d : Dk} (h : DkAt w g n O d) : Kys d := by
  obtain ⟨bm, V, h⟩ := h
  exact ⟨h.nd, h.ks, h.sz, h.us, h.qu⟩
theorem Rel.perm {d : Dk} {r : Rk} (h : Rel d r) (k : Kys d) : d.ks.Perm (r.L.map (·.1)) := by
  rw [List.perm_ext_iff_of_nodup k.nd h.so.nodup]
  intro p
  rw [k.ks, h.F, alf_isSome]
theorem Rel.used {d : Dk} {r : Rk} (h : Rel d r) (k : Kys d) : d.used = als r.L := by
  unfold Dk.used als
  rw [((h.perm k).map d.len).sum_nat, List.map_map]
  congr 1
  refine List.map_congr_left (fun x hx => ?_)
  show d.len x.1 = _
  unfold Dk.len
  rw [h.F, (alf_mem h.so.nodup x.1 x.2).2 hx]
theorem Rel.srt {d : Dk} {r : Rk} (h : Rel d r) (k : Kys d) : srt d.ks = (r.L.map (·.1)).map tol := by
  refine srt_eq ((h.perm k).symm.map tol) ?_
  rw [List.pairwise_map, List.pairwise_map]
  exact h.so.imp (fun hab => by unfold leB'; exact decide_eq_true (List.le_of_lt hab))
theorem isPre_eq (pre p : ByteArray) : isPre pre p = Lib.hasPrefix (tol p) (tol pre) := by
  unfold isPre Lib.hasPrefix
  rw [Lib.toList_data, Lib.toList_data, ByteArray.data_extract, Array.toList_extract]
  have hs1 : pre.size = (tol pre).length := by unfold tol; simp
  have hs2 : p.size = (tol p).length := by unfold tol; simp
  rw [hs1, hs2]
  show (decide _ && ((tol p).extract 0 (tol pre).length == tol pre)) = _
  generalize tol p = x
  generalize tol pre = y
  rw [List.extract_eq_take_drop, List.drop_zero, Nat.sub_zero, Bool.eq_iff_iff, List.isPrefixOf_iff_prefix, List.prefix_iff_eq_take, Bool.and_eq_true, decide_eq_true_iff, beq_iff_eq]
  constructor
  · exact fun h => h.2.symm
  · intro h
    refine ⟨?_, h.symm⟩
    have := congrArg List.length h
    rw [List.length_take] at this
    omega
theorem Rel.lsp {d : Dk} {r : Rk} (h : Rel d r) (k : Kys d) (pre : ByteArray) : d.lsp pre = r.lsp pre := by
  unfold Dk.lsp Rk.lsp
  rw [h.srt k, List.filter_map, List.map_map]
  have e1 : (mkp ∘ tol) = id := by
    funext p
    cases p
    unfold mkp tol
    simp
  rw [e1, List.map_id]
  refine List.filter_congr (fun x _ => ?_)
  exact (isPre_eq pre x).symm
theorem Rel.alike {d : Dk} {r : Rk} (h : Rel d r) (k : Kys d) : Alike d r :=
  ⟨h.dead, h.used k, h.q, h.lsp k es, fun x hx => by
    have e : d.F x.1 = some x.2 := by rw [h.F, (alf_mem h.so.nodup x.1 x.2).2 hx]
    exact ⟨e, k.sz _ (by rw [e]; rfl)⟩, by have := k.us; have := k.qu; rw [← h.used k]; omega, by rw [← h.q]; exact k.qu⟩

abbrev Res (a : Int × Dk) (b : Int × Rk) : Prop := a.1 = b.1 ∧ Rel a.2 b.2
theorem Rel.step {d : Dk} {r : Rk} (h : Rel d r) : (d.step.1 = 7 ∧ r.stop.1 = true ∨ d.step.1 = 0 ∧ r.stop.1 = false) ∧ Rel d.step.2 r.stop.2 := by
  have hf := h.fu
  unfold Dk.step Rk.stop
  rw [h.arm]
  by_cases ha : r.arm = true
  · have hn := hf ha
    by_cases h0 : d.fuse = 0
    · rw [if_pos ⟨ha, h0⟩, if_pos ⟨ha, by omega⟩]
      exact ⟨.inl ⟨rfl, rfl⟩, ⟨h.F, h.so, h.q, rfl, rfl, h.fu⟩⟩
    · rw [if_neg (fun x => h0 x.2), if_pos ha, if_neg (fun x => h0 (by omega))]
      exact ⟨.inr ⟨rfl, rfl⟩, ⟨h.F, h.so, h.q, h.dead, rfl, fun _ => by show ((d.fuse - 1 : Nat) : Int) = r.n - 1; omega⟩⟩
  · rw [if_neg (fun x => ha x.1), if_neg ha, if_neg (fun x => ha x.1)]
    exact ⟨.inr ⟨rfl, rfl⟩, ⟨h.F, h.so, h.q, h.dead, h.arm, fun x => absurd x ha⟩⟩
theorem Rel.old {d : Dk} {r : Rk} (h : Rel d r) (p : ByteArray) : d.old p = alo r.L p := by unfold Dk.old alo; rw [h.F]
theorem Rel.put {d : Dk} {r : Rk} (h : Rel d r) (p : ByteArray) (v : Fi) : Rel (d.put p v) { r with L := pput Prod.fst (p, v) r.L } :=
  ⟨fun z => by
    show pt d.F p (some v) z = alf (pput Prod.fst (p, v) r.L) z
    rw [← alf_pput h.so]
    by_cases e : z = p
    · rw [e, pt_same, pt_same]
    · rw [pt_other _ _ e, pt_other _ _ e, h.F], pput_srt h.so, h.q, h.dead, h.arm, h.fu⟩
theorem Rel.upd {d : Dk} {r : Rk} (h : Rel d r) (p : ByteArray) (v : Fi) (hs : (alf r.L p).isSome = true) : Rel (d.put p v) { r with L := fup r.L p v } :=
  ⟨fun z => by
    show pt d.F p (some v) z = alf (fup r.L p v) z
    rw [← alf_fup hs]
    by_cases e : z = p
    · rw [e, pt_same, pt_same]
    · rw [pt_other _ _ e, pt_other _ _ e, h.F], by rw [srt_map, fup_map, ← srt_map]; exact h.so, h.q, h.dead, h.arm, h.fu⟩
theorem Rel.gone {d : Dk} {r : Rk} (h : Rel d r) (p : ByteArray) : Rel (d.gone p) { r with L := r.L.filter (fun x => decide (x.1 ≠ p)) } :=
  ⟨fun z => by
    show pt d.F p none z = alf (alg r.L p) z
    rw [alf_filter]
    by_cases e : z = p
    · rw [e, pt_same, pt_same]
    · rw [pt_other _ _ e, pt_other _ _ e, h.F], h.so.sublist List.filter_sublist, h.q, h.dead, h.arm, h.fu⟩
theorem Rel.crash {d : Dk} {r : Rk} (h : Rel d r) (k : Nat) : Rel (d.crash k) (r.crash k) :=
  ⟨fun z => by
    show (d.F z).bind (crF k) = alf (acr k r.L) z
    rw [al_crashF k r.L h.so.nodup, h.F], acr_srt k h.so, h.q, rfl, rfl, fun x => by cases x⟩
theorem Rel.fuse {d : Dk} {r : Rk} (h : Rel d r) (m : Nat) : Rel (lt d m) { r with arm := true, n := (m : Int) } :=
  ⟨h.F, h.so, h.q, h.dead, rfl, fun _ => rfl⟩
theorem hasE_one (p : ByteArray) : hasE [p] = decide (p = es) := by
  unfold hasE
  by_cases e : p = es
  · subst e; simp
  · rw [decide_eq_false e, decide_eq_false_iff_not, List.mem_singleton]
    exact fun h => e h.symm
theorem Rel.there {d : Dk} {r : Rk} (h : Rel d r) (p : ByteArray) : d.there p = r.beg [p] := by
  unfold Dk.there Rk.beg Dk.may
  rw [h.dead]
  by_cases hd : r.dead = true
  · simp [hd]
  · by_cases he : hasE [p] = true
    · simp [hd, he]
    · simp [hd, he, h.F]
theorem Rel.app {d : Dk} {r : Rk} (h : Rel d r) (k : Kys d) (p : ByteArray) (b : List Int) : Res (d.app p b) (r.app p b) := by
  obtain ⟨hst, hre⟩ := h.step
  have hk := stop_keeps r
  unfold Dk.app Rk.app Dk.may
  rw [h.dead, hasE_one, h.q, h.used k, h.old]
  by_cases hd : r.dead = true
  · simp [hd, Res, h]
  · by_cases he : p = es
    · simp [hd, he, Res, h]
    · simp only [hd, he, decide_false, Bool.false_eq_true, if_false, ne_eq, not_true_eq_false]
      split
      · exact ⟨rfl, h⟩
      · rcases hst with ⟨e1, e2⟩ | ⟨e1, e2⟩
        · rw [e1, if_pos (by decide), if_pos e2]
          exact ⟨e1, hre⟩
        · rw [e1, if_neg (by decide), if_neg (by rw [e2]; simp)]
          have := hre.put p { alo r.L p with b := (alo r.L p).b ++ b }
          rw [hk.1] at this
          exact ⟨rfl, this⟩
theorem Rel.syn {d : Dk} {r : Rk} (h : Rel d r) (p : ByteArray) : Res (d.syn p) (r.syn p) := by
  obtain ⟨hst, hre⟩ := h.step
  have hk := stop_keeps r
  unfold Dk.syn Rk.syn
  rw [h.there, h.old]
  by_cases hb : r.beg [p] = 0
  · have hs := beg_some hb
    rw [hb, if_neg (show ¬ (0 : Int) ≠ 0 by simp), if_neg (show ¬ (0 : Int) ≠ 0 by simp)]
    rcases hst with ⟨e1, e2⟩ | ⟨e1, e2⟩
    · rw [e1, if_pos (by decide), if_pos e2]
      exact ⟨e1, hre⟩
    · rw [e1, if_neg (by decide), if_neg (by rw [e2]; simp)]
      have := hre.upd p ⟨(alo r.L p).b, (alo r.L p).b.length, true⟩ (by rw [hk.1]; exact hs)
      rw [hk.1] at this
      exact ⟨rfl, this⟩
  · rw [if_pos hb, if_pos hb]
    exact ⟨rfl, h⟩
theorem Rel.rem {d : Dk} {r : Rk} (h : Rel d r) (p : ByteArray) : Res (d.rem p) (r.rem p) := by
  obtain ⟨hst, hre⟩ := h.step
  have hk := stop_keeps r
  unfold Dk.rem Rk.rem
  rw [h.there]
  by_cases hb : r.beg [p] = 0
  · rw [hb, if_neg (show ¬ (0 : Int) ≠ 0 by simp), if_neg (show ¬ (0 : Int) ≠ 0 by simp)]
    rcases hst with ⟨e1, e2⟩ | ⟨e1, e2⟩
    · rw [e1, if_pos (by decide), if_pos e2]
      exact ⟨e1, hre⟩
    · rw [e1, if_neg (by decide), if_neg (by rw [e2]; simp)]
      have := hre.gone p
      rw [hk.1] at this
      exact ⟨rfl, this⟩
  · rw [if_pos hb, if_pos hb]
    exact ⟨rfl, h⟩
theorem Rel.cut {d : Dk} {r : Rk} (h : Rel d r) (p : ByteArray) (m : Int) : Res (d.cut p m) (r.cut p m) := by
  obtain ⟨hst, hre⟩ := h.step
  have hk := stop_keeps r
  unfold Dk.cut Rk.cut
  rw [h.there, h.old, ← old_len, h.old]
  by_cases hb : r.beg [p] = 0
  · have hs := beg_some hb
    rw [hb, if_neg (show ¬ (0 : Int) ≠ 0 by simp), if_neg (show ¬ (0 : Int) ≠ 0 by simp)]
    split
    · exact ⟨rfl, h⟩
    · rcases hst with ⟨e1, e2⟩ | ⟨e1, e2⟩
      · rw [e1, if_pos (by decide), if_pos e2]
        exact ⟨e1, hre⟩
      · rw [e1, if_neg (by decide), if_neg (by rw [e2]; simp)]
        have := hre.upd p ⟨(alo r.L p).b.take m.toNat, m.toNat, true⟩ (by rw [hk.1]; exact hs)
        rw [hk.1] at this
        exact ⟨rfl, this⟩
  · rw [if_pos hb, if_pos hb]
    exact ⟨rfl, h⟩
theorem Rel.ren {d : Dk} {r : Rk} (h : Rel d r) (p q : ByteArray) : Res (d.ren p q) (r.ren p q) := by
  obtain ⟨hst, hre⟩ := h.step
  have hk := stop_keeps r
  have hth := h.there p
  unfold Dk.ren Rk.ren
  rw [h.old]
  have hcase : (d.may [p, q] ≠ 0 ∧ d.may [p, q] = r.beg [p, q]) ∨ (d.may [p, q] = 0 ∧ d.there p = r.beg [p, q]) := by
    unfold Dk.there Dk.may Rk.beg
    rw [h.dead]
    by_cases hd : r.dead = true
    · simp [hd]
    · by_cases he : hasE [p, q] = true
      · simp [hd, he]
      · have he1 : hasE [p] = false := by
          unfold hasE at he ⊢
          rw [decide_eq_false_iff_not]
          intro h
          rw [List.mem_singleton] at h
          exact he (@decide_eq_true _ (_) (by rw [h]; exact List.mem_cons_self))
        simp [hd, he, he1, h.F]
  rcases hcase with ⟨c1, c2⟩ | ⟨c1, c2⟩
  · rw [if_pos c1, c2, if_pos (by rw [← c2]; exact c1)]
    exact ⟨rfl, h⟩
  · rw [if_neg (by rw [c1]; simp), c2]
    by_cases hb : r.beg [p, q] = 0
    · rw [hb, if_neg (show ¬ (0 : Int) ≠ 0 by simp), if_neg (show ¬ (0 : Int) ≠ 0 by simp)]
      rcases hst with ⟨e1, e2⟩ | ⟨e1, e2⟩
      · rw [e1, if_pos (by decide), if_pos e2]
        exact ⟨e1, hre⟩
      · rw [e1, if_neg (by decide), if_neg (by rw [e2]; simp)]
        have := (hre.gone p).put q ⟨(alo r.L p).b, (alo r.L p).b.length, true⟩
        rw [hk.1] at this
        exact ⟨rfl, this⟩
    · rw [if_pos hb, if_pos hb]
      exact ⟨rfl, h⟩
end

section

open Go.RowKit

structure Fr2 (w wx w' : World) (Ox : Nat → Prop) (g n : Nat) (O : Nat → Prop) (d : Dk) (g2 : Nat) (O2 : Nat → Prop) (r : Rk) : Prop where
  dk : DkAt w' g n O d
  rd : RdAt w' g2 O2 r
  ap : ∀ i, O i → ¬ O2 i
  n1 : ∀ i, O i → w.heap.size ≤ i
  n2 : ∀ i, O2 i → w.heap.size ≤ i
  kp : Kp0 w w'
  kx : Kp Ox wx w'
  xo : ∀ i, O i ∨ O2 i → Ox i ∨ wx.heap.size ≤ i
variable {w wx w1 w2 : World} {Ox : Nat → Prop} {g n g2 m : Nat} {O O2 : Nat → Prop} {d : Dk} {r : Rk}
theorem Fr2.kp0 (h : Fr2 w wx w1 Ox g n O d g2 O2 r) (k : Kp0 w1 w2) : Fr2 w wx w2 Ox g n O d g2 O2 r :=
  ⟨h.dk.kp0 k, h.rd.kp0 k, h.ap, h.n1, h.n2, h.kp.then0 k, h.kx.then0 k, h.xo⟩
theorem Fr2.base (h : Fr2 w wx w1 Ox g n O d g2 O2 r) : Fr2 w w1 w1 (fun i => O i ∨ O2 i) g n O d g2 O2 r :=
  ⟨h.dk, h.rd, h.ap, h.n1, h.n2, h.kp, Kp.refl _ _, fun i hi => .inl hi⟩
theorem Fr2.mono (h : Fr2 w wx w1 Ox g n O d g2 O2 r) (hm : n ≤ m) : Fr2 w wx w1 Ox g m O d g2 O2 r := by
  obtain ⟨bm, V, hd⟩ := h.dk
  exact ⟨⟨bm, V, { hd with mp := hd.mp.mono hm }⟩, h.rd, h.ap, h.n1, h.n2, h.kp, h.kx, h.xo⟩
theorem Fr2.bz (h : Fr2 w wx w1 Ox g n O d g2 O2 r) {A : Option Addr} {c : Nat} {bs : List Int} (z : Bz wx A c bs) (hz : bs ≠ [] → ∀ a, A = some a → ¬ Ox a.block) :
    Bz w1 A c bs ∧ (bs ≠ [] → ∀ a, A = some a → ¬ O a.block ∧ ¬ O2 a.block) :=
  ⟨z.kp h.kx hz, fun hb a ha => by
    have hl := bz_lt z hb a ha
    have hx := hz hb a ha
    exact ⟨fun ho => by rcases h.xo _ (.inl ho) with e | e; exact hx e; omega, fun ho => by rcases h.xo _ (.inr ho) with e | e; exact hx e; omega⟩⟩
theorem Fr2.dturn (h : Fr2 w wx w1 Ox g n O d g2 O2 r) {O' : Nat → Prop} {d' : Dk} (hd : DkAt w2 g m O' d') (hO : ∀ i, O' i → O i ∨ w1.heap.size ≤ i) (k : Kp O w1 w2) : Fr2 w wx w2 Ox g m O' d' g2 O2 r := by
  refine ⟨hd, h.rd.kp k (fun i hi ho => h.ap i ho hi), fun i hi h2 => ?_, fun i hi => ?_, h.n2, h.kp.trans k (fun i hi e => by have := h.n1 i e; omega), h.kx.trans k (fun i hi e => ?_), fun i hi => ?_⟩
  · rcases hO i hi with e | e
    · exact h.ap i e h2
    · have := h.rd.olt i h2; omega
  · rcases hO i hi with e | e
    · exact h.n1 i e
    · exact Nat.le_trans h.kp.size e
  · rcases h.xo i (.inl e) with e | e
    · exact e
    · omega
  · rcases hi with hi | hi
    · rcases hO i hi with e | e
      · exact h.xo i (.inl e)
      · exact .inr (Nat.le_trans h.kx.size e)
    · exact h.xo i (.inr hi)
theorem Fr2.rturn (h : Fr2 w wx w1 Ox g n O d g2 O2 r) {O' : Nat → Prop} {r' : Rk} (hr : RdAt w2 g2 O' r') (hO : ∀ i, O' i → O2 i ∨ w1.heap.size ≤ i) (k : Kp O2 w1 w2) : Fr2 w wx w2 Ox g n O d g2 O' r' := by
  refine ⟨h.dk.kp k (fun i hi ho => h.ap i hi ho), hr, fun i hi h2 => ?_, h.n1, fun i hi => ?_, h.kp.trans k (fun i hi e => by have := h.n2 i e; omega), h.kx.trans k (fun i hi e => ?_), fun i hi => ?_⟩
  · rcases hO i h2 with e | e
    · exact h.ap i hi e
    · have := h.dk.olt i hi; omega
  · rcases hO i hi with e | e
    · exact h.n2 i e
    · exact Nat.le_trans h.kp.size e
  · rcases h.xo i (.inr e) with e | e
    · exact e
    · omega
  · rcases hi with hi | hi
    · exact h.xo i (.inl hi)
    · rcases hO i hi with e | e
      · exact h.xo i (.inr e)
      · exact .inr (Nat.le_trans h.kx.size e)
theorem Fr2.did (h : Fr2 w wx w1 Ox g n O d g2 O2 r) {res : Int × Dk} {e : Ending} (D : Did w1 w2 g m O res e) : e = .returned (.int .i64 res.1) ∧ ∃ O', Fr2 w wx w2 Ox g m O' res.2 g2 O2 r := by
  obtain ⟨O', rfl, h1, h2, k⟩ := D
  exact ⟨rfl, O', h.dturn h1 h2 k⟩
theorem Fr2.rdid (h : Fr2 w wx w1 Ox g n O d g2 O2 r) {res : Int × Rk} {e : Ending} (D : RDid w1 w2 g2 O2 res e) : e = .returned (.int .i64 res.1) ∧ ∃ O', Fr2 w wx w2 Ox g n O d g2 O' res.2 := by
  obtain ⟨O', rfl, h1, h2, k⟩ := D
  exact ⟨rfl, O', h.rturn h1 h2 k⟩

/-- A clone of the disk beside them. -/
structure Fc2 (w wx w' : World) (Ox : Nat → Prop) (g n : Nat) (O : Nat → Prop) (d : Dk) (gc m : Nat) (OC : Nat → Prop) (dc : Dk) (g2 : Nat) (O2 : Nat → Prop) (r : Rk) : Prop where
  tw : Twin w' g n O d OC
  ck : DkAt w' gc m OC dc
  rd : RdAt w' g2 O2 r
  ap : ∀ i, O i → ¬ O2 i
  ac : ∀ i, OC i → ¬ O2 i
  n1 : ∀ i, O i → w.heap.size ≤ i
  n2 : ∀ i, O2 i → w.heap.size ≤ i
  nc : ∀ i, OC i → w.heap.size ≤ i
  kp : Kp0 w w'
  kx : Kp Ox wx w'
  xo : ∀ i, O i ∨ O2 i ∨ OC i → Ox i ∨ wx.heap.size ≤ i
variable {gc : Nat} {OC : Nat → Prop} {dc : Dk}
theorem Fc2.done (h : Fc2 w wx w1 Ox g n O d gc m OC dc g2 O2 r) : Fr2 w wx w1 Ox g n O d g2 O2 r :=
  ⟨h.tw.at_, h.rd, h.ap, h.n1, h.n2, h.kp, h.kx, fun i hi => h.xo i (hi.elim .inl (fun e => .inr (.inl e)))⟩
theorem Fc2.kp0 (h : Fc2 w wx w1 Ox g n O d gc m OC dc g2 O2 r) (k : Kp0 w1 w2) : Fc2 w wx w2 Ox g n O d gc m OC dc g2 O2 r :=
  ⟨h.tw.kp0 k, h.ck.kp0 k, h.rd.kp0 k, h.ap, h.ac, h.n1, h.n2, h.nc, h.kp.then0 k, h.kx.then0 k, h.xo⟩
theorem Fc2.cturn (h : Fc2 w wx w1 Ox g n O d gc m OC dc g2 O2 r) {O' : Nat → Prop} {d' : Dk} {m' : Nat} (hd : DkAt w2 gc m' O' d') (hO : ∀ i, O' i → OC i ∨ w1.heap.size ≤ i) (k : Kp OC w1 w2) (N : NoBy w1 w2 OC) : Fc2 w wx w2 Ox g n O d gc m' O' d' g2 O2 r := by
  refine ⟨h.tw.nob N hO, hd, h.rd.kp k (fun i hi ho => h.ac i ho hi), h.ap, fun i hi h2 => ?_, h.n1, h.n2, fun i hi => ?_, h.kp.trans k (fun i hi e => by have := h.nc i e; omega), h.kx.trans k (fun i hi e => ?_), fun i hi => ?_⟩
  · rcases hO i hi with e | e
    · exact h.ac i e h2
    · have := h.rd.olt i h2; omega
  · rcases hO i hi with e | e
    · exact h.nc i e
    · exact Nat.le_trans h.kp.size e
  · rcases h.xo i (.inr (.inr e)) with e | e
    · exact e
    · omega
  · rcases hi with hi | hi | hi
    · exact h.xo i (.inl hi)
    · exact h.xo i (.inr (.inl hi))
    · rcases hO i hi with e | e
      · exact h.xo i (.inr (.inr e))
      · exact .inr (Nat.le_trans h.kx.size e)
theorem Fr2.clone (h : Fr2 w wx w1 Ox g n O d g2 O2 r) :
    Calls Try.prog 34 #[.pointer (some ⟨g, 0, none⟩)] w1 fun e w' => ∃ gc OC, e = .returned (.pointer (some ⟨gc, 0, none⟩)) ∧ Fc2 w wx w' Ox g n O d gc n OC d g2 O2 r := by
  refine (clone34_c g n O d w1 h.dk).mono ?_
  rintro e w' ⟨gc, OC, rfl, h1, h2, h3, k⟩
  refine ⟨gc, OC, rfl, h2, h1, h.rd.kp0 k, h.ap, fun i hi hr => ?_, h.n1, h.n2, fun i hi => ?_, h.kp.then0 k, h.kx.then0 k, fun i hi => ?_⟩
  · rcases h3 i hi with e | e
    · exact h.ap i e hr
    · have := h.rd.olt i hr; omega
  · rcases h3 i hi with e | e
    · exact h.n1 i e
    · exact Nat.le_trans h.kp.size e
  · rcases hi with hi | hi | hi
    · exact h.xo i (.inl hi)
    · exact h.xo i (.inr hi)
    · rcases h3 i hi with e | e
      · exact h.xo i (.inl e)
      · exact .inr (Nat.le_trans h.kx.size e)
theorem Fc2.app (h : Fc2 w wx w1 Ox g n O d gc m OC dc g2 O2 r) {p : ByteArray} (hp : p.size ≤ 100) {A : Option Addr} {c : Nat} {bs : List Int} (hl : bs.length ≤ 1000000) (hm : m ≤ 1000000) (hb : Bz w1 A c bs) (hbO : bs ≠ [] → ∀ b, A = some b → ¬ OC b.block) :
    Calls Try.prog 20 #[.pointer (some ⟨gc, 0, none⟩), .string p, .slice A bs.length c] w1 fun e w' => ∃ x OC' dc', e = .returned (.int .i64 x) ∧ Fc2 w wx w' Ox g n O d gc (m + 1) OC' dc' g2 O2 r := by
  refine (append20_n gc m OC dc p hp A c bs hl hm w1 h.ck hb hbO).mono ?_
  rintro e w' ⟨⟨O', rfl, h1, h2, k⟩, N⟩
  exact ⟨_, O', _, rfl, h.cturn h1 h2 k N⟩
theorem Fc2.crash (h : Fc2 w wx w1 Ox g n O d gc m OC dc g2 O2 r) (hm : m ≤ 1000000) :
    Calls Try.prog 24 #[.pointer (some ⟨gc, 0, none⟩), .int .i64 0] w1 fun e w' => e = .returned (.tuple #[]) ∧ Fr2 w wx w' Ox g n O d g2 O2 r := by
  refine (crash24_n gc m OC dc 0 (by omega) hm w1 h.ck).mono ?_
  rintro e w' ⟨rfl, ⟨O', h1, h2, k⟩, N⟩
  exact ⟨rfl, (h.cturn h1 h2 k N).done⟩

/-- Both disks, behind c acts. -/
structure Bth (w wx w' : World) (Ox : Nat → Prop) (g : Nat) (O : Nat → Prop) (d : Dk) (g2 : Nat) (O2 : Nat → Prop) (r : Rk) (c : Nat) : Prop where
  fr : Fr2 w wx w' Ox g c O d g2 O2 r
  rel : Rel d r
  nn : -(c : Int) ≤ r.n
  ln : r.L.length ≤ c
theorem Bth.kp0 {c : Nat} (h : Bth w wx w1 Ox g O d g2 O2 r c) (k : Kp0 w1 w2) : Bth w wx w2 Ox g O d g2 O2 r c := ⟨h.fr.kp0 k, h.rel, h.nn, h.ln⟩
theorem Bth.base {c : Nat} (h : Bth w wx w1 Ox g O d g2 O2 r c) : Bth w w1 w1 (fun i => O i ∨ O2 i) g O d g2 O2 r c := ⟨h.fr.base, h.rel, h.nn, h.ln⟩
theorem Bth.mono {c c' : Nat} (h : Bth w wx w1 Ox g O d g2 O2 r c) (hc : c ≤ c') : Bth w wx w1 Ox g O d g2 O2 r c' := ⟨h.fr.mono hc, h.rel, by have := h.nn; omega, by have := h.ln; omega⟩
theorem stop_nn (r : Rk) : r.n - 1 ≤ r.stop.2.n ∧ r.stop.2.L = r.L := by
  unfold Rk.stop
  split
  · exact ⟨by show r.n - 1 ≤ r.n; omega, rfl⟩
  · exact ⟨Int.le_refl _, rfl⟩
abbrev Few (r r' : Rk) : Prop := r.n - 1 ≤ r'.n ∧ r'.L.length ≤ r.L.length + 1
theorem few_self (r : Rk) : Few r r := ⟨by omega, by omega⟩
theorem few_stop (r : Rk) : Few r r.stop.2 := by
  obtain ⟨h1, h2⟩ := stop_nn r
  exact ⟨h1, by rw [h2]; omega⟩
theorem few_app (r : Rk) (p : ByteArray) (b : List Int) : Few r (r.app p b).2 := by
  have h := stop_nn r
  unfold Rk.app
  split
  · exact few_self r
  · split
    · exact few_self r
    · split
      · exact few_self r
      · split
        · exact few_stop r
        · exact ⟨h.1, pput_len _ _⟩
theorem few_syn (r : Rk) (p : ByteArray) : Few r (r.syn p).2 := by
  have h := stop_nn r
  unfold Rk.syn
  split
  · exact few_self r
  · split
    · exact few_stop r
    · exact ⟨h.1, by show (fup r.L p _).length ≤ _; unfold fup; rw [List.length_map]; omega⟩
theorem few_rem (r : Rk) (p : ByteArray) : Few r (r.rem p).2 := by
  have h := stop_nn r
  unfold Rk.rem
  split
  · exact few_self r
  · split
    · exact few_stop r
    · exact ⟨h.1, Nat.le_trans (List.length_filter_le _ _) (by omega)⟩
theorem few_cut (r : Rk) (p : ByteArray) (m : Int) : Few r (r.cut p m).2 := by
  have h := stop_nn r
  unfold Rk.cut
  split
  · exact few_self r
  · split
    · exact few_self r
    · split
      · exact few_stop r
      · exact ⟨h.1, by show (fup r.L p _).length ≤ _; unfold fup; rw [List.length_map]; omega⟩
theorem few_ren (r : Rk) (p q : ByteArray) : Few r (r.ren p q).2 := by
  have h := stop_nn r
  unfold Rk.ren
  split
  · exact few_self r
  · split
    · exact few_stop r
    · exact ⟨h.1, Nat.le_trans (pput_len _ _) (by have := List.length_filter_le (fun x : ByteArray × Fi => decide (x.1 ≠ p)) r.L; omega)⟩
theorem Bth.next {c : Nat} (h : Bth w wx w1 Ox g O d g2 O2 r c) {O' O2' : Nat → Prop} {d' : Dk} {r' : Rk} (f : Fr2 w wx w2 Ox g (c + 1) O' d' g2 O2' r') (hr : Rel d' r') (hf : Few r r') : Bth w wx w2 Ox g O' d' g2 O2' r' (c + 1) :=
  ⟨f, hr, by have := h.nn; have := hf.1; omega, by have := h.ln; have := hf.2; omega⟩


theorem Bth.app {c : Nat} (h : Bth w wx w1 Ox g O d g2 O2 r c) (hc : c ≤ 800) {p : ByteArray} (hp : p.size ≤ 100) {A1 A2 : Option Addr} {c1 c2 : Nat} {bs : List Int} (hl : bs.length ≤ 70000) (z1 : Bz wx A1 c1 bs) (x1 : bs ≠ [] → ∀ a, A1 = some a → ¬ Ox a.block) (z2 : Bz wx A2 c2 bs) (x2 : bs ≠ [] → ∀ a, A2 = some a → ¬ Ox a.block) :
    ∃ x : Int, Calls Try.prog 20 #[.pointer (some ⟨g, 0, none⟩), .string p, .slice A1 bs.length c1] w1 fun e wa => e = .returned (.int .i64 x) ∧
      Calls Try.prog 40 #[ptr g2, .string p, .slice A2 bs.length c2] wa fun e w' => e = .returned (.int .i64 x) ∧ ∃ O' d' O2' r', Bth w wx w' Ox g O' d' g2 O2' r' (c + 1) := by
  obtain ⟨e1, e2⟩ := h.rel.app h.fr.dk.kys p bs
  obtain ⟨zz, zo⟩ := h.fr.bz z1 x1
  have hnn := h.nn
  have hln := h.ln
  refine ⟨(r.app p bs).1, (append20_c g c O d p hp A1 c1 bs (by omega) (by omega) w1 h.fr.dk zz (fun hb a ha => (zo hb a ha).1)).mono ?_⟩
  intro e wa D
  obtain ⟨rfl, O', F⟩ := h.fr.did D
  refine ⟨by rw [e1], (rapp40_c g2 O2 r wa F.rd p A2 c2 bs (F.bz z2 x2).1 hl (by omega) (by omega)).mono ?_⟩
  intro e w' D
  obtain ⟨rfl, O2', F2⟩ := F.rdid D
  exact ⟨rfl, O', _, O2', _, h.next F2 e2 (few_app r p bs)⟩
theorem Bth.syn {c : Nat} (h : Bth w wx w1 Ox g O d g2 O2 r c) (hc : c ≤ 800) {p : ByteArray} (hp : p.size ≤ 100) :
    ∃ x : Int, Calls Try.prog 21 #[.pointer (some ⟨g, 0, none⟩), .string p] w1 fun e wa => e = .returned (.int .i64 x) ∧
      Calls Try.prog 41 #[ptr g2, .string p] wa fun e w' => e = .returned (.int .i64 x) ∧ ∃ O' d' O2' r', Bth w wx w' Ox g O' d' g2 O2' r' (c + 1) := by
  obtain ⟨e1, e2⟩ := h.rel.syn p
  have hnn := h.nn
  refine ⟨(r.syn p).1, (sync21_c g c O d p hp (by omega) w1 h.fr.dk).mono ?_⟩
  intro e wa D
  obtain ⟨rfl, O', F⟩ := h.fr.did D
  refine ⟨by rw [e1], (rsyn41_c g2 O2 r wa F.rd p (by omega) h.rel.so.nodup).mono ?_⟩
  intro e w' D
  obtain ⟨rfl, O2', F2⟩ := F.rdid D
  exact ⟨rfl, O', _, O2', _, h.next F2 e2 (few_syn r p)⟩
theorem Bth.rem {c : Nat} (h : Bth w wx w1 Ox g O d g2 O2 r c) (hc : c ≤ 800) {p : ByteArray} (hp : p.size ≤ 100) :
    ∃ x : Int, Calls Try.prog 31 #[.pointer (some ⟨g, 0, none⟩), .string p] w1 fun e wa => e = .returned (.int .i64 x) ∧
      Calls Try.prog 44 #[ptr g2, .string p] wa fun e w' => e = .returned (.int .i64 x) ∧ ∃ O' d' O2' r', Bth w wx w' Ox g O' d' g2 O2' r' (c + 1) := by
  obtain ⟨e1, e2⟩ := h.rel.rem p
  have hnn := h.nn
  refine ⟨(r.rem p).1, (remove31_c g c O d p hp (by omega) w1 h.fr.dk).mono ?_⟩
  intro e wa D
  obtain ⟨rfl, O', F⟩ := h.fr.did D
  refine ⟨by rw [e1], (rrem44_c g2 O2 r wa F.rd p (by omega)).mono ?_⟩
  intro e w' D
  obtain ⟨rfl, O2', F2⟩ := F.rdid D
  exact ⟨rfl, O', _, O2', _, h.next F2 e2 (few_rem r p)⟩
theorem Bth.cut {c : Nat} (h : Bth w wx w1 Ox g O d g2 O2 r c) (hc : c ≤ 800) {p : ByteArray} (hp : p.size ≤ 100) (k : Int) :
    ∃ x : Int, Calls Try.prog 33 #[.pointer (some ⟨g, 0, none⟩), .string p, .int .i64 k] w1 fun e wa => e = .returned (.int .i64 x) ∧
      Calls Try.prog 43 #[ptr g2, .string p, .int .i64 k] wa fun e w' => e = .returned (.int .i64 x) ∧ ∃ O' d' O2' r', Bth w wx w' Ox g O' d' g2 O2' r' (c + 1) := by
  obtain ⟨e1, e2⟩ := h.rel.cut p k
  have hnn := h.nn
  refine ⟨(r.cut p k).1, (cut33_c g c O d p hp k (by omega) w1 h.fr.dk).mono ?_⟩
  rintro e wa ⟨D, _⟩
  obtain ⟨rfl, O', F⟩ := h.fr.did D
  refine ⟨by rw [e1], (rcut43_c g2 O2 r wa F.rd p k (by omega) h.rel.so.nodup).mono ?_⟩
  intro e w' D
  obtain ⟨rfl, O2', F2⟩ := F.rdid D
  exact ⟨rfl, O', _, O2', _, h.next F2 e2 (few_cut r p k)⟩
theorem Bth.ren {c : Nat} (h : Bth w wx w1 Ox g O d g2 O2 r c) (hc : c ≤ 800) {p q : ByteArray} (hp : p.size ≤ 100) (hq : q.size ≤ 100) :
    ∃ x : Int, Calls Try.prog 32 #[.pointer (some ⟨g, 0, none⟩), .string p, .string q] w1 fun e wa => e = .returned (.int .i64 x) ∧
      Calls Try.prog 42 #[ptr g2, .string p, .string q] wa fun e w' => e = .returned (.int .i64 x) ∧ ∃ O' d' O2' r', Bth w wx w' Ox g O' d' g2 O2' r' (c + 1) := by
  obtain ⟨e1, e2⟩ := h.rel.ren p q
  have hnn := h.nn
  have hln := h.ln
  refine ⟨(r.ren p q).1, (rename32_c g c O d p q hp hq (by omega) w1 h.fr.dk).mono ?_⟩
  intro e wa D
  obtain ⟨rfl, O', F⟩ := h.fr.did D
  refine ⟨by rw [e1], (rren42_c g2 O2 r wa F.rd p q (by omega) (by omega)).mono ?_⟩
  intro e w' D
  obtain ⟨rfl, O2', F2⟩ := F.rdid D
  exact ⟨rfl, O', _, O2', _, h.next F2 e2 (few_ren r p q)⟩
theorem Bth.crash {c : Nat} (h : Bth w wx w1 Ox g O d g2 O2 r c) (hc : c ≤ 800) (k : Int) (hk : k ≤ 100000) :
    Calls Try.prog 24 #[.pointer (some ⟨g, 0, none⟩), .int .i64 k] w1 fun e wa => e = .returned (.tuple #[]) ∧ Kp O w1 wa ∧
      Calls Try.prog 46 #[ptr g2, .int .i64 k] wa fun e w' => e = .returned (.tuple #[]) ∧ ∃ O' d' O2' r', Bth w wx w' Ox g O' d' g2 O2' r' (c + 1) := by
  refine (crash24_m g c O d k k.toNat (by omega) (by omega) (by omega) (by omega) w1 h.fr.dk).mono ?_
  rintro e wa ⟨rfl, O', D, hO, kk⟩
  have F := h.fr.dturn D hO kk
  refine ⟨rfl, kk, (rcrash46_m g2 O2 r wa F.rd k k.toNat (by omega) (by omega) (by omega)).mono ?_⟩
  rintro e w' ⟨rfl, O2', R, hO2, kk2⟩
  exact ⟨rfl, O', _, O2', _, h.next ((F.rturn R hO2 kk2).mono (by omega)) (h.rel.crash k.toNat) ⟨by show r.n - 1 ≤ r.n; omega, Nat.le_trans (acr_len2 _ _) (by omega)⟩⟩
theorem Bth.fuse {c : Nat} (h : Bth w wx w1 Ox g O d g2 O2 r c) (k : Int) (hk : k ≤ 100) :
    Calls Try.prog 30 #[.pointer (some ⟨g, 0, none⟩), .int .i64 k] w1 fun e wa => e = .returned (.tuple #[]) ∧ Kp O w1 wa ∧
      Calls Try.prog 45 #[ptr g2, .int .i64 k] wa fun e w' => e = .returned (.tuple #[]) ∧ ∃ O' d' O2' r', Bth w wx w' Ox g O' d' g2 O2' r' (c + 1) := by
  refine (fuse30_m g c O d k (by omega) w1 h.fr.dk).mono ?_
  rintro e wa ⟨rfl, D, kk⟩
  have hog : O g := by obtain ⟨bm, V, hd⟩ := h.fr.dk; exact hd.og
  have hog2 : O2 g2 := by obtain ⟨v, fs, hd, _⟩ := h.fr.rd; exact hd.og
  have F := h.fr.dturn D (fun i hi => .inl hi) (kk.mono (fun i _ e => by rw [e]; exact hog))
  refine ⟨rfl, kk.mono (fun i _ e => by rw [e]; exact hog), (rfuse45_m g2 O2 r wa F.rd k (by omega)).mono ?_⟩
  rintro e w' ⟨rfl, R, kk2⟩
  exact ⟨rfl, O, _, O2, _, (⟨(F.rturn R (fun i hi => .inl hi) (kk2.mono (fun i _ e => by rw [e]; exact hog2))).mono (by omega), h.rel.fuse k.toNat, by show -((c + 1 : Nat) : Int) ≤ (k.toNat : Int); omega, by have := h.ln; show r.L.length ≤ c + 1; omega⟩ : Bth _ _ _ _ _ _ _ _ _ _ _)⟩
theorem Bth.same {c : Nat} (h : Bth w wx w1 Ox g O d g2 O2 r c) (hc : c ≤ 100000) : Calls Try.prog 47 #[.pointer (some ⟨g, 0, none⟩), ptr g2] w1 fun e w' => e = .returned (.bool true) ∧ Kp0 w1 w' :=
  same47_c g c O d g2 O2 r (by omega) (h.rel.alike h.fr.dk.kys) w1 h.fr.dk h.fr.rd
theorem Bth.lists {c : Nat} (h : Bth w wx w1 Ox g O d g2 O2 r c) (hc : c ≤ 100000) (pre : ByteArray) : ∃ ps : List ByteArray, ps.length ≤ 1000 ∧
    (∀ W, Kp0 w1 W → Calls Try.prog 35 #[.pointer (some ⟨g, 0, none⟩), .string pre] W fun e w' => ∃ A c, e = .returned (.slice A ps.length c) ∧ Sg w' A ps ∧ Kp0 W w') ∧
    (∀ W, Kp0 w1 W → Calls Try.prog 48 #[ptr g2, .string pre] W fun e w' => ∃ A c, e = .returned (.slice A ps.length c) ∧ Sg w' A ps ∧ Kp0 W w') := by
  have hle : (r.lsp pre).length ≤ 1000 := by
    obtain ⟨v, fs, I, hL⟩ := h.fr.rd
    have := I.ln
    unfold Rk.lsp
    rw [← hL]
    exact Nat.le_trans (List.length_filter_le _ _) (by simpa using this)
  refine ⟨r.lsp pre, hle, fun W k => ?_, fun W k => ?_⟩
  · have := listp35_c g c O d pre (by omega) W (h.fr.dk.kp0 k)
    rw [h.rel.lsp h.fr.dk.kys] at this
    exact this
  · refine (rlist48_c g2 O2 r pre W (h.fr.rd.kp0 k)).mono ?_
    rintro e w' ⟨A, c, rfl, s, _, k'⟩
    exact ⟨A, c, rfl, s, k'⟩
end

section

open Go.RowKit

theorem cell_kp0 {w w' : World} (k : Kp0 w w') {b off : Nat} {v : Value} (hb : b < w.heap.size) (h : w.cell? ⟨b, off, none⟩ = some v) : w'.cell? ⟨b, off, none⟩ = some v := by
  have e := k.block b hb (fun x => x)
  rw [← h]
  simp only [World.cell?, e]
theorem tm (v k : Int) (hk : 0 < k) : v.tmod k < k := by
  rcases Int.lt_or_le v 0 with h | h
  · have e : v.tmod k = -((-v).tmod k) := by rw [← Int.neg_tmod, Int.neg_neg]
    rw [e, Int.tmod_eq_emod_of_nonneg (by omega)]
    have := Int.emod_nonneg (-v) (show k ≠ 0 by omega)
    omega
  · rw [Int.tmod_eq_emod_of_nonneg h]
    exact Int.emod_lt_of_pos v hk
theorem start2 (q : Nat) : Rel (dk0 q) ⟨[], q, false, false, 0⟩ := ⟨fun p => rfl, List.Pairwise.nil, rfl, rfl, rfl, fun h => by cases h⟩
end

section

open Go.RowKit

theorem RDid.seq {w w1 w2 : World} {g : Nat} {O O1 : Nat → Prop} {res : Int × Rk} {e : Ending} (hO : ∀ i, O1 i → O i ∨ w.heap.size ≤ i) (k : Kp O w w1) (D : RDid w1 w2 g O1 res e) : RDid w w2 g O res e := by
  obtain ⟨O', rfl, h1, h2, k2⟩ := D
  have hs := k.size
  exact ⟨O', rfl, h1, fun i hi => (h2 i hi).elim (fun h => hO i h) (fun h => .inr (by omega)), k.trans k2 (fun i hi h => (hO i h).elim id (fun h => by omega))⟩
noncomputable def Rk.wri (r : Rk) (p : ByteArray) (b : List Int) : Int × Rk :=
  if (r.app (p ++ tl) b).1 ≠ 0 then r.app (p ++ tl) b else if ((r.app (p ++ tl) b).2.syn (p ++ tl)).1 ≠ 0 then (r.app (p ++ tl) b).2.syn (p ++ tl) else ((r.app (p ++ tl) b).2.syn (p ++ tl)).2.ren (p ++ tl) p
theorem rapp_srt {r : Rk} (h : Srt r.L) (p : ByteArray) (b : List Int) : Srt (r.app p b).2.L := by
  have hk := (stop_keeps r).1
  unfold Rk.app
  split
  · exact h
  · split
    · exact h
    · split
      · exact h
      · split
        · show Srt r.stop.2.L; rw [hk]; exact h
        · exact pput_srt h
theorem rw_step {x : Int} {r1 : Rk} {y : Int × Rk} (h : y = (x, r1)) : y.1 = x ∧ y.2 = r1 := by subst h; exact ⟨rfl, rfl⟩

set_option maxRecDepth 100000 in
set_option maxHeartbeats 2000000 in
theorem rwrite54_c (g : Nat) (O : Nat → Prop) (r : Rk) (w : World) (h : RdAt w g O r) (so : Srt r.L) (p : ByteArray) (hp : p.size ≤ 100) (A : Option Addr) (c : Nat) (bs : List Int) (hb : Bz w A c bs) (hl : bs.length ≤ 70000) (hn : -999990 ≤ r.n) (hlen : r.L.length ≤ 890) :
    Calls Try.prog 54 #[ptr g, .string p, .slice A bs.length c] w fun e w' => RDid w w' g O (r.wri p bs) e := by
  have h1 : p.size + tl.size ≤ 9223372036854775807 := by have : tl.size = 1 := rfl; omega
  have hwd : r.wri p bs = if (r.app (p ++ tl) bs).1 ≠ 0 then r.app (p ++ tl) bs else if ((r.app (p ++ tl) bs).2.syn (p ++ tl)).1 ≠ 0 then (r.app (p ++ tl) bs).2.syn (p ++ tl) else ((r.app (p ++ tl) bs).2.syn (p ++ tl)).2.ren (p ++ tl) p := rfl
  have ha := rapp40_c g O r w h (p ++ tl) A c bs hb hl (by omega) (by omega)
  have hso := rapp_srt so (p ++ tl) bs
  have hf := few_app r (p ++ tl) bs
  obtain ⟨x1, r1, e1⟩ : ∃ x1 r1, r.app (p ++ tl) bs = (x1, r1) := ⟨_, _, rfl⟩
  rw [e1] at hwd ha hso hf
  dsimp only at hwd hso hf
  generalize hW : r.wri p bs = res at hwd ⊢
  clear hW
  obtain ⟨hf1, hf2⟩ := hf
  generalize bs.length = m at *
  by_cases hx1 : x1 = 0
  · subst hx1
    rw [if_neg (by simp)] at hwd
    have HWD := Lib.hid hwd
    clear hwd e1
    go_enter Try.func54, Try.ntmps54
    go_wp2_with fail
    refine ha.mono ?_
    rintro e w1 ⟨O1, rfl, R1, hO1, k1⟩
    have hs := rsyn41_c g O1 r1 w1 R1 (p ++ tl) (by omega) hso.nodup
    have hf := few_syn r1 (p ++ tl)
    have hwd := HWD.out
    obtain ⟨x2, r2, e2⟩ : ∃ x2 r2, r1.syn (p ++ tl) = (x2, r2) := ⟨_, _, rfl⟩
    rw [e2] at hwd hs hf
    dsimp only at hwd hf
    obtain ⟨hf3, hf4⟩ := hf
    clear HWD ha e2
    by_cases hx2 : x2 = 0
    · subst hx2
      rw [if_neg (by simp)] at hwd
      have HWD := Lib.hid hwd
      clear hwd
      go_wp2_with fail
      refine hs.mono ?_
      rintro e w2 ⟨O2, rfl, R2, hO2, k2⟩
      have hr := rren42_c g O2 r2 w2 R2 (p ++ tl) p (by omega) (by omega)
      rw [← HWD.out] at hr
      have hO2' : ∀ i, O2 i → O i ∨ w.heap.size ≤ i := fun i hi => (hO2 i hi).elim (hO1 i) (fun h => .inr (by have := k1.size; omega))
      have K2 : Kp O w w2 := k1.trans k2 (fun i hi h => (hO1 i h).elim id (fun h => by omega))
      clear hs HWD
      go_wp2_with fail
      refine hr.mono ?_
      rintro e w3 D
      have D' := D.seq hO2' K2
      obtain ⟨O3, rfl, R3, hO3, k3⟩ := D'
      clear hr D
      go_wp2
      go_ret
      exact ⟨O3, rfl, R3, hO3, k3⟩
    · rw [if_pos hx2] at hwd
      subst hwd
      have nx : (x2 != 0) = true := by simpa using hx2
      go_wp2_with fail
      refine hs.mono ?_
      rintro e w2 ⟨O2, rfl, R2, hO2, k2⟩
      clear hs
      have hO2' : ∀ i, O2 i → O i ∨ w.heap.size ≤ i := fun i hi => (hO2 i hi).elim (hO1 i) (fun h => .inr (by have := k1.size; omega))
      have K2 : Kp O w w2 := k1.trans k2 (fun i hi h => (hO1 i h).elim id (fun h => by omega))
      go_wp2
      go_ret
      exact ⟨O2, rfl, R2, hO2', K2⟩
  · rw [if_pos hx1] at hwd
    subst hwd
    have nx : (x1 != 0) = true := by simpa using hx1
    go_enter Try.func54, Try.ntmps54
    go_wp2_with fail
    refine ha.mono ?_
    rintro e w1 ⟨O1, rfl, R1, hO1, k1⟩
    clear ha
    go_wp2
    go_ret
    exact ⟨O1, rfl, R1, hO1, k1⟩

theorem isT_eq (p : ByteArray) : isT p = if h : 0 < p.size then decide (p[p.size - 1]'(by omega) = 126) else false := by
  have e : isT p = (decide (1 ≤ p.data.toList.length) && (p.data.toList.drop (p.data.toList.length - 1) == [126])) := (Lib.hasSuffix_of_drop p.data.toList [126]).symm
  have hsz : p.data.toList.length = p.size := by rw [Array.length_toList]; rfl
  rw [e, hsz]
  by_cases h : 0 < p.size
  · rw [dif_pos h, decide_eq_true (by omega : 1 ≤ p.size), Bool.true_and]
    have hl : p.size - 1 < p.data.toList.length := by omega
    rw [List.drop_eq_getElem_cons hl, List.drop_eq_nil_of_le (by omega)]
    have : p.data.toList[p.size - 1] = p[p.size - 1]'(by omega) := rfl
    rw [this]
    generalize p[p.size - 1]'(by omega) = c
    by_cases hc : c = 126
    · subst hc; rfl
    · rw [decide_eq_false hc]; simp [hc]
  · rw [dif_neg h, decide_eq_false (by omega), Bool.false_and]
set_option maxRecDepth 100000 in
theorem ristemp86_c (p : ByteArray) (hp : p.size ≤ 100) (w : World) : Calls Try.prog 86 #[.string p] w fun e w' => e = .returned (.bool (isT p)) ∧ w = w' := by
  rw [isT_eq]
  by_cases h : 0 < p.size
  · rw [dif_pos h]
    have h0 : (0 : Int) < (p.size : Int) := by omega
    have e1 : IntKind.i64.wrap ((p.size : Int) - 1) = ((p.size - 1 : Nat) : Int) := by rw [IntKind.wrap_i64]; omega
    have hc : (((p[p.size - 1]'(by omega)).toNat : Int) == 126) = decide (p[p.size - 1]'(by omega) = 126) := by
      generalize p[p.size - 1]'(by omega) = c
      by_cases hc : c = 126
      · subst hc; rfl
      · rw [decide_eq_false hc, beq_eq_false_iff_ne]
        intro hh
        exact hc (UInt8.toNat_inj.1 (by show c.toNat = 126; omega))
    go_enter Try.func86, Try.ntmps86
    go_wp2
    go_ret
    exact ⟨rfl, rfl⟩
  · rw [dif_neg h]
    have h0 : ¬ (0 : Int) < (p.size : Int) := by omega
    go_enter Try.func86, Try.ntmps86
    go_wp2
    go_ret
    exact ⟨rfl, rfl⟩
set_option maxRecDepth 100000 in
set_option maxHeartbeats 2000000 in
theorem rlist48_o (g : Nat) (O : Nat → Prop) (r : Rk) (pre : ByteArray) (w : World) (h : RdAt w g O r) :
    Calls Try.prog 48 #[ptr g, .string pre] w fun e w' => ∃ v, e = .returned v ∧ w'.ownsRow 0 9 1 v (r.lsp pre).length ((r.lsp pre).map Value.string) ∧ Kp0 w w' ∧ (∀ i, v.ownBlock = some i → w.heap.size ≤ i) := by
  obtain ⟨v, fs, I, hL⟩ := h
  have hlsp : r.lsp pre = (fs.map Rf.p).filter (isPre pre) := by
    unfold Rk.lsp
    rw [← hL, List.map_map]; rfl
  rw [hlsp]
  obtain ⟨A, c, rfl, m1, m2, hrow⟩ := rf_row I.ow
  have H := Lib.hid hrow
  have cB := I.cell.cell 0
  simp at cB
  have hln0 := I.ln
  clear I hrow hL hlsp
  generalize hZ : (fs.map Rf.p).filter (isPre pre) = Z
  have HZ := Lib.hid hZ
  clear hZ
  go_enter Try.func48, Try.ntmps48
  go_wp2_with fail
  clear cB
  go_loopw [5, 13] (fun s5 s13 wr => ∃ k : Nat, k ≤ fs.length ∧ s13 = .int .i64 (k : Nat) ∧ Kp0 w wr ∧ wr.ownsRow 0 9 1 s5 (((fs.take k).map Rf.p).filter (isPre pre)).length ((((fs.take k).map Rf.p).filter (isPre pre)).map Value.string) ∧ (∀ i, s5.ownBlock = some i → w.heap.size ≤ i)) (fun _ s13 _ => (fs.length - intOf s13).toNat)
  case atStart => exact ⟨0, by omega, rfl, Kp.refl _ _, World.ownsRow_nil _ _ _ _, fun i hi => by simp [Value.ownBlock] at hi⟩
  case round =>
    obtain ⟨k, hk, rfl, kw, ho, hfr⟩ := hrel
    obtain ⟨A4, cp4, hv4⟩ := own_sl ho
    subst hv4
    by_cases hkl : k < fs.length
    · obtain ⟨b, rfl, _, hc⟩ := H.out k hkl
      obtain ⟨c0, c1, c2, c3⟩ := hc _ kw
      have hkl' : (k : Int) < (fs.length : Int) ∧ (0 : Int) ≤ (k : Int) := by omega
      have hln : (((fs.take k).map Rf.p).filter (isPre pre)).length ≤ 1000 := Nat.le_trans (List.length_filter_le _ _) (by rw [List.length_map, List.length_take]; omega)
      have hst : ((fs.take (k + 1)).map Rf.p).filter (isPre pre) = ((fs.take k).map Rf.p).filter (isPre pre) ++ if isPre pre fs[k].p = true then [fs[k].p] else [] := by
        rw [List.take_add_one, List.getElem?_eq_getElem hkl, List.map_append, List.filter_append]
        congr 1
        cases h : isPre pre fs[k].p <;> simp [h]
      have HST := Lib.hid hst
      clear hst hc
      generalize ((fs.take k).map Rf.p).filter (isPre pre) = o at ho HST hln hfr ⊢
      have e1 : isPre pre fs[k].p = (decide (pre.size ≤ fs[k].p.size) && ((fs[k].p.extract 0 pre.size).toList == pre.toList)) := rfl
      generalize isPre pre fs[k].p = d1 at e1 HST
      generalize hyy : fs[k] = y at *
      have ka : Kp0 wr (wr.alloc (.cells #[.string y.p, .slice y.A y.b.length y.c, .int .i64 (y.sy : Int), .bool y.fm] 106)) := (Kp.refl _ _).alloc _
      have BX : Blk (wr.alloc (.cells #[.string y.p, .slice y.A y.b.length y.c, .int .i64 (y.sy : Int), .bool y.fm] 106)) wr.heap.size #[.string y.p, .slice y.A y.b.length y.c, .int .i64 (y.sy : Int), .bool y.fm] 106 := blk_new _ _ rfl
      go_upto_region 5 with fail
      have kw2 := kw.then0 ka
      have ho2 := own_kp ho ka (fun _ _ x => x)
      clear ho ka c0 c1 c2 c3 hyy kw
      generalize wr.alloc (.cells #[.string y.p, .slice y.A y.b.length y.c, .int .i64 (y.sy : Int), .bool y.fm] 106) = wa at BX kw2 ho2 ⊢
      generalize wr.heap.size = X at BX ⊢
      have x0 : wa.cell? ⟨X, 0, none⟩ = some (.string y.p) := by rw [BX.cell]; rfl
      clear BX
      have FIN0 : d1 = false → Kp0 w wa ∧ wa.ownsRow 0 9 1 (.slice A4 o.length cp4) (((fs.take (k + 1)).map Rf.p).filter (isPre pre)).length ((((fs.take (k + 1)).map Rf.p).filter (isPre pre)).map Value.string) ∧ (∀ i, (Value.slice A4 o.length cp4).ownBlock = some i → w.heap.size ≤ i) := fun h0 => by
        rw [HST.out, h0, if_neg (by simp), List.append_nil]
        exact ⟨kw2, ho2, hfr⟩
      have F0 := Lib.hid FIN0
      clear FIN0
      by_cases hle : pre.size ≤ y.p.size
      · cases he : ((y.p.extract 0 pre.size).toList == pre.toList) with
        | true =>
          rw [he, decide_eq_true hle] at e1
          subst e1
          have kA5 : Kp0 wa (wa.alloc (.cells #[.string y.p] 9)) := (Kp.refl _ _).alloc _
          have o5 := own_kp ho2 kA5 (fun _ _ x => x)
          have KW := Lib.hid kw2
          have HFR := Lib.hid hfr
          go_wp2_with (at_builtin; refine list_app rfl _ _ 43 9 (.string ByteArray.empty) 1 16 rfl rfl info9s rfl (by decide) (.slice A4 o.length cp4) o.length (o.map Value.string) rfl wa.heap.size 0 1 1 [.string y.p] rfl rfl (by intro u hu; simp at hu; subst hu; rfl) (Vw.of_blk (blk_new _ _ rfl)) o5 (by omega) (by omega) ?_)
          intro v5 w5 p5 k5 b5
          have k5' : Kp0 w w5 := (KW.out.then0 kA5).trans k5 (fun i hi e => by have := HFR.out i e; omega)
          have b5' : ∀ i, v5.ownBlock = some i → w.heap.size ≤ i := fun i hi => by
            rcases b5 with b5 | b5
            · exact HFR.out i (b5 ▸ hi)
            · rw [b5] at hi
              injection hi with hi
              have h1 := KW.out.size
              have h2 := kA5.size
              simp at h2 hi
              omega
          have FIN := Lib.hid (show Kp0 w w5 ∧ w5.ownsRow 0 9 1 v5 (((fs.take (k + 1)).map Rf.p).filter (isPre pre)).length ((((fs.take (k + 1)).map Rf.p).filter (isPre pre)).map Value.string) ∧ (∀ i, v5.ownBlock = some i → w.heap.size ≤ i) by
            rw [HST.out, if_pos (by decide), List.length_append, List.map_append]
            exact ⟨k5', p5, b5'⟩)
          clear p5 k5 b5 o5 kA5 ho2 kw2 k5' b5'
          go_wp2_with fail
          go_roundw
          case rel => exact ⟨k + 1, by omega, by go_num, FIN.out⟩
          case measure => simp [intOf]; omega
        | false =>
          rw [he, decide_eq_true hle] at e1
          subst e1
          clear ho2 kw2
          go_wp2_with fail
          go_roundw
          case rel => exact ⟨k + 1, by omega, by go_num, F0.out rfl⟩
          case measure => simp [intOf]; omega
      · rw [decide_eq_false hle] at e1
        subst e1
        clear ho2 kw2
        have hle' : y.p.size < pre.size := by omega
        go_wp2_with fail
        go_roundw
        case rel => exact ⟨k + 1, by omega, by go_num, F0.out rfl⟩
        case measure => simp [intOf]; omega
    · obtain rfl : k = fs.length := by omega
      rw [List.take_length, HZ.out] at ho hfr
      have hle : Z.length ≤ 1000 := by rw [← HZ.out]; exact Nat.le_trans (List.length_filter_le _ _) (by rw [List.length_map]; omega)
      have hs := Lib.hid ho
      rw [List.take_length, HZ.out]
      clear H ho
      go_wp2
      go_ret
      exact ⟨_, rfl, hs.out, kw, hfr⟩

noncomputable def rclnL : List ByteArray → Rk → Int × Rk
  | [], r => (0, r)
  | p :: l, r => if isT p = true then (if (r.rem p).1 ≠ 0 then r.rem p else rclnL l (r.rem p).2) else rclnL l r
noncomputable def Rk.cln (r : Rk) : Int × Rk := rclnL (r.lsp es) r
set_option maxRecDepth 100000 in
set_option maxHeartbeats 2000000 in
theorem rclean55_c (g : Nat) (O : Nat → Prop) (r : Rk) (w : World) (h : RdAt w g O r) (hz : ∀ x ∈ r.L, x.1.size ≤ 100) (hn : -900000 ≤ r.n) (hk : (r.lsp es).length ≤ 1000) :
    Calls Try.prog 55 #[ptr g] w fun e w' => RDid w w' g O r.cln e := by
  have hls := rlist48_o g O r es w h
  have hsz : ∀ p ∈ r.lsp es, p.size ≤ 100 := fun p hp => by
    unfold Rk.lsp at hp
    obtain ⟨x, hx, rfl⟩ := List.mem_map.1 (List.mem_filter.1 hp).1
    exact hz x hx
  have hcl : r.cln = rclnL (r.lsp es) r := rfl
  rw [hcl]
  clear hcl hz
  generalize r.lsp es = ps at *
  have hOl := h.olt
  go_enter Try.func55, Try.ntmps55
  go_wp2_with fail
  refine hls.mono ?_
  rintro e w1 ⟨v, rfl, o1, k1, f1⟩
  obtain ⟨A, c, rfl⟩ := own_sl o1
  have h1 := h.kp0 k1
  have z1 := k1.size
  have hvO : ∀ i, (Value.slice A ps.length c).ownBlock = some i → w.heap.size ≤ i ∧ i < w1.heap.size := fun i hi => ⟨f1 i hi, (o1.lt i hi).2⟩
  clear hls f1 h
  go_wp2_with fail
  go_loopw [9] (fun s wr => ∃ (j : Nat) (r' : Rk) (O' : Nat → Prop), j ≤ ps.length ∧ s = .int .i64 (j : Nat) ∧ RdAt wr g O' r' ∧ r.n - (j : Int) ≤ r'.n ∧ (∀ i, O' i → O i ∨ w1.heap.size ≤ i) ∧ Kp O w wr ∧ w1.heap.size ≤ wr.heap.size ∧ wr.ownsRow 0 9 1 (.slice A ps.length c) ps.length (ps.map Value.string) ∧ rclnL ps r = rclnL (ps.drop j) r') (fun s _ => (ps.length - intOf s).toNat)
  case atStart => exact ⟨0, r, O, by omega, rfl, h1, by omega, fun i hi => .inl hi, k1.mono (fun _ _ x => x.elim), Nat.le_refl _, o1, by simp⟩
  case round =>
    obtain ⟨j, r', O', hj, rfl, hD, hn', hO', hK, hz, ho, hc⟩ := hrel
    by_cases hlt : j < ps.length
    · have hdr : ps.drop j = ps[j] :: ps.drop (j + 1) := List.drop_eq_getElem_cons hlt
      have hpz := hsz ps[j] (List.getElem_mem hlt)
      obtain ⟨q, rfl, hcell⟩ : ∃ q, A = some ⟨q, 0, none⟩ ∧ wr.cell? ⟨q, j, none⟩ = some (.string ps[j]) := by
        rcases own_shape ho with ⟨e, h0, _⟩ | ⟨q, cap, e, m1, m2, m3, m4⟩
        · omega
        · injection e with e1 _ _
          exact ⟨q, e1, by rw [m4 j (by omega), List.getElem?_map, List.getElem?_eq_getElem hlt]; rfl⟩
      rw [hdr] at hc
      generalize ps[j] = p at hc hpz hcell
      have hti := ristemp86_c p hpz
      clear hdr
      by_cases ht : isT p = true
      · have hc' : rclnL ps r = if (r'.rem p).1 ≠ 0 then r'.rem p else rclnL (ps.drop (j + 1)) (r'.rem p).2 := by rw [hc, rclnL, if_pos ht]
        have hrm := fun W (hW : RdAt W g O' r') => rrem44_c g O' r' W hW p (by omega)
        have hfw := (few_rem r' p).1
        obtain ⟨s1, d2, hs⟩ : ∃ s1 d2, r'.rem p = (s1, d2) := ⟨_, _, rfl⟩
        rw [hs] at hfw
        dsimp only at hfw
        simp only [hs] at hrm hc'
        rw [ht] at hti
        clear hs hc ht
        have hnv : ∀ i, (Value.slice (some ⟨q, 0, none⟩) ps.length c).ownBlock = some i → ¬ O' i := fun i hi hO => by
          rcases hO' i hO with h | h
          · have := hOl i h; have := (hvO i hi).1; omega
          · have := (hvO i hi).2; omega
        by_cases hs0 : s1 = 0
        · subst hs0
          rw [if_neg (by simp)] at hc'
          have HC := Lib.hid hc'
          clear hc'
          go_wp2_with fail
          refine (hti wr).mono ?_
          rintro e w3 ⟨rfl, rfl⟩
          clear hti hcell
          go_wp2_with fail
          refine (hrm wr hD).mono ?_
          rintro e w4 ⟨O2, rfl, hD2, hO2, hK2⟩
          have ho2 := own_kp ho hK2 hnv
          have hz2 := hK2.size
          have hO3 : ∀ i, O2 i → O i ∨ w1.heap.size ≤ i := fun i hi => by
            rcases hO2 i hi with h | h
            · exact hO' i h
            · exact .inr (by omega)
          have hK3 : Kp O w w4 := hK.trans hK2 (fun i hi h => by
            rcases hO' i h with h | h
            · exact h
            · omega)
          clear hrm hD hK hK2 ho hO2 hO' hnv
          go_wp2
          go_roundw
          case rel => exact ⟨j + 1, d2, O2, by omega, by go_num, hD2, by omega, hO3, hK3, by omega, ho2, HC.out⟩
          case measure => simp [intOf]; omega
        · rw [if_pos hs0] at hc'
          have HC := Lib.hid hc'
          have hs' : (s1 != 0) = true := by rw [bne_iff_ne]; exact hs0
          clear hc' hs0
          go_wp2_with fail
          refine (hti wr).mono ?_
          rintro e w3 ⟨rfl, rfl⟩
          clear hti hcell
          go_wp2_with fail
          refine (hrm wr hD).mono ?_
          rintro e w4 ⟨O2, rfl, hD2, hO2, hK2⟩
          have hz2 := hK2.size
          have hO3 : ∀ i, O2 i → O i ∨ w.heap.size ≤ i := fun i hi => by
            rcases hO2 i hi with h | h
            · exact (hO' i h).imp id (fun h => by omega)
            · exact .inr (by omega)
          have hK3 : Kp O w w4 := hK.trans hK2 (fun i hi h => by
            rcases hO' i h with h | h
            · exact h
            · omega)
          clear hrm hD hK hK2 ho hO2 hO' hnv
          go_wp2
          go_ret
          rw [HC.out]
          exact ⟨O2, rfl, hD2, hO3, hK3⟩
      · have hc' : rclnL ps r = rclnL (ps.drop (j + 1)) r' := by rw [hc, rclnL, if_neg ht]
        have hf : isT p = false := by simpa using ht
        rw [hf] at hti
        have HC := Lib.hid hc'
        clear hc hc' ht hf
        go_wp2_with fail
        refine (hti wr).mono ?_
        rintro e w3 ⟨rfl, rfl⟩
        clear hti hcell
        go_wp2
        go_roundw
        case rel => exact ⟨j + 1, r', O', by omega, by go_num, hD, by omega, hO', hK, hz, ho, HC.out⟩
        case measure => simp [intOf]; omega
    · obtain rfl : j = ps.length := by omega
      rw [List.drop_length] at hc
      have hc' : rclnL ps r = (0, r') := hc
      have HC := Lib.hid hc'
      clear hc hc'
      have hD2 := hD
      have hO3 : ∀ i, O' i → O i ∨ w.heap.size ≤ i := fun i hi => (hO' i hi).imp id (fun h => by omega)
      clear ho hO'
      go_wp2
      go_ret
      rw [HC.out]
      exact ⟨O', rfl, hD2, hO3, hK⟩
end

section

open Go.RowKit

structure Bt2 (w wx w' : World) (Ox : Nat → Prop) (g : Nat) (O : Nat → Prop) (d : Dk) (g2 : Nat) (O2 : Nat → Prop) (r : Rk) (c m : Nat) : Prop where
  fr : Fr2 w wx w' Ox g m O d g2 O2 r
  rel : Rel d r
  nn : -(m : Int) ≤ r.n
  ln : r.L.length ≤ c
variable {w wx w1 w2 : World} {Ox : Nat → Prop} {g g2 : Nat} {O O2 : Nat → Prop} {d : Dk} {r : Rk}
theorem Bt2.kp0 {c m : Nat} (h : Bt2 w wx w1 Ox g O d g2 O2 r c m) (k : Kp0 w1 w2) : Bt2 w wx w2 Ox g O d g2 O2 r c m := ⟨h.fr.kp0 k, h.rel, h.nn, h.ln⟩
theorem Bt2.base {c m : Nat} (h : Bt2 w wx w1 Ox g O d g2 O2 r c m) : Bt2 w w1 w1 (fun i => O i ∨ O2 i) g O d g2 O2 r c m := ⟨h.fr.base, h.rel, h.nn, h.ln⟩
theorem Bt2.mono {c c' m m' : Nat} (h : Bt2 w wx w1 Ox g O d g2 O2 r c m) (hc : c ≤ c') (hm : m ≤ m') : Bt2 w wx w1 Ox g O d g2 O2 r c' m' := ⟨h.fr.mono hm, h.rel, by have := h.nn; omega, by have := h.ln; omega⟩
theorem Bt2.next {c m : Nat} (h : Bt2 w wx w1 Ox g O d g2 O2 r c m) {O' O2' : Nat → Prop} {d' : Dk} {r' : Rk} (f : Fr2 w wx w2 Ox g (m + 1) O' d' g2 O2' r') (hr : Rel d' r') (hf : Few r r') : Bt2 w wx w2 Ox g O' d' g2 O2' r' (c + 1) (m + 1) :=
  ⟨f, hr, by have := h.nn; have := hf.1; omega, by have := h.ln; have := hf.2; omega⟩
theorem Bt2.app {c m : Nat} (h : Bt2 w wx w1 Ox g O d g2 O2 r c m) (hc : c ≤ 800) (hm : m ≤ 100000) {p : ByteArray} (hp : p.size ≤ 100) {A1 A2 : Option Addr} {c1 c2 : Nat} {bs : List Int} (hl : bs.length ≤ 70000) (z1 : Bz wx A1 c1 bs) (x1 : bs ≠ [] → ∀ a, A1 = some a → ¬ Ox a.block) (z2 : Bz wx A2 c2 bs) (x2 : bs ≠ [] → ∀ a, A2 = some a → ¬ Ox a.block) :
    ∃ x : Int, Calls Try.prog 20 #[.pointer (some ⟨g, 0, none⟩), .string p, .slice A1 bs.length c1] w1 fun e wa => e = .returned (.int .i64 x) ∧
      Calls Try.prog 40 #[ptr g2, .string p, .slice A2 bs.length c2] wa fun e w' => e = .returned (.int .i64 x) ∧ ∃ O' d' O2' r', Bt2 w wx w' Ox g O' d' g2 O2' r' (c + 1) (m + 1) := by
  obtain ⟨e1, e2⟩ := h.rel.app h.fr.dk.kys p bs
  obtain ⟨zz, zo⟩ := h.fr.bz z1 x1
  have hnn := h.nn
  have hln := h.ln
  refine ⟨(r.app p bs).1, (append20_c g m O d p hp A1 c1 bs (by omega) (by omega) w1 h.fr.dk zz (fun hb a ha => (zo hb a ha).1)).mono ?_⟩
  intro e wa D
  obtain ⟨rfl, O', F⟩ := h.fr.did D
  refine ⟨by rw [e1], (rapp40_c g2 O2 r wa F.rd p A2 c2 bs (F.bz z2 x2).1 hl (by omega) (by omega)).mono ?_⟩
  intro e w' D
  obtain ⟨rfl, O2', F2⟩ := F.rdid D
  exact ⟨rfl, O', _, O2', _, h.next F2 e2 (few_app r p bs)⟩
theorem Bt2.crash {c m : Nat} (h : Bt2 w wx w1 Ox g O d g2 O2 r c m) (hc : c ≤ 800) (hm : m ≤ 100000) (k : Int) (hk : k ≤ 100000) :
    Calls Try.prog 24 #[.pointer (some ⟨g, 0, none⟩), .int .i64 k] w1 fun e wa => e = .returned (.tuple #[]) ∧ Kp O w1 wa ∧
      Calls Try.prog 46 #[ptr g2, .int .i64 k] wa fun e w' => e = .returned (.tuple #[]) ∧ ∃ O' d' O2' r', Bt2 w wx w' Ox g O' d' g2 O2' r' (c + 1) (m + 1) := by
  refine (crash24_m g m O d k k.toNat (by omega) (by omega) (by omega) (by omega) w1 h.fr.dk).mono ?_
  rintro e wa ⟨rfl, O', D, hO, kk⟩
  have F := h.fr.dturn D hO kk
  refine ⟨rfl, kk, (rcrash46_m g2 O2 r wa F.rd k k.toNat (by omega) (by omega) (by omega)).mono ?_⟩
  rintro e w' ⟨rfl, O2', R, hO2, kk2⟩
  exact ⟨rfl, O', _, O2', _, h.next ((F.rturn R hO2 kk2).mono (by omega)) (h.rel.crash k.toNat) ⟨by show r.n - 1 ≤ r.n; omega, Nat.le_trans (acr_len2 _ _) (by omega)⟩⟩
theorem Bt2.fuse {c m : Nat} (h : Bt2 w wx w1 Ox g O d g2 O2 r c m) (k : Int) (hk : k ≤ 100) :
    Calls Try.prog 30 #[.pointer (some ⟨g, 0, none⟩), .int .i64 k] w1 fun e wa => e = .returned (.tuple #[]) ∧ Kp O w1 wa ∧
      Calls Try.prog 45 #[ptr g2, .int .i64 k] wa fun e w' => e = .returned (.tuple #[]) ∧ ∃ O' d' O2' r', Bt2 w wx w' Ox g O' d' g2 O2' r' (c + 1) (m + 1) := by
  refine (fuse30_m g m O d k (by omega) w1 h.fr.dk).mono ?_
  rintro e wa ⟨rfl, D, kk⟩
  have hog : O g := by obtain ⟨bm, V, hd⟩ := h.fr.dk; exact hd.og
  have hog2 : O2 g2 := by obtain ⟨v, fs, hd, _⟩ := h.fr.rd; exact hd.og
  have F := h.fr.dturn D (fun i hi => .inl hi) (kk.mono (fun i _ e => by rw [e]; exact hog))
  refine ⟨rfl, kk.mono (fun i _ e => by rw [e]; exact hog), (rfuse45_m g2 O2 r wa F.rd k (by omega)).mono ?_⟩
  rintro e w' ⟨rfl, R, kk2⟩
  exact ⟨rfl, O, _, O2, _, (⟨(F.rturn R (fun i hi => .inl hi) (kk2.mono (fun i _ e => by rw [e]; exact hog2))).mono (by omega), h.rel.fuse k.toNat, by show -((m + 1 : Nat) : Int) ≤ (k.toNat : Int); omega, by have := h.ln; show r.L.length ≤ c + 1; omega⟩ : Bt2 _ _ _ _ _ _ _ _ _ _ _ _)⟩
theorem Bt2.same {c m : Nat} (h : Bt2 w wx w1 Ox g O d g2 O2 r c m) (hm : m ≤ 100000) : Calls Try.prog 47 #[.pointer (some ⟨g, 0, none⟩), ptr g2] w1 fun e w' => e = .returned (.bool true) ∧ Kp0 w1 w' :=
  same47_c g m O d g2 O2 r (by omega) (h.rel.alike h.fr.dk.kys) w1 h.fr.dk h.fr.rd

theorem Rel.wri {d : Dk} {r : Rk} (h : Rel d r) (k : Kys d) (p : ByteArray) (b : List Int) : Res (d.wri p b) (r.wri p b) := by
  obtain ⟨a1, a2⟩ := h.app k (p ++ tl) b
  obtain ⟨b1, b2⟩ := a2.syn (p ++ tl)
  have c := b2.ren (p ++ tl) p
  unfold Dk.wri Rk.wri
  rw [a1]
  split
  · exact ⟨a1, a2⟩
  · rw [b1]
    split
    · exact ⟨b1, b2⟩
    · exact c
theorem few3_wri (r : Rk) (p : ByteArray) (b : List Int) : r.n - 3 ≤ (r.wri p b).2.n ∧ (r.wri p b).2.L.length ≤ r.L.length + 3 := by
  have h1 := few_app r (p ++ tl) b
  have h2 := few_syn (r.app (p ++ tl) b).2 (p ++ tl)
  have h3 := few_ren ((r.app (p ++ tl) b).2.syn (p ++ tl)).2 (p ++ tl) p
  unfold Rk.wri
  split
  · exact ⟨by have := h1.1; omega, by have := h1.2; omega⟩
  · split
    · exact ⟨by have := h1.1; have := h2.1; omega, by have := h1.2; have := h2.2; omega⟩
    · exact ⟨by have := h1.1; have := h2.1; have := h3.1; omega, by have := h1.2; have := h2.2; have := h3.2; omega⟩
theorem Bt2.wri {c m : Nat} (h : Bt2 w wx w1 Ox g O d g2 O2 r c m) (hc : c ≤ 800) (hm : m ≤ 100000) {p : ByteArray} (hp : p.size ≤ 90) {A1 A2 : Option Addr} {c1 c2 : Nat} {bs : List Int} (hl : bs.length ≤ 70000) (z1 : Bz wx A1 c1 bs) (x1 : bs ≠ [] → ∀ a, A1 = some a → ¬ Ox a.block) (z2 : Bz wx A2 c2 bs) (x2 : bs ≠ [] → ∀ a, A2 = some a → ¬ Ox a.block) :
    ∃ x : Int, Calls Try.prog 50 #[.pointer (some ⟨g, 0, none⟩), .string p, .slice A1 bs.length c1] w1 fun e wa => e = .returned (.int .i64 x) ∧
      Calls Try.prog 54 #[ptr g2, .string p, .slice A2 bs.length c2] wa fun e w' => e = .returned (.int .i64 x) ∧ ∃ O' d' O2' r', Bt2 w wx w' Ox g O' d' g2 O2' r' (c + 3) (m + 3) := by
  obtain ⟨e1, e2⟩ := h.rel.wri h.fr.dk.kys p bs
  obtain ⟨zz, zo⟩ := h.fr.bz z1 x1
  have hnn := h.nn
  have hln := h.ln
  have hf := few3_wri r p bs
  refine ⟨(r.wri p bs).1, (write50_c g m O d p hp A1 c1 bs (by omega) (by omega) w1 h.fr.dk zz (fun hb a ha => (zo hb a ha).1)).mono ?_⟩
  intro e wa D
  obtain ⟨rfl, O', F⟩ := h.fr.did D
  refine ⟨by rw [e1], (rwrite54_c g2 O2 r wa F.rd h.rel.so p (by omega) A2 c2 bs (F.bz z2 x2).1 hl (by omega) (by omega)).mono ?_⟩
  intro e w' D
  obtain ⟨rfl, O2', F2⟩ := F.rdid D
  exact ⟨rfl, O', _, O2', _, ⟨F2, e2, by have := hf.1; omega, by have := hf.2; omega⟩⟩
theorem Rel.clnL : ∀ (ps : List ByteArray) {d : Dk} {r : Rk}, Rel d r → Res (clnL ps d) (rclnL ps r)
  | [], d, r, h => ⟨rfl, h⟩
  | p :: l, d, r, h => by
    unfold Go.Proofs.Ytkokgbmeienokaa.clnL rclnL
    obtain ⟨a1, a2⟩ := h.rem p
    split
    · rw [a1]
      split
      · exact ⟨a1, a2⟩
      · exact Rel.clnL l a2
    · exact Rel.clnL l h
theorem rem_len (r : Rk) (p : ByteArray) : r.n - 1 ≤ (r.rem p).2.n ∧ (r.rem p).2.L.length ≤ r.L.length := by
  have h := stop_nn r
  unfold Rk.rem
  split
  · exact ⟨by show r.n - 1 ≤ r.n; omega, Nat.le_refl _⟩
  · split
    · exact ⟨h.1, by rw [h.2]; omega⟩
    · exact ⟨h.1, List.length_filter_le _ _⟩
theorem rclnL_len : ∀ (ps : List ByteArray) (r : Rk), r.n - ps.length ≤ (rclnL ps r).2.n ∧ (rclnL ps r).2.L.length ≤ r.L.length
  | [], r => by show r.n - ((0 : Nat) : Int) ≤ r.n ∧ r.L.length ≤ r.L.length; omega
  | p :: l, r => by
    have h := rem_len r p
    have ih := rclnL_len l (r.rem p).2
    have ih2 := rclnL_len l r
    unfold rclnL
    rw [List.length_cons]
    split
    · split
      · omega
      · omega
    · omega
theorem lst_lsp (d : Dk) : d.lst = d.lsp es := by
  unfold Dk.lst Dk.lsp
  have : ((srt d.ks).filter (fun x => Lib.hasPrefix x (tol es))) = srt d.ks := List.filter_eq_self.2 (fun x _ => rfl)
  rw [this]; rfl
theorem lsp_le (r : Rk) (pre : ByteArray) : (r.lsp pre).length ≤ r.L.length := by
  unfold Rk.lsp
  exact Nat.le_trans (List.length_filter_le _ _) (by rw [List.length_map]; omega)
theorem Bt2.cln {c m : Nat} (h : Bt2 w wx w1 Ox g O d g2 O2 r c m) (hc : c ≤ 800) (hm : m ≤ 100000) :
    ∃ x : Int, Calls Try.prog 52 #[.pointer (some ⟨g, 0, none⟩)] w1 fun e wa => e = .returned (.int .i64 x) ∧
      Calls Try.prog 55 #[ptr g2] wa fun e w' => e = .returned (.int .i64 x) ∧ ∃ O' d' O2' r', Bt2 w wx w' Ox g O' d' g2 O2' r' c (m + c) := by
  have hk := h.fr.dk.kys
  have hls : d.lst = r.lsp es := (lst_lsp d).trans (h.rel.lsp hk es)
  obtain ⟨e1, e2⟩ : Res d.cln r.cln := by
    unfold Dk.cln Rk.cln
    rw [hls]
    exact Rel.clnL _ h.rel
  have hnn := h.nn
  have hln := h.ln
  have hkl : d.ks.length = r.L.length := by rw [(h.rel.perm hk).length_eq, List.length_map]
  have hll := lsp_le r es
  have hf : r.n - (r.lsp es).length ≤ r.cln.2.n ∧ r.cln.2.L.length ≤ r.L.length := rclnL_len _ _
  have hsz : ∀ x ∈ r.L, x.1.size ≤ 100 := fun x hx => ((h.rel.alike hk).F x hx).2
  refine ⟨r.cln.1, (clean52_c g m O d (by omega) (by omega) w1 h.fr.dk).mono ?_⟩
  intro e wa D
  obtain ⟨rfl, O', F⟩ := h.fr.did D
  refine ⟨by rw [e1], (rclean55_c g2 O2 r wa F.rd hsz (by omega) (by omega)).mono ?_⟩
  intro e w' D
  obtain ⟨rfl, O2', F2⟩ := F.rdid D
  exact ⟨rfl, O', _, O2', _, ⟨F2.mono (by omega), e2, by have := hf.1; omega, by have := hf.2; omega⟩⟩
theorem Bt2.read {c m : Nat} (h : Bt2 w wx w1 Ox g O d g2 O2 r c m) (p : ByteArray) : ∃ is : Bool, Calls Try.prog 53 #[ptr g2, .string p] w1 fun e w' => ∃ A c bl, e = .returned (.tuple #[.slice A bl c, .bool is]) ∧ w1 = w' :=
  ⟨_, (rread53_c g2 O2 r p w1 h.fr.rd).mono (by rintro e w' ⟨A, c, rfl, _, _, _, rfl⟩; exact ⟨A, c, _, rfl, rfl⟩)⟩
end

section

open Go.RowKit
open Go.ChangeShapes Go.WideShapes Go.ChangeAt

/-- The element type is a struct of k whole numbers, then one of type tB. -/
def actT (P : Program) (e k tB : Nat) : Bool :=
  match P.underlying e with
  | some (.struct fs) => fs.size == k + 1 && ((List.range k).all fun j => match fs[j]? with
    | some f => f.offset == j && P.cellsOf f.type == 1 && (match P.underlying f.type with | some (.int .i64) => true | _ => false)
    | none => false) && (match fs[k]? with | some f => f.offset == k && P.cellsOf f.type == 1 && f.type == tB | none => false)
  | _ => false
theorem act_row {H : Type} {enc : TypeId × Value → H} {P : Program} {W : World} {base : Nat} {spare : Nat → Bool} {held : Bool} {e k tB m : Nat} {f : Nat → Value} {D : DataW H × List MemPlace}
    (hc : actT P e k tB = true) (h : DataW.trod enc P W base spare held m e ((List.range (k + 1)).map f) = some D) : (∀ j, j < k → ∃ n, f j = .int .i64 n) ∧ ∃ n D', DataW.trod enc P W base spare held n tB [f k] = some D' := by
  unfold actT at hc
  split at hc
  · rename_i fs hfs
    rw [Bool.and_eq_true, Bool.and_eq_true, List.all_eq_true] at hc
    obtain ⟨⟨c1, c2⟩, c9⟩ := hc
    obtain ⟨xs, n, _, _, _, hlen, hf⟩ := DataW.trod_struct hfs h
    refine ⟨fun j hj => ?_, ?_⟩
    · have c3 := c2 j (by simpa using hj)
      split at c3
      · rename_i fj hfj
        simp only [Bool.and_eq_true, beq_iff_eq] at c3
        obtain ⟨⟨c4, c5⟩, c6⟩ := c3
        split at c6
        · rename_i hint
          have h1 := hf j fj hfj
          rw [c4, c5] at h1
          have h2 : (((List.range (k + 1)).map f).drop j).take 1 = [f j] := by
            rw [List.drop_eq_getElem_cons (by simp; omega)]; simp
          rw [h2] at h1
          have hx : ∃ y, xs[j]? = some y := ⟨_, List.getElem?_eq_getElem (by simp at c1; omega)⟩
          obtain ⟨y, hy⟩ := hx
          rw [hy] at h1
          obtain ⟨a, e0, _, wa⟩ := DataW.trod_int hint h1
          simp at e0
          exact ⟨a, e0⟩
        · cases c6
      · cases c3
    · split at c9
      · rename_i fj hfj
        simp only [Bool.and_eq_true, beq_iff_eq] at c9
        obtain ⟨⟨c4, c5⟩, c6⟩ := c9
        have h1 := hf k fj hfj
        rw [c4, c5] at h1
        have h2 : (((List.range (k + 1)).map f).drop k).take 1 = [f k] := by
          rw [List.drop_eq_getElem_cons (by simp)]; simp
        rw [h2, c6] at h1
        have hx : ∃ y, xs[k]? = some y := ⟨_, List.getElem?_eq_getElem (by simp at c1; omega)⟩
        obtain ⟨y, hy⟩ := hx
        rw [hy] at h1
        exact ⟨_, _, h1⟩
      · cases c9
  · cases hc

theorem sl_acts {H : Type} {enc : TypeId × Value → H} {W : World} {base : Nat} {t e k : Nat} {a : Option Addr} {len cap : Nat} {d : DataW H} {ps : List MemPlace}
    (hu : Try.prog.underlying t = some (.slice e)) (hk : Try.prog.cellsOf e = k + 1) (hc : actT Try.prog e k 22 = true) (h : DataW.Trod enc Try.prog W base (fun _ => true) true t (.slice a len cap) d ps) :
    ∀ i, i < len → ∃ b off A' c' bs, a = some ⟨b, off, none⟩ ∧ b < W.heap.size ∧ (∀ j, j < k → ∃ n, W.cell? ⟨b, off + (i * (k + 1) + j), none⟩ = some (.int .i64 n)) ∧
      W.cell? ⟨b, off + (i * (k + 1) + k), none⟩ = some (.slice A' bs.length c') ∧ Bz W A' c' bs ∧ bs.length ≤ c' ∧ bs.length ≤ 9223372036854775807 := by
  obtain ⟨V, ⟨_, _, hS⟩, hD⟩ := sl_of hu hk (Nat.succ_pos k) h
  intro i hi
  rcases hS with h0 | ⟨b, off, rfl, hcell⟩
  · omega
  · obtain ⟨m, D, hm⟩ := hD i hi
    obtain ⟨h1, n, D', h2⟩ := act_row hc hm
    have hck := hcell i hi k (Nat.lt_succ_self k)
    obtain ⟨A, L, C, hV⟩ : ∃ A L C, V i k = .slice A L C := by
      rcases open_ints Try.underlying22 Try.underlying5 (by kernel_rfl) h2 with ⟨e, _⟩ | ⟨x, l, c, zs, e, _⟩
      · injection e with e _; exact ⟨_, _, _, e⟩
      · injection e with e _; exact ⟨_, _, _, e⟩
    rw [hV] at h2 hck
    obtain ⟨zs, hz⟩ := isInts_of (enc := enc) (base := base) (held := true) (a := A) (len := L) (cap := C) (d := D'.1) (ps := D'.2) Try.underlying22 Try.underlying5 (by kernel_rfl) ⟨n, by simpa [Value.cells] using h2⟩
    obtain ⟨bs, hbl, hlc, hb⟩ := br_ints hz
    have hcap : C ≤ 9223372036854775807 := by
      rcases hz with ⟨_, _, h, _⟩ | ⟨x, _, _, h, _⟩
      · omega
      · unfold maxLen at h; omega
    subst hbl
    refine ⟨b, off, A, C, bs, rfl, World.block_lt_of_cell? W ⟨b, _, none⟩ hck, fun j hj => ?_, hck, hb, hlc, by omega⟩
    obtain ⟨n, hn⟩ := h1 j hj
    exact ⟨n, by rw [hcell i hi j (by omega), hn]⟩
end
end Go.Proofs.Ytkokgbmeienokaa
