/- Package bin: SortStableFunc on a row of at most 20 boxes; Add. -/
import Derived.Test.YtccamciijpmkjaaB2
set_option linter.unusedVariables false
set_option linter.unusedSimpArgs false
namespace Go.Proofs.Ytccamciijpmkjaa
open Go.RowKit Go.Sort

theorem own_putK {w : World} {b n g cap : Nat} {xs : List Value} (h : w.ownsRow b 63 4 (.slice (some ⟨g, 0, none⟩) n cap) n xs) (q : Nat) (d : Array Value) (hd : d.size = n * 4) (os : Array Obj) :
    (grow (putRow id (Sort.ahead w q) g 0 d) os).ownsRow b 63 4 (.slice (some ⟨g, 0, none⟩) n cap) n d.toList ∧ Kp (· = g) w (grow (putRow id (Sort.ahead w q) g 0 d) os) := by
  obtain ⟨h1, ⟨h2, _⟩ | ⟨g', cap', cur, e', h6, h3, h4, h5, h7, h8⟩⟩ := h
  · cases h2
  · injection e' with e1 e2 e3
    injection e1 with e1
    injection e1 with e1
    subst e1; subst e3
    have hglt : g < w.heap.size := (Array.getElem?_eq_some_iff.1 h3).1
    have hH : ∀ i, i < w.heap.size → (grow (putRow id (Sort.ahead w q) g 0 d) os).heap[i]? = (w.heap.modify g (onCells (putCells id 0 d)))[i]? := fun i hi => by
      show ((w.heap.modify g (onCells (putCells id 0 d))) ++ os)[i]? = _
      rw [Array.getElem?_append_left (by simpa using hi)]
    refine ⟨⟨by simp [hd], .inr ⟨g, cap, putCells id 0 d cur, rfl, h6, ?_, h4, h5, by simpa [putCells] using h7, ?_⟩⟩, rfl, rfl, rfl, ?_, fun i hi hne => ?_⟩
    · rw [hH g hglt, Array.getElem?_modify, if_pos rfl, h3]; rfl
    · apply List.ext_getElem?
      intro j
      rw [List.getElem?_take]
      by_cases hj : j < n * 4
      · have hc : j < cur.size := by have := Nat.mul_le_mul_right 4 h4; omega
        rw [if_pos hj, Array.getElem?_toList, putCells, Array.getElem?_mapIdx, Array.getElem?_eq_getElem hc]
        show some (if 0 ≤ j ∧ j < 0 + d.size then id d[j - 0]! else cur[j]) = _
        rw [if_pos ⟨Nat.zero_le _, by omega⟩, Nat.sub_zero, Array.getElem?_toList, Array.getElem?_eq_getElem (by omega), getElem!_pos d j (by omega)]
        rfl
      · rw [if_neg hj, List.getElem?_eq_none (by simp; omega)]
    · show w.heap.size ≤ ((w.heap.modify g (onCells (putCells id 0 d))) ++ os).size
      rw [Array.size_append]; simp
    · rw [hH i hi, Array.getElem?_modify, if_neg (fun e => hne e.symm)]

theorem own_free {w : World} {b e size n g cap : Nat} {xs : List Value} (h : w.ownsRow b e size (.slice (some ⟨g, 0, none⟩) n cap) n xs) (j : Nat) : w.frozen? ⟨g, j, none⟩ = false := by
  obtain ⟨h1, ⟨h2, _⟩ | ⟨g', cap', cur, e', h6, h3, h4, h5, h7, h8⟩⟩ := h
  · cases h2
  · injection e' with e1 e2 e3
    injection e1 with e1
    injection e1 with e1
    subst e1
    simp [World.frozen?, h3]
theorem own_holds {w : World} {b n g cap : Nat} {l : List Bx} (h : w.ownsRow b 63 4 (.slice (some ⟨g, 0, none⟩) n cap) n (rb l)) : HoldsK Bx.cs 4 w g 0 l.toArray := by
  unfold HoldsK
  rw [flat_rb]
  intro j hj
  have hj' : j < (rb l).length := by simpa using hj
  refine ⟨?_, own_free h _⟩
  have := Vw.of_own h j (rb l)[j] (List.getElem?_eq_getElem hj')
  rw [this, getElem!_pos _ j hj]
  rfl

theorem inner_size (a : Nat) : ∀ (j : Nat) (d : Array Bx), (insInner ltB a j d).size = d.size
  | 0, _ => rfl
  | j + 1, d => by
    rw [insInner]
    split
    · rw [inner_size a j, size_swp]
    · rfl
theorem outer_size (a b : Nat) : ∀ (k i : Nat) (d : Array Bx), b - i = k → (insOuter ltB a b i d).size = d.size
  | 0, i, d, h => by rw [insOuter, if_neg (by omega)]
  | k + 1, i, d, h => by rw [insOuter, if_pos (by omega), outer_size a b k (i + 1) _ (by omega), inner_size]
theorem insertionSort_size (d : Array Bx) (a b : Nat) : (Sort.insertionSort ltB d a b).size = d.size := outer_size a b _ _ d rfl
set_option maxRecDepth 100000 in
/-- The insertion sort of a part of the row. -/
theorem ins77_c (g cap a b : Nat) (l : List Bx) (w : World) (ho : w.ownsRow 0 63 4 (.slice (some ⟨g, 0, none⟩) l.length cap) l.length (rb l)) (hab : a ≤ b) (hb : b ≤ l.length) (hl : l.length ≤ 100000) :
    Calls Try.prog 77 #[.slice (some ⟨g, 0, none⟩) l.length cap, .int .i64 a, .int .i64 b, .func (.func 62) #[] #[]] w fun e' w' => e' = .returned (.tuple #[]) ∧ w'.ownsRow 0 63 4 (.slice (some ⟨g, 0, none⟩) l.length cap) l.length (rb (Sort.insertionSort ltB l.toArray a b).toList) ∧ Kp (· = g) w w' := by
  have hlt : g < w.heap.size := (ho.lt g rfl).2
  have hcf : ltOf cfB = ltB := by
    funext x y; exact lt_cf x y
  have key := AnyQ.insertionSortCmpFunc Try.ins77 4 (fun w => Try.isAgg63 w) (fun w => Try.sizeOf63 w) Bx.cs (fun _ => rfl) (fun x v hv => cs_one x v hv) cfB 62 #[] g 0 cap a b l.toArray w
    (enters_of Try.func62 (by kernel_rfl) rfl) (fun m os dk hs x y => cmp62_c x y _) (own_holds ho) hlt hab (by simpa using hb) (by simp; omega)
  rw [hcf] at key
  refine Calls.mono key ?_
  rintro e' w' ⟨rfl, n, os, rfl⟩
  have hsz : (Sort.insertionSort ltB l.toArray a b).size = l.length := by rw [insertionSort_size]; rfl
  have hfl : flatK Bx.cs 4 (Sort.insertionSort ltB l.toArray a b) = (rb (Sort.insertionSort ltB l.toArray a b).toList).toArray := by
    have := flat_rb (Sort.insertionSort ltB l.toArray a b).toList
    rwa [Array.toArray_toList] at this
  obtain ⟨o1, k1⟩ := own_putK ho n (rb (Sort.insertionSort ltB l.toArray a b).toList).toArray (by show (rb _).length = _; rw [rb_len, Array.length_toList, hsz]) os
  unfold sortWorldK putRowK
  rw [hfl]
  exact ⟨rfl, o1, k1⟩

theorem addB_len (l : List Bx) (x : Bx) : (addB l x).length = l.length + 1 := by
  have h : ∀ r : List Bx, (insR r x).length = r.length + 1 := by
    intro r
    induction r with
    | nil => rfl
    | cons y r ih => rw [insR]; split <;> simp [ih]
  unfold addB
  rw [List.length_reverse, h, List.length_reverse]

set_option maxRecDepth 100000 in
set_option maxHeartbeats 1000000 in
theorem stable75_c (g cap : Nat) (l : List Bx) (x : Bx) (w : World) (ho : w.ownsRow 0 63 4 (.slice (some ⟨g, 0, none⟩) (l.length + 1) cap) (l.length + 1) (rb (l ++ [x]))) (hu : UpB l) (hl : l.length + 1 ≤ 20) :
    Calls Try.prog 75 #[.slice (some ⟨g, 0, none⟩) (l.length + 1) cap, .int .i64 ((l.length + 1 : Nat) : Int), .func (.func 62) #[] #[]] w fun e' w' => e' = .returned (.tuple #[]) ∧ w'.ownsRow 0 63 4 (.slice (some ⟨g, 0, none⟩) (l.length + 1) cap) (l.length + 1) (rb (addB l x)) ∧ Kp (· = g) w w' := by
  have hn : (l ++ [x]).length = l.length + 1 := by simp
  have h1 := ins77_c g cap 0 (l.length + 1) (l ++ [x]) w (by rw [hn]; exact ho) (by omega) (by rw [hn]; exact Nat.le_refl _) (by rw [hn]; omega)
  rw [hn, ins_add l x hu, List.toList_toArray] at h1
  by_cases h20 : l.length + 1 = 20
  · have h2 := fun W (o : World.ownsRow W 0 63 4 (.slice (some ⟨g, 0, none⟩) (l.length + 1) cap) (l.length + 1) (rb (addB l x))) => ins77_c g cap (l.length + 1) (l.length + 1) (addB l x) W (by rw [addB_len]; exact o) (Nat.le_refl _) (by rw [addB_len]; exact Nat.le_refl _) (by rw [addB_len]; omega)
    have e2 : (Sort.insertionSort ltB (addB l x).toArray (l.length + 1) (l.length + 1)).toList = addB l x := by
      unfold Sort.insertionSort
      rw [insOuter, if_neg (by omega)]
    simp only [e2, addB_len] at h2
    generalize rb (addB l x) = res at h1 h2 ⊢
    rw [h20] at h1 h2 ⊢
    show Calls Try.prog 75 #[.slice (some ⟨g, 0, none⟩) 20 cap, .int .i64 20, .func (.func 62) #[] #[]] w _
    have h1 : Calls Try.prog 77 #[.slice (some ⟨g, 0, none⟩) 20 cap, .int .i64 0, .int .i64 20, .func (.func 62) #[] #[]] w _ := h1
    have h2 : ∀ W, World.ownsRow W 0 63 4 (.slice (some ⟨g, 0, none⟩) 20 cap) 20 res → Calls Try.prog 77 #[.slice (some ⟨g, 0, none⟩) 20 cap, .int .i64 20, .int .i64 20, .func (.func 62) #[] #[]] W _ := h2
    clear ho hn e2 h20 hl hu
    have H1 := Lib.hid h1
    have H2 := Lib.hid h2
    clear h1 h2
    go_enter Try.func75, Try.ntmps75
    go_wp2_with fail
    go_loopw [7, 8] (fun s7 s8 wr => (s7 = .int .i64 0 ∧ s8 = .int .i64 20 ∧ wr = w) ∨ (s7 = .int .i64 20 ∧ s8 = .int .i64 40 ∧ Hid (wr.ownsRow 0 63 4 (.slice (some ⟨g, 0, none⟩) 20 cap) 20 res ∧ Kp (· = g) w wr))) (fun _ s8 _ => (40 - intOf s8).toNat)
    case atStart => exact .inl ⟨rfl, rfl, rfl⟩
    case round =>
      rcases hrel with ⟨rfl, rfl, rfl⟩ | ⟨rfl, rfl, HR⟩
      · go_wp2_with fail
        refine H1.out.mono ?_
        rintro e' w1 ⟨rfl, o1, k1⟩
        go_wp2_with fail
        go_roundw
        case rel => exact .inr ⟨rfl, by go_num, Lib.hid ⟨o1, k1⟩⟩
        case measure => simp [intOf]
      · go_wp2_with fail
        refine (H2.out _ HR.out.1).mono ?_
        rintro e' w1 ⟨rfl, o1, k1⟩
        have K := HR.out.2.trans k1 (fun i _ e => e)
        have HO := Lib.hid o1
        clear HR o1 k1
        go_wp2_with fail
        go_loopw [6] (fun s6 wq => s6 = .int .i64 20 ∧ wq = w1) (fun _ _ => 0)
        case atStart => exact ⟨rfl, rfl⟩
        case round =>
          obtain ⟨rfl, rfl⟩ := hrel
          go_wp2
          go_end0
          exact ⟨rfl, HO.out, K⟩
  · generalize rb (addB l x) = res at h1 ⊢
    have hlt : ¬ (20 : Int) ≤ ((l.length + 1 : Nat) : Int) := by omega
    have hlt2 : ¬ (20 : Int) < ((l.length + 1 : Nat) : Int) := by omega
    generalize l.length + 1 = n at h1 hlt hlt2 ⊢
    clear ho hn h20 hl hu
    have H1 := Lib.hid h1
    clear h1
    go_enter Try.func75, Try.ntmps75
    go_wp2_with fail
    go_loopw [7, 8] (fun s7 s8 wr => s7 = .int .i64 0 ∧ s8 = .int .i64 20 ∧ wr = w) (fun _ _ _ => 0)
    case atStart => exact ⟨rfl, rfl, rfl⟩
    case round =>
      obtain ⟨rfl, rfl, rfl⟩ := hrel
      go_wp2_with fail
      refine H1.out.mono ?_
      rintro e' w1 ⟨rfl, o1, k1⟩
      have HO := Lib.hid o1
      clear o1
      go_wp2_with fail
      go_loopw [6] (fun s6 wq => s6 = .int .i64 20 ∧ wq = w1) (fun _ _ => 0)
      case atStart => exact ⟨rfl, rfl⟩
      case round =>
        obtain ⟨rfl, rfl⟩ := hrel
        go_wp2
        go_end0
        exact ⟨rfl, HO.out, k1⟩
end Go.Proofs.Ytccamciijpmkjaa
