/- Package bin: slices.Delete of one box; Take. -/
import Derived.Test.YtccamciijpmkjaaB4
import Derived.Deep.DeepAppendRoom
set_option linter.unusedVariables false
set_option linter.unusedSimpArgs false
namespace Go.Proofs.Ytccamciijpmkjaa
open Go.RowKit

theorem own_set {w : World} {b e size n g cap : Nat} {xs : List Value} (h : w.ownsRow b e size (.slice (some ⟨g, 0, none⟩) n cap) n xs) (j : Nat) (u : Value) : (w.setCell ⟨g, j, none⟩ u).ownsRow b e size (.slice (some ⟨g, 0, none⟩) n cap) n (xs.set j u) := by
  obtain ⟨h1, ⟨h2, _⟩ | ⟨g', cap', cur, e', h6, h3, h4, h5, h7, h8⟩⟩ := h
  · cases h2
  · injection e' with e1 e2 e3
    injection e1 with e1
    injection e1 with e1
    subst e1; subst e3
    refine ⟨by rw [List.length_set]; exact h1, .inr ⟨g, cap, cur.setIfInBounds j u, rfl, h6, ?_, h4, h5, by simpa using h7, ?_⟩⟩
    · show (w.setCell ⟨g, j, none⟩ u).heap[g]? = _
      simp [World.setCell, Array.getElem?_modify, h3]
    · rw [Array.toList_setIfInBounds, List.take_set, h8]
theorem own_short {w : World} {b e size n g cap : Nat} {xs : List Value} (h : w.ownsRow b e size (.slice (some ⟨g, 0, none⟩) n cap) n xs) (m : Nat) (hm : m ≤ n) : w.ownsRow b e size (.slice (some ⟨g, 0, none⟩) m cap) m (xs.take (m * size)) := by
  obtain ⟨h1, ⟨h2, _⟩ | ⟨g', cap', cur, e', h6, h3, h4, h5, h7, h8⟩⟩ := h
  · cases h2
  · injection e' with e1 e2 e3
    injection e1 with e1
    injection e1 with e1
    subst e1; subst e3
    have hms : m * size ≤ n * size := Nat.mul_le_mul_right _ hm
    exact ⟨by rw [List.length_take]; omega, .inr ⟨g, cap, cur, rfl, h6, h3, by omega, h5, h7, by rw [← h8, List.take_take, Nat.min_eq_left hms]⟩⟩
theorem own_sets {b e size n g cap : Nat} : ∀ (vs : List Value) (o : Nat) (w : World) (xs : List Value), w.ownsRow b e size (.slice (some ⟨g, 0, none⟩) n cap) n xs → ∃ xs', (w.setCells g o vs).ownsRow b e size (.slice (some ⟨g, 0, none⟩) n cap) n xs' ∧ xs'.take o = xs.take o
  | [], o, w, xs, h => ⟨xs, h, rfl⟩
  | v :: r, o, w, xs, h => by
    obtain ⟨xs', h1, h2⟩ := own_sets r (o + 1) _ _ (own_set h o v)
    refine ⟨xs', h1, ?_⟩
    have := congrArg (List.take o) h2
    rw [List.take_take, List.take_take, Nat.min_eq_left (by omega), List.take_set_of_le (by omega)] at this
    exact this
theorem kp_sets (g : Nat) : ∀ (vs : List Value) (o : Nat) (w : World), Kp (· = g) w (w.setCells g o vs)
  | [], o, w => Kp.refl _ _
  | v :: r, o, w => ((Kp.self g w).put o v).trans (kp_sets g r (o + 1) _) (fun i _ e => e)

theorem run_clear_k {P : Program} (w : World) (t e ty : TypeId) (z : Value) (ht : P.underlying t = some (.slice e)) (hv : ∀ w, (zeroValue e).run P w = .ok z w) (b o n c : Nat) (hn : 0 < n) (h1 : ∀ v ∈ (Builtin.zeroCells z.cells n).toList, v.oneCell' = true)
    (hc : ∀ j, j < (Builtin.zeroCells z.cells n).toList.length → (w.cell? ⟨b, o + j, none⟩).isSome = true) (hf : ∀ j, j < (Builtin.zeroCells z.cells n).toList.length → w.frozen? ⟨b, o + j, none⟩ = false) :
    (Builtin.clear_ #[t] ty #[.slice (some ⟨b, o, none⟩) n c]).run P w = .ok (.tuple #[]) (w.setCells b o (Builtin.zeroCells z.cells n).toList) := by
  have hst := run_storeCells_cells (P := P) b o (Builtin.zeroCells z.cells n).toList 0 w (by simpa using hc) (by simpa using hf) h1
  simp only [Nat.add_zero] at hst
  obtain ⟨m, rfl⟩ : ∃ m, n = m + 1 := ⟨n - 1, by omega⟩
  simp [Builtin.clear_, run_underlying ht, hv, hst]
abbrev zB : Value := .agg #[.string ByteArray.empty, .string ByteArray.empty, .int .i64 0, .int .i64 0]
theorem zB_len (n : Nat) : (Builtin.zeroCells zB.cells n).toList.length = n * 4 := by
  simp [Builtin.zeroCells, Value.cells]
theorem zB_one (n : Nat) : ∀ v ∈ (Builtin.zeroCells zB.cells n).toList, v.oneCell' = true := by
  intro v hv
  simp only [Builtin.zeroCells] at hv
  rw [Array.mem_toList_iff, Array.mem_map] at hv
  obtain ⟨i, _, rfl⟩ := hv
  have h : i % 4 < 4 := Nat.mod_lt _ (by omega)
  show (zB.cells[i % 4]!).oneCell' = true
  generalize i % 4 = j at h
  obtain rfl | rfl | rfl | rfl : j = 0 ∨ j = 1 ∨ j = 2 ∨ j = 3 := by omega
  all_goals rfl

theorem own_there {w : World} {b e size n g cap : Nat} {xs : List Value} (h : w.ownsRow b e size (.slice (some ⟨g, 0, none⟩) n cap) n xs) (j : Nat) (hj : j < cap * size) : (w.cell? ⟨g, j, none⟩).isSome = true := by
  obtain ⟨h1, ⟨h2, _⟩ | ⟨g', cap', cur, e', h6, h3, h4, h5, h7, h8⟩⟩ := h
  · cases h2
  · injection e' with e1 e2 e3
    injection e1 with e1
    injection e1 with e1
    subst e1; subst e3
    have : j < cur.size := by omega
    simp [World.cell?, h3, Array.getElem?_eq_getElem this]

theorem step_spare {P : Program} {ops : Array Oper} {o : Oper} {a : Act} {Q : Exit → Act → World → Prop} {K : Act → World → Prop} {W : World} {E : Prop}
    (hg : o.guard = none) (s x : Operand) (t e : TypeId) (i0 : TypeInfo) (size : Nat)
    (ho : o.op = .call { callee := .builtin .append, args := #[s, x], argTypes := #[t, t] })
    (ht : P.underlying t = some (.slice e)) (hi : P.info? e = some i0) (hz : i0.size = size)
    (g n cap : Nat) (xs : List Value) (hs : a.eval s = .slice (some ⟨g, 0, none⟩) n cap) (hown : W.ownsRow 0 e size (.slice (some ⟨g, 0, none⟩) n cap) n xs)
    (ad : Addr) (m c : Nat) (news : List Value) (hx : a.eval x = .slice (some ad) m c) (hl : news.length = m * size) (hnews : ∀ j u, news[j]? = some u → W.cell? (ad.add j) = some u) (h1 : ∀ u ∈ news, u.oneCell' = true) (hroom : n + m ≤ cap)
    (h : ∀ w', w'.ownsRow 0 e size (.slice (some ⟨g, 0, none⟩) (n + m) cap) (n + m) (xs ++ news) → W.grownBy w' (some g) → K (a.put o.dst (.slice (some ⟨g, 0, none⟩) (n + m) cap)) w') :
    if Region.wanted o (yielded ops a.tmps) = true then Oper.wp P o a W K Q else E := by
  have hw : Region.wanted o (yielded ops a.tmps) = true := by simp [Region.wanted, hg]
  rw [if_pos hw]
  exact wp_append_own_spare W s x t ho 0 e i0 size ht hi hz g n cap xs hs hown ad m c news hx hl hnews h1 hroom h

set_option maxRecDepth 100000 in
set_option maxHeartbeats 1000000 in
theorem del67_c (g cap i m : Nat) (l : List Bx) (w : World) (ho : w.ownsRow 0 63 4 (.slice (some ⟨g, 0, none⟩) (m + 1) cap) (m + 1) (rb l)) (hm : l.length = m + 1) (hi : i < m + 1) (hl : m ≤ 100000) :
    Calls Try.prog 67 #[.slice (some ⟨g, 0, none⟩) (m + 1) cap, .int .i64 (i : Nat), .int .i64 ((i : Int) + 1)] w fun e' w' => e' = .returned (.slice (some ⟨g, 0, none⟩) m cap) ∧ w'.ownsRow 0 63 4 (.slice (some ⟨g, 0, none⟩) m cap) m (rb (l.eraseIdx i)) ∧ Kp (· = g) w w' := by
  rcases own_shape ho with ⟨e, _, _⟩ | ⟨g', cap', e, m1, m2, m3, m4⟩
  · cases e
  injection e with e1 e2 e3
  injection e1 with e1
  injection e1 with e1
  subst e1; subst e3
  clear m4 e2
  have hdrop : rb (l.eraseIdx i) = (rb l).take (i * 4) ++ (rb l).drop ((i + 1) * 4) := by
    rw [rb_take l i (by omega), rb_drop l (i + 1) (by omega), ← rb_app, List.eraseIdx_eq_take_drop_succ]
  have ho1 := own_short (own_kp ho ((Kp.refl (fun _ => False) w).drew) (fun _ _ x => x)) i (by omega)
  have V := (Vw.of_own ho).drop ((i + 1) * 4)
  obtain ⟨off, hV⟩ : ∃ off : Nat, off = (if cap = i + 1 then 0 else (i + 1) * 4) := ⟨_, rfl⟩
  have hnews : ∀ j u, ((rb l).drop ((i + 1) * 4))[j]? = some u → (w.drew).cell? ((⟨g, off, none⟩ : Addr).add j) = some u := by
    by_cases hc : cap = i + 1
    · have hd : (rb l).drop ((i + 1) * 4) = [] := List.drop_eq_nil_of_le (by rw [rb_len]; omega)
      rw [hd]
      intro j u hj
      simp at hj
    · rw [hV, if_neg hc]
      rw [Nat.zero_add] at V
      exact Vw.add V
  clear V
  obtain ⟨i0, hi0, hz⟩ := Option.map_eq_some_iff.1 (show (Try.prog.info? 63).map (fun i => i.size) = some 4 from by kernel_rfl)
  have hlen : ((rb l).drop ((i + 1) * 4)).length = (m - i) * 4 := by rw [List.length_drop, rb_len]; omega
  have h12 : ∀ u ∈ (rb l).drop ((i + 1) * 4), u.oneCell' = true := fun u hu => rb_one u (List.mem_of_mem_drop hu)
  have hfin : ∀ w2, w2.ownsRow 0 63 4 (.slice (some ⟨g, 0, none⟩) (i + (m - i)) cap) (i + (m - i)) ((rb l).take (i * 4) ++ (rb l).drop ((i + 1) * 4)) → w.drew.grownBy w2 (some g) →
      ∃ w3, (∀ ty, (Builtin.clear_ #[60] ty #[.slice (some ⟨g, m * 4, none⟩) 1 (cap - m)]).run Try.prog w2 = .ok (.tuple #[]) w3) ∧ w3.ownsRow 0 63 4 (.slice (some ⟨g, 0, none⟩) m cap) m (rb (l.eraseIdx i)) ∧ Kp (· = g) w w3 := fun w2 o2 hg2 => by
    rw [← hdrop, show i + (m - i) = m by omega] at o2
    have K2 : Kp (· = g) w w2 := (((Kp.refl (fun _ => False) w).drew).mono (S' := (· = g)) (fun _ _ x => x.elim)).grown hg2 (fun k hk _ => by injection hk with hk; exact hk.symm)
    obtain ⟨xs', o3, h3⟩ := own_sets (Builtin.zeroCells zB.cells 1).toList (m * 4) w2 _ o2
    have k3 := kp_sets g (Builtin.zeroCells zB.cells 1).toList (m * 4) w2
    have hx : xs' = rb (l.eraseIdx i) := by
      have a1 : xs'.length = m * 4 := o3.1
      have a2 : (rb (l.eraseIdx i)).length = m * 4 := o2.1
      rwa [List.take_of_length_le (by omega), List.take_of_length_le (by omega)] at h3
    rw [hx] at o3
    exact ⟨_, fun ty => run_clear_k w2 60 63 ty zB Try.underlying60 (fun w => Try.zeroValue63 w) g (m * 4) 1 _ (by omega) (zB_one 1) (fun j hj => own_there o2 _ (by rw [zB_len] at hj; have := Nat.mul_le_mul_right 4 m1; omega)) (fun j hj => own_free o2 _), o3, K2.trans k3 (fun i _ e => e)⟩
  have hne : ((i : Int) == (i : Int) + 1) = false := by rw [beq_eq_false_iff_ne]; omega
  have b1 : (0 : Int) ≤ (i : Int) ∧ (i : Int) ≤ (i : Int) + 1 ∧ (i : Int) + 1 ≤ (m : Int) + 1 ∧ (0 : Int) ≤ (i : Int) + 1 ∧ (i : Int) ≤ (cap : Int) ∧ (m : Int) + 1 ≤ (cap : Int) ∧ (i : Int) + 1 ≤ (cap : Int) := by omega
  have b2 : i ≤ cap ∧ i ≤ m + 1 ∧ i + 1 ≤ cap ∧ i + 1 ≤ m + 1 ∧ m ≤ m + 1 ∧ m ≤ cap ∧ ¬ cap = m := by omega
  obtain ⟨d1, d2, d3, d4, d5, d6, d7⟩ := b2
  obtain ⟨p1, p2, p3, p4, p5, p6, p7⟩ := b1
  have hmi : i + (m - i) = m := by omega
  clear ho hdrop hm
  by_cases hc : cap = i + 1
  · rw [if_pos hc] at hV
    subst hV
    obtain rfl : m = i := by omega
    subst hc
    go_enter Try.func67, Try.ntmps67
    go_wp2_with fail
    go_region_law (refine step_spare rfl (.tmp 22) (.tmp 25) 60 63 i0 4 rfl Try.underlying60 hi0 hz g m (m + 1) _ (by simp [Act.eval, Act.put]) ho1 ⟨g, 0, none⟩ (m - m) (m + 1 - (m + 1)) ((rb l).drop ((m + 1) * 4)) (by simp [Act.eval, Act.put]) hlen hnews h12 (by omega) ?_; intro w2 o2 hg2)
    obtain ⟨w3, hcl, o3, k3⟩ := hfin w2 o2 hg2
    simp only [show m + 1 - m = 1 by omega] at hcl
    clear hfin o2 hg2 hmi
    have HO := Lib.hid o3
    clear o3
    go_wp2
    go_ret
    exact ⟨rfl, HO.out, k3⟩
  · rw [if_neg hc] at hV
    subst hV
    have hc' : ¬ i + 1 = cap := fun e => hc e.symm
    go_enter Try.func67, Try.ntmps67
    go_wp2_with fail
    go_region_law (refine step_spare rfl (.tmp 22) (.tmp 25) 60 63 i0 4 rfl Try.underlying60 hi0 hz g i cap _ (by simp [Act.eval, Act.put]) ho1 ⟨g, (i + 1) * 4, none⟩ (m - i) (cap - (i + 1)) ((rb l).drop ((i + 1) * 4)) (by simp [Act.eval, Act.put]) hlen hnews h12 (by omega) ?_; intro w2 o2 hg2)
    obtain ⟨w3, hcl, o3, k3⟩ := hfin w2 o2 hg2
    clear hfin o2 hg2 hmi
    have HO := Lib.hid o3
    clear o3
    go_wp2
    go_ret
    exact ⟨rfl, HO.out, k3⟩

set_option maxRecDepth 100000 in
theorem take_none_c (g : Nat) (O : Nat → Prop) (l : List Bx) (f e : ByteArray) (n : Int) (w : World) (h : BinAt w g O l) (hl : l.length ≤ 100000) (hf : ∀ x ∈ l, isB f e n x = false) :
    Calls Try.prog 39 #[pt g, .string f, .string e, .int .i64 n] w fun e' w' => e' = .returned (.bool false) ∧ Kp0 w w' := by
  have hc := at60_c g O l f e n w h hl
  rcases idx_cases (isB f e n) l with ⟨hi, _⟩ | ⟨i, hi, _, _, hp⟩
  rotate_left
  · rw [hf _ (List.getElem_mem hi)] at hp; cases hp
  rw [hi] at hc
  clear hi hf h
  go_enter Try.func39, Try.ntmps39
  go_wp2_with fail
  refine hc.mono ?_
  rintro e' w1 ⟨rfl, k1⟩
  go_wp2
  go_ret
  exact ⟨rfl, k1⟩
set_option maxRecDepth 100000 in
theorem take_some_c (g : Nat) (O : Nat → Prop) (l : List Bx) (f e : ByteArray) (n : Int) (i : Nat) (w : World) (h : BinAt w g O l) (hl : l.length ≤ 100000) (hi : l.findIdx? (isB f e n) = some i) :
    Calls Try.prog 39 #[pt g, .string f, .string e, .int .i64 n] w fun e' w' => e' = .returned (.bool true) ∧ BinAt w' g O (l.eraseIdx i) ∧ Kp O w w' := by
  have hc := at60_c g O l f e n w h hl
  have hx : idx l (isB f e n) = (i : Int) := by unfold idx; rw [hi]
  rw [hx] at hc
  have hil : i < l.length := by
    rw [List.findIdx?_eq_some_iff_getElem] at hi
    exact hi.1
  obtain ⟨m, hm⟩ : ∃ m, l.length = m + 1 := ⟨l.length - 1, by omega⟩
  have hle : (l.eraseIdx i).length = m := by rw [List.length_eraseIdx_of_lt hil]; omega
  have CR := fun W (k : Kp0 w W) => h.kp k (fun _ _ x => x)
  clear hx hi h
  go_enter Try.func39, Try.ntmps39
  go_wp2_with fail
  refine hc.mono ?_
  rintro e' w1 ⟨rfl, k1⟩
  obtain ⟨hg, v, hB, ho, hO⟩ := CR w1 k1
  rw [hm] at ho
  rcases own_shape ho with ⟨_, h0, _⟩ | ⟨r, cap, rfl, m1, m2, m3, m4⟩
  · cases h0
  have hrg : r ≠ g := (hO r rfl).2
  have hOr : O r := (hO r rfl).1
  have hd := del67_c r cap i m l w1 ho hm (by omega) (by omega)
  have cB := hB.cell 0
  simp at cB
  have hw1 : IntKind.i64.wrap ((i : Int) + 1) = (i : Int) + 1 := by rw [IntKind.wrap_i64]; omega
  have hi0 : ¬ (i : Int) < 0 := by omega
  have HB := Lib.hid hB
  clear m4 hc CR ho hO hB
  go_wp2_with fail
  refine hd.mono ?_
  rintro e' w2 ⟨rfl, o2, k2⟩
  have B2 := HB.out.kp k2 (fun e => hrg e.symm)
  have f2 := B2.free 0
  have c2 := B2.cell 0
  simp at c2
  have o5 := own_kp o2 ((Kp.refl (· = g) w2).setCell (p := ⟨g, 0, none⟩) (fun _ => rfl) (.slice (some ⟨r, 0, none⟩) m cap)) (fun i hi e => by simp [Value.ownBlock] at hi; omega)
  have B5 := B2.set 0 (.slice (some ⟨r, 0, none⟩) m cap)
  have K2 : Kp O w w2 := (k1.mono (S' := O) (fun _ _ x => x.elim)).trans k2 (fun i hi e => by subst e; exact hOr)
  have K4 : Kp O w (w2.setCell ⟨g, 0, none⟩ (.slice (some ⟨r, 0, none⟩) m cap)) := K2.setCell (p := ⟨g, 0, none⟩) (fun _ => hg) _
  clear o2 k2 k1 hd
  go_wp2
  go_ret
  exact ⟨rfl, ⟨hg, _, by simpa using B5, by rw [hle]; exact o5, fun i hi => by simp [Value.ownBlock] at hi; subst hi; exact ⟨hOr, hrg⟩⟩, K4⟩
end Go.Proofs.Ytccamciijpmkjaa
