/- Package crew: DeleteFunc over pointers to runs; Late, Drop. -/
import Derived.Test.YtnlkkcpcjeeplaaCx
import Derived.Lib.SliceRun
set_option linter.unusedVariables false
set_option linter.unusedSimpArgs false
namespace Go.Proofs.Ytnlkkcpcjeeplaa
open Go.RowKit Go.Lib Go.Sort

theorem own_base {w : World} {b e size n : Nat} {v : Value} {xs : List Value} (h : w.ownsRow b e size v n xs) : w.ownsRow 0 e size v n xs := by
  obtain ⟨h1, h2 | ⟨g, cap, cur, e', h6, h3⟩⟩ := h
  · exact ⟨h1, .inl h2⟩
  · exact ⟨h1, .inr ⟨g, cap, cur, e', Nat.zero_le _, h3⟩⟩
theorem own_set {w : World} {b e size n g cap : Nat} {xs : List Value} (h : w.ownsRow b e size (.slice (some ⟨g, 0, none⟩) n cap) n xs) (j : Nat) (u : Value) : (w.setCell ⟨g, j, none⟩ u).ownsRow b e size (.slice (some ⟨g, 0, none⟩) n cap) n (xs.set j u) := by
  obtain ⟨h1, ⟨h2, _⟩ | ⟨g', cap', cur, e', h6, h3, h4, h5, h7, h8⟩⟩ := h
  · cases h2
  · injection e' with e1 e2 e3
    injection e1 with e1
    injection e1 with e1
    subst e1; subst e3
    refine ⟨by rw [List.length_set]; exact h1, .inr ⟨g, cap, cur.setIfInBounds j u, rfl, h6, ?_, h4, h5, by simpa using h7, ?_⟩⟩
    · show (w.setCell ⟨g, j, none⟩ u).heap[g]? = _
      simp [World.setCell, Array.getElem?_modify, h3]
    · rw [Array.toList_setIfInBounds, List.take_set, h8]
theorem own_short {w : World} {b e size n g cap : Nat} {xs : List Value} (h : w.ownsRow b e size (.slice (some ⟨g, 0, none⟩) n cap) n xs) (m : Nat) (hm : m ≤ n) : w.ownsRow b e size (.slice (some ⟨g, 0, none⟩) m cap) m (xs.take (m * size)) := by
  obtain ⟨h1, ⟨h2, _⟩ | ⟨g', cap', cur, e', h6, h3, h4, h5, h7, h8⟩⟩ := h
  · cases h2
  · injection e' with e1 e2 e3
    injection e1 with e1
    injection e1 with e1
    subst e1; subst e3
    have hms : m * size ≤ n * size := Nat.mul_le_mul_right _ hm
    exact ⟨by rw [List.length_take]; omega, .inr ⟨g, cap, cur, rfl, h6, h3, by omega, h5, h7, by rw [← h8, List.take_take, Nat.min_eq_left hms]⟩⟩
theorem own_sets {b e size n g cap : Nat} : ∀ (vs : List Value) (o : Nat) (w : World) (xs : List Value), w.ownsRow b e size (.slice (some ⟨g, 0, none⟩) n cap) n xs → ∃ xs', (w.setCells g o vs).ownsRow b e size (.slice (some ⟨g, 0, none⟩) n cap) n xs' ∧ xs'.take o = xs.take o
  | [], o, w, xs, h => ⟨xs, h, rfl⟩
  | v :: r, o, w, xs, h => by
    obtain ⟨xs', h1, h2⟩ := own_sets r (o + 1) _ _ (own_set h o v)
    refine ⟨xs', h1, ?_⟩
    have := congrArg (List.take o) h2
    rw [List.take_take, List.take_take, Nat.min_eq_left (by omega), List.take_set_of_le (by omega)] at this
    exact this
theorem kp_sets (g : Nat) : ∀ (vs : List Value) (o : Nat) (w : World), Kp (· = g) w (w.setCells g o vs)
  | [], o, w => Kp.refl _ _
  | v :: r, o, w => ((Kp.self g w).put o v).trans (kp_sets g r (o + 1) _) (fun i _ e => e)
theorem own_free {w : World} {b e size n g cap : Nat} {xs : List Value} (h : w.ownsRow b e size (.slice (some ⟨g, 0, none⟩) n cap) n xs) (j : Nat) : w.frozen? ⟨g, j, none⟩ = false := by
  obtain ⟨h1, ⟨h2, _⟩ | ⟨g', cap', cur, e', h6, h3, h4, h5, h7, h8⟩⟩ := h
  · cases h2
  · injection e' with e1 e2 e3
    injection e1 with e1
    injection e1 with e1
    subst e1
    simp [World.frozen?, h3]

set_option maxRecDepth 100000 in
set_option maxHeartbeats 2000000 in
/-- DeleteFunc over pointers to runs: what the closure strikes goes. -/
theorem delf77_c (G : Nat) (lb : Array Value) (eg : ∀ args w, (callFunc G args).run Try.prog w = .ok (.enter G args) w) (v : Value) (l : List Nat) (p : Nat → Bool) (w : World) (ho : w.ownsRow 0 47 1 v l.length (l.map pt)) (hl : l.length ≤ 100000)
    (hp : ∀ W x, Kp (fun i => v.ownBlock = some i) w W → x ∈ l → Go.Proofs.FnGives Try.prog G lb #[pt x] (.bool (p x)) W) :
    Calls Try.prog 77 #[v, .func (.func G) #[] lb] w fun e' w' => ∃ v', e' = .returned v' ∧ w'.ownsRow 0 47 1 v' (l.filter (fun x => !p x)).length ((l.filter (fun x => !p x)).map pt) ∧ Kp (fun i => v.ownBlock = some i) w w' ∧ v'.ownBlock = v.ownBlock := by
  have hI := idx84_c G lb eg v l p w ho hl (fun W x hb hx => hp W x ((Kp.of_below hb).mono (fun _ _ x => x.elim)) hx)
  rcases fi_cases p l with ⟨h1, _⟩ | ⟨k0, x0, h1, h2, _⟩
  · have e1 : idx l p = -1 := by unfold idx; rw [h1]
    rw [e1] at hI
    have hf : l.filter (fun x => !p x) = l := by
      rw [List.filter_eq_self]
      intro x hx
      rw [List.findIdx?_eq_none_iff] at h1
      rw [h1 x hx]; rfl
    rw [hf]
    have HO := Lib.hid ho
    clear hf e1 h1 hp ho
    go_enter Try.func77, Try.ntmps77
    go_wp2_with fail
    refine hI.mono ?_
    rintro e' w1 ⟨rfl, q, rfl⟩
    go_wp2
    go_ret
    exact ⟨v, rfl, own_kp (S := fun _ => False) HO.out ((Kp.refl _ _).drewN q) (fun _ _ x => x), (Kp.refl _ _).drewN q, rfl⟩
  · have e1 : idx l p = (k0 : Int) := by unfold idx; rw [h1]
    rw [e1] at hI
    have hk0 : k0 < l.length := (List.getElem?_eq_some_iff.1 h2).1
    rw [List.findIdx?_eq_some_iff_getElem] at h1
    obtain ⟨_, hpk, hall⟩ := h1
    rcases own_shape ho with ⟨rfl, h0, _⟩ | ⟨r, cap, rfl, m1, m2, m3, m4⟩
    · omega
    clear m4 e1 h2
    have hfil : ∀ j (hj : j < l.length), (l.take (j + 1)).filter (fun x => !p x) = (l.take j).filter (fun x => !p x) ++ if p l[j] = true then [] else [l[j]] := fun j hj => by
      rw [List.take_add_one, List.getElem?_eq_getElem hj, List.filter_append]
      congr 1
      cases hq : p l[j] <;> simp [hq]
    have hstart : (l.take (k0 + 1)).filter (fun x => !p x) = l.take k0 := by
      rw [hfil k0 hk0, if_pos hpk, List.append_nil, List.filter_eq_self]
      intro x hx
      obtain ⟨i, hi, rfl⟩ := List.mem_take_iff_getElem.1 hx
      have := hall i (by omega)
      simpa using this
    have hle : ∀ j, ((l.take j).filter (fun x => !p x)).length ≤ j := fun j => Nat.le_trans (List.length_filter_le _ _) (by rw [List.length_take]; omega)
    have hne1 : ((k0 : Int) == -1) = false := beq_eq_false_iff_ne.2 (by omega)
    have hp' : ∀ W x, Kp (· = r) w W → x ∈ l → Go.Proofs.FnGives Try.prog G lb #[pt x] (.bool (p x)) W := fun W x k hx => hp W x (k.mono (fun i _ e => by simp [Value.ownBlock, e])) hx
    have HP := Lib.hid hp'
    have HO := Lib.hid ho
    have HF := Lib.hid hfil
    have HL := Lib.hid hle
    have HS := Lib.hid hstart
    clear hp hp' ho hfil hle hstart hpk hall
    go_enter Try.func77, Try.ntmps77
    go_wp2_with fail
    refine hI.mono ?_
    rintro e' w1 ⟨rfl, q, rfl⟩
    clear hI
    go_wp2_with fail
    go_loopg [5, 6, 7] l.length (fun gg s5 s6 _ wr => ∃ (i j : Nat) (c : List Nat), s5 = .int .i64 i ∧ s6 = .int .i64 j ∧ j ≤ l.length ∧ l.length - j ≤ gg ∧ i < j ∧ Hid (i = ((l.take j).filter (fun x => !p x)).length ∧ c.take i = (l.take j).filter (fun x => !p x) ∧ c.drop j = l.drop j ∧ c.length = l.length ∧ wr.ownsRow 0 47 1 (.slice (some ⟨r, 0, none⟩) l.length cap) l.length (c.map pt) ∧ Kp (· = r) w wr))
    case atStart =>
      refine ⟨k0, k0 + 1, l, rfl, by go_num, by omega, by omega, by omega, Lib.hid ⟨?_, ?_, rfl, rfl, own_kp (S := fun _ => False) HO.out ((Kp.refl _ _).drewN q) (fun _ _ x => x), (Kp.refl _ _).drewN q⟩⟩
      · rw [HS.out, List.length_take]; omega
      · rw [HS.out]
    case round =>
      obtain ⟨i, j, c, rfl, rfl, hjd, hgg, hij, HC⟩ := hrel
      obtain ⟨ci1, ci2, ci3, ci4, own, K⟩ := HC.out
      have V := Vw.of_own own
      have hcx : ∀ t (h : t < c.length), wr.cell? ⟨r, t, none⟩ = some (pt c[t]) := fun t h => by
        have := V t (pt c[t]) (by rw [List.getElem?_map, List.getElem?_eq_getElem h]; rfl)
        rwa [Nat.zero_add] at this
      have fi := own_free own i
      by_cases hlt : j < l.length
      · have hcj : c[j]'(by omega) = l[j] := by
          have := congrArg (fun z => z[0]?) ci3
          simp only [List.getElem?_drop, Nat.add_zero] at this
          rw [List.getElem?_eq_getElem (by omega : j < c.length), List.getElem?_eq_getElem hlt] at this
          exact Option.some.inj this
        have cj := hcx j (by omega)
        rw [hcj] at cj
        have cI := hcx i (by omega)
        have hcall := HP.out wr l[j] K (List.getElem_mem hlt)
        unfold Go.Proofs.FnGives at hcall
        have hltz : (j : Int) < (l.length : Int) := by omega
        have hii : (i : Int) < (l.length : Int) := by omega
        have hi0 : (0 : Int) ≤ (i : Int) ∧ (0 : Int) ≤ (j : Int) := by omega
        have hnx := HF.out j hlt
        generalize hx : l[j] = x at cj hcall hnx
        generalize c[i]'(by omega) = old at cI
        have HX := Lib.hid hx
        cases hq : p x with
        | false =>
          rw [hq] at hcall hnx
          have HN := Lib.hid hnx
          have HV := Lib.hid (And.intro ci1 (And.intro ci2 (And.intro ci3 ci4)))
          clear hx hcj hnx V hcx ci1 ci2 ci3 ci4 HC hq
          go_wp2_with (go_at_fn G; refine hcall.mono ?_; rintro e' w2 ⟨rfl, qq, rfl⟩)
          go_roundg (l.length - (j + 1))
          case measure => omega
          case rel =>
            obtain ⟨ci1, ci2, ci3, ci4⟩ := HV.out
            have hnx := HN.out
            rw [if_neg (by simp)] at hnx
            refine ⟨i + 1, j + 1, c.set i x, by go_num, by go_num, by omega, Nat.le_refl _, by omega, Lib.hid ⟨?_, ?_, ?_, by rw [List.length_set]; exact ci4, ?_, (K.drewN qq).put i (pt x)⟩⟩
            · rw [hnx, List.length_append, ← ci1]; rfl
            · rw [hnx, ← ci2, List.take_add_one, List.take_set_of_le (Nat.le_refl _), List.getElem?_set_self (by omega)]; rfl
            · rw [List.drop_set_of_lt (by omega), ← List.drop_drop, ci3, List.drop_drop]
            · rw [List.map_set]
              exact own_set (own_kp (S := fun _ => False) own ((Kp.refl _ _).drewN qq) (fun _ _ x => x)) i (pt x)
        | true =>
          rw [hq] at hcall hnx
          have HN := Lib.hid hnx
          have HV := Lib.hid (And.intro ci1 (And.intro ci2 (And.intro ci3 ci4)))
          clear hx hcj hnx V hcx ci1 ci2 ci3 ci4 HC hq cI
          go_wp2_with (go_at_fn G; refine hcall.mono ?_; rintro e' w2 ⟨rfl, qq, rfl⟩)
          go_roundg (l.length - (j + 1))
          case measure => omega
          case rel =>
            obtain ⟨ci1, ci2, ci3, ci4⟩ := HV.out
            have hnx := HN.out
            rw [if_pos (by simp), List.append_nil] at hnx
            exact ⟨i, j + 1, c, rfl, by go_num, by omega, Nat.le_refl _, by omega, Lib.hid ⟨by rw [hnx]; exact ci1, by rw [hnx]; exact ci2, by rw [← List.drop_drop, ci3, List.drop_drop], ci4, own_kp (S := fun _ => False) own ((Kp.refl _ _).drewN qq) (fun _ _ x => x), K.drewN qq⟩⟩
      · obtain rfl : j = l.length := by omega
        have hltz : ¬ (l.length : Int) < (l.length : Int) := by omega
        have hil : i < l.length := hij
        have hcl : ∀ ty, (Builtin.clear_ #[78] ty #[.slice (some ⟨r, i, none⟩) (l.length - i) (cap - i)]).run Try.prog wr = .ok (.tuple #[]) (wr.setCells r i (List.replicate (l.length - i) (.pointer none))) :=
          fun ty => Lib.run_clear_slice wr 78 47 ty (.pointer none) Try.underlying78 (fun w => Try.zeroValue47 w) rfl rfl r i _ _ (by omega) (fun t ht => by rw [hcx (i + t) (by omega)]; rfl) (fun t ht => own_free own (i + t))
        obtain ⟨xs', o1, o2⟩ := own_sets (List.replicate (l.length - i) (Value.pointer none)) i wr _ own
        have k1 := kp_sets r (List.replicate (l.length - i) (Value.pointer none)) i wr
        have o3 := own_short o1 i (by omega)
        rw [Nat.mul_one, o2, ← List.map_take, ci2, List.take_length] at o3
        have hlen : (l.filter (fun x => !p x)).length = i := by
          have := ci1
          rw [List.take_length] at this
          exact this.symm
        have KK := K.trans k1 (fun i _ e => e)
        have hin : (i : Int) ≤ (l.length : Int) ∧ (0 : Int) ≤ (i : Int) := by omega
        generalize wr.setCells r i (List.replicate (l.length - i) (Value.pointer none)) = wf at hcl o3 KK
        have HA := Lib.hid hlen
        have HO3 := Lib.hid o3
        clear V hcx ci1 ci2 ci3 ci4 HC o1 o2 k1 hlen o3 own
        go_wp2
        go_ret
        exact ⟨_, rfl, by rw [HA.out]; exact HO3.out, KK.mono (fun i _ e => by simp [Value.ownBlock, e]), rfl⟩

def lat (l : List Nat) (R : Nat → Rn) (now : Int) : List Nat := l.filter (fun x => (R x).late now)
set_option maxRecDepth 100000 in
theorem late78_c (x bn : Nat) (now : Int) (r : Rn) (w : World) (h : RunAt w x r) (hn : w.cell? ⟨bn, 0, none⟩ = some (.int .i64 now)) :
    Calls Try.prog 78 #[pt x, .pointer (some ⟨bn, 0, none⟩)] w fun e' w' => e' = .returned (.bool (!r.late now)) ∧ ∃ q, w' = w.drewN q := by
  have hc := late_c x r now w h
  generalize r.late now = b at hc ⊢
  go_enter Try.func78, Try.ntmps78
  go_wp2_with fail
  refine hc.mono ?_
  rintro e' w1 ⟨rfl, rfl⟩
  go_wp2
  go_ret
  exact ⟨rfl, 0, rfl⟩
set_option maxRecDepth 100000 in
theorem late57_c (g : Nat) (O : Nat → Prop) (l : List Nat) (R : Nat → Rn) (now : Int) (w : World) (h : CrAt w g O l) (hr : RunsAt w l R) (hl : l.length ≤ 100000) :
    Calls Try.prog 57 #[pt g, .int .i64 now] w fun e' w' => ∃ v, e' = .returned v ∧ w'.ownsRow 0 47 1 v (lat l R now).length ((lat l R now).map pt) ∧ Kp0 w w' ∧ ∀ i, v.ownBlock = some i → w.heap.size ≤ i := by
  have k1 : Kp0 w (w.alloc (.cells #[.int .i64 now] 3)) := (Kp.refl _ _).alloc _
  have F1 : Blk (w.alloc (.cells #[.int .i64 now] 3)) w.heap.size #[.int .i64 now] 3 := blk_new _ _ rfl
  have hA := all56_c g O l (w.alloc (.cells #[.int .i64 now] 3)) (h.kp k1 (fun _ _ x => x)) hl
  have r1 := hr.kp k1 (fun _ _ x => x)
  have hs : (w.alloc (.cells #[.int .i64 now] 3)).heap.size = w.heap.size + 1 := by simp
  generalize hW : w.alloc (.cells #[.int .i64 now] 3) = W at *
  have HW := Lib.hid hW
  have hlat : lat l R now = l.filter (fun x => !(!(R x).late now)) := by unfold lat; simp
  rw [hlat]
  clear h hr hW hlat
  go_enter Try.func57, Try.ntmps57
  have hW := HW.out
  go_wp2_with fail
  refine hA.mono ?_
  rintro e' w1 ⟨v, rfl, o1, k2⟩
  clear hW hA
  have o2 := own_base o1
  have hfr : ∀ i, v.ownBlock = some i → w.heap.size + 1 ≤ i := fun i hi => by have := (o1.lt i hi).1; omega
  have hd := delf77_c 78 #[.pointer (some ⟨w.heap.size, 0, none⟩)] (enters_of Try.func78 (by kernel_rfl) rfl) v l (fun x => !(R x).late now) w1 o2 hl (fun W' x k hx => by
    have c1 := ((F1.kp0 k2).kp k (fun e => by have := hfr _ e; omega)).cell 0
    refine late78_c x w.heap.size now (R x) W' (((r1 x hx).kp k2 (fun x => x)).kp k (fun e => ?_)) (by simpa using c1)
    have := hfr _ e
    have := (r1 x hx).lt
    omega)
  clear o1 o2 r1 F1
  go_wp2_with fail
  refine hd.mono ?_
  rintro e' w2 ⟨v', rfl, o3, k3, hb⟩
  clear hd
  have K : Kp0 w w2 := (k1.then0 k2).trans k3 (fun i hi e => by have := hfr _ e; omega)
  go_wp2
  go_ret
  exact ⟨v', rfl, o3, K, fun i hi => by have := hfr i (hb ▸ hi); omega⟩

theorem own_put {w : World} {b n g cap : Nat} {xs : List Value} (h : w.ownsRow b 47 1 (.slice (some ⟨g, 0, none⟩) n cap) n xs) (q : Nat) (d : Array (Option Nat)) (hd : d.size = n) :
    (putRow ptO (Sort.ahead w q) g 0 d).ownsRow b 47 1 (.slice (some ⟨g, 0, none⟩) n cap) n (d.toList.map ptO) ∧ Kp (· = g) w (putRow ptO (Sort.ahead w q) g 0 d) := by
  obtain ⟨h1, ⟨h2, _⟩ | ⟨g', cap', cur, e', h6, h3, h4, h5, h7, h8⟩⟩ := h
  · cases h2
  · injection e' with e1 e2 e3
    injection e1 with e1
    injection e1 with e1
    subst e1; subst e3
    refine ⟨⟨by simp [hd], .inr ⟨g, cap, putCells ptO 0 d cur, rfl, h6, ?_, h4, h5, by simpa [putCells] using h7, ?_⟩⟩, rfl, rfl, rfl, by simp [putRow, mapBlock], fun i _ hi => ?_⟩
    · show ((Sort.ahead w q).heap.modify g (onCells (putCells ptO 0 d)))[g]? = _
      rw [Array.getElem?_modify, if_pos rfl]
      show Option.map (onCells (putCells ptO 0 d)) (w.heap[g]?) = _
      rw [h3]; rfl
    · apply List.ext_getElem?
      intro j
      rw [List.getElem?_take, Nat.mul_one]
      by_cases hj : j < n
      · have hc : j < cur.size := by omega
        rw [if_pos hj, Array.getElem?_toList, putCells, Array.getElem?_mapIdx, Array.getElem?_eq_getElem hc]
        show some (if 0 ≤ j ∧ j < 0 + d.size then ptO d[j - 0]! else cur[j]) = _
        rw [if_pos ⟨Nat.zero_le _, by omega⟩, Nat.sub_zero, List.getElem?_map, Array.getElem?_toList, Array.getElem?_eq_getElem (by omega), getElem!_pos d j (by omega)]
        rfl
      · rw [if_neg hj, List.getElem?_eq_none (by simp; omega)]
    · show ((Sort.ahead w q).heap.modify g (onCells (putCells ptO 0 d)))[i]? = _
      rw [Array.getElem?_modify, if_neg (fun e => hi e.symm)]
      rfl

set_option maxRecDepth 100000 in
theorem drop_none_c (g : Nat) (O : Nat → Prop) (l : List Nat) (R : Nat → Rn) (f e : ByteArray) (w : World) (h : CrAt w g O l) (hr : RunsAt w l R) (hl : l.length ≤ 100000) (hf : fnd l R f e = none) :
    Calls Try.prog 53 #[pt g, .string f, .string e] w fun e' w' => e' = .returned (.bool false) ∧ Kp0 w w' := by
  have hc := at74_c g O l R f e w h hr hl
  rcases fnd_there (l := l) (R := R) (f := f) (e := e) with ⟨_, h2⟩ | ⟨⟨y, h1⟩, _⟩
  rotate_left
  · rw [hf] at h1; cases h1
  rw [h2] at hc
  clear h2 hr hf h
  go_enter Try.func53, Try.ntmps53
  go_wp2_with fail
  refine hc.mono ?_
  rintro e' w1 ⟨rfl, k1⟩
  go_wp2
  go_ret
  exact ⟨rfl, k1⟩
set_option maxRecDepth 100000 in
theorem drop_some_c (g : Nat) (O : Nat → Prop) (l : List Nat) (R : Nat → Rn) (f e : ByteArray) (i : Nat) (w : World) (h : CrAt w g O l) (hr : RunsAt w l R) (hl : l.length ≤ 100000) (hi : l.findIdx? (fun x => isRun f e (R x)) = some i) :
    Calls Try.prog 53 #[pt g, .string f, .string e] w fun e' w' => e' = .returned (.bool true) ∧ CrAt w' g O (l.eraseIdx i) ∧ Kp O w w' := by
  have hc := at74_c g O l R f e w h hr hl
  have hx : idx l (fun x => isRun f e (R x)) = (i : Int) := by unfold idx; rw [hi]
  rw [hx] at hc
  have hil : i < l.length := by
    rw [List.findIdx?_eq_some_iff_getElem] at hi
    exact hi.1
  have CR := fun W (k : Kp0 w W) => h.kp k (fun _ _ x => x)
  clear hx hi hr h
  go_enter Try.func53, Try.ntmps53
  go_wp2_with fail
  refine hc.mono ?_
  rintro e' w1 ⟨rfl, k1⟩
  obtain ⟨hg, v, hB, ho, hO⟩ := CR w1 k1
  rcases own_shape ho with ⟨rfl, h0, _⟩ | ⟨r, cap, rfl, m1, m2, m3, m4⟩
  · omega
  have hrg : r ≠ g := (hO r rfl).2
  have hOr : O r := (hO r rfl).1
  have V := Vw.of_own ho
  have hd := AnyE.slices_Delete Try.del75 ptO (fun x => by cases x <;> rfl) none (fun w => Try.zeroValue47 w) _ rfl rfl r 0 cap i (i + 1) (l.map some).toArray w1 (fun j hj => by
    have hj' : j < l.length := by simpa using hj
    refine ⟨?_, own_free ho _⟩
    have := V j (pt l[j]) (by rw [List.getElem?_map, List.getElem?_eq_getElem hj']; rfl)
    rw [this, getElem!_pos _ j hj]
    simp [ptO]) (by simpa using m1) m2 (by omega) (by simp; omega)
  have hsz : (l.map some).toArray.size = l.length := by simp
  rw [hsz, show i + 1 - i = 1 by omega] at hd
  have cB := hB.cell 0
  simp at cB
  have hw1 : IntKind.i64.wrap ((i : Int) + 1) = (i : Int) + 1 := by rw [IntKind.wrap_i64]; omega
  have hd : Calls Try.prog 75 #[.slice (some ⟨r, 0, none⟩) l.length cap, .int .i64 i, .int .i64 ((i : Int) + 1)] w1 fun e w' => e = .returned (.slice (some ⟨r, 0, none⟩) (l.length - 1) cap) ∧ w'.ownsRow 0 47 1 (.slice (some ⟨r, 0, none⟩) (l.eraseIdx i).length cap) (l.eraseIdx i).length ((l.eraseIdx i).map pt) ∧ Kp (· = r) w1 w' := by
    refine Calls.mono hd ?_
    rintro e w' ⟨rfl, q, rfl⟩
    obtain ⟨o1, k1⟩ := own_put ho q ((l.map some).toArray.toList.take i ++ (l.map some).toArray.toList.drop (i + 1) ++ List.replicate 1 none).toArray (by simp; omega)
    have o2 := own_short o1 (l.length - 1) (by omega)
    have hle : (l.eraseIdx i).length = l.length - 1 := List.length_eraseIdx_of_lt hil
    refine ⟨rfl, ?_, k1⟩
    rw [hle]
    have hxs : List.take ((l.length - 1) * 1) (List.map ptO ((l.map some).toArray.toList.take i ++ (l.map some).toArray.toList.drop (i + 1) ++ List.replicate 1 none).toArray.toList) = (l.eraseIdx i).map pt := by
      rw [Nat.mul_one, ← List.map_take]
      show List.map ptO (List.take (l.length - 1) ((l.map some).take i ++ (l.map some).drop (i + 1) ++ [none])) = _
      rw [List.take_append_of_le_length (by simp; omega), List.take_of_length_le (by simp; omega), List.eraseIdx_eq_take_drop_succ, List.map_append, List.map_append, ← List.map_take, ← List.map_drop, List.map_map, List.map_map]
      rfl
    rw [← hxs]
    exact o2
  have hle : (l.eraseIdx i).length = l.length - 1 := List.length_eraseIdx_of_lt hil
  rw [← hle] at hd
  obtain ⟨l', hl'⟩ : ∃ l', l.eraseIdx i = l' := ⟨_, rfl⟩
  rw [hl'] at hd
  have HE := Lib.hid hl'
  have HB := Lib.hid hB
  clear V m4 hc CR ho hO hsz hB hle hl'
  go_wp2_with fail
  refine hd.mono ?_
  rintro e' w2 ⟨rfl, o2, k2⟩
  have B2 := HB.out.kp k2 (fun e => hrg e.symm)
  have f2 := B2.free 0
  have c2 := B2.cell 0
  simp at c2
  have o5 := own_kp o2 ((Kp.refl (· = g) w2).setCell (p := ⟨g, 0, none⟩) (fun _ => rfl) (.slice (some ⟨r, 0, none⟩) l'.length cap)) (fun i hi e => by simp [Value.ownBlock] at hi; omega)
  have B5 := B2.set 0 (.slice (some ⟨r, 0, none⟩) l'.length cap)
  have K2 : Kp O w w2 := (k1.mono (S' := O) (fun _ _ x => x.elim)).trans k2 (fun i hi e => e ▸ hOr)
  have K4 : Kp O w (w2.setCell ⟨g, 0, none⟩ (.slice (some ⟨r, 0, none⟩) l'.length cap)) := K2.setCell (p := ⟨g, 0, none⟩) (fun _ => hg) _
  clear o2 k2 k1 hd
  go_wp2
  go_ret
  rw [HE.out]
  exact ⟨rfl, ⟨hg, _, by simpa using B5, o5, fun i hi => by simp [Value.ownBlock] at hi; subst hi; exact ⟨hOr, hrg⟩⟩, K4⟩
end Go.Proofs.Ytnlkkcpcjeeplaa
