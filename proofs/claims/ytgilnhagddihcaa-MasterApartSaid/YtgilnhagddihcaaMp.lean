/- MasterApart: counting in a map; the walk. -/
import Derived.Test.YtgilnhagddihcaaMa
import Derived.Test.YtgilnhagddihcaaHw
import Derived.WideKeyEntry
set_option linter.unusedVariables false
set_option linter.unusedSimpArgs false
namespace Go.Proofs.Ytgilnhagddihcaa
open Go.RowKit
open Go.WideMaps (KeyLaw)
open Go.ChangeMaps Go.MapKept Go.WideElems

theorem key_law' : KeyLaw Try.prog 52 := deep_law_laid laidOutP (m := 2) (by omega) row52 (by kernel_rfl) wide52

theorem kp_setBlock {w : World} {b : Nat} {es : Array MapEntry} {clock : Nat} (hb : w.heap[b]? = some (.map es clock)) (o : Obj) : Kp (· = b) w (setBlock w b o) :=
  ⟨rfl, rfl, rfl, by simp [setBlock], fun i _ hi => heap_setBlock_other hb _ hi⟩

/-- 'm[k] += ..': the entry, then the store into it. -/
theorem MapAs.inc {w : World} {b n t e : Nat} {z : Value} {f : Key → Value} (h : MapAs w b n z f) (ht : Try.prog.underlying t = some (.map 52 e)) (hz : ∀ u : World, (zeroValue e).run Try.prog u = .ok z u) (hn : n ≤ 1000000) {p : Key} (hp : Small p) :
    ∃ v0 st w1, (Instr.mapEntry t (.map (some b)) (kvp p)).run Try.prog w = .ok (.tuple #[v0, .int .i64 st]) w1 ∧ MapAs w1 b (n + 1) z f ∧ Kp (· = b) w w1 ∧
      ∀ val, ∃ w3, (Instr.entryStore t (.map (some b)) (.int .i64 st) val).run Try.prog w1 = .ok () w3 ∧ MapAs w3 b (n + 1) z (Ytgilnhagddihcaa.upd f p val) ∧ Kp (· = b) w1 w3 := by
  have h0 := h
  obtain ⟨D, ⟨es, clock, hb, F, hs, hD⟩, g⟩ := h
  obtain ⟨kl, hkl⟩ := hp.key
  obtain ⟨v0, st, es1, clock1, hrun, hv, hst⟩ := entry_then_store key_law' ht hz hb F hkl
  have hlook := h0.look ht (hz w) hp
  refine ⟨v0, st, setBlock w b (.map es1 clock1), hrun, ?_, kp_setBlock hb _, fun val => ?_⟩
  · obtain ⟨s1, s2, _⟩ := F.stamped
    rcases key_law'.find w hkl es.toList F.keys with ⟨h1, h2⟩ | ⟨j, e0, h1, h2, h3⟩
    · have r1 : (Instr.mapEntry t (.map (some b)) (kvp p)).run Try.prog w = .ok (.tuple #[z, goInt clock]) (setBlock w b (.map (es.push ⟨kvp p, z, clock⟩) (clock + 1))) := by
        simp [Instr.mapEntry, run_underlying ht, MapKept.run_getObj_map hb, key_law'.check w false hkl, h1, hz, MapKept.run_setObj_map _ hb, Result.andThen, setBlock]
      have r2 : (Instr.mapUpdate t (.map (some b)) (kvp p) z).run Try.prog w = .ok () (setBlock w b (.map (es.push ⟨kvp p, z, clock⟩) (clock + 1))) := by
        simp [Instr.mapUpdate, run_underlying ht, MapKept.run_getObj_map hb, key_law'.check w false hkl, h1, MapKept.run_setObj_map _ hb, Result.andThen, setBlock]
      have e1 := hrun.symm.trans r1
      injection e1 with e1 e2
      rw [e2]
      obtain ⟨w', hu, m', _⟩ := h0.upd ht hn hp z
      have e3 := hu.symm.trans r2
      injection e3 with _ e3
      subst e3
      have hfz : f p = z := by
        rcases key_law'.find w hkl es.toList F.keys with ⟨_, h4⟩ | ⟨j, e0, _, h4, h5⟩
        · have r3 : (Instr.lookup t (.map (some b)) (kvp p) false).run Try.prog w = .ok z w := by
            simp [Instr.lookup, run_underlying ht, MapKept.run_getObj_map hb, key_law'.check w es.isEmpty hkl, key_law'.check w (!es.isEmpty) hkl, key_law'.check w false hkl, h1, hz, Result.andThen]
          have e4 := hlook.symm.trans r3
          injection e4
        · exact absurd h5 (h2 e0 (List.mem_of_getElem? h4))
      have : Ytgilnhagddihcaa.upd f p z = f := by
        funext q
        by_cases hq : q = p
        · subst hq; rw [upd_same, hfz]
        · rw [upd_other _ _ hq]
      rw [this] at m'
      exact m'
    · have hj : es[j]? = some e0 := by simpa using h2
      have hsame : es.modify j (fun e => { e with key := kvp p }) = es := by
        apply Array.ext'
        rw [Array.toList_modify, modify_eq_set _ _ _ _ h2]
        have : ({ e0 with key := kvp p } : MapEntry) = e0 := by rw [← h3]
        rw [this]
        exact set_self _ _ _ h2
      have r1 : (Instr.mapEntry t (.map (some b)) (kvp p)).run Try.prog w = .ok (.tuple #[e0.val, goInt e0.born]) (setBlock w b (.map es clock)) := by
        simp [Instr.mapEntry, run_underlying ht, MapKept.run_getObj_map hb, key_law'.check w false hkl, h1, hj, h3, key_law'.stays w hkl, hsame, MapKept.run_setObj_map _ hb, Result.andThen, setBlock]
      have e1 := hrun.symm.trans r1
      injection e1 with e1 e2
      rw [e2]
      exact ⟨D, ⟨es, clock, heap_setBlock_same hb _, F, Nat.le_succ_of_le hs, hD⟩, g⟩
  · obtain ⟨es', clock', r1, r2⟩ := hst (setBlock w b (.map es1 clock1)) val (heap_setBlock_same hb _)
    refine ⟨_, r1, ?_, kp_setBlock (heap_setBlock_same hb _) _⟩
    obtain ⟨w', hu, m', _⟩ := h0.upd ht hn hp val
    have e3 := hu.symm.trans r2
    injection e3 with _ e3
    subst e3
    obtain ⟨D', ⟨es2, clock2, hb2, F2, hs2, hD2⟩, g2⟩ := m'
    refine ⟨D', ⟨es2, clock2, ?_, F2, hs2, hD2⟩, g2⟩
    rw [heap_setBlock_same hb] at hb2
    rw [heap_setBlock_same (heap_setBlock_same hb _)]
    exact hb2

def io (n : Nat) : List Int := (List.range n).map (fun j : Nat => (j : Int) + 1)
theorem io_len (n : Nat) : (io n).length = n := by simp [io]
theorem io_get (n j : Nat) (h : j < (io n).length) : (io n)[j] = (j : Int) + 1 := by simp [io]
theorem io_succ (n : Nat) : io (n + 1) = io n ++ [(n : Int) + 1] := by simp [io, List.range_succ]
theorem hl_io (n : Nat) : hl (io n) ((n : Int) + 1) = io (n + 1) := by
  have : nw (io n) ((n : Int) + 1) = true := by
    rcases Nat.eq_zero_or_pos n with h | h
    · subst h; exact nw_nil _
    · rw [nw_last _ _ (by rw [io_len]; exact h), io_get]
      simp only [io_len]
      rw [bne_iff_ne]; omega
  unfold hl
  rw [this, if_pos rfl, io_succ]

/-- What MasterApart carries. -/
structure Mk (w wr : World) (g bs bc : Nat) (k : Nat) (O : Nat → Prop) (L : Key → List Int) (S : Key → Int) : Prop where
  ms : MsAt wr g O (2 * k) L S
  ls : ∀ p, L p = io (L p).length
  st : MapAs wr bs k (.int .i64 0) (fun p => .int .i64 (S p))
  ct : MapAs wr bc k (.int .i64 0) (fun p => .int .i64 ((L p).length : Int))
  ne : bs ≠ bc
  nO : ¬ O bs ∧ ¬ O bc
  fr : ∀ i, O i → w.heap.size ≤ i
  fs : w.heap.size ≤ bs ∧ w.heap.size ≤ bc
  k : Kp0 w wr
theorem Mk.kp0 {w wr w' : World} {g bs bc k : Nat} {O : Nat → Prop} {L : Key → List Int} {S : Key → Int} (M : Mk w wr g bs bc k O L S) (K : Kp0 wr w') : Mk w w' g bs bc k O L S :=
  ⟨M.ms.kp0 K, M.ls, M.st.kp0 K, M.ct.kp0 K, M.ne, M.nO, M.fr, M.fs, M.k.then0 K⟩

/-- One update more. wa: what was found; w3: counted; w5: the state put; w6: the master heard. -/
theorem Mk.next {w wa w3 w5 w6 : World} {g bs bc k : Nat} {O O6 : Nat → Prop} {L : Key → List Int} {S : Key → Int} {p : Key} {s : Int} (M : Mk w wa g bs bc k O L S)
    (m3 : MapAs w3 bc (k + 1) (.int .i64 0) (upd (fun p => .int .i64 ((L p).length : Int)) p (.int .i64 (((L p).length : Int) + 1)))) (K3 : Kp (· = bc) wa w3)
    (m5 : MapAs w5 bs (k + 1) (.int .i64 0) (upd (fun p => .int .i64 (S p)) p (.int .i64 s))) (K5 : Kp (· = bs) w3 w5)
    (m6 : MsAt w6 g O6 (2 * k + 2) (upd L p (hl (L p) (((L p).length : Int) + 1))) (upd S p s)) (h6 : ∀ i, O6 i → O i ∨ w5.heap.size ≤ i) (K6 : Kp O w5 w6) :
    Mk w w6 g bs bc (k + 1) O6 (upd L p (hl (L p) (((L p).length : Int) + 1))) (upd S p s) := by
  have hb1 := M.st.lt
  have hb2 := M.ct.lt
  have hz3 := K3.size
  have hz5 := K5.size
  have hlp : hl (L p) (((L p).length : Int) + 1) = io ((L p).length + 1) := by rw [M.ls p, io_len, hl_io]
  have h6n : ∀ b, b < wa.heap.size → ¬ O b → ¬ O6 b := by
    intro b hb hn h
    rcases h6 b h with h | h
    · exact hn h
    · omega
  refine ⟨?_, ?_, ?_, ?_, M.ne, ⟨h6n _ hb1 M.nO.1, h6n _ hb2 M.nO.2⟩, ?_, M.fs, ?_⟩
  · have e : 2 * (k + 1) = 2 * k + 2 := by omega
    rw [e]; exact m6
  · intro q
    by_cases hq : q = p
    · subst hq; rw [upd_same, hlp, io_len]
    · rw [upd_other _ _ hq]; exact M.ls q
  · have e : (fun q => Value.int .i64 (upd S p s q)) = upd (fun q => .int .i64 (S q)) p (.int .i64 s) := by
      funext q
      by_cases hq : q = p
      · subst hq; rw [upd_same, upd_same]
      · rw [upd_other _ _ hq, upd_other _ _ hq]
    rw [e]
    exact m5.kp K6 M.nO.1
  · have e : (fun q => Value.int .i64 ((upd L p (hl (L p) (((L p).length : Int) + 1)) q).length : Int)) = upd (fun q => .int .i64 ((L q).length : Int)) p (.int .i64 (((L p).length : Int) + 1)) := by
      funext q
      by_cases hq : q = p
      · subst hq; rw [upd_same, upd_same, hlp, io_len]; simp
      · rw [upd_other _ _ hq, upd_other _ _ hq]
    rw [e]
    exact (m3.kp K5 (fun h => M.ne h.symm)).kp K6 M.nO.2
  · intro i hi
    rcases h6 i hi with h | h
    · exact M.fr i h
    · have := M.k.size; omega
  · refine ((M.k.trans K3 (fun i hi h => ?_)).trans K5 (fun i hi h => ?_)).trans K6 (fun i hi h => ?_)
    · subst h; have := M.fs.2; omega
    · subst h; have := M.fs.1; omega
    · have := M.fr i h; omega

set_option maxRecDepth 100000 in
set_option maxHeartbeats 8000000 in
theorem masterApart_c (a0 : Option Addr) (len0 cap0 : Nat) (a1 : Option Addr) (len1 cap1 : Nat) (w : World)
    (hz : ∀ j : Nat, j < len0 → ∃ b off z, a0 = some ⟨b, off, none⟩ ∧ b < w.heap.size ∧ w.cell? ⟨b, off + j, none⟩ = some (.int .i64 z)) (hc0 : len0 ≤ 9223372036854775807)
    (hy : ∀ j : Nat, j < len1 → ∃ b off z, a1 = some ⟨b, off, none⟩ ∧ b < w.heap.size ∧ w.cell? ⟨b, off + j, none⟩ = some (.int .i64 z)) (hc1 : len1 ≤ 9223372036854775807) :
    Calls Try.prog 14 #[.slice a0 len0 cap0, .slice a1 len1 cap1] w fun e' w' => e' = .returned (.bool true) ∧ Kp0 w w' := by
  have hmm := @run_makeMap Try.prog
  go_enter Try.func14, Try.ntmps14
  go_wp2_with fail
  refine (new_c _).mono ?_
  rintro e w1 ⟨g, O0, rfl, h1, hO1, hg1, K1⟩
  have M0 : Mk w ((w1.alloc (.map #[] 0)).alloc (.map #[] 0)) g w1.heap.size (w1.heap.size + 1) 0 O0 (fun _ => []) (fun _ => 0) := by
    have k1 : Kp0 w1 (w1.alloc (.map #[] 0)) := (Kp.refl _ _).alloc _
    have k2 : Kp0 (w1.alloc (.map #[] 0)) ((w1.alloc (.map #[] 0)).alloc (.map #[] 0)) := (Kp.refl _ _).alloc _
    have hs1 : (w1.alloc (.map #[] 0)).heap.size = w1.heap.size + 1 := by simp
    have a2 := MapAs.made (w1.alloc (.map #[] 0)) (.int .i64 0)
    rw [hs1] at a2
    have hw := K1.size
    exact ⟨(h1.kp0 k1).kp0 k2, fun _ => rfl, (MapAs.made w1 _).kp0 k2, a2, by omega, ⟨fun h => by have := h1.olt _ h; omega, fun h => by have := h1.olt _ h; omega⟩, hO1, ⟨by omega, by omega⟩, (K1.then0 k1).then0 k2⟩
  clear h1 hO1 hg1 K1
  generalize hb1 : w1.heap.size = bs at *
  generalize hb2 : bs + 1 = bc at *
  go_wp2_with fail
  go_loopw [8] (fun i wr => ∃ (k : Nat) (O : Nat → Prop) (L : Key → List Int) (S : Key → Int), k ≤ 24 ∧ i = .int .i64 k ∧ Mk w wr g bs bc k O L S) (fun i _ => (24 - intOf i).toNat)
  case atStart => exact ⟨0, _, _, _, by decide, rfl, M0⟩
  case round =>
    obtain ⟨k, O, L, S, hk, rfl, M⟩ := hrel
    clear M0
    go_upto_region 7 with fail
    go_cut [36] from 23 to 81 (fun s36 wx => s36 = .bool (decide (k < len0 ∧ k < len1 ∧ k < 24)) ∧ wr = wx)
    case first =>
      by_cases i1 : k < len0
      · by_cases i2 : k < len1
        · by_cases i3 : k < 24
          · go_wp2_with fail
            go_meet
            exact ⟨congrArg Value.bool (by rw [decide_eq_decide]; omega), rfl⟩
          · go_wp2_with fail
            go_meet
            exact ⟨congrArg Value.bool (by rw [decide_eq_decide]; omega), rfl⟩
        · go_wp2_with fail
          go_meet
          exact ⟨congrArg Value.bool (decide_eq_false (fun h => i2 h.2.1)).symm, rfl⟩
      · go_wp2_with fail
        go_meet
        exact ⟨congrArg Value.bool (decide_eq_false (fun h => i1 h.1)).symm, rfl⟩
    case rest =>
    obtain ⟨rfl, rfl⟩ := hcut
    by_cases hin : k < len0 ∧ k < len1 ∧ k < 24
    · rw [decide_eq_true hin]
      obtain ⟨i1, i2, i3⟩ := hin
      obtain ⟨b1, o1, z1, rfl, hb1, hcz⟩ := hz _ i1
      obtain ⟨b2, o2, z2, rfl, hb2, hcy⟩ := hy _ i2
      have cz := (M.k.below0.cell (p := ⟨b1, _, none⟩) hb1).trans hcz
      clear hcz hz hy
      go_upto_region 9 with fail
      go_cut [9] from 23 to 81 (fun s9 wx => ∃ B F T, s9 = .pointer (some ⟨B, 0, none⟩) ∧ Small (F, T) ∧ Blk wx B #[.string F, .string T] 52 ∧ wr.heap.size ≤ B ∧ Kp0 wr wx)
      case first =>
        have M0k := M.k
        clear M hcy
        have hwsz := M0k.size
        obtain ⟨zq, hzq⟩ : ∃ zq, IntKind.i64.wrap (z1.tdiv 8) = zq := ⟨_, rfl⟩
        have hq : ∃ q : Nat, q < 2 ∧ ∀ W : World, Calls Try.prog 15 #[.int .i64 zq, .int .i64 2] W fun e w' => e = .returned (.int .i64 (q : Int)) ∧ W = w' := by
          have m1 := Int.emod_nonneg zq (show (2 : Int) ≠ 0 by decide)
          have m2 := Int.emod_lt_of_pos zq (show (0 : Int) < 2 by decide)
          exact ⟨(zq % 2).toNat, by omega, fun W => (within_c _ 2 (by decide) (by decide) W).mono fun _ _ h => ⟨by rw [h.1, Int.toNat_of_nonneg m1], h.2⟩⟩
        obtain ⟨q, hq0, hq⟩ := hq
        have hq1 : (q : Int) < 2 := by omega
        have hq2 : (0 : Int) ≤ (q : Int) := by omega
        obtain ⟨Fq, hFs, hFq⟩ : ∃ Fq : ByteArray, Fq.size ≤ 100 ∧ ∀ W D T, Blk W D #[.string ⟨#[102]⟩, .string ⟨#[103]⟩] T → W.cell? ⟨D, q, none⟩ = some (.string Fq) := by
          obtain rfl | rfl : q = 0 ∨ q = 1 := by omega
          · exact ⟨⟨#[102]⟩, by show (1 : Nat) ≤ 100; omega, fun W D T h => h.cell 0⟩
          · exact ⟨⟨#[103]⟩, by show (1 : Nat) ≤ 100; omega, fun W D T h => h.cell 1⟩
        have ht := task_c z1
        have hts := tk_size (z1 % 8)
        generalize tk (z1 % 8) = T at ht hts
        have hS : ∀ W, Kp0 wr W → W.cell? ⟨b1, o1 + k, none⟩ = some (.int .i64 z1) := fun W K => (K.below0.cell (p := ⟨b1, _, none⟩) (Nat.lt_of_lt_of_le hb1 hwsz)).trans cz
        clear cz
        refine heldStart (by kernel_rfl) (fun W kx => hS _ kx) (fun W0 k0_0 hH0 => ?_)
        have zz0 := k0_0.size
        refine wpAnyH_take (i := 1) (v := ?_) rfl (by kernel_rfl) (by kernel_rfl) (by kernel_rfl) (fun _ _ _ h => h) (Or.inl ⟨by rfl, ?_⟩) hH0 ?_
        rotate_left
        · (intro w hSw; (try dsimp only at hSw); go_simp); first | done | with_reducible rfl
        rotate_left
        try simp only [Act.put, List.setIfInBounds_toArray, List.set_cons_zero, List.set_cons_succ]
        refine wpAnyH_take (i := 2) (v := ?_) rfl (by kernel_rfl) (by kernel_rfl) (by kernel_rfl) (fun _ _ _ h => h) (Or.inl ⟨by rfl, ?_⟩) hH0 ?_
        rotate_left
        · (intro w hSw; (try dsimp only at hSw); go_simp); first | done | with_reducible rfl
        rotate_left
        try simp only [Act.put, List.setIfInBounds_toArray, List.set_cons_zero, List.set_cons_succ]
        refine wpAnyH_take (i := 3) (v := ?_) rfl (by kernel_rfl) (by kernel_rfl) (by kernel_rfl) (fun _ _ _ h => h) (Or.inl ⟨by rfl, ?_⟩) hH0 ?_
        rotate_left
        · (intro w hSw; (try dsimp only at hSw); go_simp); first | done | with_reducible rfl
        rotate_left
        try simp only [Act.put, List.setIfInBounds_toArray, List.set_cons_zero, List.set_cons_succ]
        refine wpAnyH_take (i := 4) (v := ?_) rfl (by kernel_rfl) (by kernel_rfl) (by kernel_rfl) (fun _ _ _ h => h) (Or.inl ⟨by rfl, ?_⟩) hH0 ?_
        rotate_left
        · (intro w hSw; (try dsimp only at hSw); go_simp); first | done | with_reducible rfl
        rotate_left
        try simp only [Act.put, List.setIfInBounds_toArray, List.set_cons_zero, List.set_cons_succ]
        refine wpAnyH_take (i := 5) (v := ?_) rfl (by kernel_rfl) (by kernel_rfl) (by kernel_rfl) (fun _ _ _ h => h) (Or.inl ⟨by rfl, ?_⟩) hH0 ?_
        rotate_left
        · (intro w hSw; (try dsimp only at hSw); go_simp); first | done | with_reducible rfl
        rotate_left
        try simp only [Act.put, List.setIfInBounds_toArray, List.set_cons_zero, List.set_cons_succ]
        refine wpAnyH_take (i := 9) (v := ?_) rfl (by kernel_rfl) (by kernel_rfl) (by kernel_rfl) (fun _ _ _ h => h) (Or.inl ⟨by rfl, ?_⟩) hH0 ?_
        rotate_left
        · (intro w hSw; (try dsimp only at hSw); go_simp); first | done | with_reducible rfl
        rotate_left
        try simp only [Act.put, List.setIfInBounds_toArray, List.set_cons_zero, List.set_cons_succ]
        refine wpAnyH_take (i := 10) (v := ?_) rfl (by kernel_rfl) (by kernel_rfl) (by kernel_rfl) (fun _ _ _ h => h) (Or.inl ⟨by rfl, ?_⟩) hH0 ?_
        rotate_left
        · (intro w hSw; (try dsimp only at hSw); go_simp); first | done | with_reducible rfl
        rotate_left
        try simp only [Act.put, List.setIfInBounds_toArray, List.set_cons_zero, List.set_cons_succ]
        refine wpAnyH_take (i := 11) (v := ?_) rfl (by kernel_rfl) (by kernel_rfl) (by kernel_rfl) (fun _ _ _ h => h) (Or.inl ⟨by rfl, ?_⟩) hH0 ?_
        rotate_left
        · (intro w hSw; (try dsimp only at hSw); go_simp); first | done | with_reducible rfl
        rotate_left
        try simp only [Act.put, List.setIfInBounds_toArray, List.set_cons_zero, List.set_cons_succ]
        refine wpAnyH_take (i := 12) (v := ?_) rfl (by kernel_rfl) (by kernel_rfl) (by kernel_rfl) (fun _ _ _ h => h) (Or.inl ⟨by rfl, ?_⟩) hH0 ?_
        rotate_left
        · (intro w hSw; (try dsimp only at hSw); go_simp); first | done | with_reducible rfl
        rotate_left
        try simp only [Act.put, List.setIfInBounds_toArray, List.set_cons_zero, List.set_cons_succ]
        refine wpAnyH_ready (rs := [0, 6, 15]) (by kernel_rfl) (by simp) ?_
        refine (AllReadyH.cons rfl (fun K hK => ?_) (AllReadyH.cons rfl (fun K hK => ?_) (AllReadyH.cons rfl (fun K hK => ?_) AllReadyH.nil)))
        · go_simp
          refine heldAlloc hK.out (fun W kx bx => (hS _ (k0_0.then0 kx))) (fun W1 kx1 bx1 hH1 => ?_)
          clear hK K
          have k1_0 := k0_0.then0 kx1
          have zz1 : W0.heap.size < W1.heap.size := bx1.lt
          have hx1 : ∀ W, Kp0 W1 W → W.cell? ⟨W0.heap.size, q, none⟩ = some (.string Fq) := fun W kz => hFq _ _ _ (bx1.kp0 kz)
          have kr1 : Kp0 W1 W1 := Kp.refl _ _
          refine wpAnyH_add (X := fun W => W.cell? ⟨W0.heap.size, q, none⟩ = some (.string Fq)) ?_
          have hG1 := And.intro hH1 (hx1 _ kr1)
          refine wpAnyH_ready (rs := [6, 15]) (by kernel_rfl) (by simp) ?_
          refine (AllReadyH.cons rfl (fun K hK => ?_) (AllReadyH.cons rfl (fun K hK => ?_) AllReadyH.nil))
          · go_simp
            go_wp2_with (go_at_call 15; refine (hq _).mono ?_; rintro e w' ⟨rfl, rfl⟩)
            refine hK.out _ _ hG1 (fun hH2 => ?_)
            clear hK K
            try simp only [Act.put, List.setIfInBounds_toArray, List.set_cons_zero, List.set_cons_succ]
            refine wpAnyH_take (i := 7) (v := ?_) rfl (by kernel_rfl) (by kernel_rfl) (by kernel_rfl) (fun _ _ _ h => h) (Or.inl ⟨by rfl, ?_⟩) hH2 ?_
            rotate_left
            · (intro w hSw; (try dsimp only at hSw); go_simp); first | done | with_reducible rfl
            rotate_left
            try simp only [Act.put, List.setIfInBounds_toArray, List.set_cons_zero, List.set_cons_succ]
            refine wpAnyH_take (i := 8) (v := ?_) rfl (by kernel_rfl) (by kernel_rfl) (by kernel_rfl) (fun _ _ _ h => h) (Or.inl ⟨by rfl, ?_⟩) hH2 ?_
            rotate_left
            · (intro w hSw; (try dsimp only at hSw); go_simp); first | done | with_reducible rfl
            rotate_left
            try simp only [Act.put, List.setIfInBounds_toArray, List.set_cons_zero, List.set_cons_succ]
            refine wpAnyH_ready (rs := [13, 15]) (by kernel_rfl) (by simp) ?_
            refine (AllReadyH.cons rfl (fun K hK => ?_) (AllReadyH.cons rfl (fun K hK => ?_) AllReadyH.nil))
            · go_simp
              go_wp2_with (go_at_call 43; refine (ht _).mono ?_; rintro e W3 ⟨rfl, kc3⟩)
              have k3_0 := k1_0.then0 kc3
              have k3_1 := kr1.then0 kc3
              have zz3 : W1.heap.size ≤ W3.heap.size := kc3.size
              refine hK.out _ _ ⟨(hS _ k3_0), hx1 _ k3_1⟩ (fun hH3 => ?_)
              clear hK K
              try simp only [Act.put, List.setIfInBounds_toArray, List.set_cons_zero, List.set_cons_succ]
              refine wpAnyH_take (i := 14) (v := ?_) rfl (by kernel_rfl) (by kernel_rfl) (by kernel_rfl) (fun _ _ _ h => h) (Or.inl ⟨by rfl, ?_⟩) hH3 ?_
              rotate_left
              · (intro w hSw; (try dsimp only at hSw); go_simp); first | done | with_reducible rfl
              rotate_left
              try simp only [Act.put, List.setIfInBounds_toArray, List.set_cons_zero, List.set_cons_succ]
              refine wpAnyH_ready (rs := [15]) (by kernel_rfl) (by simp) ?_
              refine (AllReadyH.cons rfl (fun K hK => ?_) AllReadyH.nil)
              go_simp
              refine heldAlloc hK.out (fun W kx bx => ⟨(hS _ (k3_0.then0 kx)), hx1 _ (k3_1.then0 kx)⟩) (fun W4 kx4 bx4 hH4 => ?_)
              clear hK K
              have k4_0 := k3_0.then0 kx4
              have k4_1 := k3_1.then0 kx4
              have zz4 : W3.heap.size < W4.heap.size := bx4.lt
              refine wpAnyH_ready (rs := [16]) (by kernel_rfl) (by simp) ?_
              refine (AllReadyH.cons rfl (fun K hK => ?_) AllReadyH.nil)
              have s0 := bx4.cell 0
              have f0 := bx4.free 0
              have s1 := bx4.cell 1
              have f1 := bx4.free 1
              simp at s0 s1
              go_simp
              refine hK.out _ _ ⟨(far2 (hS _ k4_0) (by omega)), (far2 (hx1 _ k4_1) (by omega))⟩ (fun hH5 => ?_)
              clear hK K
              refine wpAnyH_done (by kernel_rfl) ?_ _
              go_wp2_with fail
              go_meet
              exact ⟨W3.heap.size, Fq, T, rfl, ⟨hFs, hts⟩, by simpa using (bx4.set 0 (.string Fq)).set 1 (.string T), by omega, (k4_0.setCell (p := ⟨W3.heap.size, 0, none⟩) (fun h => by simp at h; omega) _).setCell (p := ⟨W3.heap.size, 1, none⟩) (fun h => by simp at h; omega) _⟩
            · go_simp
              refine heldAlloc hK.out (fun W kx bx => ⟨(hS _ (k1_0.then0 kx)), hx1 _ (kr1.then0 kx)⟩) (fun W3 kx3 bx3 hH3 => ?_)
              clear hK K
              have k3_0 := k1_0.then0 kx3
              have k3_1 := kr1.then0 kx3
              have zz3 : W1.heap.size < W3.heap.size := bx3.lt
              refine wpAnyH_ready (rs := [13]) (by kernel_rfl) (by simp) ?_
              refine (AllReadyH.cons rfl (fun K hK => ?_) AllReadyH.nil)
              go_simp
              go_wp2_with (go_at_call 43; refine (ht _).mono ?_; rintro e W4 ⟨rfl, kc4⟩)
              have k4_0 := k3_0.then0 kc4
              have k4_1 := k3_1.then0 kc4
              have zz4 : W3.heap.size ≤ W4.heap.size := kc4.size
              refine hK.out _ _ ⟨(hS _ k4_0), hx1 _ k4_1⟩ (fun hH4 => ?_)
              clear hK K
              try simp only [Act.put, List.setIfInBounds_toArray, List.set_cons_zero, List.set_cons_succ]
              have bb_4 := bx3.kp0 kc4
              refine wpAnyH_take (i := 14) (v := ?_) rfl (by kernel_rfl) (by kernel_rfl) (by kernel_rfl) (fun _ _ _ h => h) (Or.inl ⟨by rfl, ?_⟩) hH4 ?_
              rotate_left
              · (intro w hSw; (try dsimp only at hSw); go_simp); first | done | with_reducible rfl
              rotate_left
              try simp only [Act.put, List.setIfInBounds_toArray, List.set_cons_zero, List.set_cons_succ]
              refine wpAnyH_ready (rs := [16]) (by kernel_rfl) (by simp) ?_
              refine (AllReadyH.cons rfl (fun K hK => ?_) AllReadyH.nil)
              have s0 := bb_4.cell 0
              have f0 := bb_4.free 0
              have s1 := bb_4.cell 1
              have f1 := bb_4.free 1
              simp at s0 s1
              go_simp
              refine hK.out _ _ ⟨(far2 (hS _ k4_0) (by omega)), (far2 (hx1 _ k4_1) (by omega))⟩ (fun hH5 => ?_)
              clear hK K
              refine wpAnyH_done (by kernel_rfl) ?_ _
              go_wp2_with fail
              go_meet
              exact ⟨W1.heap.size, Fq, T, rfl, ⟨hFs, hts⟩, by simpa using (bb_4.set 0 (.string Fq)).set 1 (.string T), by omega, (k4_0.setCell (p := ⟨W1.heap.size, 0, none⟩) (fun h => by simp at h; omega) _).setCell (p := ⟨W1.heap.size, 1, none⟩) (fun h => by simp at h; omega) _⟩
          · go_simp
            refine heldAlloc hK.out (fun W kx bx => ⟨(hS _ (k1_0.then0 kx)), hx1 _ (kr1.then0 kx)⟩) (fun W2 kx2 bx2 hH2 => ?_)
            clear hK K
            have k2_0 := k1_0.then0 kx2
            have k2_1 := kr1.then0 kx2
            have zz2 : W1.heap.size < W2.heap.size := bx2.lt
            refine wpAnyH_ready (rs := [6]) (by kernel_rfl) (by simp) ?_
            refine (AllReadyH.cons rfl (fun K hK => ?_) AllReadyH.nil)
            go_simp
            go_wp2_with (go_at_call 15; refine (hq _).mono ?_; rintro e w' ⟨rfl, rfl⟩)
            refine hK.out _ _ hH2 (fun hH3 => ?_)
            clear hK K
            try simp only [Act.put, List.setIfInBounds_toArray, List.set_cons_zero, List.set_cons_succ]
            refine wpAnyH_take (i := 7) (v := ?_) rfl (by kernel_rfl) (by kernel_rfl) (by kernel_rfl) (fun _ _ _ h => h) (Or.inl ⟨by rfl, ?_⟩) hH3 ?_
            rotate_left
            · (intro w hSw; (try dsimp only at hSw); go_simp); first | done | with_reducible rfl
            rotate_left
            try simp only [Act.put, List.setIfInBounds_toArray, List.set_cons_zero, List.set_cons_succ]
            refine wpAnyH_take (i := 8) (v := ?_) rfl (by kernel_rfl) (by kernel_rfl) (by kernel_rfl) (fun _ _ _ h => h) (Or.inl ⟨by rfl, ?_⟩) hH3 ?_
            rotate_left
            · (intro w hSw; (try dsimp only at hSw); go_simp); first | done | with_reducible rfl
            rotate_left
            try simp only [Act.put, List.setIfInBounds_toArray, List.set_cons_zero, List.set_cons_succ]
            refine wpAnyH_ready (rs := [13]) (by kernel_rfl) (by simp) ?_
            refine (AllReadyH.cons rfl (fun K hK => ?_) AllReadyH.nil)
            go_simp
            go_wp2_with (go_at_call 43; refine (ht _).mono ?_; rintro e W4 ⟨rfl, kc4⟩)
            have k4_0 := k2_0.then0 kc4
            have k4_1 := k2_1.then0 kc4
            have zz4 : W2.heap.size ≤ W4.heap.size := kc4.size
            refine hK.out _ _ ⟨(hS _ k4_0), hx1 _ k4_1⟩ (fun hH4 => ?_)
            clear hK K
            try simp only [Act.put, List.setIfInBounds_toArray, List.set_cons_zero, List.set_cons_succ]
            have bb_4 := bx2.kp0 kc4
            refine wpAnyH_take (i := 14) (v := ?_) rfl (by kernel_rfl) (by kernel_rfl) (by kernel_rfl) (fun _ _ _ h => h) (Or.inl ⟨by rfl, ?_⟩) hH4 ?_
            rotate_left
            · (intro w hSw; (try dsimp only at hSw); go_simp); first | done | with_reducible rfl
            rotate_left
            try simp only [Act.put, List.setIfInBounds_toArray, List.set_cons_zero, List.set_cons_succ]
            refine wpAnyH_ready (rs := [16]) (by kernel_rfl) (by simp) ?_
            refine (AllReadyH.cons rfl (fun K hK => ?_) AllReadyH.nil)
            have s0 := bb_4.cell 0
            have f0 := bb_4.free 0
            have s1 := bb_4.cell 1
            have f1 := bb_4.free 1
            simp at s0 s1
            go_simp
            refine hK.out _ _ ⟨(far2 (hS _ k4_0) (by omega)), (far2 (hx1 _ k4_1) (by omega))⟩ (fun hH5 => ?_)
            clear hK K
            refine wpAnyH_done (by kernel_rfl) ?_ _
            go_wp2_with fail
            go_meet
            exact ⟨W1.heap.size, Fq, T, rfl, ⟨hFs, hts⟩, by simpa using (bb_4.set 0 (.string Fq)).set 1 (.string T), by omega, (k4_0.setCell (p := ⟨W1.heap.size, 0, none⟩) (fun h => by simp at h; omega) _).setCell (p := ⟨W1.heap.size, 1, none⟩) (fun h => by simp at h; omega) _⟩
        · go_simp
          go_wp2_with (go_at_call 15; refine (hq _).mono ?_; rintro e w' ⟨rfl, rfl⟩)
          refine hK.out _ _ hH0 (fun hH1 => ?_)
          clear hK K
          try simp only [Act.put, List.setIfInBounds_toArray, List.set_cons_zero, List.set_cons_succ]
          refine wpAnyH_ready (rs := [0, 13, 15]) (by kernel_rfl) (by simp) ?_
          refine (AllReadyH.cons rfl (fun K hK => ?_) (AllReadyH.cons rfl (fun K hK => ?_) (AllReadyH.cons rfl (fun K hK => ?_) AllReadyH.nil)))
          · go_simp
            refine heldAlloc hK.out (fun W kx bx => (hS _ (k0_0.then0 kx))) (fun W2 kx2 bx2 hH2 => ?_)
            clear hK K
            have k2_0 := k0_0.then0 kx2
            have zz2 : W0.heap.size < W2.heap.size := bx2.lt
            have hx2 : ∀ W, Kp0 W2 W → W.cell? ⟨W0.heap.size, q, none⟩ = some (.string Fq) := fun W kz => hFq _ _ _ (bx2.kp0 kz)
            have kr2 : Kp0 W2 W2 := Kp.refl _ _
            refine wpAnyH_add (X := fun W => W.cell? ⟨W0.heap.size, q, none⟩ = some (.string Fq)) ?_
            have hG2 := And.intro hH2 (hx2 _ kr2)
            refine wpAnyH_take (i := 7) (v := ?_) rfl (by kernel_rfl) (by kernel_rfl) (by kernel_rfl) (fun _ _ _ h => h) (Or.inl ⟨by rfl, ?_⟩) hG2 ?_
            rotate_left
            · (intro w hSw; (try dsimp only at hSw); go_simp); first | done | with_reducible rfl
            rotate_left
            try simp only [Act.put, List.setIfInBounds_toArray, List.set_cons_zero, List.set_cons_succ]
            refine wpAnyH_take (i := 8) (v := ?_) rfl (by kernel_rfl) (by kernel_rfl) (by kernel_rfl) (fun _ _ _ h => h) (Or.inl ⟨by rfl, ?_⟩) hG2 ?_
            rotate_left
            · (intro w hSw; (try dsimp only at hSw); go_simp); first | done | with_reducible rfl
            rotate_left
            try simp only [Act.put, List.setIfInBounds_toArray, List.set_cons_zero, List.set_cons_succ]
            refine wpAnyH_ready (rs := [13, 15]) (by kernel_rfl) (by simp) ?_
            refine (AllReadyH.cons rfl (fun K hK => ?_) (AllReadyH.cons rfl (fun K hK => ?_) AllReadyH.nil))
            · go_simp
              go_wp2_with (go_at_call 43; refine (ht _).mono ?_; rintro e W3 ⟨rfl, kc3⟩)
              have k3_0 := k2_0.then0 kc3
              have k3_1 := kr2.then0 kc3
              have zz3 : W2.heap.size ≤ W3.heap.size := kc3.size
              refine hK.out _ _ ⟨(hS _ k3_0), hx2 _ k3_1⟩ (fun hH3 => ?_)
              clear hK K
              try simp only [Act.put, List.setIfInBounds_toArray, List.set_cons_zero, List.set_cons_succ]
              refine wpAnyH_take (i := 14) (v := ?_) rfl (by kernel_rfl) (by kernel_rfl) (by kernel_rfl) (fun _ _ _ h => h) (Or.inl ⟨by rfl, ?_⟩) hH3 ?_
              rotate_left
              · (intro w hSw; (try dsimp only at hSw); go_simp); first | done | with_reducible rfl
              rotate_left
              try simp only [Act.put, List.setIfInBounds_toArray, List.set_cons_zero, List.set_cons_succ]
              refine wpAnyH_ready (rs := [15]) (by kernel_rfl) (by simp) ?_
              refine (AllReadyH.cons rfl (fun K hK => ?_) AllReadyH.nil)
              go_simp
              refine heldAlloc hK.out (fun W kx bx => ⟨(hS _ (k3_0.then0 kx)), hx2 _ (k3_1.then0 kx)⟩) (fun W4 kx4 bx4 hH4 => ?_)
              clear hK K
              have k4_0 := k3_0.then0 kx4
              have k4_1 := k3_1.then0 kx4
              have zz4 : W3.heap.size < W4.heap.size := bx4.lt
              refine wpAnyH_ready (rs := [16]) (by kernel_rfl) (by simp) ?_
              refine (AllReadyH.cons rfl (fun K hK => ?_) AllReadyH.nil)
              have s0 := bx4.cell 0
              have f0 := bx4.free 0
              have s1 := bx4.cell 1
              have f1 := bx4.free 1
              simp at s0 s1
              go_simp
              refine hK.out _ _ ⟨(far2 (hS _ k4_0) (by omega)), (far2 (hx2 _ k4_1) (by omega))⟩ (fun hH5 => ?_)
              clear hK K
              refine wpAnyH_done (by kernel_rfl) ?_ _
              go_wp2_with fail
              go_meet
              exact ⟨W3.heap.size, Fq, T, rfl, ⟨hFs, hts⟩, by simpa using (bx4.set 0 (.string Fq)).set 1 (.string T), by omega, (k4_0.setCell (p := ⟨W3.heap.size, 0, none⟩) (fun h => by simp at h; omega) _).setCell (p := ⟨W3.heap.size, 1, none⟩) (fun h => by simp at h; omega) _⟩
            · go_simp
              refine heldAlloc hK.out (fun W kx bx => ⟨(hS _ (k2_0.then0 kx)), hx2 _ (kr2.then0 kx)⟩) (fun W3 kx3 bx3 hH3 => ?_)
              clear hK K
              have k3_0 := k2_0.then0 kx3
              have k3_1 := kr2.then0 kx3
              have zz3 : W2.heap.size < W3.heap.size := bx3.lt
              refine wpAnyH_ready (rs := [13]) (by kernel_rfl) (by simp) ?_
              refine (AllReadyH.cons rfl (fun K hK => ?_) AllReadyH.nil)
              go_simp
              go_wp2_with (go_at_call 43; refine (ht _).mono ?_; rintro e W4 ⟨rfl, kc4⟩)
              have k4_0 := k3_0.then0 kc4
              have k4_1 := k3_1.then0 kc4
              have zz4 : W3.heap.size ≤ W4.heap.size := kc4.size
              refine hK.out _ _ ⟨(hS _ k4_0), hx2 _ k4_1⟩ (fun hH4 => ?_)
              clear hK K
              try simp only [Act.put, List.setIfInBounds_toArray, List.set_cons_zero, List.set_cons_succ]
              have bb_4 := bx3.kp0 kc4
              refine wpAnyH_take (i := 14) (v := ?_) rfl (by kernel_rfl) (by kernel_rfl) (by kernel_rfl) (fun _ _ _ h => h) (Or.inl ⟨by rfl, ?_⟩) hH4 ?_
              rotate_left
              · (intro w hSw; (try dsimp only at hSw); go_simp); first | done | with_reducible rfl
              rotate_left
              try simp only [Act.put, List.setIfInBounds_toArray, List.set_cons_zero, List.set_cons_succ]
              refine wpAnyH_ready (rs := [16]) (by kernel_rfl) (by simp) ?_
              refine (AllReadyH.cons rfl (fun K hK => ?_) AllReadyH.nil)
              have s0 := bb_4.cell 0
              have f0 := bb_4.free 0
              have s1 := bb_4.cell 1
              have f1 := bb_4.free 1
              simp at s0 s1
              go_simp
              refine hK.out _ _ ⟨(far2 (hS _ k4_0) (by omega)), (far2 (hx2 _ k4_1) (by omega))⟩ (fun hH5 => ?_)
              clear hK K
              refine wpAnyH_done (by kernel_rfl) ?_ _
              go_wp2_with fail
              go_meet
              exact ⟨W2.heap.size, Fq, T, rfl, ⟨hFs, hts⟩, by simpa using (bb_4.set 0 (.string Fq)).set 1 (.string T), by omega, (k4_0.setCell (p := ⟨W2.heap.size, 0, none⟩) (fun h => by simp at h; omega) _).setCell (p := ⟨W2.heap.size, 1, none⟩) (fun h => by simp at h; omega) _⟩
          · go_simp
            go_wp2_with (go_at_call 43; refine (ht _).mono ?_; rintro e W2 ⟨rfl, kc2⟩)
            have k2_0 := k0_0.then0 kc2
            have zz2 : W0.heap.size ≤ W2.heap.size := kc2.size
            refine hK.out _ _ (hS _ k2_0) (fun hH2 => ?_)
            clear hK K
            try simp only [Act.put, List.setIfInBounds_toArray, List.set_cons_zero, List.set_cons_succ]
            refine wpAnyH_ready (rs := [0, 15]) (by kernel_rfl) (by simp) ?_
            refine (AllReadyH.cons rfl (fun K hK => ?_) (AllReadyH.cons rfl (fun K hK => ?_) AllReadyH.nil))
            · go_simp
              refine heldAlloc hK.out (fun W kx bx => (hS _ (k2_0.then0 kx))) (fun W3 kx3 bx3 hH3 => ?_)
              clear hK K
              have k3_0 := k2_0.then0 kx3
              have zz3 : W2.heap.size < W3.heap.size := bx3.lt
              have hx3 : ∀ W, Kp0 W3 W → W.cell? ⟨W2.heap.size, q, none⟩ = some (.string Fq) := fun W kz => hFq _ _ _ (bx3.kp0 kz)
              have kr3 : Kp0 W3 W3 := Kp.refl _ _
              refine wpAnyH_add (X := fun W => W.cell? ⟨W2.heap.size, q, none⟩ = some (.string Fq)) ?_
              have hG3 := And.intro hH3 (hx3 _ kr3)
              refine wpAnyH_take (i := 7) (v := ?_) rfl (by kernel_rfl) (by kernel_rfl) (by kernel_rfl) (fun _ _ _ h => h) (Or.inl ⟨by rfl, ?_⟩) hG3 ?_
              rotate_left
              · (intro w hSw; (try dsimp only at hSw); go_simp); first | done | with_reducible rfl
              rotate_left
              try simp only [Act.put, List.setIfInBounds_toArray, List.set_cons_zero, List.set_cons_succ]
              refine wpAnyH_take (i := 8) (v := ?_) rfl (by kernel_rfl) (by kernel_rfl) (by kernel_rfl) (fun _ _ _ h => h) (Or.inl ⟨by rfl, ?_⟩) hG3 ?_
              rotate_left
              · (intro w hSw; (try dsimp only at hSw); go_simp); first | done | with_reducible rfl
              rotate_left
              try simp only [Act.put, List.setIfInBounds_toArray, List.set_cons_zero, List.set_cons_succ]
              refine wpAnyH_take (i := 14) (v := ?_) rfl (by kernel_rfl) (by kernel_rfl) (by kernel_rfl) (fun _ _ _ h => h) (Or.inl ⟨by rfl, ?_⟩) hG3 ?_
              rotate_left
              · (intro w hSw; (try dsimp only at hSw); go_simp); first | done | with_reducible rfl
              rotate_left
              try simp only [Act.put, List.setIfInBounds_toArray, List.set_cons_zero, List.set_cons_succ]
              refine wpAnyH_ready (rs := [15]) (by kernel_rfl) (by simp) ?_
              refine (AllReadyH.cons rfl (fun K hK => ?_) AllReadyH.nil)
              go_simp
              refine heldAlloc hK.out (fun W kx bx => ⟨(hS _ (k3_0.then0 kx)), hx3 _ (kr3.then0 kx)⟩) (fun W4 kx4 bx4 hH4 => ?_)
              clear hK K
              have k4_0 := k3_0.then0 kx4
              have k4_1 := kr3.then0 kx4
              have zz4 : W3.heap.size < W4.heap.size := bx4.lt
              refine wpAnyH_ready (rs := [16]) (by kernel_rfl) (by simp) ?_
              refine (AllReadyH.cons rfl (fun K hK => ?_) AllReadyH.nil)
              have s0 := bx4.cell 0
              have f0 := bx4.free 0
              have s1 := bx4.cell 1
              have f1 := bx4.free 1
              simp at s0 s1
              go_simp
              refine hK.out _ _ ⟨(far2 (hS _ k4_0) (by omega)), (far2 (hx3 _ k4_1) (by omega))⟩ (fun hH5 => ?_)
              clear hK K
              refine wpAnyH_done (by kernel_rfl) ?_ _
              go_wp2_with fail
              go_meet
              exact ⟨W3.heap.size, Fq, T, rfl, ⟨hFs, hts⟩, by simpa using (bx4.set 0 (.string Fq)).set 1 (.string T), by omega, (k4_0.setCell (p := ⟨W3.heap.size, 0, none⟩) (fun h => by simp at h; omega) _).setCell (p := ⟨W3.heap.size, 1, none⟩) (fun h => by simp at h; omega) _⟩
            · go_simp
              refine heldAlloc hK.out (fun W kx bx => (hS _ (k2_0.then0 kx))) (fun W3 kx3 bx3 hH3 => ?_)
              clear hK K
              have k3_0 := k2_0.then0 kx3
              have zz3 : W2.heap.size < W3.heap.size := bx3.lt
              refine wpAnyH_ready (rs := [0]) (by kernel_rfl) (by simp) ?_
              refine (AllReadyH.cons rfl (fun K hK => ?_) AllReadyH.nil)
              go_simp
              refine heldAlloc hK.out (fun W kx bx => (hS _ (k3_0.then0 kx))) (fun W4 kx4 bx4 hH4 => ?_)
              clear hK K
              have k4_0 := k3_0.then0 kx4
              have zz4 : W3.heap.size < W4.heap.size := bx4.lt
              have bb_4 := bx3.kp0 kx4
              have hx4 : ∀ W, Kp0 W4 W → W.cell? ⟨W3.heap.size, q, none⟩ = some (.string Fq) := fun W kz => hFq _ _ _ (bx4.kp0 kz)
              have kr4 : Kp0 W4 W4 := Kp.refl _ _
              refine wpAnyH_add (X := fun W => W.cell? ⟨W3.heap.size, q, none⟩ = some (.string Fq)) ?_
              have hG4 := And.intro hH4 (hx4 _ kr4)
              refine wpAnyH_take (i := 7) (v := ?_) rfl (by kernel_rfl) (by kernel_rfl) (by kernel_rfl) (fun _ _ _ h => h) (Or.inl ⟨by rfl, ?_⟩) hG4 ?_
              rotate_left
              · (intro w hSw; (try dsimp only at hSw); go_simp); first | done | with_reducible rfl
              rotate_left
              try simp only [Act.put, List.setIfInBounds_toArray, List.set_cons_zero, List.set_cons_succ]
              refine wpAnyH_take (i := 8) (v := ?_) rfl (by kernel_rfl) (by kernel_rfl) (by kernel_rfl) (fun _ _ _ h => h) (Or.inl ⟨by rfl, ?_⟩) hG4 ?_
              rotate_left
              · (intro w hSw; (try dsimp only at hSw); go_simp); first | done | with_reducible rfl
              rotate_left
              try simp only [Act.put, List.setIfInBounds_toArray, List.set_cons_zero, List.set_cons_succ]
              refine wpAnyH_take (i := 14) (v := ?_) rfl (by kernel_rfl) (by kernel_rfl) (by kernel_rfl) (fun _ _ _ h => h) (Or.inl ⟨by rfl, ?_⟩) hG4 ?_
              rotate_left
              · (intro w hSw; (try dsimp only at hSw); go_simp); first | done | with_reducible rfl
              rotate_left
              try simp only [Act.put, List.setIfInBounds_toArray, List.set_cons_zero, List.set_cons_succ]
              refine wpAnyH_ready (rs := [16]) (by kernel_rfl) (by simp) ?_
              refine (AllReadyH.cons rfl (fun K hK => ?_) AllReadyH.nil)
              have s0 := bb_4.cell 0
              have f0 := bb_4.free 0
              have s1 := bb_4.cell 1
              have f1 := bb_4.free 1
              simp at s0 s1
              go_simp
              refine hK.out _ _ ⟨(far2 (hS _ k4_0) (by omega)), (far2 (hx4 _ kr4) (by omega))⟩ (fun hH5 => ?_)
              clear hK K
              refine wpAnyH_done (by kernel_rfl) ?_ _
              go_wp2_with fail
              go_meet
              exact ⟨W2.heap.size, Fq, T, rfl, ⟨hFs, hts⟩, by simpa using (bb_4.set 0 (.string Fq)).set 1 (.string T), by omega, (k4_0.setCell (p := ⟨W2.heap.size, 0, none⟩) (fun h => by simp at h; omega) _).setCell (p := ⟨W2.heap.size, 1, none⟩) (fun h => by simp at h; omega) _⟩
          · go_simp
            refine heldAlloc hK.out (fun W kx bx => (hS _ (k0_0.then0 kx))) (fun W2 kx2 bx2 hH2 => ?_)
            clear hK K
            have k2_0 := k0_0.then0 kx2
            have zz2 : W0.heap.size < W2.heap.size := bx2.lt
            refine wpAnyH_ready (rs := [0, 13]) (by kernel_rfl) (by simp) ?_
            refine (AllReadyH.cons rfl (fun K hK => ?_) (AllReadyH.cons rfl (fun K hK => ?_) AllReadyH.nil))
            · go_simp
              refine heldAlloc hK.out (fun W kx bx => (hS _ (k2_0.then0 kx))) (fun W3 kx3 bx3 hH3 => ?_)
              clear hK K
              have k3_0 := k2_0.then0 kx3
              have zz3 : W2.heap.size < W3.heap.size := bx3.lt
              have bb_3 := bx2.kp0 kx3
              have hx3 : ∀ W, Kp0 W3 W → W.cell? ⟨W2.heap.size, q, none⟩ = some (.string Fq) := fun W kz => hFq _ _ _ (bx3.kp0 kz)
              have kr3 : Kp0 W3 W3 := Kp.refl _ _
              refine wpAnyH_add (X := fun W => W.cell? ⟨W2.heap.size, q, none⟩ = some (.string Fq)) ?_
              have hG3 := And.intro hH3 (hx3 _ kr3)
              refine wpAnyH_take (i := 7) (v := ?_) rfl (by kernel_rfl) (by kernel_rfl) (by kernel_rfl) (fun _ _ _ h => h) (Or.inl ⟨by rfl, ?_⟩) hG3 ?_
              rotate_left
              · (intro w hSw; (try dsimp only at hSw); go_simp); first | done | with_reducible rfl
              rotate_left
              try simp only [Act.put, List.setIfInBounds_toArray, List.set_cons_zero, List.set_cons_succ]
              refine wpAnyH_take (i := 8) (v := ?_) rfl (by kernel_rfl) (by kernel_rfl) (by kernel_rfl) (fun _ _ _ h => h) (Or.inl ⟨by rfl, ?_⟩) hG3 ?_
              rotate_left
              · (intro w hSw; (try dsimp only at hSw); go_simp); first | done | with_reducible rfl
              rotate_left
              try simp only [Act.put, List.setIfInBounds_toArray, List.set_cons_zero, List.set_cons_succ]
              refine wpAnyH_ready (rs := [13]) (by kernel_rfl) (by simp) ?_
              refine (AllReadyH.cons rfl (fun K hK => ?_) AllReadyH.nil)
              go_simp
              go_wp2_with (go_at_call 43; refine (ht _).mono ?_; rintro e W4 ⟨rfl, kc4⟩)
              have k4_0 := k3_0.then0 kc4
              have k4_1 := kr3.then0 kc4
              have zz4 : W3.heap.size ≤ W4.heap.size := kc4.size
              refine hK.out _ _ ⟨(hS _ k4_0), hx3 _ k4_1⟩ (fun hH4 => ?_)
              clear hK K
              try simp only [Act.put, List.setIfInBounds_toArray, List.set_cons_zero, List.set_cons_succ]
              have bb_4 := bb_3.kp0 kc4
              refine wpAnyH_take (i := 14) (v := ?_) rfl (by kernel_rfl) (by kernel_rfl) (by kernel_rfl) (fun _ _ _ h => h) (Or.inl ⟨by rfl, ?_⟩) hH4 ?_
              rotate_left
              · (intro w hSw; (try dsimp only at hSw); go_simp); first | done | with_reducible rfl
              rotate_left
              try simp only [Act.put, List.setIfInBounds_toArray, List.set_cons_zero, List.set_cons_succ]
              refine wpAnyH_ready (rs := [16]) (by kernel_rfl) (by simp) ?_
              refine (AllReadyH.cons rfl (fun K hK => ?_) AllReadyH.nil)
              have s0 := bb_4.cell 0
              have f0 := bb_4.free 0
              have s1 := bb_4.cell 1
              have f1 := bb_4.free 1
              simp at s0 s1
              go_simp
              refine hK.out _ _ ⟨(far2 (hS _ k4_0) (by omega)), (far2 (hx3 _ k4_1) (by omega))⟩ (fun hH5 => ?_)
              clear hK K
              refine wpAnyH_done (by kernel_rfl) ?_ _
              go_wp2_with fail
              go_meet
              exact ⟨W0.heap.size, Fq, T, rfl, ⟨hFs, hts⟩, by simpa using (bb_4.set 0 (.string Fq)).set 1 (.string T), by omega, (k4_0.setCell (p := ⟨W0.heap.size, 0, none⟩) (fun h => by simp at h; omega) _).setCell (p := ⟨W0.heap.size, 1, none⟩) (fun h => by simp at h; omega) _⟩
            · go_simp
              go_wp2_with (go_at_call 43; refine (ht _).mono ?_; rintro e W3 ⟨rfl, kc3⟩)
              have k3_0 := k2_0.then0 kc3
              have zz3 : W2.heap.size ≤ W3.heap.size := kc3.size
              refine hK.out _ _ (hS _ k3_0) (fun hH3 => ?_)
              clear hK K
              try simp only [Act.put, List.setIfInBounds_toArray, List.set_cons_zero, List.set_cons_succ]
              have bb_3 := bx2.kp0 kc3
              refine wpAnyH_ready (rs := [0]) (by kernel_rfl) (by simp) ?_
              refine (AllReadyH.cons rfl (fun K hK => ?_) AllReadyH.nil)
              go_simp
              refine heldAlloc hK.out (fun W kx bx => (hS _ (k3_0.then0 kx))) (fun W4 kx4 bx4 hH4 => ?_)
              clear hK K
              have k4_0 := k3_0.then0 kx4
              have zz4 : W3.heap.size < W4.heap.size := bx4.lt
              have bb_4 := bb_3.kp0 kx4
              have hx4 : ∀ W, Kp0 W4 W → W.cell? ⟨W3.heap.size, q, none⟩ = some (.string Fq) := fun W kz => hFq _ _ _ (bx4.kp0 kz)
              have kr4 : Kp0 W4 W4 := Kp.refl _ _
              refine wpAnyH_add (X := fun W => W.cell? ⟨W3.heap.size, q, none⟩ = some (.string Fq)) ?_
              have hG4 := And.intro hH4 (hx4 _ kr4)
              refine wpAnyH_take (i := 7) (v := ?_) rfl (by kernel_rfl) (by kernel_rfl) (by kernel_rfl) (fun _ _ _ h => h) (Or.inl ⟨by rfl, ?_⟩) hG4 ?_
              rotate_left
              · (intro w hSw; (try dsimp only at hSw); go_simp); first | done | with_reducible rfl
              rotate_left
              try simp only [Act.put, List.setIfInBounds_toArray, List.set_cons_zero, List.set_cons_succ]
              refine wpAnyH_take (i := 8) (v := ?_) rfl (by kernel_rfl) (by kernel_rfl) (by kernel_rfl) (fun _ _ _ h => h) (Or.inl ⟨by rfl, ?_⟩) hG4 ?_
              rotate_left
              · (intro w hSw; (try dsimp only at hSw); go_simp); first | done | with_reducible rfl
              rotate_left
              try simp only [Act.put, List.setIfInBounds_toArray, List.set_cons_zero, List.set_cons_succ]
              refine wpAnyH_take (i := 14) (v := ?_) rfl (by kernel_rfl) (by kernel_rfl) (by kernel_rfl) (fun _ _ _ h => h) (Or.inl ⟨by rfl, ?_⟩) hG4 ?_
              rotate_left
              · (intro w hSw; (try dsimp only at hSw); go_simp); first | done | with_reducible rfl
              rotate_left
              try simp only [Act.put, List.setIfInBounds_toArray, List.set_cons_zero, List.set_cons_succ]
              refine wpAnyH_ready (rs := [16]) (by kernel_rfl) (by simp) ?_
              refine (AllReadyH.cons rfl (fun K hK => ?_) AllReadyH.nil)
              have s0 := bb_4.cell 0
              have f0 := bb_4.free 0
              have s1 := bb_4.cell 1
              have f1 := bb_4.free 1
              simp at s0 s1
              go_simp
              refine hK.out _ _ ⟨(far2 (hS _ k4_0) (by omega)), (far2 (hx4 _ kr4) (by omega))⟩ (fun hH5 => ?_)
              clear hK K
              refine wpAnyH_done (by kernel_rfl) ?_ _
              go_wp2_with fail
              go_meet
              exact ⟨W0.heap.size, Fq, T, rfl, ⟨hFs, hts⟩, by simpa using (bb_4.set 0 (.string Fq)).set 1 (.string T), by omega, (k4_0.setCell (p := ⟨W0.heap.size, 0, none⟩) (fun h => by simp at h; omega) _).setCell (p := ⟨W0.heap.size, 1, none⟩) (fun h => by simp at h; omega) _⟩
        · go_simp
          refine heldAlloc hK.out (fun W kx bx => (hS _ (k0_0.then0 kx))) (fun W1 kx1 bx1 hH1 => ?_)
          clear hK K
          have k1_0 := k0_0.then0 kx1
          have zz1 : W0.heap.size < W1.heap.size := bx1.lt
          refine wpAnyH_ready (rs := [0, 6]) (by kernel_rfl) (by simp) ?_
          refine (AllReadyH.cons rfl (fun K hK => ?_) (AllReadyH.cons rfl (fun K hK => ?_) AllReadyH.nil))
          · go_simp
            refine heldAlloc hK.out (fun W kx bx => (hS _ (k1_0.then0 kx))) (fun W2 kx2 bx2 hH2 => ?_)
            clear hK K
            have k2_0 := k1_0.then0 kx2
            have zz2 : W1.heap.size < W2.heap.size := bx2.lt
            have bb_2 := bx1.kp0 kx2
            have hx2 : ∀ W, Kp0 W2 W → W.cell? ⟨W1.heap.size, q, none⟩ = some (.string Fq) := fun W kz => hFq _ _ _ (bx2.kp0 kz)
            have kr2 : Kp0 W2 W2 := Kp.refl _ _
            refine wpAnyH_add (X := fun W => W.cell? ⟨W1.heap.size, q, none⟩ = some (.string Fq)) ?_
            have hG2 := And.intro hH2 (hx2 _ kr2)
            refine wpAnyH_ready (rs := [6]) (by kernel_rfl) (by simp) ?_
            refine (AllReadyH.cons rfl (fun K hK => ?_) AllReadyH.nil)
            go_simp
            go_wp2_with (go_at_call 15; refine (hq _).mono ?_; rintro e w' ⟨rfl, rfl⟩)
            refine hK.out _ _ hG2 (fun hH3 => ?_)
            clear hK K
            try simp only [Act.put, List.setIfInBounds_toArray, List.set_cons_zero, List.set_cons_succ]
            refine wpAnyH_take (i := 7) (v := ?_) rfl (by kernel_rfl) (by kernel_rfl) (by kernel_rfl) (fun _ _ _ h => h) (Or.inl ⟨by rfl, ?_⟩) hH3 ?_
            rotate_left
            · (intro w hSw; (try dsimp only at hSw); go_simp); first | done | with_reducible rfl
            rotate_left
            try simp only [Act.put, List.setIfInBounds_toArray, List.set_cons_zero, List.set_cons_succ]
            refine wpAnyH_take (i := 8) (v := ?_) rfl (by kernel_rfl) (by kernel_rfl) (by kernel_rfl) (fun _ _ _ h => h) (Or.inl ⟨by rfl, ?_⟩) hH3 ?_
            rotate_left
            · (intro w hSw; (try dsimp only at hSw); go_simp); first | done | with_reducible rfl
            rotate_left
            try simp only [Act.put, List.setIfInBounds_toArray, List.set_cons_zero, List.set_cons_succ]
            refine wpAnyH_ready (rs := [13]) (by kernel_rfl) (by simp) ?_
            refine (AllReadyH.cons rfl (fun K hK => ?_) AllReadyH.nil)
            go_simp
            go_wp2_with (go_at_call 43; refine (ht _).mono ?_; rintro e W4 ⟨rfl, kc4⟩)
            have k4_0 := k2_0.then0 kc4
            have k4_1 := kr2.then0 kc4
            have zz4 : W2.heap.size ≤ W4.heap.size := kc4.size
            refine hK.out _ _ ⟨(hS _ k4_0), hx2 _ k4_1⟩ (fun hH4 => ?_)
            clear hK K
            try simp only [Act.put, List.setIfInBounds_toArray, List.set_cons_zero, List.set_cons_succ]
            have bb_4 := bb_2.kp0 kc4
            refine wpAnyH_take (i := 14) (v := ?_) rfl (by kernel_rfl) (by kernel_rfl) (by kernel_rfl) (fun _ _ _ h => h) (Or.inl ⟨by rfl, ?_⟩) hH4 ?_
            rotate_left
            · (intro w hSw; (try dsimp only at hSw); go_simp); first | done | with_reducible rfl
            rotate_left
            try simp only [Act.put, List.setIfInBounds_toArray, List.set_cons_zero, List.set_cons_succ]
            refine wpAnyH_ready (rs := [16]) (by kernel_rfl) (by simp) ?_
            refine (AllReadyH.cons rfl (fun K hK => ?_) AllReadyH.nil)
            have s0 := bb_4.cell 0
            have f0 := bb_4.free 0
            have s1 := bb_4.cell 1
            have f1 := bb_4.free 1
            simp at s0 s1
            go_simp
            refine hK.out _ _ ⟨(far2 (hS _ k4_0) (by omega)), (far2 (hx2 _ k4_1) (by omega))⟩ (fun hH5 => ?_)
            clear hK K
            refine wpAnyH_done (by kernel_rfl) ?_ _
            go_wp2_with fail
            go_meet
            exact ⟨W0.heap.size, Fq, T, rfl, ⟨hFs, hts⟩, by simpa using (bb_4.set 0 (.string Fq)).set 1 (.string T), by omega, (k4_0.setCell (p := ⟨W0.heap.size, 0, none⟩) (fun h => by simp at h; omega) _).setCell (p := ⟨W0.heap.size, 1, none⟩) (fun h => by simp at h; omega) _⟩
          · go_simp
            go_wp2_with (go_at_call 15; refine (hq _).mono ?_; rintro e w' ⟨rfl, rfl⟩)
            refine hK.out _ _ hH1 (fun hH2 => ?_)
            clear hK K
            try simp only [Act.put, List.setIfInBounds_toArray, List.set_cons_zero, List.set_cons_succ]
            refine wpAnyH_ready (rs := [0, 13]) (by kernel_rfl) (by simp) ?_
            refine (AllReadyH.cons rfl (fun K hK => ?_) (AllReadyH.cons rfl (fun K hK => ?_) AllReadyH.nil))
            · go_simp
              refine heldAlloc hK.out (fun W kx bx => (hS _ (k1_0.then0 kx))) (fun W3 kx3 bx3 hH3 => ?_)
              clear hK K
              have k3_0 := k1_0.then0 kx3
              have zz3 : W1.heap.size < W3.heap.size := bx3.lt
              have bb_3 := bx1.kp0 kx3
              have hx3 : ∀ W, Kp0 W3 W → W.cell? ⟨W1.heap.size, q, none⟩ = some (.string Fq) := fun W kz => hFq _ _ _ (bx3.kp0 kz)
              have kr3 : Kp0 W3 W3 := Kp.refl _ _
              refine wpAnyH_add (X := fun W => W.cell? ⟨W1.heap.size, q, none⟩ = some (.string Fq)) ?_
              have hG3 := And.intro hH3 (hx3 _ kr3)
              refine wpAnyH_take (i := 7) (v := ?_) rfl (by kernel_rfl) (by kernel_rfl) (by kernel_rfl) (fun _ _ _ h => h) (Or.inl ⟨by rfl, ?_⟩) hG3 ?_
              rotate_left
              · (intro w hSw; (try dsimp only at hSw); go_simp); first | done | with_reducible rfl
              rotate_left
              try simp only [Act.put, List.setIfInBounds_toArray, List.set_cons_zero, List.set_cons_succ]
              refine wpAnyH_take (i := 8) (v := ?_) rfl (by kernel_rfl) (by kernel_rfl) (by kernel_rfl) (fun _ _ _ h => h) (Or.inl ⟨by rfl, ?_⟩) hG3 ?_
              rotate_left
              · (intro w hSw; (try dsimp only at hSw); go_simp); first | done | with_reducible rfl
              rotate_left
              try simp only [Act.put, List.setIfInBounds_toArray, List.set_cons_zero, List.set_cons_succ]
              refine wpAnyH_ready (rs := [13]) (by kernel_rfl) (by simp) ?_
              refine (AllReadyH.cons rfl (fun K hK => ?_) AllReadyH.nil)
              go_simp
              go_wp2_with (go_at_call 43; refine (ht _).mono ?_; rintro e W4 ⟨rfl, kc4⟩)
              have k4_0 := k3_0.then0 kc4
              have k4_1 := kr3.then0 kc4
              have zz4 : W3.heap.size ≤ W4.heap.size := kc4.size
              refine hK.out _ _ ⟨(hS _ k4_0), hx3 _ k4_1⟩ (fun hH4 => ?_)
              clear hK K
              try simp only [Act.put, List.setIfInBounds_toArray, List.set_cons_zero, List.set_cons_succ]
              have bb_4 := bb_3.kp0 kc4
              refine wpAnyH_take (i := 14) (v := ?_) rfl (by kernel_rfl) (by kernel_rfl) (by kernel_rfl) (fun _ _ _ h => h) (Or.inl ⟨by rfl, ?_⟩) hH4 ?_
              rotate_left
              · (intro w hSw; (try dsimp only at hSw); go_simp); first | done | with_reducible rfl
              rotate_left
              try simp only [Act.put, List.setIfInBounds_toArray, List.set_cons_zero, List.set_cons_succ]
              refine wpAnyH_ready (rs := [16]) (by kernel_rfl) (by simp) ?_
              refine (AllReadyH.cons rfl (fun K hK => ?_) AllReadyH.nil)
              have s0 := bb_4.cell 0
              have f0 := bb_4.free 0
              have s1 := bb_4.cell 1
              have f1 := bb_4.free 1
              simp at s0 s1
              go_simp
              refine hK.out _ _ ⟨(far2 (hS _ k4_0) (by omega)), (far2 (hx3 _ k4_1) (by omega))⟩ (fun hH5 => ?_)
              clear hK K
              refine wpAnyH_done (by kernel_rfl) ?_ _
              go_wp2_with fail
              go_meet
              exact ⟨W0.heap.size, Fq, T, rfl, ⟨hFs, hts⟩, by simpa using (bb_4.set 0 (.string Fq)).set 1 (.string T), by omega, (k4_0.setCell (p := ⟨W0.heap.size, 0, none⟩) (fun h => by simp at h; omega) _).setCell (p := ⟨W0.heap.size, 1, none⟩) (fun h => by simp at h; omega) _⟩
            · go_simp
              go_wp2_with (go_at_call 43; refine (ht _).mono ?_; rintro e W3 ⟨rfl, kc3⟩)
              have k3_0 := k1_0.then0 kc3
              have zz3 : W1.heap.size ≤ W3.heap.size := kc3.size
              refine hK.out _ _ (hS _ k3_0) (fun hH3 => ?_)
              clear hK K
              try simp only [Act.put, List.setIfInBounds_toArray, List.set_cons_zero, List.set_cons_succ]
              have bb_3 := bx1.kp0 kc3
              refine wpAnyH_ready (rs := [0]) (by kernel_rfl) (by simp) ?_
              refine (AllReadyH.cons rfl (fun K hK => ?_) AllReadyH.nil)
              go_simp
              refine heldAlloc hK.out (fun W kx bx => (hS _ (k3_0.then0 kx))) (fun W4 kx4 bx4 hH4 => ?_)
              clear hK K
              have k4_0 := k3_0.then0 kx4
              have zz4 : W3.heap.size < W4.heap.size := bx4.lt
              have bb_4 := bb_3.kp0 kx4
              have hx4 : ∀ W, Kp0 W4 W → W.cell? ⟨W3.heap.size, q, none⟩ = some (.string Fq) := fun W kz => hFq _ _ _ (bx4.kp0 kz)
              have kr4 : Kp0 W4 W4 := Kp.refl _ _
              refine wpAnyH_add (X := fun W => W.cell? ⟨W3.heap.size, q, none⟩ = some (.string Fq)) ?_
              have hG4 := And.intro hH4 (hx4 _ kr4)
              refine wpAnyH_take (i := 7) (v := ?_) rfl (by kernel_rfl) (by kernel_rfl) (by kernel_rfl) (fun _ _ _ h => h) (Or.inl ⟨by rfl, ?_⟩) hG4 ?_
              rotate_left
              · (intro w hSw; (try dsimp only at hSw); go_simp); first | done | with_reducible rfl
              rotate_left
              try simp only [Act.put, List.setIfInBounds_toArray, List.set_cons_zero, List.set_cons_succ]
              refine wpAnyH_take (i := 8) (v := ?_) rfl (by kernel_rfl) (by kernel_rfl) (by kernel_rfl) (fun _ _ _ h => h) (Or.inl ⟨by rfl, ?_⟩) hG4 ?_
              rotate_left
              · (intro w hSw; (try dsimp only at hSw); go_simp); first | done | with_reducible rfl
              rotate_left
              try simp only [Act.put, List.setIfInBounds_toArray, List.set_cons_zero, List.set_cons_succ]
              refine wpAnyH_take (i := 14) (v := ?_) rfl (by kernel_rfl) (by kernel_rfl) (by kernel_rfl) (fun _ _ _ h => h) (Or.inl ⟨by rfl, ?_⟩) hG4 ?_
              rotate_left
              · (intro w hSw; (try dsimp only at hSw); go_simp); first | done | with_reducible rfl
              rotate_left
              try simp only [Act.put, List.setIfInBounds_toArray, List.set_cons_zero, List.set_cons_succ]
              refine wpAnyH_ready (rs := [16]) (by kernel_rfl) (by simp) ?_
              refine (AllReadyH.cons rfl (fun K hK => ?_) AllReadyH.nil)
              have s0 := bb_4.cell 0
              have f0 := bb_4.free 0
              have s1 := bb_4.cell 1
              have f1 := bb_4.free 1
              simp at s0 s1
              go_simp
              refine hK.out _ _ ⟨(far2 (hS _ k4_0) (by omega)), (far2 (hx4 _ kr4) (by omega))⟩ (fun hH5 => ?_)
              clear hK K
              refine wpAnyH_done (by kernel_rfl) ?_ _
              go_wp2_with fail
              go_meet
              exact ⟨W0.heap.size, Fq, T, rfl, ⟨hFs, hts⟩, by simpa using (bb_4.set 0 (.string Fq)).set 1 (.string T), by omega, (k4_0.setCell (p := ⟨W0.heap.size, 0, none⟩) (fun h => by simp at h; omega) _).setCell (p := ⟨W0.heap.size, 1, none⟩) (fun h => by simp at h; omega) _⟩

      case rest =>
        obtain ⟨B, F, T, rfl, hp, hB, hBw, kw⟩ := hcut
        obtain ⟨wa, rfl⟩ : ∃ wa : World, wa = wc := ⟨_, rfl⟩
        have cy := ((M.k.then0 kw).below0.cell (p := ⟨b2, _, none⟩) hb2).trans hcy
        clear hcy cz
        go_wp2_with fail
        refine (within_x z2 6 (by decide) (by decide) _).mono ?_
        rintro e w' ⟨s, hs0, hs1, rfl, rfl⟩
        clear cy
        go_upto_region 11 with fail
        have Ma := M.kp0 (kw.drew)
        have Mlt := M.ms.olt
        clear M
        have ht70 := Try.underlying70
        obtain ⟨v0, st, w1, hen, m1, k1, hst⟩ := Ma.ct.inc ht70 zero3 (by omega) hp
        obtain ⟨w3, hst3, m3, k3⟩ := hst (.int .i64 (((L (F, T)).length : Int) + 1))
        have hlk0 := Ma.ct.look ht70 (zero3 _) hp
        have hlk1 := m1.look ht70 (zero3 _) hp
        clear hst
        have hc0 := fun (W : World) (K : Kp0 wa W) => (hB.kp0 K).cell 0
        obtain ⟨c, hc⟩ : ∃ c : Nat, (L (F, T)).length = c := ⟨_, rfl⟩
        have m3o := m3
        rw [hc] at hst3 m3 hlk0 hlk1
        have hbk : B ≠ bc := fun h => by
          obtain ⟨_, ⟨_, _, h1, _⟩, _⟩ := Ma.ct
          have h2 := (hB.drew).symm.trans (h ▸ h1)
          cases h2
        have hB0 : Blk wa.drew B #[.string F, .string T] 52 := hB.drew
        have hB1 := hB0.kp k1 hbk
        have hB3 := hB1.kp k3 hbk
        have hbs : B ≠ bs := fun h => by
          obtain ⟨_, ⟨_, _, h1, _⟩, _⟩ := Ma.st
          have h2 := (hB.drew).symm.trans (h ▸ h1)
          cases h2
        have hS0 : wa.drew.cell? ⟨B, 0, none⟩ = some (.string F) ∧ wa.drew.cell? ⟨B, 1, none⟩ = some (.string T) := ⟨hB0.cell 0, hB0.cell 1⟩
        have hS1 : w1.cell? ⟨B, 0, none⟩ = some (.string F) ∧ w1.cell? ⟨B, 1, none⟩ = some (.string T) := ⟨hB1.cell 0, hB1.cell 1⟩
        have hS3 : w3.cell? ⟨B, 0, none⟩ = some (.string F) ∧ w3.cell? ⟨B, 1, none⟩ = some (.string T) := ⟨hB3.cell 0, hB3.cell 1⟩
        unfold kvp kv at hen hlk0 hlk1
        simp only at hen hlk0 hlk1
        have hcw : IntKind.i64.wrap ((c : Int) + 1) = (c : Int) + 1 := by
          have hl1 : (L (F, T)).length ≤ 2 * k := by
            obtain ⟨_, _, _, _, _, _, _, _, _, _, _, _, hl⟩ := Ma.ms
            exact hl _
          rw [IntKind.wrap_i64]; omega
        have k13 : Kp (· = bc) wa.drew w3 := k1.trans k3 (fun _ _ h => h)
        clear hc0 hB0 hB1
        go_cut [] from 60 to 81 (fun wx => wx = w3)
        case first =>
          clear Ma k1 k3 k13 m1 m3 hB3 hB
          go_region_held3 (fun W' => W'.cell? ⟨B, 0, none⟩ = some (.string F) ∧ W'.cell? ⟨B, 1, none⟩ = some (.string T)) (first | exact hS0 | exact hS1 | exact hS3) (fail)
          all_goals
            go_wp2_with fail
            go_meet
            rfl
        case rest =>
          obtain rfl := hcut
          obtain ⟨wb, rfl⟩ : ∃ wb : World, wb = wc := ⟨_, rfl⟩
          obtain ⟨w5, hup, m5, k5⟩ := (Ma.st.kp k13 Ma.ne).upd ht70 (by omega) hp (.int .i64 (2 + s))
          unfold kvp kv at hup
          simp only at hup
          have hOB : ¬ O B := fun h => by have := Mlt B h; omega
          have hB5 := hB3.kp k5 hbs
          have ct5 := m3.kp k5 (fun h => Ma.ne h.symm)
          have ms5 := (Ma.ms.kp k13 (fun i h1 h2 => Ma.nO.2 (h2 ▸ h1))).kp k5 (fun i h1 h2 => Ma.nO.1 (h2 ▸ h1))
          have hS : ∀ W', Kp O w5 W' → (W'.cell? ⟨B, 0, none⟩ = some (.string F) ∧ W'.cell? ⟨B, 1, none⟩ = some (.string T)) ∧ (Instr.lookup 70 (.map (some bc)) (.agg #[.string F, .string T]) false).run Try.prog W' = .ok (.int .i64 ((c : Int) + 1)) W' := by
            intro W' K
            have h1 := (ct5.kp K Ma.nO.2).look ht70 (zero3 _) hp
            rw [upd_same] at h1
            exact ⟨⟨(hB5.kp K hOB).cell 0, (hB5.kp K hOB).cell 1⟩, h1⟩
          have K0 : Kp0 w5 w5.drew := (Kp.refl _ _).drew
          have hS0 := hS _ (K0.mono (fun _ _ x => x.elim))
          have hear := hear11_c g (2 * k) O L S F es T hp 0 (2 + s) ((c : Int) + 1) 1 (.slice none 0 0) _ (ms5.kp0 K0) (by omega)
          unfold mcs at hear
          have hEnd : ∀ w6 O6, MsAt w6 g O6 (2 * k + 2) (upd L (F, T) (hl (L (F, T)) ((c : Int) + 1))) (upd S (F, T) (2 + s)) → (∀ i, O6 i → O i ∨ w5.heap.size ≤ i) → Kp O w5 w6 → Mk w w6 g bs bc (k + 1) O6 (upd L (F, T) (hl (L (F, T)) ((c : Int) + 1))) (upd S (F, T) (2 + s)) := by
            intro w6 O6 h6 hO6 K6
            rw [← hc] at h6 ⊢
            exact Ma.next m3o k13 m5 k5 h6 hO6 K6
          have HE := Lib.hid hEnd
          have e0 := hB3.cell 0
          have e1 := hB3.cell 1
          simp at e0 e1
          clear hEnd Ma m3 m3o hB3 hB5 ct5 ms5 k13 k1 k3 k5 m1 m5 hB hst3 hen hlk0 hlk1 hS1 hS3 kw
          go_wp2_with fail
          go_region_held3 (fun W' => (W'.cell? ⟨B, 0, none⟩ = some (.string F) ∧ W'.cell? ⟨B, 1, none⟩ = some (.string T)) ∧ (Instr.lookup 70 (.map (some bc)) (.agg #[.string F, .string T]) false).run Try.prog W' = .ok (.int .i64 ((c : Int) + 1)) W') (first | exact hS0 | exact hS _ K6)
            (first | (go_at_call 44; go_fit hear; rintro e w6 ⟨r6, O6, rfl, B6, hr6, h6, hn6, hO6, K6'⟩; have K6 := (K0.mono (S' := O) (fun _ _ x => x.elim)).trans K6' (fun _ _ h => h)))
          go_wp2
          go_roundw
          case rel => exact ⟨k + 1, _, _, _, by omega, by go_num, HE.out w6 O6 h6 hO6 K6⟩
          case measure => simp [intOf]; omega
    · rw [decide_eq_false hin]
      clear hz hy hin
      obtain ⟨wo, rfl⟩ : ∃ wo : World, wo = wr := ⟨_, rfl⟩
      have M1 := M.kp0 ((Kp.refl _ _).alloc (.cells #[.string ⟨#[102]⟩, .string ⟨#[103]⟩] 9))
      have dB : Blk (wo.alloc (.cells #[.string ⟨#[102]⟩, .string ⟨#[103]⟩] 9)) wo.heap.size #[.string ⟨#[102]⟩, .string ⟨#[103]⟩] 9 := blk_new _ _ rfl
      have hfg : ∀ j : Nat, j < 2 → ∃ Fj : ByteArray, Fj.size ≤ 100 ∧ ∀ W, Kp0 (wo.alloc (.cells #[.string ⟨#[102]⟩, .string ⟨#[103]⟩] 9)) W → W.cell? ⟨wo.heap.size, j, none⟩ = some (.string Fj) := by
        intro j hj
        obtain rfl | rfl : j = 0 ∨ j = 1 := by omega
        · exact ⟨⟨#[102]⟩, by show (1 : Nat) ≤ 100; omega, fun W K => (dB.kp0 K).cell 0⟩
        · exact ⟨⟨#[103]⟩, by show (1 : Nat) ≤ 100; omega, fun W K => (dB.kp0 K).cell 1⟩
      clear M dB
      go_wp2_with fail
      generalize hw0 : wo.alloc (.cells #[.string ⟨#[102]⟩, .string ⟨#[103]⟩] 9) = w0 at *
      clear hw0
      go_loopw [84] (fun i wx => ∃ j : Nat, j ≤ 2 ∧ i = .int .i64 j ∧ Kp0 w0 wx) (fun i _ => (2 - intOf i).toNat)
      case atStart => exact ⟨0, by decide, rfl, Kp.refl _ _⟩
      case round =>
        obtain ⟨j, hj, rfl, Kj⟩ := hrel
        by_cases hj2 : j < 2
        · obtain ⟨Fj, hFs, hFc⟩ := hfg j hj2
          have cj := hFc _ Kj
          have hjt : decide ((j : Int) < 2) = true := by rw [decide_eq_true_eq]; omega
          obtain ⟨wl, rfl⟩ : ∃ wl : World, wl = wr := ⟨_, rfl⟩
          clear hfg hFc
          go_wp2_with fail
          clear cj
          go_loopw [13] (fun i wx => ∃ q : Nat, q ≤ 8 ∧ i = .int .i64 q ∧ Kp0 w0 wx) (fun i _ => (8 - intOf i).toNat)
          case atStart => exact ⟨0, by decide, rfl, Kj⟩
          case round =>
            obtain ⟨q, hq, rfl, Kq⟩ := hrel
            obtain ⟨wm, rfl⟩ : ∃ wm : World, wm = wr := ⟨_, rfl⟩
            by_cases hq2 : q < 8
            · go_wp2_with fail
              refine (task_c _ _).mono ?_
              rintro e w2 ⟨rfl, K2⟩
              obtain ⟨T, hT⟩ : ∃ T, tk ((q : Int) % 8) = T := ⟨_, rfl⟩
              have hp : Small (Fj, T) := ⟨hFs, by rw [← hT]; exact tk_size _⟩
              rw [hT]
              clear hT
              have M2 := M1.kp0 ((Kq.then0 K2).alloc (.cells #[.string Fj, .string T] 52))
              have kB : Blk (w2.alloc (.cells #[.string Fj, .string T] 52)) w2.heap.size #[.string Fj, .string T] 52 := blk_new _ _ rfl
              have K20 := (Kq.then0 K2).alloc (.cells #[.string Fj, .string T] 52)
              have hll : (L (Fj, T)).length ≤ 2 * k := by
                obtain ⟨_, _, _, _, _, _, _, _, _, _, _, _, hl⟩ := M1.ms
                exact hl _
              have hls := M1.ls (Fj, T)
              have hheard := heard_c g (2 * k) O L S _ hp _ M2.ms (by omega)
              go_wp2_with fail
              refine hheard.mono ?_
              rintro e w3 ⟨vh, rfl, oh, Kh, fh⟩
              obtain ⟨Ah, ch, rfl⟩ := row_sl oh
              obtain ⟨c, hc⟩ : ∃ c : Nat, (L (Fj, T)).length = c := ⟨_, rfl⟩
              obtain ⟨sp, hsp⟩ : ∃ sp : Int, S (Fj, T) = sp := ⟨_, rfl⟩
              have M3 := M2.kp0 Kh
              have kB3 := kB.kp0 Kh
              have ht70 := Try.underlying70
              have hS : ∀ W', Kp0 w3 W' → (W'.cell? ⟨w2.heap.size, 0, none⟩ = some (.string Fj) ∧ W'.cell? ⟨w2.heap.size, 1, none⟩ = some (.string T)) ∧ (Instr.lookup 70 (.map (some bs)) (.agg #[.string Fj, .string T]) false).run Try.prog W' = .ok (.int .i64 sp) W' ∧ (Instr.lookup 70 (.map (some bc)) (.agg #[.string Fj, .string T]) false).run Try.prog W' = .ok (.int .i64 (c : Int)) W' := by
                intro W' K
                have x1 := (M3.st.kp0 K).look ht70 (zero3 _) hp
                have x2 := (M3.ct.kp0 K).look ht70 (zero3 _) hp
                rw [hsp] at x1
                rw [hc] at x2
                exact ⟨⟨(kB3.kp0 K).cell 0, (kB3.kp0 K).cell 1⟩, x1, x2⟩
              have K0 : Kp0 w3 w3.drew := (Kp.refl _ _).drew
              have hS0 := hS _ K0
              have hst : ∀ W', Kp0 w3 W' → Calls Try.prog 46 #[.pointer (some ⟨g, 0, none⟩), .agg #[.string Fj, .string T]] W' fun e w' => e = .returned (.int .i64 sp) ∧ Kp0 w3 w' := fun W' K => (state_c g (2 * k) O L S (Fj, T) hp W' (M3.ms.kp0 K)).mono (by rintro e w' ⟨rfl, K'⟩; exact ⟨by rw [hsp], K.then0 K'⟩)
              rw [hc] at oh hll hls
              rw [hls] at oh
              have q1 : (sp != sp) = false := by simp
              have q2 : ((c : Int) != (c : Int)) = false := by simp
              have hcw : (c : Int) ≤ 48 := by omega
              have K30 := K20.then0 Kh
              have hrow : ∀ j2 : Nat, j2 < c → ∃ r, Ah = some ⟨r, 0, none⟩ ∧ ∀ W', Kp0 w3 W' → W'.cell? ⟨r, j2, none⟩ = some (.int .i64 ((j2 : Int) + 1)) := by
                intro j2 hj2'
                rcases own_shape oh with ⟨_, h0, _⟩ | ⟨r, cap, e1, p1, p2, p3, p4⟩
                · omega
                · injection e1 with e1
                  subst e1
                  refine ⟨r, rfl, fun W' K => (K.below0.cell (p := ⟨r, j2, none⟩) p3).trans ?_⟩
                  rw [p4 j2 (by omega), ints_get _ _ (by rw [io_len]; omega), io_get]
              rw [hc]
              clear M2 M3 kB kB3 hheard fh oh hls hc hsp Kh K20 K2
              go_upto_region 23 with fail
              go_cut [113] from 88 to 125 (fun s113 wx => s113 = .bool false ∧ Kp0 w3 wx)
              case first =>
                clear hrow
                go_region_held3 (fun W' => (W'.cell? ⟨w2.heap.size, 0, none⟩ = some (.string Fj) ∧ W'.cell? ⟨w2.heap.size, 1, none⟩ = some (.string T)) ∧ (Instr.lookup 70 (.map (some bs)) (.agg #[.string Fj, .string T]) false).run Try.prog W' = .ok (.int .i64 sp) W' ∧ (Instr.lookup 70 (.map (some bc)) (.agg #[.string Fj, .string T]) false).run Try.prog W' = .ok (.int .i64 (c : Int)) W') (first | exact hS0 | exact hS _ K6)
                  (first | (go_at_call 46; go_fit (hst _ K0); rintro e w6 ⟨rfl, K6⟩))
                all_goals
                  go_wp2_with fail
                  go_meet
                  exact ⟨rfl, K6⟩
              case rest =>
              obtain ⟨rfl, K6⟩ := hcut
              clear hS hS0 hst
              go_wp2_with fail
              go_loopw [116] (fun i wx => ∃ p : Nat, p ≤ c ∧ i = .int .i64 p ∧ Kp0 w3 wx) (fun i _ => (c - intOf i).toNat)
              case atStart => exact ⟨0, by omega, rfl, K6⟩
              case round =>
                obtain ⟨p, hp2, rfl, Kp2⟩ := hrel
                by_cases hp3 : p < c
                · obtain ⟨r, rfl, hr⟩ := hrow p hp3
                  have cr := hr _ Kp2
                  have q3 : (((p : Int) + 1) != ((p : Int) + 1)) = false := by simp
                  clear hrow hr
                  go_wp2
                  go_roundw
                  case rel => exact ⟨p + 1, by omega, by go_num, Kp2⟩
                  case measure => simp [intOf]; omega
                · clear hrow
                  go_wp2
                  go_roundw
                  case rel => exact ⟨q + 1, by omega, by go_num, K30.then0 Kp2⟩
                  case measure => simp [intOf]; omega
            · go_wp2
              go_roundw
              case rel => exact ⟨j + 1, by omega, by go_num, Kq⟩
              case measure => simp [intOf]; omega
        · clear hfg
          go_wp2_with fail
          refine (wakes22_c _).mono ?_
          rintro e w2 ⟨rfl, K2⟩
          go_wp2
          go_ret
          exact ⟨rfl, (M1.k.then0 Kj).then0 K2⟩
theorem masterApart_w (a0 : Option Addr) (len0 cap0 : Nat) (zs0 : List Int) (a1 : Option Addr) (len1 cap1 : Nat) (zs1 : List Int) (w : World)
    (h0 : IsInts .i64 w a0 len0 cap0 zs0) (l0 : len0 * 8 ≤ 140737488351232) (h1 : IsInts .i64 w a1 len1 cap1 zs1) (l1 : len1 * 8 ≤ 140737488351232) :
    Calls Try.prog 14 #[.slice a0 len0 cap0, .slice a1 len1 cap1] w fun e' w' => e' = .returned (.bool true) ∧ Below w.heap.size w w' :=
  (masterApart_c a0 len0 cap0 a1 len1 cap1 w (ints_cells h0) (by omega) (ints_cells h1) (by omega)).mono fun _ _ h => ⟨h.1, h.2.below0⟩
end Go.Proofs.Ytgilnhagddihcaa
