/- The reference's bin: boxes as they came; Add, All. -/
import Derived.Test.YtccamciijpmkjaaB11
import Derived.Test.YtccamciijpmkjaaB13
import Derived.Deep.RegionLawGrows
import Derived.Deep.CutRange
import Derived.Deep.CutBlock
import Derived.Deep.DeepCutAuto
import Derived.BigQuiet
set_option linter.unusedVariables false
set_option linter.unusedSimpArgs false
namespace Go.Proofs.Ytccamciijpmkjaa
open Go.RowKit

/-- The reference's bin at g. -/
def RbAt (w : World) (g : Nat) (O : Nat → Prop) (l : List Bx) : Prop :=
  O g ∧ ∃ v, Blk w g #[v] 72 ∧ w.ownsRow 0 90 4 v l.length (rb l) ∧ ∀ i, v.ownBlock = some i → O i ∧ i ≠ g
theorem RbAt.kp {S : Nat → Prop} {w w' : World} {g : Nat} {O : Nat → Prop} {l : List Bx} (h : RbAt w g O l) (k : Kp S w w') (hn : ∀ i, O i → ¬ S i) : RbAt w' g O l := by
  obtain ⟨hg, v, hB, ho, hO⟩ := h
  exact ⟨hg, v, hB.kp k (hn g hg), own_kp ho k (fun i hi => hn i (hO i hi).1), hO⟩
theorem RbAt.kp0 {w w' : World} {g : Nat} {O : Nat → Prop} {l : List Bx} (h : RbAt w g O l) (k : Kp0 w w') : RbAt w' g O l := h.kp k (fun _ _ x => x)
theorem RbAt.lt {w : World} {g : Nat} {O : Nat → Prop} {l : List Bx} (h : RbAt w g O l) : g < w.heap.size := by
  obtain ⟨_, v, hB, _⟩ := h
  exact hB.lt

/-- A row of boxes of either kind. -/
theorem bx_row {w : World} {b e : Nat} {v : Value} {l : List Bx} (h : w.ownsRow b e 4 v l.length (rb l)) : ∃ A c, v = .slice A l.length c ∧ l.length ≤ c ∧ c ≤ 9223372036854775807 ∧ ∀ k (hk : k < l.length), ∃ g, A = some ⟨g, 0, none⟩ ∧ ∀ W, Kp0 w W →
    W.cell? ⟨g, k * 4, none⟩ = some (.string (l[k]).f) ∧ W.cell? ⟨g, k * 4 + 1, none⟩ = some (.string (l[k]).e) ∧ W.cell? ⟨g, k * 4 + 2, none⟩ = some (.int .i64 (l[k]).n) ∧ W.cell? ⟨g, k * 4 + 3, none⟩ = some (.int .i64 (l[k]).s) := by
  rcases own_shape h with ⟨e, e0, _⟩ | ⟨g, cap, rfl, m1, m2, m3, m4⟩
  · exact ⟨none, 0, by rw [e, e0], by omega, by omega, fun k hk => by omega⟩
  · refine ⟨_, cap, rfl, m1, m2, fun k hk => ⟨g, rfl, fun W kk => ?_⟩⟩
    have hh : ∀ j (hj : j < 4), W.cell? ⟨g, k * 4 + j, none⟩ = (l[k]).cs[j]? := fun j hj => by
      have e1 := m4 (k * 4 + j) (by omega)
      rw [rb_at l k j hk hj] at e1
      have e2 : (l[k]).cs[j]? = some ((l[k]).cs[j]'(by show j < 4; exact hj)) := List.getElem?_eq_getElem _
      rw [e2] at e1 ⊢
      exact cell_kp0 kk m3 e1
    exact ⟨hh 0 (by omega), hh 1 (by omega), hh 2 (by omega), hh 3 (by omega)⟩

set_option maxRecDepth 100000 in
theorem radd_there (g : Nat) (O : Nat → Prop) (l : List Bx) (f e : ByteArray) (n s : Int) (w : World) (h : RbAt w g O l) (hl : l.length ≤ 100000) (hf : ∃ x ∈ l, isB f e n x = true) :
    Calls Try.prog 42 #[pt g, .string f, .string e, .int .i64 n, .int .i64 s] w fun e' w' => e' = .returned (.bool false) ∧ Kp0 w w' := by
  obtain ⟨hg, v, hB, ho, hO⟩ := h
  obtain ⟨A, c, rfl, m1, m2, hrow⟩ := bx_row ho
  have H := Lib.hid hrow
  have cB := hB.cell 0
  simp at cB
  have HF := Lib.hid hf
  clear hrow ho hO hf
  go_enter Try.func42, Try.ntmps42
  go_wp2_with fail
  clear cB
  go_loopw [18] (fun s18 wr => ∃ k : Nat, k ≤ l.length ∧ s18 = .int .i64 (k : Nat) ∧ (∀ j (hj : j < k), ∀ hl : j < l.length, isB f e n l[j] = false) ∧ Kp0 w wr) (fun s18 _ => (l.length - intOf s18).toNat)
  case atStart => exact ⟨0, by omega, rfl, fun j hj => by omega, Kp.refl _ _⟩
  case round =>
    obtain ⟨k, hk, rfl, hno, kx⟩ := hrel
    have HN := Lib.hid hno
    clear hno
    by_cases hkl : k < l.length
    · obtain ⟨b, rfl, hc⟩ := H.out k hkl
      obtain ⟨c0, c1, c2, c3⟩ := hc _ kx
      have hkl' : (k : Int) < (l.length : Int) ∧ (0 : Int) ≤ (k : Int) := by omega
      have e1 := tl_beq (l[k]).f f
      have e2 := tl_beq (l[k]).e e
      have hi : isB f e n l[k] = (decide ((l[k]).f = f) && decide ((l[k]).e = e) && ((l[k]).n == n)) := rfl
      have HI := Lib.hid hi
      clear hi hc
      generalize decide ((l[k]).f = f) = d1 at *
      generalize decide ((l[k]).e = e) = d2 at *
      generalize hd3 : ((l[k]).n == n) = d3 at *
      have hstep : (d1 && d2 && d3) = false → ∀ j (hj : j < k + 1), ∀ hl : j < l.length, isB f e n l[j] = false := fun hf' j hj hl => by
        by_cases e : j = k
        · subst e; rw [HI.out]; exact hf'
        · exact HN.out j (by omega) hl
      have HS := Lib.hid hstep
      clear hstep
      generalize (l[k]).f = ff at *
      generalize (l[k]).e = ee at *
      generalize (l[k]).n = nn at *
      generalize (l[k]).s = ss at *
      cases d1 with
      | true =>
        cases d2 with
        | true =>
          cases d3 with
          | true =>
            go_wp2
            go_ret
            exact ⟨rfl, kx.alloc _⟩
          | false =>
            go_wp2_with fail
            go_roundw
            case rel => exact ⟨k + 1, by omega, by go_num, HS.out rfl, kx.alloc _⟩
            case measure => simp [intOf]; omega
        | false =>
          go_wp2_with fail
          go_roundw
          case rel => exact ⟨k + 1, by omega, by go_num, HS.out rfl, kx.alloc _⟩
          case measure => simp [intOf]; omega
      | false =>
        go_wp2_with fail
        go_roundw
        case rel => exact ⟨k + 1, by omega, by go_num, HS.out rfl, kx.alloc _⟩
        case measure => simp [intOf]; omega
    · exfalso
      obtain ⟨x, hx, hb⟩ := HF.out
      obtain ⟨j, hj, rfl⟩ := List.getElem_of_mem hx
      rw [HN.out j (by omega) hj] at hb
      cases hb

set_option maxRecDepth 100000 in
theorem radd_new (g : Nat) (O : Nat → Prop) (l : List Bx) (f e : ByteArray) (n s : Int) (w : World) (h : RbAt w g O l) (hl : l.length ≤ 100000) (hf : ∀ x ∈ l, isB f e n x = false) :
    Calls Try.prog 42 #[pt g, .string f, .string e, .int .i64 n, .int .i64 s] w fun e' w' => e' = .returned (.bool true) ∧ ∃ O', RbAt w' g O' (l ++ [⟨f, e, n, s⟩]) ∧ Kp O w w' ∧ ∀ i, O' i → O i ∨ (w.heap.size ≤ i ∧ i < w'.heap.size) := by
  obtain ⟨hg, v, hB, ho, hO⟩ := h
  obtain ⟨A, c, rfl, m1, m2, hrow⟩ := bx_row ho
  have H := Lib.hid hrow
  have cB := hB.cell 0
  simp at cB
  have HF := Lib.hid hf
  clear hrow hf
  go_enter Try.func42, Try.ntmps42
  go_wp2_with fail
  clear cB
  go_loopw [18] (fun s18 wr => ∃ k : Nat, k ≤ l.length ∧ s18 = .int .i64 (k : Nat) ∧ Kp0 w wr) (fun s18 _ => (l.length - intOf s18).toNat)
  case atStart => exact ⟨0, by omega, rfl, Kp.refl _ _⟩
  case round =>
    obtain ⟨k, hk, rfl, kx⟩ := hrel
    by_cases hkl : k < l.length
    · obtain ⟨b, rfl, hc⟩ := H.out k hkl
      obtain ⟨c0, c1, c2, c3⟩ := hc _ kx
      have hkl' : (k : Int) < (l.length : Int) ∧ (0 : Int) ≤ (k : Int) := by omega
      have e1 := tl_beq (l[k]).f f
      have e2 := tl_beq (l[k]).e e
      have hi : isB f e n l[k] = (decide ((l[k]).f = f) && decide ((l[k]).e = e) && ((l[k]).n == n)) := rfl
      rw [HF.out _ (List.getElem_mem hkl)] at hi
      have HI := Lib.hid hi
      clear hi hc ho hO hB
      generalize decide ((l[k]).f = f) = d1 at *
      generalize decide ((l[k]).e = e) = d2 at *
      generalize hd3 : ((l[k]).n == n) = d3 at *
      generalize (l[k]).f = ff at *
      generalize (l[k]).e = ee at *
      generalize (l[k]).n = nn at *
      generalize (l[k]).s = ss at *
      cases d1 with
      | true =>
        cases d2 with
        | true =>
          cases d3 with
          | true => exact absurd HI.out (by simp)
          | false =>
            go_wp2_with fail
            go_roundw
            case rel => exact ⟨k + 1, by omega, by go_num, kx.alloc _⟩
            case measure => simp [intOf]; omega
        | false =>
          go_wp2_with fail
          go_roundw
          case rel => exact ⟨k + 1, by omega, by go_num, kx.alloc _⟩
          case measure => simp [intOf]; omega
      | false =>
        go_wp2_with fail
        go_roundw
        case rel => exact ⟨k + 1, by omega, by go_num, kx.alloc _⟩
        case measure => simp [intOf]; omega
    · obtain rfl : k = l.length := by omega
      have B2 := hB.kp0 kx
      have c2 := B2.cell 0
      simp at c2
      have kA : Kp0 wr (wr.alloc (.cells #[.string f, .string e, .int .i64 n, .int .i64 s] 90)) := (Kp.refl _ _).alloc _
      have o2 := own_kp (own_kp ho kx (fun _ _ x => x)) kA (fun _ _ x => x)
      clear H HF
      go_wp2_with (at_builtin; refine list_app rfl _ _ 70 90 (.agg #[.string ByteArray.empty, .string ByteArray.empty, .int .i64 0, .int .i64 0]) 4 48 rfl rfl rfl rfl (by decide) (.slice A l.length c) l.length (rb l) rfl wr.heap.size 0 1 1 [.string f, .string e, .int .i64 n, .int .i64 s] rfl rfl (by simp [Value.oneCell']) (Vw.of_blk (blk_new _ _ rfl)) o2 (by omega) (by omega) ?_)
      intro v3 w3 o3 k3 b3
      have hgv : ¬ (Value.slice A l.length c).ownBlock = some g := fun e => (hO g e).2 rfl
      have B3 := (B2.kp0 kA).kp k3 hgv
      have f3 := B3.free 0
      have c3 := B3.cell 0
      simp at c3
      have hg3 : v3.ownBlock ≠ some g := fun eg => by
        rcases b3 with b3 | b3
        · exact hgv (b3 ▸ eg)
        · rw [b3] at eg
          have h1 := hB.lt
          have h2 := kx.size
          have h3 := Option.some.inj eg
          try simp at h3
          omega
      have o5 := own_kp o3 ((Kp.refl (· = g) w3).setCell (p := ⟨g, 0, none⟩) (fun _ => rfl) v3) (fun i hi e => hg3 (by rw [hi, e]))
      have B5 := B3.set 0 v3
      have K3 : Kp O w w3 := (((kx.then0 kA).mono (S' := O) (fun _ _ x => x.elim))).trans k3 (fun i hi e => (hO i e).1)
      have K4 : Kp O w (w3.setCell ⟨g, 0, none⟩ v3) := K3.setCell (p := ⟨g, 0, none⟩) (fun _ => hg) _
      have hlt3 := o3.lt
      have hs3 := k3.size
      have hsA := kA.size
      have hsx := kx.size
      obtain ⟨A3, cp3, rfl⟩ := row_any o3
      have hfin : ∃ O', RbAt (w3.setCell ⟨g, 0, none⟩ (.slice A3 (l.length + 1) cp3)) g O' (l ++ [⟨f, e, n, s⟩]) ∧ ∀ i, O' i → O i ∨ (w.heap.size ≤ i ∧ i < (w3.setCell ⟨g, 0, none⟩ (.slice A3 (l.length + 1) cp3)).heap.size) := by
        refine ⟨fun i => O i ∨ (Value.slice A3 (l.length + 1) cp3).ownBlock = some i, ⟨.inl hg, _, by simpa using B5, ?_, fun i hi => ⟨.inr hi, fun e => hg3 (by rw [hi, e])⟩⟩, fun i hi => ?_⟩
        · rw [rb_app, List.length_append]; exact o5
        · rcases hi with hi | hi
          · exact .inl hi
          · rcases b3 with b3 | b3
            · exact .inl (hO i (b3 ▸ hi)).1
            · have h1 := (hlt3 i hi).2
              rw [b3] at hi
              have h2 := Option.some.inj hi
              exact .inr ⟨by (try simp at h2); omega, by simpa [World.setCell] using h1⟩
      have HFIN := Lib.hid hfin
      clear hfin o5 B5 o3 k3 b3 o2 ho hO hB B2 B3 hg3 hgv
      go_wp2
      go_ret
      exact ⟨rfl, by obtain ⟨O', h1, h2⟩ := HFIN.out; exact ⟨O', h1, K4, h2⟩⟩
end Go.Proofs.Ytccamciijpmkjaa
