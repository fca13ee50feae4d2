/- Package record: Add, Load, over the plain disk. -/
import Derived.Test.YtkokgbmeienokaaEa
set_option linter.unusedVariables false
set_option linter.unusedSimpArgs false
namespace Go.Proofs.Ytkokgbmeienokaa
open Go.RowKit

noncomputable def Dk.add (d : Dk) (p : ByteArray) (b : List Int) : Int × Dk :=
  if 200 < b.length then (1, d) else if (d.app p (pk b)).1 ≠ 0 then d.app p (pk b) else (d.app p (pk b)).2.syn p
noncomputable def Dk.load (d : Dk) (p : ByteArray) : Int × List (List Int) × Dk :=
  if (sc (d.old p).b).2 < (d.old p).b.length then
    if (d.cut p ((sc (d.old p).b).2 : Nat)).1 ≠ 0 then ((d.cut p ((sc (d.old p).b).2 : Nat)).1, [], (d.cut p ((sc (d.old p).b).2 : Nat)).2) else (0, (sc (d.old p).b).1, (d.cut p ((sc (d.old p).b).2 : Nat)).2)
  else (0, (sc (d.old p).b).1, d)

/-- One act behind another one. -/
theorem Did.seq {w w1 w2 w3 : World} {g m : Nat} {O O' : Nat → Prop} {r : Int × Dk} {e : Ending} (k1 : Kp0 w w1) (hO : ∀ i, O' i → O i ∨ w1.heap.size ≤ i) (k2 : Kp O w1 w2) (D : Did w2 w3 g m O' r e) : Did w w3 g m O r e := by
  obtain ⟨O2, e1, h, hO2, k3⟩ := D
  have z1 := k1.size
  have z2 := k2.size
  refine ⟨O2, e1, h, fun i hi => ?_, ((k1.mono (fun _ _ x => x.elim)).trans k2 (fun i _ h => h)).trans k3 (fun i hi h => ?_)⟩
  · rcases hO2 i hi with h | h
    · rcases hO i h with h | h
      · exact .inl h
      · exact .inr (by omega)
    · exact .inr (by omega)
  · rcases hO i h with h | h
    · exact h
    · omega

set_option maxRecDepth 100000 in
theorem add62_c (g n : Nat) (O : Nat → Prop) (d : Dk) (p : ByteArray) (hp : p.size ≤ 100) (A : Option Addr) (c : Nat) (bs : List Int) (hl : bs.length ≤ 1000000) (hn : n ≤ 900000) (w : World) (h : DkAt w g n O d) (hb : Bz w A c bs) :
    Calls Try.prog 62 #[.pointer (some ⟨g, 0, none⟩), .string p, .slice A bs.length c] w fun e w' => Did w w' g (n + 2) O (d.add p bs) e := by
  have hadd : d.add p bs = if 200 < bs.length then (1, d) else if (d.app p (pk bs)).1 ≠ 0 then d.app p (pk bs) else (d.app p (pk bs)).2.syn p := rfl
  by_cases h2 : 200 < bs.length
  · rw [if_pos h2] at hadd
    rw [hadd]
    have h3 : (200 : Int) < bs.length := by omega
    clear hadd
    go_enter Try.func62, Try.ntmps62
    go_wp2
    go_ret
    exact Did.same h (by omega) (Kp.refl _ _)
  · rw [if_neg h2] at hadd
    have h3 : ¬ (200 : Int) < bs.length := by omega
    have hpk := pack_c A c bs w hb (by omega)
    have hpl : (pk bs).length ≤ 202 := by rw [pk_len (by omega)]; omega
    have hpb := pk_byt hb.byt
    have hlt := h.olt
    obtain ⟨s1, d1, hs⟩ : ∃ s1 d1, d.app p (pk bs) = (s1, d1) := ⟨_, _, rfl⟩
    have happ := fun A c W (k : Kp0 w W) (z : Bz W A c (pk bs)) ho => append20_c g n O d p hp A c (pk bs) (by omega) (by omega) W (h.kp0 k) z ho
    rw [hs] at hadd
    simp only [hs] at happ
    clear hs
    generalize pk bs = ps at hpk hpl hpb happ
    clear h2
    by_cases hs0 : s1 = 0
    · subst hs0
      rw [if_neg (by simp)] at hadd
      rw [hadd]
      clear hadd
      go_enter Try.func62, Try.ntmps62
      go_wp2_with fail
      refine hpk.mono ?_
      rintro e w1 ⟨A1, c1, rfl, o1, k1, f1⟩
      have z1 := bz_own o1 rfl hpb
      go_wp2_with fail
      refine (happ A1 c1 w1 k1 z1 (fun hz b hA ho => ?_)).mono ?_
      · obtain ⟨B, off, eA, _, _⟩ := z1.cell 0 (List.length_pos_iff.2 hz)
        rcases own_shape o1 with ⟨e, h0, _⟩ | ⟨r, cap, e, _⟩
        · exact hz (List.length_eq_zero_iff.1 h0)
        · injection e with e1
          have := f1 r (by rw [e1]; simp [Value.ownBlock])
          rw [hA] at e1; injection e1 with e1; subst e1
          have := hlt _ ho
          simp at *; omega
      rintro e w2 ⟨O1, rfl, h1, hO1, k2⟩
      have hsy := sync21_c g (n + 1) O1 d1 p hp (by omega) w2 h1
      clear hpk happ z1 o1 f1
      go_wp2_with fail
      refine hsy.mono ?_
      rintro e w3 D
      have D2 := D.seq k1 hO1 k2
      obtain ⟨O2, rfl, D3⟩ := D2
      clear hsy D h1
      go_wp2
      go_ret
      exact ⟨O2, rfl, D3⟩
    · rw [if_pos hs0] at hadd
      rw [hadd]
      have hs' : (s1 != 0) = true := by rw [bne_iff_ne]; exact hs0
      clear hadd hs0
      go_enter Try.func62, Try.ntmps62
      go_wp2_with fail
      refine hpk.mono ?_
      rintro e w1 ⟨A1, c1, rfl, o1, k1, f1⟩
      have z1 := bz_own o1 rfl hpb
      go_wp2_with fail
      refine (happ A1 c1 w1 k1 z1 (fun hz b hA ho => ?_)).mono ?_
      · rcases own_shape o1 with ⟨e, h0, _⟩ | ⟨r, cap, e, _⟩
        · exact hz (List.length_eq_zero_iff.1 h0)
        · injection e with e1
          have := f1 r (by rw [e1]; simp [Value.ownBlock])
          rw [hA] at e1; injection e1 with e1; subst e1
          have := hlt _ ho
          simp at *; omega
      rintro e w2 ⟨O1, rfl, h1, hO1, k2⟩
      clear hpk happ z1 o1 f1
      go_wp2
      go_ret
      obtain ⟨bm, V, I⟩ := h1
      exact ⟨O1, rfl, ⟨bm, V, { I with mp := I.mp.mono (by omega) }⟩, fun i hi => (hO1 i hi).imp id (fun h => Nat.le_trans k1.size h), (k1.mono (fun _ _ x => x.elim)).trans k2 (fun i _ h => h)⟩

/-- These blocks hold no byte. -/
theorem RowsAt.nob {w w' : World} {S : Nat → Prop} {v : Value} {ls : List (List Int)} {vs : List Value} (h : RowsAt w v ls vs) (k : Kp S w w') (hn : NoB w S) (hv : ∀ i, v.ownBlock = some i → ¬ S i) : RowsAt w' v ls vs := by
  refine h.kp k hv (fun j hj A n c he hz b hA hS => ?_)
  obtain ⟨A', c', e, hb, _⟩ := h.2.2 j hj
  rw [e] at he
  simp at he
  obtain ⟨rfl, _, _⟩ := he
  obtain ⟨B, off, eA, _, hc⟩ := hb.cell 0 (List.length_pos_iff.2 hz)
  rw [eA] at hA; injection hA with hA; subst hA
  exact hn _ hS _ _ hc

theorem sc_le : ∀ (n : Nat) (bs : List Int), bs.length ≤ n → (sc bs).2 ≤ bs.length
  | 0, bs, h => by
    obtain rfl : bs = [] := List.length_eq_zero_iff.1 (by omega)
    rw [sc_nil]; simp
  | n + 1, bs, h => by
    by_cases h0 : wh bs = 0
    · rw [sc_stop h0]; simp
    · have h1 := wh_bd bs
      have h2 := h1.2 h0
      have := sc_le n (bs.drop (wh bs)) (by rw [List.length_drop]; omega)
      rw [List.length_drop] at this
      rw [sc_go h0]
      show wh bs + _ ≤ _
      omega

/-- A log loaded. -/
def Lod (w w' : World) (g n : Nat) (O : Nat → Prop) (r : Int × List (List Int) × Dk) (e : Ending) : Prop :=
  ∃ O' v, e = .returned (.tuple #[v, .int .i64 r.1]) ∧ Rows w' v r.2.1 ∧ (∀ i, v.ownBlock = some i → w.heap.size ≤ i) ∧ DkAt w' g n O' r.2.2 ∧ (∀ i, O' i → O i ∨ w.heap.size ≤ i) ∧ Kp O w w'

set_option maxRecDepth 100000 in
theorem load63_c (g n : Nat) (O : Nat → Prop) (d : Dk) (p : ByteArray) (hp : p.size ≤ 100) (hn : n ≤ 900000) (w : World) (h : DkAt w g n O d) :
    Calls Try.prog 63 #[.pointer (some ⟨g, 0, none⟩), .string p] w fun e w' => Lod w w' g (n + 1) O (d.load p) e ∧ (¬ (sc (d.old p).b).2 < (d.old p).b.length → Kp0 w w') := by
  obtain ⟨bs, hbs⟩ : ∃ bs, (d.old p).b = bs := ⟨_, rfl⟩
  have hlod : d.load p = if (sc bs).2 < bs.length then if (d.cut p ((sc bs).2 : Nat)).1 ≠ 0 then ((d.cut p ((sc bs).2 : Nat)).1, [], (d.cut p ((sc bs).2 : Nat)).2) else (0, (sc bs).1, (d.cut p ((sc bs).2 : Nat)).2) else (0, (sc bs).1, d) := by rw [← hbs]; rfl
  rw [hbs]
  have hlen : bs.length ≤ 65536 := by
    rw [← hbs, old_len]
    obtain ⟨bm, V, I⟩ := h
    have := len_le_used d p I.ks
    have := I.us
    have := I.qu
    omega
  obtain ⟨is, hd⟩ : ∃ is, (d.F p = none ∧ bs = [] ∧ is = false) ∨ ∃ f, d.F p = some f ∧ bs = f.b ∧ is = true := by
    cases hF : d.F p with
    | none => exact ⟨false, .inl ⟨rfl, by rw [← hbs]; unfold Dk.old; rw [hF]; rfl, rfl⟩⟩
    | some f => exact ⟨true, .inr ⟨f, rfl, by rw [← hbs]; unfold Dk.old; rw [hF]; rfl, rfl⟩⟩
  have hby : ∀ c ∈ bs, 0 ≤ c ∧ c ≤ 255 := by
    rcases hd with ⟨_, rfl, _⟩ | ⟨f, hF, rfl, _⟩
    · simp
    · obtain ⟨bm, V, I⟩ := h
      obtain ⟨v, _, A, c, _, hb, _⟩ := I.yes p f hF
      exact hb.byt
  have hrd := read25_c g n O d p hp bs is hd (by omega) w h
  have hle : (sc bs).2 ≤ bs.length := sc_le _ bs (Nat.le_refl _)
  obtain ⟨zs, all, hsc⟩ : ∃ zs all, sc bs = (zs, all) := ⟨_, _, rfl⟩
  have hscan := fun A c W (z : Bz W A c bs) h1 h2 => scan_c A c bs W z (by omega) h1 h2
  simp only [hsc] at hlod hscan hle ⊢
  clear hsc hd hbs
  have hlt := h.olt
  by_cases hall : all < bs.length
  · have hall' : (all : Int) < (bs.length : Int) := by omega
    rw [if_pos hall] at hlod
    have hcut := fun W (k : Kp0 w W) => cut33_c g n O d p hp (all : Int) (by omega) W (h.kp0 k)
    obtain ⟨s1, d1, hs⟩ : ∃ s1 d1, d.cut p (all : Nat) = (s1, d1) := ⟨_, _, rfl⟩
    simp only [hs] at hlod hcut
    clear hs
    by_cases hs0 : s1 = 0
    · subst hs0
      rw [if_neg (by simp)] at hlod
      rw [hlod]
      clear hlod
      go_enter Try.func63, Try.ntmps63
      go_wp2_with fail
      refine hrd.mono ?_
      rintro e w1 ⟨A1, c1, rfl, o1, k1, f1⟩
      have z1 := bz_own o1 rfl hby
      have hcp := own_cap o1
      have hs1 := hscan A1 c1 w1 z1 hcp.1 hcp.2
      clear hrd hscan o1 f1
      go_wp2_with fail
      refine hs1.mono ?_
      rintro e w2 ⟨v, rfl, R, k2, f2⟩
      have hc2 := hcut w2 (k1.then0 k2)
      obtain ⟨L, cL, rfl⟩ := R.len
      have HALL := Lib.hid hall
      clear hcut hs1 z1
      go_wp2_with fail
      refine hc2.mono ?_
      rintro e w3 ⟨⟨O1, rfl, h3, hO1, k3⟩, S, kS, hSO, hnb⟩
      clear hc2
      go_wp2
      go_ret2
      have z1 := k1.size
      have z2 := k2.size
      refine ⟨⟨O1, _, rfl, ?_, fun i hi => Nat.le_trans z1 (f2 i hi), h3, fun i hi => (hO1 i hi).imp id (fun h => by omega), ((k1.then0 k2).mono (fun _ _ x => x.elim)).trans k3 (fun i _ h => h)⟩, fun h => absurd HALL.out h⟩
      obtain ⟨vs, R⟩ := R
      exact ⟨vs, R.nob kS hnb (fun i hi hS => by have := f2 i hi; have := hlt i (hSO i hS); omega)⟩
    · rw [if_pos hs0] at hlod
      rw [hlod]
      have hs' : (s1 != 0) = true := by rw [bne_iff_ne]; exact hs0
      clear hlod hs0
      go_enter Try.func63, Try.ntmps63
      go_wp2_with fail
      refine hrd.mono ?_
      rintro e w1 ⟨A1, c1, rfl, o1, k1, f1⟩
      have z1 := bz_own o1 rfl hby
      have hcp := own_cap o1
      have hs1 := hscan A1 c1 w1 z1 hcp.1 hcp.2
      clear hrd hscan o1 f1
      go_wp2_with fail
      refine hs1.mono ?_
      rintro e w2 ⟨v, rfl, R, k2, f2⟩
      have hc2 := hcut w2 (k1.then0 k2)
      have HALL := Lib.hid hall
      clear hcut hs1 z1
      go_wp2_with fail
      refine hc2.mono ?_
      rintro e w3 ⟨⟨O1, rfl, h3, hO1, k3⟩, S, kS, hSO, hnb⟩
      clear hc2
      go_wp2
      go_ret2
      have z1 := k1.size
      have z2 := k2.size
      exact ⟨⟨O1, _, rfl, Rows.nil _, by simp [Value.ownBlock], h3, fun i hi => (hO1 i hi).imp id (fun h => by omega), ((k1.then0 k2).mono (fun _ _ x => x.elim)).trans k3 (fun i _ h => h)⟩, fun h => absurd HALL.out h⟩
  · obtain rfl : all = bs.length := by omega
    rw [if_neg hall] at hlod
    rw [hlod]
    clear hlod hall hle
    go_enter Try.func63, Try.ntmps63
    go_wp2_with fail
    refine hrd.mono ?_
    rintro e w1 ⟨A1, c1, rfl, o1, k1, f1⟩
    have z1 := bz_own o1 rfl hby
    have hcp := own_cap o1
    have hs1 := hscan A1 c1 w1 z1 hcp.1 hcp.2
    clear hrd hscan o1 f1
    go_wp2_with fail
    refine hs1.mono ?_
    rintro e w2 ⟨v, rfl, R, k2, f2⟩
    clear hs1 z1
    go_wp2
    go_ret2
    have k12 := k1.then0 k2
    obtain ⟨bm, V, I⟩ := h.kp0 k12
    exact ⟨⟨O, v, rfl, R, fun i hi => Nat.le_trans k1.size (f2 i hi), ⟨bm, V, { I with mp := I.mp.mono (by omega) }⟩, fun i hi => .inl hi, k12.mono (fun _ _ x => x.elim)⟩, fun _ => k12⟩
end Go.Proofs.Ytkokgbmeienokaa
