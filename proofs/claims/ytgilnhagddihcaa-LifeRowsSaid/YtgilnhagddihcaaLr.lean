/- The walk of LifeRows. -/
import Derived.Test.YtgilnhagddihcaaLf
import Derived.Test.YtgilnhagddihcaaAp
import Derived.Deep.CutRange
import Derived.Deep.DeepFit
import Derived.Deep.RegionHeld3
set_option linter.unusedVariables false
set_option linter.unusedSimpArgs false
namespace Go.Proofs.Ytgilnhagddihcaa
open Go.RowKit

def rowOf : Int → List Int → Int
  | now, [] => now
  | now, t :: r => if my now t = true then rowOf t r else 0

/-- A slice's numbers. -/
def Rd (w : World) (a : Option Addr) (zs : List Int) : Prop :=
  ∀ j, j < zs.length → ∃ b off, a = some ⟨b, off, none⟩ ∧ w.cell? ⟨b, off + j, none⟩ = some (.int .i64 (zs.getD j 0))
theorem Rd.of {w : World} {b off : Nat} {vs : List Value} {zs : List Int} (h : Vw w b off vs) (e : vs = zs.map (.int .i64 ·)) : Rd w (some ⟨b, off, none⟩) zs := by
  intro j hj
  refine ⟨b, off, rfl, h j _ ?_⟩
  rw [e, List.getElem?_map, List.getElem?_eq_getElem hj]
  simp [List.getD, List.getElem?_eq_getElem hj]

theorem of_c (a : Option Addr) (n cap : Nat) (zs : List Int) (w : World) (hl : zs.length = n) (hn : n ≤ 100) (hr : Rd w a zs) :
    Calls Try.prog 34 #[.slice a n cap] w fun e w' => e = .returned (.int .i64 (rowOf 1 zs)) ∧ w = w' := by
  go_enter Try.func34, Try.ntmps34
  go_wp2_with fail
  go_loopw [3, 8] (fun s i wr => ∃ (now : Int) (k : Nat), s = .int .i64 now ∧ i = .int .i64 k ∧ k ≤ n ∧ rowOf now (zs.drop k) = rowOf 1 zs ∧ wr = w) (fun _ i _ => (n - intOf i).toNat)
  case atStart => exact ⟨1, 0, rfl, rfl, by omega, rfl, rfl⟩
  case round =>
    obtain ⟨now, k, rfl, rfl, hk, he, rfl⟩ := hrel
    by_cases h : k < n
    · obtain ⟨b, off, rfl, hc⟩ := hr k (by omega)
      have hd : zs.drop k = zs.getD k 0 :: zs.drop (k + 1) := by
        rw [List.drop_eq_getElem_cons (by omega)]; simp [List.getD, List.getElem?_eq_getElem (show k < zs.length by omega)]
      generalize zs.getD k 0 = x at hc hd
      rw [hd, rowOf] at he
      cases hm : my now x with
      | true =>
        rw [if_pos hm] at he
        go_wp2_with (go_at_call 39; refine (may_c _ _ _).mono ?_; rintro e w' ⟨rfl, rfl⟩)
        go_roundw
        case rel => exact ⟨x, k + 1, rfl, by go_num, by omega, he, trivial⟩
        case measure => simp [intOf]; omega
      | false =>
        rw [if_neg (by rw [hm]; decide)] at he
        go_wp2_with (go_at_call 39; refine (may_c _ _ _).mono ?_; rintro e w' ⟨rfl, rfl⟩)
        go_ret
        exact ⟨by rw [← he]; rfl, rfl⟩
    · have hkn : k = n := by omega
      subst hkn
      rw [List.drop_eq_nil_of_le (by omega), rowOf] at he
      go_wp2
      go_ret
      exact ⟨by rw [← he]; rfl, rfl⟩

theorem vat {W : World} {b q : Nat} {vs : List Value} {u : Value} (h : Vw W b 0 vs) (e : vs[q]? = some u) : W.cell? ⟨b, q, none⟩ = some u := by
  have := h q u e
  rwa [Nat.zero_add] at this

theorem of_x (a : Option Addr) (n cap : Nat) (zs : List Int) (r : Int) (w : World) (hl : zs.length = n) (hn : n ≤ 100) (hr : Rd w a zs) (he : rowOf 1 zs = r) :
    Calls Try.prog 34 #[.slice a n cap] w fun e w' => e = .returned (.int .i64 r) ∧ w = w' := by
  subst he; exact of_c a n cap zs w hl hn hr

theorem within_k' (v n : Int) (hn : 1 ≤ n) (h1 : n ≤ 9223372036854775807) (w : World) :
    Calls Try.prog 15 #[.int .i64 v, .int .i64 n] w fun e w' => ∃ r : Int, 0 ≤ r ∧ r < n ∧ e = .returned (.int .i64 r) ∧ w = w' :=
  (within_c v n hn h1 w).mono fun _ _ h => ⟨v % n, Int.emod_nonneg v (by omega), Int.emod_lt_of_pos v (by omega), h.1, h.2⟩

set_option maxRecDepth 100000 in
set_option maxHeartbeats 16000000 in
theorem rows_c (v0 : Int) (run : Bool) (v2 : Int) (w : World) :
    Calls Try.prog 9 #[.int .i64 v0, .bool run, .int .i64 v2] w fun e' w' => e' = .returned (.bool true) ∧ Below w.heap.size w w' := by
  go_enter Try.func9, Try.ntmps9
  go_wp2_with fail
  refine (within_k' _ 4 (by decide) (by decide) _).mono ?_
  rintro e w' ⟨F, hF0, hF1, rfl, rfl⟩
  obtain ⟨E, hE⟩ : ∃ E : Int, 3 + F = E := ⟨_, rfl⟩
  have hm1 : my 1 E = true := by have : E = 3 ∨ E = 4 ∨ E = 5 ∨ E = 6 := by omega
                                 rcases this with rfl | rfl | rfl | rfl <;> rfl
  have hm2 : my 2 E = true := by have : E = 3 ∨ E = 4 ∨ E = 5 ∨ E = 6 := by omega
                                 rcases this with rfl | rfl | rfl | rfl <;> rfl
  have hm3 : my 1 2 = true := rfl
  have hE0 : ∀ k, my E k = false := by
    intro k
    unfold my
    rw [if_neg (by omega), if_neg (by omega)]
  have e1 : rowOf 1 [E] = E := by simp [rowOf, hm1]
  have e2 : rowOf 1 [2, E] = E := by simp [rowOf, hm2, hm3]
  cases run

  · go_upto_region 5 with fail
    have hV : Vw (w.alloc (.cells #[.int .i64 E] 3)) w.heap.size 0 [.int .i64 E] := Vw.of_blk (blk_new _ _ rfl)
    have hK : Kp0 w (w.alloc (.cells #[.int .i64 E] 3)) := (by repeat (first | exact Kp.refl _ _ | apply Kp.drewN | apply Kp.drew | apply Kp.alloc | (refine Kp.setCell ?_ (fun hx => absurd hx (by simp)) _)))
    have hB : w.heap.size < (w.alloc (.cells #[.int .i64 E] 3)).heap.size := by simp
    generalize w.alloc (.cells #[.int .i64 E] 3) = w1 at *
    generalize w.heap.size = b at *
    go_cut [37] from 19 to 37 (fun s wx => s = .bool false ∧ Kp0 w1 wx)
    case first =>
      have c1 : Calls Try.prog 34 #[.slice (some ⟨b, 0, none⟩) 1 1] w1.drew (fun e w'' => e = .returned (.int .i64 E) ∧ w1.drew = w'') := of_x _ 1 _ [E] E _ rfl (by decide) (Rd.of (hV.kp0 ((Kp.refl _ _).drew) hB) rfl) e1
      have c2 : ∀ w', Kp0 w1 w' → Calls Try.prog 34 #[.slice (some ⟨b, 0, none⟩) 0 1] w' (fun e w'' => e = .returned (.int .i64 1) ∧ w' = w'') := fun w' k => of_x _ 0 _ [] 1 _ rfl (by decide) (Rd.of ((hV.take 0).kp0 k hB) rfl) (by rfl)
      have c2a := c2 w1.drew ((Kp.refl _ _).drew)
      have c2b := c2 ((w1.alloc (.cells #[.int .i64 1, .int .i64 2] 3)).drew) (((Kp.refl _ _).alloc _).drew)
      clear c2
      refine wp_region_any (by kernel_rfl) ?_
      change wpAny _ _ _ _ _ _ _ (World.drew _)
      refine wpAny_take (i := 0) (v := ?_) rfl (by kernel_rfl) (by kernel_rfl) (by kernel_rfl) (fun _ _ _ h => h) (Or.inl ⟨by kernel_rfl, ?_⟩) ?_
      rotate_left
      · intro w; go_simp; first | with_reducible rfl | (first | with_reducible rfl | exact rfl)
      rotate_left
      refine wpAny_take (i := 2) (v := ?_) rfl (by kernel_rfl) (by kernel_rfl) (by kernel_rfl) (fun _ _ _ h => h) (Or.inl ⟨by kernel_rfl, ?_⟩) ?_
      rotate_left
      · intro w; go_simp; first | with_reducible rfl | (first | with_reducible rfl | exact rfl)
      rotate_left
      refine wpAny_ready (rs := [1]) (by kernel_rfl) (by simp) ?_
      refine (AllReady.cons rfl (fun K hK => ?_) AllReady.nil)
      go_simp
      go_wp2_with (go_at_call 34; go_fit c1; rintro e w' ⟨rfl, rfl⟩)
      refine wpAny_take (i := 3) (v := ?_) rfl (by kernel_rfl) (by kernel_rfl) (by kernel_rfl) (fun _ _ _ h => h) (Or.inl ⟨by kernel_rfl, ?_⟩) ?_
      rotate_left
      · intro w; go_simp; first | with_reducible rfl | (first | with_reducible rfl | exact rfl)
      rotate_left
      refine wpAny_take (i := 4) (v := ?_) rfl (by kernel_rfl) (by kernel_rfl) (by kernel_rfl) (fun _ _ _ h => h) (Or.inl ⟨by kernel_rfl, ?_⟩) ?_
      rotate_left
      · intro w; go_simp; first | with_reducible rfl | (first | with_reducible rfl | exact rfl)
      rotate_left
      refine wpAny_take (i := 5) (v := ?_) rfl (by kernel_rfl) (by kernel_rfl) (by kernel_rfl) (fun _ _ _ h => h) (Or.inl ⟨by kernel_rfl, ?_⟩) ?_
      rotate_left
      · intro w; go_simp; first | with_reducible rfl | (first | with_reducible rfl | exact rfl)
      rotate_left
      refine wpAny_take (i := 6) (v := ?_) rfl (by kernel_rfl) (by kernel_rfl) (by kernel_rfl) (fun _ _ _ h => h) (Or.inl ⟨by kernel_rfl, ?_⟩) ?_
      rotate_left
      · intro w; go_simp; first | with_reducible rfl | (first | with_reducible rfl | exact rfl)
      rotate_left
      refine wpAny_take (i := 7) (v := ?_) rfl (by kernel_rfl) (by kernel_rfl) (by kernel_rfl) (fun _ _ _ h => h) (Or.inl ⟨by kernel_rfl, ?_⟩) ?_
      rotate_left
      · intro w; go_simp; first | with_reducible rfl | (first | with_reducible rfl | exact rfl)
      rotate_left
      refine wpAny_take (i := 8) (v := ?_) rfl (by kernel_rfl) (by kernel_rfl) (by kernel_rfl) (fun _ _ _ h => h) (Or.inl ⟨by kernel_rfl, ?_⟩) ?_
      rotate_left
      · intro w; go_simp; first | with_reducible rfl | (first | with_reducible rfl | exact rfl)
      rotate_left
      refine wpAny_take (i := 12) (v := ?_) rfl (by kernel_rfl) (by kernel_rfl) (by kernel_rfl) (fun _ _ _ h => h) (Or.inl ⟨by kernel_rfl, ?_⟩) ?_
      rotate_left
      · intro w; go_simp; first | with_reducible rfl | (first | with_reducible rfl | exact rfl)
      rotate_left
      refine wpAny_take (i := 13) (v := ?_) rfl (by kernel_rfl) (by kernel_rfl) (by kernel_rfl) (fun _ _ _ h => h) (Or.inl ⟨by kernel_rfl, ?_⟩) ?_
      rotate_left
      · intro w; go_simp; first | with_reducible rfl | (first | with_reducible rfl | exact rfl)
      rotate_left
      refine wpAny_take (i := 14) (v := ?_) rfl (by kernel_rfl) (by kernel_rfl) (by kernel_rfl) (fun _ _ _ h => h) (Or.inl ⟨by kernel_rfl, ?_⟩) ?_
      rotate_left
      · intro w; go_simp; first | with_reducible rfl | (first | with_reducible rfl | exact rfl)
      rotate_left
      refine wpAny_take (i := 9) (v := ?_) rfl (by kernel_rfl) (by kernel_rfl) (by kernel_rfl) (fun _ _ _ h => h) (Or.inl ⟨by kernel_rfl, ?_⟩) ?_
      rotate_left
      · intro w; go_simp; first | with_reducible rfl | (try simp only [show IntKind.i64.wrap 0 = 0 from by decide]; try simp; first | with_reducible rfl | exact rfl)
      rotate_left
      refine wpAny_ready (rs := [10, 11]) (by kernel_rfl) (by simp) ?_
      refine (AllReady.cons rfl (fun K hK => ?_) (AllReady.cons rfl (fun K hK => ?_) AllReady.nil))
      · go_simp
        go_wp2_with (go_at_call 34; go_fit c2a; rintro e w' ⟨rfl, rfl⟩)
        refine wpAny_ready (rs := [11]) (by kernel_rfl) (by simp) ?_
        refine (AllReady.cons rfl (fun K hK => ?_) AllReady.nil)
        go_simp
        refine hK _ _ ?_
        clear hK K
        refine wpAny_take (i := 15) (v := ?_) rfl (by kernel_rfl) (by kernel_rfl) (by kernel_rfl) (fun _ _ _ h => h) (Or.inl ⟨by kernel_rfl, ?_⟩) ?_
        rotate_left
        · intro w; go_simp; first | with_reducible rfl | (try simp only [show IntKind.i64.wrap 0 = 0 from by decide]; try simp; first | with_reducible rfl | exact rfl)
        rotate_left
        refine wpAny_ready (rs := [16]) (by kernel_rfl) (by simp) ?_
        refine (AllReady.cons rfl (fun K hK => ?_) AllReady.nil)
        go_simp
        refine hK _ _ ?_
        clear hK K
        refine wpAny_take (i := 17) (v := ?_) rfl (by kernel_rfl) (by kernel_rfl) (by kernel_rfl) (fun _ _ _ h => h) (Or.inl ⟨by kernel_rfl, ?_⟩) ?_
        rotate_left
        · intro w; go_simp; first | with_reducible rfl | (first | with_reducible rfl | exact rfl)
        rotate_left
        refine wpAny_take (i := 18) (v := ?_) rfl (by kernel_rfl) (by kernel_rfl) (by kernel_rfl) (fun _ _ _ h => h) (Or.inl ⟨by kernel_rfl, ?_⟩) ?_
        rotate_left
        · intro w; go_simp; first | with_reducible rfl | (first | with_reducible rfl | exact rfl)
        rotate_left
        refine wpAny_done (by kernel_rfl) ?_ _
        go_wp2_with fail
        go_meet
        exact ⟨rfl, (by repeat (first | exact Kp.refl _ _ | apply Kp.drewN | apply Kp.drew | apply Kp.alloc | (refine Kp.setCell ?_ (fun hx => absurd hx (by simp)) _)))⟩
      · go_simp
        refine hK _ _ ?_
        clear hK K
        refine wpAny_take (i := 15) (v := ?_) rfl (by kernel_rfl) (by kernel_rfl) (by kernel_rfl) (fun _ _ _ h => h) (Or.inl ⟨by kernel_rfl, ?_⟩) ?_
        rotate_left
        · intro w; go_simp; first | with_reducible rfl | (try simp only [show IntKind.i64.wrap 0 = 0 from by decide]; try simp; first | with_reducible rfl | exact rfl)
        rotate_left
        refine wpAny_ready (rs := [10, 16]) (by kernel_rfl) (by simp) ?_
        refine (AllReady.cons rfl (fun K hK => ?_) (AllReady.cons rfl (fun K hK => ?_) AllReady.nil))
        · go_simp
          go_wp2_with (go_at_call 34; go_fit c2b; rintro e w' ⟨rfl, rfl⟩)
          refine wpAny_ready (rs := [16]) (by kernel_rfl) (by simp) ?_
          refine (AllReady.cons rfl (fun K hK => ?_) AllReady.nil)
          go_simp
          refine hK _ _ ?_
          clear hK K
          refine wpAny_take (i := 17) (v := ?_) rfl (by kernel_rfl) (by kernel_rfl) (by kernel_rfl) (fun _ _ _ h => h) (Or.inl ⟨by kernel_rfl, ?_⟩) ?_
          rotate_left
          · intro w; go_simp; first | with_reducible rfl | (first | with_reducible rfl | exact rfl)
          rotate_left
          refine wpAny_take (i := 18) (v := ?_) rfl (by kernel_rfl) (by kernel_rfl) (by kernel_rfl) (fun _ _ _ h => h) (Or.inl ⟨by kernel_rfl, ?_⟩) ?_
          rotate_left
          · intro w; go_simp; first | with_reducible rfl | (first | with_reducible rfl | exact rfl)
          rotate_left
          refine wpAny_done (by kernel_rfl) ?_ _
          go_wp2_with fail
          go_meet
          exact ⟨rfl, (by repeat (first | exact Kp.refl _ _ | apply Kp.drewN | apply Kp.drew | apply Kp.alloc | (refine Kp.setCell ?_ (fun hx => absurd hx (by simp)) _)))⟩
        · go_simp
          refine hK _ _ ?_
          clear hK K
          refine wpAny_ready (rs := [10]) (by kernel_rfl) (by simp) ?_
          refine (AllReady.cons rfl (fun K hK => ?_) AllReady.nil)
          go_simp
          go_wp2_with (go_at_call 34; go_fit c2b; rintro e w' ⟨rfl, rfl⟩)
          refine wpAny_take (i := 17) (v := ?_) rfl (by kernel_rfl) (by kernel_rfl) (by kernel_rfl) (fun _ _ _ h => h) (Or.inl ⟨by kernel_rfl, ?_⟩) ?_
          rotate_left
          · intro w; go_simp; first | with_reducible rfl | (first | with_reducible rfl | exact rfl)
          rotate_left
          refine wpAny_take (i := 18) (v := ?_) rfl (by kernel_rfl) (by kernel_rfl) (by kernel_rfl) (fun _ _ _ h => h) (Or.inl ⟨by kernel_rfl, ?_⟩) ?_
          rotate_left
          · intro w; go_simp; first | with_reducible rfl | (first | with_reducible rfl | exact rfl)
          rotate_left
          refine wpAny_done (by kernel_rfl) ?_ _
          go_wp2_with fail
          go_meet
          exact ⟨rfl, (by repeat (first | exact Kp.refl _ _ | apply Kp.drewN | apply Kp.drew | apply Kp.alloc | (refine Kp.setCell ?_ (fun hx => absurd hx (by simp)) _)))⟩
    case rest =>
      obtain ⟨rfl, k1⟩ := hcut
      have hV1 := hV.kp0 k1 hB
      have hK1 := hK.then0 k1
      have hB1 := Nat.lt_of_lt_of_le hB k1.size
      clear hV hK hB k1
      go_wp2_with fail
      go_loopw [8] (fun s wr => ∃ k : Int, 0 ≤ k ∧ k ≤ 9 ∧ s = .int .i64 k ∧ Kp0 wc wr) (fun s _ => (9 - intOf s).toNat)
      case atStart => exact ⟨0, by omega, by omega, rfl, Kp.refl _ _⟩
      case round =>
        obtain ⟨k, hk0, hk9, rfl, kr⟩ := hrel
        have hV2 := hV1.kp0 kr hB1
        have hK2 := hK1.then0 kr
        have hB2 := Nat.lt_of_lt_of_le hB1 kr.size
        clear hK1
        by_cases hk : k < 9
        · have hz : rowOf 1 ([E] ++ [k]) = 0 := by simp [rowOf, hm1, hE0 k, hm3]
          go_wp2_with (at_builtin; refine list_app rfl _ _ 41 3 (.int .i64 0) 1 8 rfl rfl rfl rfl (by decide) (.slice none 0 0) 0 [] rfl b 0 1 1 [.int .i64 E] rfl rfl (by simp [Value.oneCell']) (hV2.kp0 (by repeat (first | exact Kp.refl _ _ | apply Kp.drewN | apply Kp.drew | apply Kp.alloc | (refine Kp.setCell ?_ (fun hx => absurd hx (by simp)) _))) hB2) (World.ownsRow_nil _ _ _ _) (by decide) (by decide) ?_)
          intro v3 w3 o3 k3 b3
          obtain ⟨g3, cap3, rfl, hc3, hc3', hg3⟩ := own_some o3 (by decide)
          have k3' : Kp0 wr w3 := (Kp.refl (fun _ => False) _).trans k3 (fun i _ h => by simp [Value.ownBlock] at h)
          have hg3' : wr.heap.size ≤ g3 := by rcases b3 with b3 | b3 <;> simp [Value.ownBlock] at b3 <;> omega
          clear k3 b3
          go_wp2_with (at_builtin; refine list_app rfl _ _ 41 3 (.int .i64 0) 1 8 rfl rfl rfl rfl (by decide) (.slice (some ⟨g3, 0, none⟩) 1 cap3) 1 _ rfl w3.heap.size 0 1 1 [.int .i64 k] rfl rfl (by simp [Value.oneCell']) (Vw.of_blk (blk_new _ _ rfl)) (own_kp (S := fun _ => False) o3 (by repeat (first | exact Kp.refl _ _ | apply Kp.drewN | apply Kp.drew | apply Kp.alloc | (refine Kp.setCell ?_ (fun hx => absurd hx (by simp)) _))) (fun _ _ x => x)) (by decide) (by decide) ?_)
          intro v4 w4 o4 k4 b4
          obtain ⟨g4, cap4, rfl, hc4, hc4', hg4⟩ := own_some o4 (by decide)
          have k4' : Kp0 wr w4 := (k3'.then0 (by repeat (first | exact Kp.refl _ _ | apply Kp.drewN | apply Kp.drew | apply Kp.alloc | (refine Kp.setCell ?_ (fun hx => absurd hx (by simp)) _)))).trans k4 (fun i hi h => by simp [Value.ownBlock] at h; omega)
          go_wp2_with fail
          refine (of_x (some ⟨g4, 0, none⟩) 2 _ ([E] ++ [k]) 0 _ rfl (by decide) (Rd.of (Vw.of_own o4) rfl) hz).mono ?_
          rintro e w' ⟨rfl, rfl⟩
          go_wp2
          go_roundw
          case rel => exact ⟨k + 1, by omega, by omega, by go_num, kr.then0 k4'⟩
          case measure => simp [intOf]; omega
        · clear kr hV1 hB1
          go_wp2_with fail
          refine (within_k' _ 1 (by decide) (by decide) _).mono ?_
          rintro e w' ⟨q, hq0, hq1, rfl, rfl⟩
          have hq : q = 0 := by omega
          rcases hq with rfl
          · go_upto_region 13 with fail
            go_cut [10] from 53 to 68 (fun s wx => ∃ g cap, s = .slice (some ⟨g, 0, none⟩) 2 cap ∧ Vw wx g 0 [.int .i64 E, .int .i64 E] ∧ Kp0 wr wx)
            case first =>
              have c0 : wr.cell? ⟨b, 0, none⟩ = some (.int .i64 E) := vat hV2 rfl
              refine wp_region_any (by kernel_rfl) ?_
              change wpAny _ _ _ _ _ _ _ (World.drew _)
              refine wpAny_take (i := 0) (v := ?_) rfl (by kernel_rfl) (by kernel_rfl) (by kernel_rfl) (fun _ _ _ h => h) (Or.inl ⟨by kernel_rfl, ?_⟩) ?_
              rotate_left
              · intro w; go_simp; first | with_reducible rfl | (first | with_reducible rfl | exact rfl)
              rotate_left
              refine wpAny_take (i := 1) (v := ?_) rfl (by kernel_rfl) (by kernel_rfl) (by kernel_rfl) (fun _ _ _ h => h) (Or.inl ⟨by kernel_rfl, ?_⟩) ?_
              rotate_left
              · intro w; go_simp; first | with_reducible rfl | (first | with_reducible rfl | exact rfl)
              rotate_left
              refine wpAny_take (i := 2) (v := ?_) rfl (by kernel_rfl) (by kernel_rfl) (by kernel_rfl) (fun _ _ _ h => h) (Or.inl ⟨by kernel_rfl, ?_⟩) ?_
              rotate_left
              · intro w; go_simp; first | with_reducible rfl | (first | with_reducible rfl | exact rfl)
              rotate_left
              refine wpAny_take (i := 3) (v := ?_) rfl (by kernel_rfl) (by kernel_rfl) (by kernel_rfl) (fun _ _ _ h => h) (Or.inl ⟨by kernel_rfl, ?_⟩) ?_
              rotate_left
              · intro w; go_simp; first | with_reducible rfl | (try simp only [show IntKind.i64.wrap 1 = 1 from by decide, show IntKind.i64.wrap 0 = 0 from by decide]; try simp; first | with_reducible rfl | exact rfl)
              rotate_left
              refine wpAny_take (i := 5) (v := ?_) rfl (by kernel_rfl) (by kernel_rfl) (by kernel_rfl) (fun _ _ _ h => h) (Or.inl ⟨by kernel_rfl, ?_⟩) ?_
              rotate_left
              · intro w; go_simp; first | with_reducible rfl | (first | with_reducible rfl | exact rfl)
              rotate_left
              refine wpAny_take (i := 6) (v := ?_) rfl (by kernel_rfl) (by kernel_rfl) (by kernel_rfl) (fun _ _ _ h => h) (Or.inl ⟨by kernel_rfl, ?_⟩) ?_
              rotate_left
              · intro w; go_simp; first | with_reducible rfl | (first | with_reducible rfl | exact rfl)
              rotate_left
              refine wpAny_take (i := 7) (v := ?_) rfl (by kernel_rfl) (by kernel_rfl) (by kernel_rfl) (fun _ _ _ h => h) (Or.inl ⟨by kernel_rfl, ?_⟩) ?_
              rotate_left
              · intro w; go_simp; first | with_reducible rfl | (try simp only [show IntKind.i64.wrap 1 = 1 from by decide, show IntKind.i64.wrap 0 = 0 from by decide]; try simp; first | with_reducible rfl | exact rfl)
              rotate_left
              refine wpAny_take (i := 11) (v := ?_) rfl (by kernel_rfl) (by kernel_rfl) (by kernel_rfl) (fun _ _ _ h => h) (Or.inl ⟨by kernel_rfl, ?_⟩) ?_
              rotate_left
              · intro w; go_simp; first | with_reducible rfl | (first | with_reducible rfl | exact rfl)
              rotate_left
              refine wpAny_take (i := 12) (v := ?_) rfl (by kernel_rfl) (by kernel_rfl) (by kernel_rfl) (fun _ _ _ h => h) (Or.inl ⟨by kernel_rfl, ?_⟩) ?_
              rotate_left
              · intro w; go_simp; first | with_reducible rfl | (first | with_reducible rfl | exact rfl)
              rotate_left
              refine wpAny_take (i := 13) (v := ?_) rfl (by kernel_rfl) (by kernel_rfl) (by kernel_rfl) (fun _ _ _ h => h) (Or.inl ⟨by kernel_rfl, ?_⟩) ?_
              rotate_left
              · intro w; go_simp; first | with_reducible rfl | (first | with_reducible rfl | exact rfl)
              rotate_left
              refine wpAny_take (i := 14) (v := ?_) rfl (by kernel_rfl) (by kernel_rfl) (by kernel_rfl) (fun _ _ _ h => h) (Or.inl ⟨by kernel_rfl, ?_⟩) ?_
              rotate_left
              · intro w; go_simp; first | with_reducible rfl | (try simp only [show IntKind.i64.wrap 1 = 1 from by decide, show IntKind.i64.wrap 0 = 0 from by decide]; try simp; first | with_reducible rfl | exact rfl)
              rotate_left
              refine wpAny_ready (rs := [4, 8]) (by kernel_rfl) (by simp) ?_
              refine (AllReady.cons rfl (fun K hK => ?_) (AllReady.cons rfl (fun K hK => ?_) AllReady.nil))
              · (refine step_app rfl (.const (.slice none 0 0)) (.tmp 56) 41 3 (.int .i64 0) 1 8 rfl rfl rfl rfl (by decide) (.slice none 0 0) 0 [] (by simp [Act.eval]) b 0 1 1 [.int .i64 E] (by simp [Act.eval, Act.put]) rfl (by simp [Value.oneCell']) ((hV2.take 1).kp0 (by repeat (first | exact Kp.refl _ _ | apply Kp.drewN | apply Kp.drew | apply Kp.alloc | (refine Kp.setCell ?_ (fun hx => absurd hx (by simp)) _))) hB2) (World.ownsRow_nil _ _ _ _) (by decide) (by decide) ?_; intro v5 w5 o5 k5 b5; have K5 := Kp.trans (S := fun _ => False) (a := wr) (by repeat (first | exact Kp.refl _ _ | apply Kp.drewN | apply Kp.drew | apply Kp.alloc | (refine Kp.setCell ?_ (fun hx => absurd hx (by simp)) _))) k5 (fun i _ h => by simp [Value.ownBlock] at h); obtain ⟨g5, cap5, rfl, hc5, hc5', hg5⟩ := own_some o5 (by decide); have hg5' : wr.heap.size ≤ g5 := (by rcases b5 with b5 | b5 <;> simp [Value.ownBlock] at b5 <;> omega); have c5 := (hV2.kp0 K5 hB2) 0 _ rfl; simp at c5)
                refine hK _ _ ?_
                clear hK K
                refine wpAny_ready (rs := [8]) (by kernel_rfl) (by simp) ?_
                refine (AllReady.cons rfl (fun K hK => ?_) AllReady.nil)
                go_simp
                refine hK _ _ ?_
                clear hK K
                refine wpAny_ready (rs := [9]) (by kernel_rfl) (by simp) ?_
                refine (AllReady.cons rfl (fun K hK => ?_) AllReady.nil)
                go_simp
                refine hK _ _ ?_
                clear hK K
                refine wpAny_ready (rs := [10]) (by kernel_rfl) (by simp) ?_
                refine (AllReady.cons rfl (fun K hK => ?_) AllReady.nil)
                (refine step_app rfl (.tmp 57) (.tmp 62) 41 3 (.int .i64 0) 1 8 rfl rfl rfl rfl (by decide) (.slice (some ⟨g5, 0, none⟩) 1 cap5) 1 _ (by simp [Act.eval, Act.put]) w5.heap.size 0 1 1 [.int .i64 E] (by simp [Act.eval, Act.put]) rfl (by simp [Value.oneCell']) (Vw.of_blk (blk_new _ _ rfl)) (own_kp (S := fun _ => False) o5 (by repeat (first | exact Kp.refl _ _ | apply Kp.drewN | apply Kp.drew | apply Kp.alloc | (refine Kp.setCell ?_ (fun hx => absurd hx (by simp)) _))) (fun _ _ x => x)) (by decide) (by decide) ?_; intro v6 w6 o6 k6 b6; obtain ⟨g6, cap6, rfl, hc6, hc6', hg6⟩ := own_some o6 (by decide); have K6 : Kp0 wr w6 := (K5.then0 (by repeat (first | exact Kp.refl _ _ | apply Kp.drewN | apply Kp.drew | apply Kp.alloc | (refine Kp.setCell ?_ (fun hx => absurd hx (by simp)) _)))).trans k6 (fun i hi h => by simp [Value.ownBlock] at h; omega); have hg6' : wr.heap.size ≤ g6 := (by rcases b6 with b6 | b6 <;> simp [Value.ownBlock] at b6 <;> omega))
                refine hK _ _ ?_
                clear hK K
                refine wpAny_ready (rs := [15]) (by kernel_rfl) (by simp) ?_
                refine (AllReady.cons rfl (fun K hK => ?_) AllReady.nil)
                (refine step_app rfl (.tmp 63) (.tmp 67) 41 3 (.int .i64 0) 1 8 rfl rfl rfl rfl (by decide) (.slice (some ⟨g6, 0, none⟩) 2 cap6) 2 _ (by simp [Act.eval, Act.put]) b 0 0 0 [] (by simp [Act.eval, Act.put]) rfl (by simp [Value.oneCell']) (fun j u h => by simp at h) (own_kp (S := fun _ => False) o6 (by repeat (first | exact Kp.refl _ _ | apply Kp.drewN | apply Kp.drew | apply Kp.alloc | (refine Kp.setCell ?_ (fun hx => absurd hx (by simp)) _))) (fun _ _ x => x)) (by decide) (by decide) ?_; intro v7 w7 o7 k7 b7; obtain ⟨g7, cap7, rfl, hc7, hc7', hg7⟩ := own_some o7 (by decide); have K7 : Kp0 wr w7 := (K6.then0 (by repeat (first | exact Kp.refl _ _ | apply Kp.drewN | apply Kp.drew | apply Kp.alloc | (refine Kp.setCell ?_ (fun hx => absurd hx (by simp)) _)))).trans k7 (fun i hi h => by simp [Value.ownBlock] at h; omega))
                refine hK _ _ ?_
                clear hK K
                refine wpAny_take (i := 16) (v := ?_) rfl (by kernel_rfl) (by kernel_rfl) (by kernel_rfl) (fun _ _ _ h => h) (Or.inl ⟨by kernel_rfl, ?_⟩) ?_
                rotate_left
                · intro w; go_simp; first | with_reducible rfl | (first | with_reducible rfl | exact rfl)
                rotate_left
                refine wpAny_done (by kernel_rfl) ?_ _
                go_wp2_with fail
                go_meet
                exact ⟨g7, cap7, rfl, Vw.of_own o7, K7⟩
              · go_simp
                refine hK _ _ ?_
                clear hK K
                refine wpAny_ready (rs := [4, 9]) (by kernel_rfl) (by simp) ?_
                refine (AllReady.cons rfl (fun K hK => ?_) (AllReady.cons rfl (fun K hK => ?_) AllReady.nil))
                · (refine step_app rfl (.const (.slice none 0 0)) (.tmp 56) 41 3 (.int .i64 0) 1 8 rfl rfl rfl rfl (by decide) (.slice none 0 0) 0 [] (by simp [Act.eval]) b 0 1 1 [.int .i64 E] (by simp [Act.eval, Act.put]) rfl (by simp [Value.oneCell']) ((hV2.take 1).kp0 (by repeat (first | exact Kp.refl _ _ | apply Kp.drewN | apply Kp.drew | apply Kp.alloc | (refine Kp.setCell ?_ (fun hx => absurd hx (by simp)) _))) hB2) (World.ownsRow_nil _ _ _ _) (by decide) (by decide) ?_; intro v5 w5 o5 k5 b5; have K5 := Kp.trans (S := fun _ => False) (a := wr) (by repeat (first | exact Kp.refl _ _ | apply Kp.drewN | apply Kp.drew | apply Kp.alloc | (refine Kp.setCell ?_ (fun hx => absurd hx (by simp)) _))) k5 (fun i _ h => by simp [Value.ownBlock] at h); obtain ⟨g5, cap5, rfl, hc5, hc5', hg5⟩ := own_some o5 (by decide); have hg5' : wr.heap.size ≤ g5 := (by rcases b5 with b5 | b5 <;> simp [Value.ownBlock] at b5 <;> omega); have c5 := (hV2.kp0 K5 hB2) 0 _ rfl; simp at c5)
                  refine hK _ _ ?_
                  clear hK K
                  refine wpAny_ready (rs := [9]) (by kernel_rfl) (by simp) ?_
                  refine (AllReady.cons rfl (fun K hK => ?_) AllReady.nil)
                  go_simp
                  refine hK _ _ ?_
                  clear hK K
                  refine wpAny_ready (rs := [10]) (by kernel_rfl) (by simp) ?_
                  refine (AllReady.cons rfl (fun K hK => ?_) AllReady.nil)
                  (refine step_app rfl (.tmp 57) (.tmp 62) 41 3 (.int .i64 0) 1 8 rfl rfl rfl rfl (by decide) (.slice (some ⟨g5, 0, none⟩) 1 cap5) 1 _ (by simp [Act.eval, Act.put]) w5.heap.size 0 1 1 [.int .i64 E] (by simp [Act.eval, Act.put]) rfl (by simp [Value.oneCell']) (Vw.of_blk (blk_new _ _ rfl)) (own_kp (S := fun _ => False) o5 (by repeat (first | exact Kp.refl _ _ | apply Kp.drewN | apply Kp.drew | apply Kp.alloc | (refine Kp.setCell ?_ (fun hx => absurd hx (by simp)) _))) (fun _ _ x => x)) (by decide) (by decide) ?_; intro v6 w6 o6 k6 b6; obtain ⟨g6, cap6, rfl, hc6, hc6', hg6⟩ := own_some o6 (by decide); have K6 : Kp0 wr w6 := (K5.then0 (by repeat (first | exact Kp.refl _ _ | apply Kp.drewN | apply Kp.drew | apply Kp.alloc | (refine Kp.setCell ?_ (fun hx => absurd hx (by simp)) _)))).trans k6 (fun i hi h => by simp [Value.ownBlock] at h; omega); have hg6' : wr.heap.size ≤ g6 := (by rcases b6 with b6 | b6 <;> simp [Value.ownBlock] at b6 <;> omega))
                  refine hK _ _ ?_
                  clear hK K
                  refine wpAny_ready (rs := [15]) (by kernel_rfl) (by simp) ?_
                  refine (AllReady.cons rfl (fun K hK => ?_) AllReady.nil)
                  (refine step_app rfl (.tmp 63) (.tmp 67) 41 3 (.int .i64 0) 1 8 rfl rfl rfl rfl (by decide) (.slice (some ⟨g6, 0, none⟩) 2 cap6) 2 _ (by simp [Act.eval, Act.put]) b 0 0 0 [] (by simp [Act.eval, Act.put]) rfl (by simp [Value.oneCell']) (fun j u h => by simp at h) (own_kp (S := fun _ => False) o6 (by repeat (first | exact Kp.refl _ _ | apply Kp.drewN | apply Kp.drew | apply Kp.alloc | (refine Kp.setCell ?_ (fun hx => absurd hx (by simp)) _))) (fun _ _ x => x)) (by decide) (by decide) ?_; intro v7 w7 o7 k7 b7; obtain ⟨g7, cap7, rfl, hc7, hc7', hg7⟩ := own_some o7 (by decide); have K7 : Kp0 wr w7 := (K6.then0 (by repeat (first | exact Kp.refl _ _ | apply Kp.drewN | apply Kp.drew | apply Kp.alloc | (refine Kp.setCell ?_ (fun hx => absurd hx (by simp)) _)))).trans k7 (fun i hi h => by simp [Value.ownBlock] at h; omega))
                  refine hK _ _ ?_
                  clear hK K
                  refine wpAny_take (i := 16) (v := ?_) rfl (by kernel_rfl) (by kernel_rfl) (by kernel_rfl) (fun _ _ _ h => h) (Or.inl ⟨by kernel_rfl, ?_⟩) ?_
                  rotate_left
                  · intro w; go_simp; first | with_reducible rfl | (first | with_reducible rfl | exact rfl)
                  rotate_left
                  refine wpAny_done (by kernel_rfl) ?_ _
                  go_wp2_with fail
                  go_meet
                  exact ⟨g7, cap7, rfl, Vw.of_own o7, K7⟩
                · go_simp
                  refine hK _ _ ?_
                  clear hK K
                  refine wpAny_ready (rs := [4]) (by kernel_rfl) (by simp) ?_
                  refine (AllReady.cons rfl (fun K hK => ?_) AllReady.nil)
                  (refine step_app rfl (.const (.slice none 0 0)) (.tmp 56) 41 3 (.int .i64 0) 1 8 rfl rfl rfl rfl (by decide) (.slice none 0 0) 0 [] (by simp [Act.eval]) b 0 1 1 [.int .i64 E] (by simp [Act.eval, Act.put]) rfl (by simp [Value.oneCell']) ((hV2.take 1).kp0 (by repeat (first | exact Kp.refl _ _ | apply Kp.drewN | apply Kp.drew | apply Kp.alloc | (refine Kp.setCell ?_ (fun hx => absurd hx (by simp)) _))) hB2) (World.ownsRow_nil _ _ _ _) (by decide) (by decide) ?_; intro v5 w5 o5 k5 b5; have K5 := Kp.trans (S := fun _ => False) (a := wr) (by repeat (first | exact Kp.refl _ _ | apply Kp.drewN | apply Kp.drew | apply Kp.alloc | (refine Kp.setCell ?_ (fun hx => absurd hx (by simp)) _))) k5 (fun i _ h => by simp [Value.ownBlock] at h); obtain ⟨g5, cap5, rfl, hc5, hc5', hg5⟩ := own_some o5 (by decide); have hg5' : wr.heap.size ≤ g5 := (by rcases b5 with b5 | b5 <;> simp [Value.ownBlock] at b5 <;> omega); have c5 := (hV2.kp0 K5 hB2) 0 _ rfl; simp at c5; have L5 := (Vw.of_blk (b := wr.heap.size) (cs := #[.int .i64 E]) (T := 3) (fr := (0, 0)) (by repeat (first | (refine blk_new _ _ ?_; (simp; done)) | apply Blk.drew | apply Blk.drewN | apply Blk.alloc))).kp k5 (by simp) (fun h => by simp [Value.ownBlock] at h))
                  refine hK _ _ ?_
                  clear hK K
                  refine wpAny_ready (rs := [10]) (by kernel_rfl) (by simp) ?_
                  refine (AllReady.cons rfl (fun K hK => ?_) AllReady.nil)
                  (refine step_app rfl (.tmp 57) (.tmp 62) 41 3 (.int .i64 0) 1 8 rfl rfl rfl rfl (by decide) (.slice (some ⟨g5, 0, none⟩) 1 cap5) 1 _ (by simp [Act.eval, Act.put]) wr.heap.size 0 1 1 [.int .i64 E] (by simp [Act.eval, Act.put]) rfl (by simp [Value.oneCell']) (L5.kp0 (by repeat (first | exact Kp.refl _ _ | apply Kp.drewN | apply Kp.drew | apply Kp.alloc | (refine Kp.setCell ?_ (fun hx => absurd hx (by simp)) _))) (by omega)) (own_kp (S := fun _ => False) o5 (by repeat (first | exact Kp.refl _ _ | apply Kp.drewN | apply Kp.drew | apply Kp.alloc | (refine Kp.setCell ?_ (fun hx => absurd hx (by simp)) _))) (fun _ _ x => x)) (by decide) (by decide) ?_; intro v6 w6 o6 k6 b6; obtain ⟨g6, cap6, rfl, hc6, hc6', hg6⟩ := own_some o6 (by decide); have K6 : Kp0 wr w6 := (K5.then0 (by repeat (first | exact Kp.refl _ _ | apply Kp.drewN | apply Kp.drew | apply Kp.alloc | (refine Kp.setCell ?_ (fun hx => absurd hx (by simp)) _)))).trans k6 (fun i hi h => by simp [Value.ownBlock] at h; omega); have hg6' : wr.heap.size ≤ g6 := (by rcases b6 with b6 | b6 <;> simp [Value.ownBlock] at b6 <;> omega))
                  refine hK _ _ ?_
                  clear hK K
                  refine wpAny_ready (rs := [15]) (by kernel_rfl) (by simp) ?_
                  refine (AllReady.cons rfl (fun K hK => ?_) AllReady.nil)
                  (refine step_app rfl (.tmp 63) (.tmp 67) 41 3 (.int .i64 0) 1 8 rfl rfl rfl rfl (by decide) (.slice (some ⟨g6, 0, none⟩) 2 cap6) 2 _ (by simp [Act.eval, Act.put]) b 0 0 0 [] (by simp [Act.eval, Act.put]) rfl (by simp [Value.oneCell']) (fun j u h => by simp at h) (own_kp (S := fun _ => False) o6 (by repeat (first | exact Kp.refl _ _ | apply Kp.drewN | apply Kp.drew | apply Kp.alloc | (refine Kp.setCell ?_ (fun hx => absurd hx (by simp)) _))) (fun _ _ x => x)) (by decide) (by decide) ?_; intro v7 w7 o7 k7 b7; obtain ⟨g7, cap7, rfl, hc7, hc7', hg7⟩ := own_some o7 (by decide); have K7 : Kp0 wr w7 := (K6.then0 (by repeat (first | exact Kp.refl _ _ | apply Kp.drewN | apply Kp.drew | apply Kp.alloc | (refine Kp.setCell ?_ (fun hx => absurd hx (by simp)) _)))).trans k7 (fun i hi h => by simp [Value.ownBlock] at h; omega))
                  refine hK _ _ ?_
                  clear hK K
                  refine wpAny_take (i := 16) (v := ?_) rfl (by kernel_rfl) (by kernel_rfl) (by kernel_rfl) (fun _ _ _ h => h) (Or.inl ⟨by kernel_rfl, ?_⟩) ?_
                  rotate_left
                  · intro w; go_simp; first | with_reducible rfl | (first | with_reducible rfl | exact rfl)
                  rotate_left
                  refine wpAny_done (by kernel_rfl) ?_ _
                  go_wp2_with fail
                  go_meet
                  exact ⟨g7, cap7, rfl, Vw.of_own o7, K7⟩
            case rest =>
              obtain ⟨g, cap, rfl, hVt, k13⟩ := hcut
              have h22 : my 2 2 = false := rfl
              have ht : rowOf 1 [E, E] = 0 := by simp [rowOf, hm1, hm2, hm3, h22, hE0]
              have KF := hK2.then0 k13
              clear hV2 hB2 hE0 e1 e2
              go_wp2_with fail
              refine (of_x (some ⟨g, 0, none⟩) 2 _ [E, E] 0 _ rfl (by decide) (Rd.of hVt rfl) ht).mono ?_
              rintro e w' ⟨rfl, rfl⟩
              go_wp2_with fail
              refine (of_x (some ⟨wc.heap.size, 0, none⟩) 1 _ [7] 7 _ rfl (by decide) (Rd.of (Vw.of_blk (blk_new _ _ rfl)) rfl) rfl).mono ?_
              rintro e w' ⟨rfl, rfl⟩
              go_wp2_with fail
              refine (of_x (some ⟨wc.heap.size + 1, 0, none⟩) 2 _ [2, 7] 0 _ rfl (by decide) (Rd.of (Vw.of_blk (blk_new _ _ (by simp))) rfl) rfl).mono ?_
              rintro e w' ⟨rfl, rfl⟩
              go_wp2_with fail
              refine (of_x (some ⟨wc.heap.size + 1 + 1, 0, none⟩) 1 _ [1] 0 _ rfl (by decide) (Rd.of (Vw.of_blk (blk_new _ _ (by simp))) rfl) rfl).mono ?_
              rintro e w' ⟨rfl, rfl⟩
              go_wp2_with fail
              refine (wakes9_c _).mono ?_
              rintro e w4 ⟨rfl, bel⟩
              go_wp2
              go_ret
              exact ⟨rfl, ((KF.then0 (by repeat (first | exact Kp.refl _ _ | apply Kp.drewN | apply Kp.drew | apply Kp.alloc | (refine Kp.setCell ?_ (fun hx => absurd hx (by simp)) _)))).then0 (Kp.of_below bel)).below0⟩
  · go_upto_region 5 with fail
    have hV : Vw ((w.alloc (.cells #[.int .i64 E] 3)).alloc (.cells #[.int .i64 2, .int .i64 E] 3)) (w.heap.size + 1) 0 [.int .i64 2, .int .i64 E] := Vw.of_blk (blk_new _ _ (by simp))
    have hK : Kp0 w ((w.alloc (.cells #[.int .i64 E] 3)).alloc (.cells #[.int .i64 2, .int .i64 E] 3)) := (by repeat (first | exact Kp.refl _ _ | apply Kp.drewN | apply Kp.drew | apply Kp.alloc | (refine Kp.setCell ?_ (fun hx => absurd hx (by simp)) _)))
    have hB : w.heap.size + 1 < ((w.alloc (.cells #[.int .i64 E] 3)).alloc (.cells #[.int .i64 2, .int .i64 E] 3)).heap.size := by simp
    generalize (w.alloc (.cells #[.int .i64 E] 3)).alloc (.cells #[.int .i64 2, .int .i64 E] 3) = w1 at *
    generalize w.heap.size + 1 = b at *
    go_cut [37] from 19 to 37 (fun s wx => s = .bool false ∧ Kp0 w1 wx)
    case first =>
      have c1 : Calls Try.prog 34 #[.slice (some ⟨b, 0, none⟩) 2 2] w1.drew (fun e w'' => e = .returned (.int .i64 E) ∧ w1.drew = w'') := of_x _ 2 _ [2, E] E _ rfl (by decide) (Rd.of (hV.kp0 ((Kp.refl _ _).drew) hB) rfl) e2
      have c2 : ∀ w', Kp0 w1 w' → Calls Try.prog 34 #[.slice (some ⟨b, 0, none⟩) 1 2] w' (fun e w'' => e = .returned (.int .i64 2) ∧ w' = w'') := fun w' k => of_x _ 1 _ [2] 2 _ rfl (by decide) (Rd.of ((hV.take 1).kp0 k hB) rfl) (by rfl)
      have c2a := c2 w1.drew ((Kp.refl _ _).drew)
      have c2b := c2 ((w1.alloc (.cells #[.int .i64 1, .int .i64 2] 3)).drew) (((Kp.refl _ _).alloc _).drew)
      clear c2
      refine wp_region_any (by kernel_rfl) ?_
      change wpAny _ _ _ _ _ _ _ (World.drew _)
      refine wpAny_take (i := 0) (v := ?_) rfl (by kernel_rfl) (by kernel_rfl) (by kernel_rfl) (fun _ _ _ h => h) (Or.inl ⟨by kernel_rfl, ?_⟩) ?_
      rotate_left
      · intro w; go_simp; first | with_reducible rfl | (first | with_reducible rfl | exact rfl)
      rotate_left
      refine wpAny_take (i := 2) (v := ?_) rfl (by kernel_rfl) (by kernel_rfl) (by kernel_rfl) (fun _ _ _ h => h) (Or.inl ⟨by kernel_rfl, ?_⟩) ?_
      rotate_left
      · intro w; go_simp; first | with_reducible rfl | (first | with_reducible rfl | exact rfl)
      rotate_left
      refine wpAny_ready (rs := [1]) (by kernel_rfl) (by simp) ?_
      refine (AllReady.cons rfl (fun K hK => ?_) AllReady.nil)
      go_simp
      go_wp2_with (go_at_call 34; go_fit c1; rintro e w' ⟨rfl, rfl⟩)
      refine wpAny_take (i := 3) (v := ?_) rfl (by kernel_rfl) (by kernel_rfl) (by kernel_rfl) (fun _ _ _ h => h) (Or.inl ⟨by kernel_rfl, ?_⟩) ?_
      rotate_left
      · intro w; go_simp; first | with_reducible rfl | (first | with_reducible rfl | exact rfl)
      rotate_left
      refine wpAny_take (i := 4) (v := ?_) rfl (by kernel_rfl) (by kernel_rfl) (by kernel_rfl) (fun _ _ _ h => h) (Or.inl ⟨by kernel_rfl, ?_⟩) ?_
      rotate_left
      · intro w; go_simp; first | with_reducible rfl | (first | with_reducible rfl | exact rfl)
      rotate_left
      refine wpAny_take (i := 5) (v := ?_) rfl (by kernel_rfl) (by kernel_rfl) (by kernel_rfl) (fun _ _ _ h => h) (Or.inl ⟨by kernel_rfl, ?_⟩) ?_
      rotate_left
      · intro w; go_simp; first | with_reducible rfl | (first | with_reducible rfl | exact rfl)
      rotate_left
      refine wpAny_take (i := 6) (v := ?_) rfl (by kernel_rfl) (by kernel_rfl) (by kernel_rfl) (fun _ _ _ h => h) (Or.inl ⟨by kernel_rfl, ?_⟩) ?_
      rotate_left
      · intro w; go_simp; first | with_reducible rfl | (first | with_reducible rfl | exact rfl)
      rotate_left
      refine wpAny_take (i := 7) (v := ?_) rfl (by kernel_rfl) (by kernel_rfl) (by kernel_rfl) (fun _ _ _ h => h) (Or.inl ⟨by kernel_rfl, ?_⟩) ?_
      rotate_left
      · intro w; go_simp; first | with_reducible rfl | (first | with_reducible rfl | exact rfl)
      rotate_left
      refine wpAny_take (i := 8) (v := ?_) rfl (by kernel_rfl) (by kernel_rfl) (by kernel_rfl) (fun _ _ _ h => h) (Or.inl ⟨by kernel_rfl, ?_⟩) ?_
      rotate_left
      · intro w; go_simp; first | with_reducible rfl | (first | with_reducible rfl | exact rfl)
      rotate_left
      refine wpAny_take (i := 12) (v := ?_) rfl (by kernel_rfl) (by kernel_rfl) (by kernel_rfl) (fun _ _ _ h => h) (Or.inl ⟨by kernel_rfl, ?_⟩) ?_
      rotate_left
      · intro w; go_simp; first | with_reducible rfl | (first | with_reducible rfl | exact rfl)
      rotate_left
      refine wpAny_take (i := 13) (v := ?_) rfl (by kernel_rfl) (by kernel_rfl) (by kernel_rfl) (fun _ _ _ h => h) (Or.inl ⟨by kernel_rfl, ?_⟩) ?_
      rotate_left
      · intro w; go_simp; first | with_reducible rfl | (first | with_reducible rfl | exact rfl)
      rotate_left
      refine wpAny_take (i := 14) (v := ?_) rfl (by kernel_rfl) (by kernel_rfl) (by kernel_rfl) (fun _ _ _ h => h) (Or.inl ⟨by kernel_rfl, ?_⟩) ?_
      rotate_left
      · intro w; go_simp; first | with_reducible rfl | (first | with_reducible rfl | exact rfl)
      rotate_left
      refine wpAny_take (i := 9) (v := ?_) rfl (by kernel_rfl) (by kernel_rfl) (by kernel_rfl) (fun _ _ _ h => h) (Or.inl ⟨by kernel_rfl, ?_⟩) ?_
      rotate_left
      · intro w; go_simp; first | with_reducible rfl | (try simp only [show IntKind.i64.wrap 1 = 1 from by decide]; try simp; first | with_reducible rfl | exact rfl)
      rotate_left
      refine wpAny_ready (rs := [10, 11]) (by kernel_rfl) (by simp) ?_
      refine (AllReady.cons rfl (fun K hK => ?_) (AllReady.cons rfl (fun K hK => ?_) AllReady.nil))
      · go_simp
        go_wp2_with (go_at_call 34; go_fit c2a; rintro e w' ⟨rfl, rfl⟩)
        refine wpAny_ready (rs := [11]) (by kernel_rfl) (by simp) ?_
        refine (AllReady.cons rfl (fun K hK => ?_) AllReady.nil)
        go_simp
        refine hK _ _ ?_
        clear hK K
        refine wpAny_take (i := 15) (v := ?_) rfl (by kernel_rfl) (by kernel_rfl) (by kernel_rfl) (fun _ _ _ h => h) (Or.inl ⟨by kernel_rfl, ?_⟩) ?_
        rotate_left
        · intro w; go_simp; first | with_reducible rfl | (try simp only [show IntKind.i64.wrap 1 = 1 from by decide]; try simp; first | with_reducible rfl | exact rfl)
        rotate_left
        refine wpAny_ready (rs := [16]) (by kernel_rfl) (by simp) ?_
        refine (AllReady.cons rfl (fun K hK => ?_) AllReady.nil)
        go_simp
        refine hK _ _ ?_
        clear hK K
        refine wpAny_take (i := 17) (v := ?_) rfl (by kernel_rfl) (by kernel_rfl) (by kernel_rfl) (fun _ _ _ h => h) (Or.inl ⟨by kernel_rfl, ?_⟩) ?_
        rotate_left
        · intro w; go_simp; first | with_reducible rfl | (first | with_reducible rfl | exact rfl)
        rotate_left
        refine wpAny_take (i := 18) (v := ?_) rfl (by kernel_rfl) (by kernel_rfl) (by kernel_rfl) (fun _ _ _ h => h) (Or.inl ⟨by kernel_rfl, ?_⟩) ?_
        rotate_left
        · intro w; go_simp; first | with_reducible rfl | (first | with_reducible rfl | exact rfl)
        rotate_left
        refine wpAny_done (by kernel_rfl) ?_ _
        go_wp2_with fail
        go_meet
        exact ⟨rfl, (by repeat (first | exact Kp.refl _ _ | apply Kp.drewN | apply Kp.drew | apply Kp.alloc | (refine Kp.setCell ?_ (fun hx => absurd hx (by simp)) _)))⟩
      · go_simp
        refine hK _ _ ?_
        clear hK K
        refine wpAny_take (i := 15) (v := ?_) rfl (by kernel_rfl) (by kernel_rfl) (by kernel_rfl) (fun _ _ _ h => h) (Or.inl ⟨by kernel_rfl, ?_⟩) ?_
        rotate_left
        · intro w; go_simp; first | with_reducible rfl | (try simp only [show IntKind.i64.wrap 1 = 1 from by decide]; try simp; first | with_reducible rfl | exact rfl)
        rotate_left
        refine wpAny_ready (rs := [10, 16]) (by kernel_rfl) (by simp) ?_
        refine (AllReady.cons rfl (fun K hK => ?_) (AllReady.cons rfl (fun K hK => ?_) AllReady.nil))
        · go_simp
          go_wp2_with (go_at_call 34; go_fit c2b; rintro e w' ⟨rfl, rfl⟩)
          refine wpAny_ready (rs := [16]) (by kernel_rfl) (by simp) ?_
          refine (AllReady.cons rfl (fun K hK => ?_) AllReady.nil)
          go_simp
          refine hK _ _ ?_
          clear hK K
          refine wpAny_take (i := 17) (v := ?_) rfl (by kernel_rfl) (by kernel_rfl) (by kernel_rfl) (fun _ _ _ h => h) (Or.inl ⟨by kernel_rfl, ?_⟩) ?_
          rotate_left
          · intro w; go_simp; first | with_reducible rfl | (first | with_reducible rfl | exact rfl)
          rotate_left
          refine wpAny_take (i := 18) (v := ?_) rfl (by kernel_rfl) (by kernel_rfl) (by kernel_rfl) (fun _ _ _ h => h) (Or.inl ⟨by kernel_rfl, ?_⟩) ?_
          rotate_left
          · intro w; go_simp; first | with_reducible rfl | (first | with_reducible rfl | exact rfl)
          rotate_left
          refine wpAny_done (by kernel_rfl) ?_ _
          go_wp2_with fail
          go_meet
          exact ⟨rfl, (by repeat (first | exact Kp.refl _ _ | apply Kp.drewN | apply Kp.drew | apply Kp.alloc | (refine Kp.setCell ?_ (fun hx => absurd hx (by simp)) _)))⟩
        · go_simp
          refine hK _ _ ?_
          clear hK K
          refine wpAny_ready (rs := [10]) (by kernel_rfl) (by simp) ?_
          refine (AllReady.cons rfl (fun K hK => ?_) AllReady.nil)
          go_simp
          go_wp2_with (go_at_call 34; go_fit c2b; rintro e w' ⟨rfl, rfl⟩)
          refine wpAny_take (i := 17) (v := ?_) rfl (by kernel_rfl) (by kernel_rfl) (by kernel_rfl) (fun _ _ _ h => h) (Or.inl ⟨by kernel_rfl, ?_⟩) ?_
          rotate_left
          · intro w; go_simp; first | with_reducible rfl | (first | with_reducible rfl | exact rfl)
          rotate_left
          refine wpAny_take (i := 18) (v := ?_) rfl (by kernel_rfl) (by kernel_rfl) (by kernel_rfl) (fun _ _ _ h => h) (Or.inl ⟨by kernel_rfl, ?_⟩) ?_
          rotate_left
          · intro w; go_simp; first | with_reducible rfl | (first | with_reducible rfl | exact rfl)
          rotate_left
          refine wpAny_done (by kernel_rfl) ?_ _
          go_wp2_with fail
          go_meet
          exact ⟨rfl, (by repeat (first | exact Kp.refl _ _ | apply Kp.drewN | apply Kp.drew | apply Kp.alloc | (refine Kp.setCell ?_ (fun hx => absurd hx (by simp)) _)))⟩
    case rest =>
      obtain ⟨rfl, k1⟩ := hcut
      have hV1 := hV.kp0 k1 hB
      have hK1 := hK.then0 k1
      have hB1 := Nat.lt_of_lt_of_le hB k1.size
      clear hV hK hB k1
      go_wp2_with fail
      go_loopw [8] (fun s wr => ∃ k : Int, 0 ≤ k ∧ k ≤ 9 ∧ s = .int .i64 k ∧ Kp0 wc wr) (fun s _ => (9 - intOf s).toNat)
      case atStart => exact ⟨0, by omega, by omega, rfl, Kp.refl _ _⟩
      case round =>
        obtain ⟨k, hk0, hk9, rfl, kr⟩ := hrel
        have hV2 := hV1.kp0 kr hB1
        have hK2 := hK1.then0 kr
        have hB2 := Nat.lt_of_lt_of_le hB1 kr.size
        clear hK1
        by_cases hk : k < 9
        · have hz : rowOf 1 ([2, E] ++ [k]) = 0 := by simp [rowOf, hm1, hm2, hE0 k, hm3]
          go_wp2_with (at_builtin; refine list_app rfl _ _ 41 3 (.int .i64 0) 1 8 rfl rfl rfl rfl (by decide) (.slice none 0 0) 0 [] rfl b 0 2 2 [.int .i64 2, .int .i64 E] rfl rfl (by simp [Value.oneCell']) (hV2.kp0 (by repeat (first | exact Kp.refl _ _ | apply Kp.drewN | apply Kp.drew | apply Kp.alloc | (refine Kp.setCell ?_ (fun hx => absurd hx (by simp)) _))) hB2) (World.ownsRow_nil _ _ _ _) (by decide) (by decide) ?_)
          intro v3 w3 o3 k3 b3
          obtain ⟨g3, cap3, rfl, hc3, hc3', hg3⟩ := own_some o3 (by decide)
          have k3' : Kp0 wr w3 := (Kp.refl (fun _ => False) _).trans k3 (fun i _ h => by simp [Value.ownBlock] at h)
          have hg3' : wr.heap.size ≤ g3 := by rcases b3 with b3 | b3 <;> simp [Value.ownBlock] at b3 <;> omega
          clear k3 b3
          go_wp2_with (at_builtin; refine list_app rfl _ _ 41 3 (.int .i64 0) 1 8 rfl rfl rfl rfl (by decide) (.slice (some ⟨g3, 0, none⟩) 2 cap3) 2 _ rfl w3.heap.size 0 1 1 [.int .i64 k] rfl rfl (by simp [Value.oneCell']) (Vw.of_blk (blk_new _ _ rfl)) (own_kp (S := fun _ => False) o3 (by repeat (first | exact Kp.refl _ _ | apply Kp.drewN | apply Kp.drew | apply Kp.alloc | (refine Kp.setCell ?_ (fun hx => absurd hx (by simp)) _))) (fun _ _ x => x)) (by decide) (by decide) ?_)
          intro v4 w4 o4 k4 b4
          obtain ⟨g4, cap4, rfl, hc4, hc4', hg4⟩ := own_some o4 (by decide)
          have k4' : Kp0 wr w4 := (k3'.then0 (by repeat (first | exact Kp.refl _ _ | apply Kp.drewN | apply Kp.drew | apply Kp.alloc | (refine Kp.setCell ?_ (fun hx => absurd hx (by simp)) _)))).trans k4 (fun i hi h => by simp [Value.ownBlock] at h; omega)
          go_wp2_with fail
          refine (of_x (some ⟨g4, 0, none⟩) 3 _ ([2, E] ++ [k]) 0 _ rfl (by decide) (Rd.of (Vw.of_own o4) rfl) hz).mono ?_
          rintro e w' ⟨rfl, rfl⟩
          go_wp2
          go_roundw
          case rel => exact ⟨k + 1, by omega, by omega, by go_num, kr.then0 k4'⟩
          case measure => simp [intOf]; omega
        · clear kr hV1 hB1
          go_wp2_with fail
          refine (within_k' _ 2 (by decide) (by decide) _).mono ?_
          rintro e w' ⟨q, hq0, hq1, rfl, rfl⟩
          have hq : q = 0 ∨ q = 1 := by omega
          rcases hq with rfl | rfl
          · go_upto_region 13 with fail
            go_cut [10] from 53 to 68 (fun s wx => ∃ g cap, s = .slice (some ⟨g, 0, none⟩) 3 cap ∧ Vw wx g 0 [.int .i64 2, .int .i64 2, .int .i64 E] ∧ Kp0 wr wx)
            case first =>
              have c0 : wr.cell? ⟨b, 0, none⟩ = some (.int .i64 2) := vat hV2 rfl
              refine wp_region_any (by kernel_rfl) ?_
              change wpAny _ _ _ _ _ _ _ (World.drew _)
              refine wpAny_take (i := 0) (v := ?_) rfl (by kernel_rfl) (by kernel_rfl) (by kernel_rfl) (fun _ _ _ h => h) (Or.inl ⟨by kernel_rfl, ?_⟩) ?_
              rotate_left
              · intro w; go_simp; first | with_reducible rfl | (first | with_reducible rfl | exact rfl)
              rotate_left
              refine wpAny_take (i := 1) (v := ?_) rfl (by kernel_rfl) (by kernel_rfl) (by kernel_rfl) (fun _ _ _ h => h) (Or.inl ⟨by kernel_rfl, ?_⟩) ?_
              rotate_left
              · intro w; go_simp; first | with_reducible rfl | (first | with_reducible rfl | exact rfl)
              rotate_left
              refine wpAny_take (i := 2) (v := ?_) rfl (by kernel_rfl) (by kernel_rfl) (by kernel_rfl) (fun _ _ _ h => h) (Or.inl ⟨by kernel_rfl, ?_⟩) ?_
              rotate_left
              · intro w; go_simp; first | with_reducible rfl | (first | with_reducible rfl | exact rfl)
              rotate_left
              refine wpAny_take (i := 3) (v := ?_) rfl (by kernel_rfl) (by kernel_rfl) (by kernel_rfl) (fun _ _ _ h => h) (Or.inl ⟨by kernel_rfl, ?_⟩) ?_
              rotate_left
              · intro w; go_simp; first | with_reducible rfl | (try simp only [show IntKind.i64.wrap 1 = 1 from by decide, show IntKind.i64.wrap 0 = 0 from by decide]; try simp; first | with_reducible rfl | exact rfl)
              rotate_left
              refine wpAny_take (i := 5) (v := ?_) rfl (by kernel_rfl) (by kernel_rfl) (by kernel_rfl) (fun _ _ _ h => h) (Or.inl ⟨by kernel_rfl, ?_⟩) ?_
              rotate_left
              · intro w; go_simp; first | with_reducible rfl | (first | with_reducible rfl | exact rfl)
              rotate_left
              refine wpAny_take (i := 6) (v := ?_) rfl (by kernel_rfl) (by kernel_rfl) (by kernel_rfl) (fun _ _ _ h => h) (Or.inl ⟨by kernel_rfl, ?_⟩) ?_
              rotate_left
              · intro w; go_simp; first | with_reducible rfl | (first | with_reducible rfl | exact rfl)
              rotate_left
              refine wpAny_take (i := 7) (v := ?_) rfl (by kernel_rfl) (by kernel_rfl) (by kernel_rfl) (fun _ _ _ h => h) (Or.inl ⟨by kernel_rfl, ?_⟩) ?_
              rotate_left
              · intro w; go_simp; first | with_reducible rfl | (try simp only [show IntKind.i64.wrap 1 = 1 from by decide, show IntKind.i64.wrap 0 = 0 from by decide]; try simp; first | with_reducible rfl | exact rfl)
              rotate_left
              refine wpAny_take (i := 11) (v := ?_) rfl (by kernel_rfl) (by kernel_rfl) (by kernel_rfl) (fun _ _ _ h => h) (Or.inl ⟨by kernel_rfl, ?_⟩) ?_
              rotate_left
              · intro w; go_simp; first | with_reducible rfl | (first | with_reducible rfl | exact rfl)
              rotate_left
              refine wpAny_take (i := 12) (v := ?_) rfl (by kernel_rfl) (by kernel_rfl) (by kernel_rfl) (fun _ _ _ h => h) (Or.inl ⟨by kernel_rfl, ?_⟩) ?_
              rotate_left
              · intro w; go_simp; first | with_reducible rfl | (first | with_reducible rfl | exact rfl)
              rotate_left
              refine wpAny_take (i := 13) (v := ?_) rfl (by kernel_rfl) (by kernel_rfl) (by kernel_rfl) (fun _ _ _ h => h) (Or.inl ⟨by kernel_rfl, ?_⟩) ?_
              rotate_left
              · intro w; go_simp; first | with_reducible rfl | (first | with_reducible rfl | exact rfl)
              rotate_left
              refine wpAny_take (i := 14) (v := ?_) rfl (by kernel_rfl) (by kernel_rfl) (by kernel_rfl) (fun _ _ _ h => h) (Or.inl ⟨by kernel_rfl, ?_⟩) ?_
              rotate_left
              · intro w; go_simp; first | with_reducible rfl | (try simp only [show IntKind.i64.wrap 1 = 1 from by decide, show IntKind.i64.wrap 0 = 0 from by decide]; try simp; first | with_reducible rfl | exact rfl)
              rotate_left
              refine wpAny_ready (rs := [4, 8]) (by kernel_rfl) (by simp) ?_
              refine (AllReady.cons rfl (fun K hK => ?_) (AllReady.cons rfl (fun K hK => ?_) AllReady.nil))
              · (refine step_app rfl (.const (.slice none 0 0)) (.tmp 56) 41 3 (.int .i64 0) 1 8 rfl rfl rfl rfl (by decide) (.slice none 0 0) 0 [] (by simp [Act.eval]) b 0 1 2 [.int .i64 2] (by simp [Act.eval, Act.put]) rfl (by simp [Value.oneCell']) ((hV2.take 1).kp0 (by repeat (first | exact Kp.refl _ _ | apply Kp.drewN | apply Kp.drew | apply Kp.alloc | (refine Kp.setCell ?_ (fun hx => absurd hx (by simp)) _))) hB2) (World.ownsRow_nil _ _ _ _) (by decide) (by decide) ?_; intro v5 w5 o5 k5 b5; have K5 := Kp.trans (S := fun _ => False) (a := wr) (by repeat (first | exact Kp.refl _ _ | apply Kp.drewN | apply Kp.drew | apply Kp.alloc | (refine Kp.setCell ?_ (fun hx => absurd hx (by simp)) _))) k5 (fun i _ h => by simp [Value.ownBlock] at h); obtain ⟨g5, cap5, rfl, hc5, hc5', hg5⟩ := own_some o5 (by decide); have hg5' : wr.heap.size ≤ g5 := (by rcases b5 with b5 | b5 <;> simp [Value.ownBlock] at b5 <;> omega); have c5 := (hV2.kp0 K5 hB2) 0 _ rfl; simp at c5)
                refine hK _ _ ?_
                clear hK K
                refine wpAny_ready (rs := [8]) (by kernel_rfl) (by simp) ?_
                refine (AllReady.cons rfl (fun K hK => ?_) AllReady.nil)
                go_simp
                refine hK _ _ ?_
                clear hK K
                refine wpAny_ready (rs := [9]) (by kernel_rfl) (by simp) ?_
                refine (AllReady.cons rfl (fun K hK => ?_) AllReady.nil)
                go_simp
                refine hK _ _ ?_
                clear hK K
                refine wpAny_ready (rs := [10]) (by kernel_rfl) (by simp) ?_
                refine (AllReady.cons rfl (fun K hK => ?_) AllReady.nil)
                (refine step_app rfl (.tmp 57) (.tmp 62) 41 3 (.int .i64 0) 1 8 rfl rfl rfl rfl (by decide) (.slice (some ⟨g5, 0, none⟩) 1 cap5) 1 _ (by simp [Act.eval, Act.put]) w5.heap.size 0 1 1 [.int .i64 2] (by simp [Act.eval, Act.put]) rfl (by simp [Value.oneCell']) (Vw.of_blk (blk_new _ _ rfl)) (own_kp (S := fun _ => False) o5 (by repeat (first | exact Kp.refl _ _ | apply Kp.drewN | apply Kp.drew | apply Kp.alloc | (refine Kp.setCell ?_ (fun hx => absurd hx (by simp)) _))) (fun _ _ x => x)) (by decide) (by decide) ?_; intro v6 w6 o6 k6 b6; obtain ⟨g6, cap6, rfl, hc6, hc6', hg6⟩ := own_some o6 (by decide); have K6 : Kp0 wr w6 := (K5.then0 (by repeat (first | exact Kp.refl _ _ | apply Kp.drewN | apply Kp.drew | apply Kp.alloc | (refine Kp.setCell ?_ (fun hx => absurd hx (by simp)) _)))).trans k6 (fun i hi h => by simp [Value.ownBlock] at h; omega); have hg6' : wr.heap.size ≤ g6 := (by rcases b6 with b6 | b6 <;> simp [Value.ownBlock] at b6 <;> omega))
                refine hK _ _ ?_
                clear hK K
                refine wpAny_ready (rs := [15]) (by kernel_rfl) (by simp) ?_
                refine (AllReady.cons rfl (fun K hK => ?_) AllReady.nil)
                (refine step_app rfl (.tmp 63) (.tmp 67) 41 3 (.int .i64 0) 1 8 rfl rfl rfl rfl (by decide) (.slice (some ⟨g6, 0, none⟩) 2 cap6) 2 _ (by simp [Act.eval, Act.put]) b 1 1 1 [.int .i64 E] (by simp [Act.eval, Act.put]) rfl (by simp [Value.oneCell']) (Vw.kp0 (by simpa using hV2.drop 1) (K6.then0 (by repeat (first | exact Kp.refl _ _ | apply Kp.drewN | apply Kp.drew | apply Kp.alloc | (refine Kp.setCell ?_ (fun hx => absurd hx (by simp)) _)))) hB2) (own_kp (S := fun _ => False) o6 (by repeat (first | exact Kp.refl _ _ | apply Kp.drewN | apply Kp.drew | apply Kp.alloc | (refine Kp.setCell ?_ (fun hx => absurd hx (by simp)) _))) (fun _ _ x => x)) (by decide) (by decide) ?_; intro v7 w7 o7 k7 b7; obtain ⟨g7, cap7, rfl, hc7, hc7', hg7⟩ := own_some o7 (by decide); have K7 : Kp0 wr w7 := (K6.then0 (by repeat (first | exact Kp.refl _ _ | apply Kp.drewN | apply Kp.drew | apply Kp.alloc | (refine Kp.setCell ?_ (fun hx => absurd hx (by simp)) _)))).trans k7 (fun i hi h => by simp [Value.ownBlock] at h; omega))
                refine hK _ _ ?_
                clear hK K
                refine wpAny_take (i := 16) (v := ?_) rfl (by kernel_rfl) (by kernel_rfl) (by kernel_rfl) (fun _ _ _ h => h) (Or.inl ⟨by kernel_rfl, ?_⟩) ?_
                rotate_left
                · intro w; go_simp; first | with_reducible rfl | (first | with_reducible rfl | exact rfl)
                rotate_left
                refine wpAny_done (by kernel_rfl) ?_ _
                go_wp2_with fail
                go_meet
                exact ⟨g7, cap7, rfl, Vw.of_own o7, K7⟩
              · go_simp
                refine hK _ _ ?_
                clear hK K
                refine wpAny_ready (rs := [4, 9]) (by kernel_rfl) (by simp) ?_
                refine (AllReady.cons rfl (fun K hK => ?_) (AllReady.cons rfl (fun K hK => ?_) AllReady.nil))
                · (refine step_app rfl (.const (.slice none 0 0)) (.tmp 56) 41 3 (.int .i64 0) 1 8 rfl rfl rfl rfl (by decide) (.slice none 0 0) 0 [] (by simp [Act.eval]) b 0 1 2 [.int .i64 2] (by simp [Act.eval, Act.put]) rfl (by simp [Value.oneCell']) ((hV2.take 1).kp0 (by repeat (first | exact Kp.refl _ _ | apply Kp.drewN | apply Kp.drew | apply Kp.alloc | (refine Kp.setCell ?_ (fun hx => absurd hx (by simp)) _))) hB2) (World.ownsRow_nil _ _ _ _) (by decide) (by decide) ?_; intro v5 w5 o5 k5 b5; have K5 := Kp.trans (S := fun _ => False) (a := wr) (by repeat (first | exact Kp.refl _ _ | apply Kp.drewN | apply Kp.drew | apply Kp.alloc | (refine Kp.setCell ?_ (fun hx => absurd hx (by simp)) _))) k5 (fun i _ h => by simp [Value.ownBlock] at h); obtain ⟨g5, cap5, rfl, hc5, hc5', hg5⟩ := own_some o5 (by decide); have hg5' : wr.heap.size ≤ g5 := (by rcases b5 with b5 | b5 <;> simp [Value.ownBlock] at b5 <;> omega); have c5 := (hV2.kp0 K5 hB2) 0 _ rfl; simp at c5)
                  refine hK _ _ ?_
                  clear hK K
                  refine wpAny_ready (rs := [9]) (by kernel_rfl) (by simp) ?_
                  refine (AllReady.cons rfl (fun K hK => ?_) AllReady.nil)
                  go_simp
                  refine hK _ _ ?_
                  clear hK K
                  refine wpAny_ready (rs := [10]) (by kernel_rfl) (by simp) ?_
                  refine (AllReady.cons rfl (fun K hK => ?_) AllReady.nil)
                  (refine step_app rfl (.tmp 57) (.tmp 62) 41 3 (.int .i64 0) 1 8 rfl rfl rfl rfl (by decide) (.slice (some ⟨g5, 0, none⟩) 1 cap5) 1 _ (by simp [Act.eval, Act.put]) w5.heap.size 0 1 1 [.int .i64 2] (by simp [Act.eval, Act.put]) rfl (by simp [Value.oneCell']) (Vw.of_blk (blk_new _ _ rfl)) (own_kp (S := fun _ => False) o5 (by repeat (first | exact Kp.refl _ _ | apply Kp.drewN | apply Kp.drew | apply Kp.alloc | (refine Kp.setCell ?_ (fun hx => absurd hx (by simp)) _))) (fun _ _ x => x)) (by decide) (by decide) ?_; intro v6 w6 o6 k6 b6; obtain ⟨g6, cap6, rfl, hc6, hc6', hg6⟩ := own_some o6 (by decide); have K6 : Kp0 wr w6 := (K5.then0 (by repeat (first | exact Kp.refl _ _ | apply Kp.drewN | apply Kp.drew | apply Kp.alloc | (refine Kp.setCell ?_ (fun hx => absurd hx (by simp)) _)))).trans k6 (fun i hi h => by simp [Value.ownBlock] at h; omega); have hg6' : wr.heap.size ≤ g6 := (by rcases b6 with b6 | b6 <;> simp [Value.ownBlock] at b6 <;> omega))
                  refine hK _ _ ?_
                  clear hK K
                  refine wpAny_ready (rs := [15]) (by kernel_rfl) (by simp) ?_
                  refine (AllReady.cons rfl (fun K hK => ?_) AllReady.nil)
                  (refine step_app rfl (.tmp 63) (.tmp 67) 41 3 (.int .i64 0) 1 8 rfl rfl rfl rfl (by decide) (.slice (some ⟨g6, 0, none⟩) 2 cap6) 2 _ (by simp [Act.eval, Act.put]) b 1 1 1 [.int .i64 E] (by simp [Act.eval, Act.put]) rfl (by simp [Value.oneCell']) (Vw.kp0 (by simpa using hV2.drop 1) (K6.then0 (by repeat (first | exact Kp.refl _ _ | apply Kp.drewN | apply Kp.drew | apply Kp.alloc | (refine Kp.setCell ?_ (fun hx => absurd hx (by simp)) _)))) hB2) (own_kp (S := fun _ => False) o6 (by repeat (first | exact Kp.refl _ _ | apply Kp.drewN | apply Kp.drew | apply Kp.alloc | (refine Kp.setCell ?_ (fun hx => absurd hx (by simp)) _))) (fun _ _ x => x)) (by decide) (by decide) ?_; intro v7 w7 o7 k7 b7; obtain ⟨g7, cap7, rfl, hc7, hc7', hg7⟩ := own_some o7 (by decide); have K7 : Kp0 wr w7 := (K6.then0 (by repeat (first | exact Kp.refl _ _ | apply Kp.drewN | apply Kp.drew | apply Kp.alloc | (refine Kp.setCell ?_ (fun hx => absurd hx (by simp)) _)))).trans k7 (fun i hi h => by simp [Value.ownBlock] at h; omega))
                  refine hK _ _ ?_
                  clear hK K
                  refine wpAny_take (i := 16) (v := ?_) rfl (by kernel_rfl) (by kernel_rfl) (by kernel_rfl) (fun _ _ _ h => h) (Or.inl ⟨by kernel_rfl, ?_⟩) ?_
                  rotate_left
                  · intro w; go_simp; first | with_reducible rfl | (first | with_reducible rfl | exact rfl)
                  rotate_left
                  refine wpAny_done (by kernel_rfl) ?_ _
                  go_wp2_with fail
                  go_meet
                  exact ⟨g7, cap7, rfl, Vw.of_own o7, K7⟩
                · go_simp
                  refine hK _ _ ?_
                  clear hK K
                  refine wpAny_ready (rs := [4]) (by kernel_rfl) (by simp) ?_
                  refine (AllReady.cons rfl (fun K hK => ?_) AllReady.nil)
                  (refine step_app rfl (.const (.slice none 0 0)) (.tmp 56) 41 3 (.int .i64 0) 1 8 rfl rfl rfl rfl (by decide) (.slice none 0 0) 0 [] (by simp [Act.eval]) b 0 1 2 [.int .i64 2] (by simp [Act.eval, Act.put]) rfl (by simp [Value.oneCell']) ((hV2.take 1).kp0 (by repeat (first | exact Kp.refl _ _ | apply Kp.drewN | apply Kp.drew | apply Kp.alloc | (refine Kp.setCell ?_ (fun hx => absurd hx (by simp)) _))) hB2) (World.ownsRow_nil _ _ _ _) (by decide) (by decide) ?_; intro v5 w5 o5 k5 b5; have K5 := Kp.trans (S := fun _ => False) (a := wr) (by repeat (first | exact Kp.refl _ _ | apply Kp.drewN | apply Kp.drew | apply Kp.alloc | (refine Kp.setCell ?_ (fun hx => absurd hx (by simp)) _))) k5 (fun i _ h => by simp [Value.ownBlock] at h); obtain ⟨g5, cap5, rfl, hc5, hc5', hg5⟩ := own_some o5 (by decide); have hg5' : wr.heap.size ≤ g5 := (by rcases b5 with b5 | b5 <;> simp [Value.ownBlock] at b5 <;> omega); have c5 := (hV2.kp0 K5 hB2) 0 _ rfl; simp at c5; have L5 := (Vw.of_blk (b := wr.heap.size) (cs := #[.int .i64 2]) (T := 3) (fr := (0, 0)) (by repeat (first | (refine blk_new _ _ ?_; (simp; done)) | apply Blk.drew | apply Blk.drewN | apply Blk.alloc))).kp k5 (by simp) (fun h => by simp [Value.ownBlock] at h))
                  refine hK _ _ ?_
                  clear hK K
                  refine wpAny_ready (rs := [10]) (by kernel_rfl) (by simp) ?_
                  refine (AllReady.cons rfl (fun K hK => ?_) AllReady.nil)
                  (refine step_app rfl (.tmp 57) (.tmp 62) 41 3 (.int .i64 0) 1 8 rfl rfl rfl rfl (by decide) (.slice (some ⟨g5, 0, none⟩) 1 cap5) 1 _ (by simp [Act.eval, Act.put]) wr.heap.size 0 1 1 [.int .i64 2] (by simp [Act.eval, Act.put]) rfl (by simp [Value.oneCell']) (L5.kp0 (by repeat (first | exact Kp.refl _ _ | apply Kp.drewN | apply Kp.drew | apply Kp.alloc | (refine Kp.setCell ?_ (fun hx => absurd hx (by simp)) _))) (by omega)) (own_kp (S := fun _ => False) o5 (by repeat (first | exact Kp.refl _ _ | apply Kp.drewN | apply Kp.drew | apply Kp.alloc | (refine Kp.setCell ?_ (fun hx => absurd hx (by simp)) _))) (fun _ _ x => x)) (by decide) (by decide) ?_; intro v6 w6 o6 k6 b6; obtain ⟨g6, cap6, rfl, hc6, hc6', hg6⟩ := own_some o6 (by decide); have K6 : Kp0 wr w6 := (K5.then0 (by repeat (first | exact Kp.refl _ _ | apply Kp.drewN | apply Kp.drew | apply Kp.alloc | (refine Kp.setCell ?_ (fun hx => absurd hx (by simp)) _)))).trans k6 (fun i hi h => by simp [Value.ownBlock] at h; omega); have hg6' : wr.heap.size ≤ g6 := (by rcases b6 with b6 | b6 <;> simp [Value.ownBlock] at b6 <;> omega))
                  refine hK _ _ ?_
                  clear hK K
                  refine wpAny_ready (rs := [15]) (by kernel_rfl) (by simp) ?_
                  refine (AllReady.cons rfl (fun K hK => ?_) AllReady.nil)
                  (refine step_app rfl (.tmp 63) (.tmp 67) 41 3 (.int .i64 0) 1 8 rfl rfl rfl rfl (by decide) (.slice (some ⟨g6, 0, none⟩) 2 cap6) 2 _ (by simp [Act.eval, Act.put]) b 1 1 1 [.int .i64 E] (by simp [Act.eval, Act.put]) rfl (by simp [Value.oneCell']) (Vw.kp0 (by simpa using hV2.drop 1) (K6.then0 (by repeat (first | exact Kp.refl _ _ | apply Kp.drewN | apply Kp.drew | apply Kp.alloc | (refine Kp.setCell ?_ (fun hx => absurd hx (by simp)) _)))) hB2) (own_kp (S := fun _ => False) o6 (by repeat (first | exact Kp.refl _ _ | apply Kp.drewN | apply Kp.drew | apply Kp.alloc | (refine Kp.setCell ?_ (fun hx => absurd hx (by simp)) _))) (fun _ _ x => x)) (by decide) (by decide) ?_; intro v7 w7 o7 k7 b7; obtain ⟨g7, cap7, rfl, hc7, hc7', hg7⟩ := own_some o7 (by decide); have K7 : Kp0 wr w7 := (K6.then0 (by repeat (first | exact Kp.refl _ _ | apply Kp.drewN | apply Kp.drew | apply Kp.alloc | (refine Kp.setCell ?_ (fun hx => absurd hx (by simp)) _)))).trans k7 (fun i hi h => by simp [Value.ownBlock] at h; omega))
                  refine hK _ _ ?_
                  clear hK K
                  refine wpAny_take (i := 16) (v := ?_) rfl (by kernel_rfl) (by kernel_rfl) (by kernel_rfl) (fun _ _ _ h => h) (Or.inl ⟨by kernel_rfl, ?_⟩) ?_
                  rotate_left
                  · intro w; go_simp; first | with_reducible rfl | (first | with_reducible rfl | exact rfl)
                  rotate_left
                  refine wpAny_done (by kernel_rfl) ?_ _
                  go_wp2_with fail
                  go_meet
                  exact ⟨g7, cap7, rfl, Vw.of_own o7, K7⟩
            case rest =>
              obtain ⟨g, cap, rfl, hVt, k13⟩ := hcut
              have h22 : my 2 2 = false := rfl
              have ht : rowOf 1 [2, 2, E] = 0 := by simp [rowOf, hm1, hm2, hm3, h22, hE0]
              have KF := hK2.then0 k13
              clear hV2 hB2 hE0 e1 e2
              go_wp2_with fail
              refine (of_x (some ⟨g, 0, none⟩) 3 _ [2, 2, E] 0 _ rfl (by decide) (Rd.of hVt rfl) ht).mono ?_
              rintro e w' ⟨rfl, rfl⟩
              go_wp2_with fail
              refine (of_x (some ⟨wc.heap.size, 0, none⟩) 1 _ [7] 7 _ rfl (by decide) (Rd.of (Vw.of_blk (blk_new _ _ rfl)) rfl) rfl).mono ?_
              rintro e w' ⟨rfl, rfl⟩
              go_wp2_with fail
              refine (of_x (some ⟨wc.heap.size + 1, 0, none⟩) 2 _ [2, 7] 0 _ rfl (by decide) (Rd.of (Vw.of_blk (blk_new _ _ (by simp))) rfl) rfl).mono ?_
              rintro e w' ⟨rfl, rfl⟩
              go_wp2_with fail
              refine (of_x (some ⟨wc.heap.size + 1 + 1, 0, none⟩) 1 _ [1] 0 _ rfl (by decide) (Rd.of (Vw.of_blk (blk_new _ _ (by simp))) rfl) rfl).mono ?_
              rintro e w' ⟨rfl, rfl⟩
              go_wp2_with fail
              refine (wakes9_c _).mono ?_
              rintro e w4 ⟨rfl, bel⟩
              go_wp2
              go_ret
              exact ⟨rfl, ((KF.then0 (by repeat (first | exact Kp.refl _ _ | apply Kp.drewN | apply Kp.drew | apply Kp.alloc | (refine Kp.setCell ?_ (fun hx => absurd hx (by simp)) _)))).then0 (Kp.of_below bel)).below0⟩
          · go_upto_region 13 with fail
            go_cut [10] from 53 to 68 (fun s wx => ∃ g cap, s = .slice (some ⟨g, 0, none⟩) 3 cap ∧ Vw wx g 0 [.int .i64 2, .int .i64 E, .int .i64 E] ∧ Kp0 wr wx)
            case first =>
              have c0 : wr.cell? ⟨b, 1, none⟩ = some (.int .i64 E) := vat hV2 rfl
              refine wp_region_any (by kernel_rfl) ?_
              change wpAny _ _ _ _ _ _ _ (World.drew _)
              refine wpAny_take (i := 0) (v := ?_) rfl (by kernel_rfl) (by kernel_rfl) (by kernel_rfl) (fun _ _ _ h => h) (Or.inl ⟨by kernel_rfl, ?_⟩) ?_
              rotate_left
              · intro w; go_simp; first | with_reducible rfl | (first | with_reducible rfl | exact rfl)
              rotate_left
              refine wpAny_take (i := 1) (v := ?_) rfl (by kernel_rfl) (by kernel_rfl) (by kernel_rfl) (fun _ _ _ h => h) (Or.inl ⟨by kernel_rfl, ?_⟩) ?_
              rotate_left
              · intro w; go_simp; first | with_reducible rfl | (first | with_reducible rfl | exact rfl)
              rotate_left
              refine wpAny_take (i := 2) (v := ?_) rfl (by kernel_rfl) (by kernel_rfl) (by kernel_rfl) (fun _ _ _ h => h) (Or.inl ⟨by kernel_rfl, ?_⟩) ?_
              rotate_left
              · intro w; go_simp; first | with_reducible rfl | (first | with_reducible rfl | exact rfl)
              rotate_left
              refine wpAny_take (i := 3) (v := ?_) rfl (by kernel_rfl) (by kernel_rfl) (by kernel_rfl) (fun _ _ _ h => h) (Or.inl ⟨by kernel_rfl, ?_⟩) ?_
              rotate_left
              · intro w; go_simp; first | with_reducible rfl | (try simp only [show IntKind.i64.wrap 2 = 2 from by decide, show IntKind.i64.wrap 1 = 1 from by decide]; try simp; first | with_reducible rfl | exact rfl)
              rotate_left
              refine wpAny_take (i := 5) (v := ?_) rfl (by kernel_rfl) (by kernel_rfl) (by kernel_rfl) (fun _ _ _ h => h) (Or.inl ⟨by kernel_rfl, ?_⟩) ?_
              rotate_left
              · intro w; go_simp; first | with_reducible rfl | (first | with_reducible rfl | exact rfl)
              rotate_left
              refine wpAny_take (i := 6) (v := ?_) rfl (by kernel_rfl) (by kernel_rfl) (by kernel_rfl) (fun _ _ _ h => h) (Or.inl ⟨by kernel_rfl, ?_⟩) ?_
              rotate_left
              · intro w; go_simp; first | with_reducible rfl | (first | with_reducible rfl | exact rfl)
              rotate_left
              refine wpAny_take (i := 7) (v := ?_) rfl (by kernel_rfl) (by kernel_rfl) (by kernel_rfl) (fun _ _ _ h => h) (Or.inl ⟨by kernel_rfl, ?_⟩) ?_
              rotate_left
              · intro w; go_simp; first | with_reducible rfl | (try simp only [show IntKind.i64.wrap 2 = 2 from by decide, show IntKind.i64.wrap 1 = 1 from by decide]; try simp; first | with_reducible rfl | exact rfl)
              rotate_left
              refine wpAny_take (i := 11) (v := ?_) rfl (by kernel_rfl) (by kernel_rfl) (by kernel_rfl) (fun _ _ _ h => h) (Or.inl ⟨by kernel_rfl, ?_⟩) ?_
              rotate_left
              · intro w; go_simp; first | with_reducible rfl | (first | with_reducible rfl | exact rfl)
              rotate_left
              refine wpAny_take (i := 12) (v := ?_) rfl (by kernel_rfl) (by kernel_rfl) (by kernel_rfl) (fun _ _ _ h => h) (Or.inl ⟨by kernel_rfl, ?_⟩) ?_
              rotate_left
              · intro w; go_simp; first | with_reducible rfl | (first | with_reducible rfl | exact rfl)
              rotate_left
              refine wpAny_take (i := 13) (v := ?_) rfl (by kernel_rfl) (by kernel_rfl) (by kernel_rfl) (fun _ _ _ h => h) (Or.inl ⟨by kernel_rfl, ?_⟩) ?_
              rotate_left
              · intro w; go_simp; first | with_reducible rfl | (first | with_reducible rfl | exact rfl)
              rotate_left
              refine wpAny_take (i := 14) (v := ?_) rfl (by kernel_rfl) (by kernel_rfl) (by kernel_rfl) (fun _ _ _ h => h) (Or.inl ⟨by kernel_rfl, ?_⟩) ?_
              rotate_left
              · intro w; go_simp; first | with_reducible rfl | (try simp only [show IntKind.i64.wrap 2 = 2 from by decide, show IntKind.i64.wrap 1 = 1 from by decide]; try simp; first | with_reducible rfl | exact rfl)
              rotate_left
              refine wpAny_ready (rs := [4, 8]) (by kernel_rfl) (by simp) ?_
              refine (AllReady.cons rfl (fun K hK => ?_) (AllReady.cons rfl (fun K hK => ?_) AllReady.nil))
              · (refine step_app rfl (.const (.slice none 0 0)) (.tmp 56) 41 3 (.int .i64 0) 1 8 rfl rfl rfl rfl (by decide) (.slice none 0 0) 0 [] (by simp [Act.eval]) b 0 2 2 [.int .i64 2, .int .i64 E] (by simp [Act.eval, Act.put]) rfl (by simp [Value.oneCell']) ((hV2.take 2).kp0 (by repeat (first | exact Kp.refl _ _ | apply Kp.drewN | apply Kp.drew | apply Kp.alloc | (refine Kp.setCell ?_ (fun hx => absurd hx (by simp)) _))) hB2) (World.ownsRow_nil _ _ _ _) (by decide) (by decide) ?_; intro v5 w5 o5 k5 b5; have K5 := Kp.trans (S := fun _ => False) (a := wr) (by repeat (first | exact Kp.refl _ _ | apply Kp.drewN | apply Kp.drew | apply Kp.alloc | (refine Kp.setCell ?_ (fun hx => absurd hx (by simp)) _))) k5 (fun i _ h => by simp [Value.ownBlock] at h); obtain ⟨g5, cap5, rfl, hc5, hc5', hg5⟩ := own_some o5 (by decide); have hg5' : wr.heap.size ≤ g5 := (by rcases b5 with b5 | b5 <;> simp [Value.ownBlock] at b5 <;> omega); have c5 := (hV2.kp0 K5 hB2) 1 _ rfl; simp at c5)
                refine hK _ _ ?_
                clear hK K
                refine wpAny_ready (rs := [8]) (by kernel_rfl) (by simp) ?_
                refine (AllReady.cons rfl (fun K hK => ?_) AllReady.nil)
                go_simp
                refine hK _ _ ?_
                clear hK K
                refine wpAny_ready (rs := [9]) (by kernel_rfl) (by simp) ?_
                refine (AllReady.cons rfl (fun K hK => ?_) AllReady.nil)
                go_simp
                refine hK _ _ ?_
                clear hK K
                refine wpAny_ready (rs := [10]) (by kernel_rfl) (by simp) ?_
                refine (AllReady.cons rfl (fun K hK => ?_) AllReady.nil)
                (refine step_app rfl (.tmp 57) (.tmp 62) 41 3 (.int .i64 0) 1 8 rfl rfl rfl rfl (by decide) (.slice (some ⟨g5, 0, none⟩) 2 cap5) 2 _ (by simp [Act.eval, Act.put]) w5.heap.size 0 1 1 [.int .i64 E] (by simp [Act.eval, Act.put]) rfl (by simp [Value.oneCell']) (Vw.of_blk (blk_new _ _ rfl)) (own_kp (S := fun _ => False) o5 (by repeat (first | exact Kp.refl _ _ | apply Kp.drewN | apply Kp.drew | apply Kp.alloc | (refine Kp.setCell ?_ (fun hx => absurd hx (by simp)) _))) (fun _ _ x => x)) (by decide) (by decide) ?_; intro v6 w6 o6 k6 b6; obtain ⟨g6, cap6, rfl, hc6, hc6', hg6⟩ := own_some o6 (by decide); have K6 : Kp0 wr w6 := (K5.then0 (by repeat (first | exact Kp.refl _ _ | apply Kp.drewN | apply Kp.drew | apply Kp.alloc | (refine Kp.setCell ?_ (fun hx => absurd hx (by simp)) _)))).trans k6 (fun i hi h => by simp [Value.ownBlock] at h; omega); have hg6' : wr.heap.size ≤ g6 := (by rcases b6 with b6 | b6 <;> simp [Value.ownBlock] at b6 <;> omega))
                refine hK _ _ ?_
                clear hK K
                refine wpAny_ready (rs := [15]) (by kernel_rfl) (by simp) ?_
                refine (AllReady.cons rfl (fun K hK => ?_) AllReady.nil)
                (refine step_app rfl (.tmp 63) (.tmp 67) 41 3 (.int .i64 0) 1 8 rfl rfl rfl rfl (by decide) (.slice (some ⟨g6, 0, none⟩) 3 cap6) 3 _ (by simp [Act.eval, Act.put]) b 0 0 0 [] (by simp [Act.eval, Act.put]) rfl (by simp [Value.oneCell']) (fun j u h => by simp at h) (own_kp (S := fun _ => False) o6 (by repeat (first | exact Kp.refl _ _ | apply Kp.drewN | apply Kp.drew | apply Kp.alloc | (refine Kp.setCell ?_ (fun hx => absurd hx (by simp)) _))) (fun _ _ x => x)) (by decide) (by decide) ?_; intro v7 w7 o7 k7 b7; obtain ⟨g7, cap7, rfl, hc7, hc7', hg7⟩ := own_some o7 (by decide); have K7 : Kp0 wr w7 := (K6.then0 (by repeat (first | exact Kp.refl _ _ | apply Kp.drewN | apply Kp.drew | apply Kp.alloc | (refine Kp.setCell ?_ (fun hx => absurd hx (by simp)) _)))).trans k7 (fun i hi h => by simp [Value.ownBlock] at h; omega))
                refine hK _ _ ?_
                clear hK K
                refine wpAny_take (i := 16) (v := ?_) rfl (by kernel_rfl) (by kernel_rfl) (by kernel_rfl) (fun _ _ _ h => h) (Or.inl ⟨by kernel_rfl, ?_⟩) ?_
                rotate_left
                · intro w; go_simp; first | with_reducible rfl | (first | with_reducible rfl | exact rfl)
                rotate_left
                refine wpAny_done (by kernel_rfl) ?_ _
                go_wp2_with fail
                go_meet
                exact ⟨g7, cap7, rfl, Vw.of_own o7, K7⟩
              · go_simp
                refine hK _ _ ?_
                clear hK K
                refine wpAny_ready (rs := [4, 9]) (by kernel_rfl) (by simp) ?_
                refine (AllReady.cons rfl (fun K hK => ?_) (AllReady.cons rfl (fun K hK => ?_) AllReady.nil))
                · (refine step_app rfl (.const (.slice none 0 0)) (.tmp 56) 41 3 (.int .i64 0) 1 8 rfl rfl rfl rfl (by decide) (.slice none 0 0) 0 [] (by simp [Act.eval]) b 0 2 2 [.int .i64 2, .int .i64 E] (by simp [Act.eval, Act.put]) rfl (by simp [Value.oneCell']) ((hV2.take 2).kp0 (by repeat (first | exact Kp.refl _ _ | apply Kp.drewN | apply Kp.drew | apply Kp.alloc | (refine Kp.setCell ?_ (fun hx => absurd hx (by simp)) _))) hB2) (World.ownsRow_nil _ _ _ _) (by decide) (by decide) ?_; intro v5 w5 o5 k5 b5; have K5 := Kp.trans (S := fun _ => False) (a := wr) (by repeat (first | exact Kp.refl _ _ | apply Kp.drewN | apply Kp.drew | apply Kp.alloc | (refine Kp.setCell ?_ (fun hx => absurd hx (by simp)) _))) k5 (fun i _ h => by simp [Value.ownBlock] at h); obtain ⟨g5, cap5, rfl, hc5, hc5', hg5⟩ := own_some o5 (by decide); have hg5' : wr.heap.size ≤ g5 := (by rcases b5 with b5 | b5 <;> simp [Value.ownBlock] at b5 <;> omega); have c5 := (hV2.kp0 K5 hB2) 1 _ rfl; simp at c5)
                  refine hK _ _ ?_
                  clear hK K
                  refine wpAny_ready (rs := [9]) (by kernel_rfl) (by simp) ?_
                  refine (AllReady.cons rfl (fun K hK => ?_) AllReady.nil)
                  go_simp
                  refine hK _ _ ?_
                  clear hK K
                  refine wpAny_ready (rs := [10]) (by kernel_rfl) (by simp) ?_
                  refine (AllReady.cons rfl (fun K hK => ?_) AllReady.nil)
                  (refine step_app rfl (.tmp 57) (.tmp 62) 41 3 (.int .i64 0) 1 8 rfl rfl rfl rfl (by decide) (.slice (some ⟨g5, 0, none⟩) 2 cap5) 2 _ (by simp [Act.eval, Act.put]) w5.heap.size 0 1 1 [.int .i64 E] (by simp [Act.eval, Act.put]) rfl (by simp [Value.oneCell']) (Vw.of_blk (blk_new _ _ rfl)) (own_kp (S := fun _ => False) o5 (by repeat (first | exact Kp.refl _ _ | apply Kp.drewN | apply Kp.drew | apply Kp.alloc | (refine Kp.setCell ?_ (fun hx => absurd hx (by simp)) _))) (fun _ _ x => x)) (by decide) (by decide) ?_; intro v6 w6 o6 k6 b6; obtain ⟨g6, cap6, rfl, hc6, hc6', hg6⟩ := own_some o6 (by decide); have K6 : Kp0 wr w6 := (K5.then0 (by repeat (first | exact Kp.refl _ _ | apply Kp.drewN | apply Kp.drew | apply Kp.alloc | (refine Kp.setCell ?_ (fun hx => absurd hx (by simp)) _)))).trans k6 (fun i hi h => by simp [Value.ownBlock] at h; omega); have hg6' : wr.heap.size ≤ g6 := (by rcases b6 with b6 | b6 <;> simp [Value.ownBlock] at b6 <;> omega))
                  refine hK _ _ ?_
                  clear hK K
                  refine wpAny_ready (rs := [15]) (by kernel_rfl) (by simp) ?_
                  refine (AllReady.cons rfl (fun K hK => ?_) AllReady.nil)
                  (refine step_app rfl (.tmp 63) (.tmp 67) 41 3 (.int .i64 0) 1 8 rfl rfl rfl rfl (by decide) (.slice (some ⟨g6, 0, none⟩) 3 cap6) 3 _ (by simp [Act.eval, Act.put]) b 0 0 0 [] (by simp [Act.eval, Act.put]) rfl (by simp [Value.oneCell']) (fun j u h => by simp at h) (own_kp (S := fun _ => False) o6 (by repeat (first | exact Kp.refl _ _ | apply Kp.drewN | apply Kp.drew | apply Kp.alloc | (refine Kp.setCell ?_ (fun hx => absurd hx (by simp)) _))) (fun _ _ x => x)) (by decide) (by decide) ?_; intro v7 w7 o7 k7 b7; obtain ⟨g7, cap7, rfl, hc7, hc7', hg7⟩ := own_some o7 (by decide); have K7 : Kp0 wr w7 := (K6.then0 (by repeat (first | exact Kp.refl _ _ | apply Kp.drewN | apply Kp.drew | apply Kp.alloc | (refine Kp.setCell ?_ (fun hx => absurd hx (by simp)) _)))).trans k7 (fun i hi h => by simp [Value.ownBlock] at h; omega))
                  refine hK _ _ ?_
                  clear hK K
                  refine wpAny_take (i := 16) (v := ?_) rfl (by kernel_rfl) (by kernel_rfl) (by kernel_rfl) (fun _ _ _ h => h) (Or.inl ⟨by kernel_rfl, ?_⟩) ?_
                  rotate_left
                  · intro w; go_simp; first | with_reducible rfl | (first | with_reducible rfl | exact rfl)
                  rotate_left
                  refine wpAny_done (by kernel_rfl) ?_ _
                  go_wp2_with fail
                  go_meet
                  exact ⟨g7, cap7, rfl, Vw.of_own o7, K7⟩
                · go_simp
                  refine hK _ _ ?_
                  clear hK K
                  refine wpAny_ready (rs := [4]) (by kernel_rfl) (by simp) ?_
                  refine (AllReady.cons rfl (fun K hK => ?_) AllReady.nil)
                  (refine step_app rfl (.const (.slice none 0 0)) (.tmp 56) 41 3 (.int .i64 0) 1 8 rfl rfl rfl rfl (by decide) (.slice none 0 0) 0 [] (by simp [Act.eval]) b 0 2 2 [.int .i64 2, .int .i64 E] (by simp [Act.eval, Act.put]) rfl (by simp [Value.oneCell']) ((hV2.take 2).kp0 (by repeat (first | exact Kp.refl _ _ | apply Kp.drewN | apply Kp.drew | apply Kp.alloc | (refine Kp.setCell ?_ (fun hx => absurd hx (by simp)) _))) hB2) (World.ownsRow_nil _ _ _ _) (by decide) (by decide) ?_; intro v5 w5 o5 k5 b5; have K5 := Kp.trans (S := fun _ => False) (a := wr) (by repeat (first | exact Kp.refl _ _ | apply Kp.drewN | apply Kp.drew | apply Kp.alloc | (refine Kp.setCell ?_ (fun hx => absurd hx (by simp)) _))) k5 (fun i _ h => by simp [Value.ownBlock] at h); obtain ⟨g5, cap5, rfl, hc5, hc5', hg5⟩ := own_some o5 (by decide); have hg5' : wr.heap.size ≤ g5 := (by rcases b5 with b5 | b5 <;> simp [Value.ownBlock] at b5 <;> omega); have c5 := (hV2.kp0 K5 hB2) 1 _ rfl; simp at c5; have L5 := (Vw.of_blk (b := wr.heap.size) (cs := #[.int .i64 E]) (T := 3) (fr := (0, 0)) (by repeat (first | (refine blk_new _ _ ?_; (simp; done)) | apply Blk.drew | apply Blk.drewN | apply Blk.alloc))).kp k5 (by simp) (fun h => by simp [Value.ownBlock] at h))
                  refine hK _ _ ?_
                  clear hK K
                  refine wpAny_ready (rs := [10]) (by kernel_rfl) (by simp) ?_
                  refine (AllReady.cons rfl (fun K hK => ?_) AllReady.nil)
                  (refine step_app rfl (.tmp 57) (.tmp 62) 41 3 (.int .i64 0) 1 8 rfl rfl rfl rfl (by decide) (.slice (some ⟨g5, 0, none⟩) 2 cap5) 2 _ (by simp [Act.eval, Act.put]) wr.heap.size 0 1 1 [.int .i64 E] (by simp [Act.eval, Act.put]) rfl (by simp [Value.oneCell']) (L5.kp0 (by repeat (first | exact Kp.refl _ _ | apply Kp.drewN | apply Kp.drew | apply Kp.alloc | (refine Kp.setCell ?_ (fun hx => absurd hx (by simp)) _))) (by omega)) (own_kp (S := fun _ => False) o5 (by repeat (first | exact Kp.refl _ _ | apply Kp.drewN | apply Kp.drew | apply Kp.alloc | (refine Kp.setCell ?_ (fun hx => absurd hx (by simp)) _))) (fun _ _ x => x)) (by decide) (by decide) ?_; intro v6 w6 o6 k6 b6; obtain ⟨g6, cap6, rfl, hc6, hc6', hg6⟩ := own_some o6 (by decide); have K6 : Kp0 wr w6 := (K5.then0 (by repeat (first | exact Kp.refl _ _ | apply Kp.drewN | apply Kp.drew | apply Kp.alloc | (refine Kp.setCell ?_ (fun hx => absurd hx (by simp)) _)))).trans k6 (fun i hi h => by simp [Value.ownBlock] at h; omega); have hg6' : wr.heap.size ≤ g6 := (by rcases b6 with b6 | b6 <;> simp [Value.ownBlock] at b6 <;> omega))
                  refine hK _ _ ?_
                  clear hK K
                  refine wpAny_ready (rs := [15]) (by kernel_rfl) (by simp) ?_
                  refine (AllReady.cons rfl (fun K hK => ?_) AllReady.nil)
                  (refine step_app rfl (.tmp 63) (.tmp 67) 41 3 (.int .i64 0) 1 8 rfl rfl rfl rfl (by decide) (.slice (some ⟨g6, 0, none⟩) 3 cap6) 3 _ (by simp [Act.eval, Act.put]) b 0 0 0 [] (by simp [Act.eval, Act.put]) rfl (by simp [Value.oneCell']) (fun j u h => by simp at h) (own_kp (S := fun _ => False) o6 (by repeat (first | exact Kp.refl _ _ | apply Kp.drewN | apply Kp.drew | apply Kp.alloc | (refine Kp.setCell ?_ (fun hx => absurd hx (by simp)) _))) (fun _ _ x => x)) (by decide) (by decide) ?_; intro v7 w7 o7 k7 b7; obtain ⟨g7, cap7, rfl, hc7, hc7', hg7⟩ := own_some o7 (by decide); have K7 : Kp0 wr w7 := (K6.then0 (by repeat (first | exact Kp.refl _ _ | apply Kp.drewN | apply Kp.drew | apply Kp.alloc | (refine Kp.setCell ?_ (fun hx => absurd hx (by simp)) _)))).trans k7 (fun i hi h => by simp [Value.ownBlock] at h; omega))
                  refine hK _ _ ?_
                  clear hK K
                  refine wpAny_take (i := 16) (v := ?_) rfl (by kernel_rfl) (by kernel_rfl) (by kernel_rfl) (fun _ _ _ h => h) (Or.inl ⟨by kernel_rfl, ?_⟩) ?_
                  rotate_left
                  · intro w; go_simp; first | with_reducible rfl | (first | with_reducible rfl | exact rfl)
                  rotate_left
                  refine wpAny_done (by kernel_rfl) ?_ _
                  go_wp2_with fail
                  go_meet
                  exact ⟨g7, cap7, rfl, Vw.of_own o7, K7⟩
            case rest =>
              obtain ⟨g, cap, rfl, hVt, k13⟩ := hcut
              have h22 : my 2 2 = false := rfl
              have ht : rowOf 1 [2, E, E] = 0 := by simp [rowOf, hm1, hm2, hm3, h22, hE0]
              have KF := hK2.then0 k13
              clear hV2 hB2 hE0 e1 e2
              go_wp2_with fail
              refine (of_x (some ⟨g, 0, none⟩) 3 _ [2, E, E] 0 _ rfl (by decide) (Rd.of hVt rfl) ht).mono ?_
              rintro e w' ⟨rfl, rfl⟩
              go_wp2_with fail
              refine (of_x (some ⟨wc.heap.size, 0, none⟩) 1 _ [7] 7 _ rfl (by decide) (Rd.of (Vw.of_blk (blk_new _ _ rfl)) rfl) rfl).mono ?_
              rintro e w' ⟨rfl, rfl⟩
              go_wp2_with fail
              refine (of_x (some ⟨wc.heap.size + 1, 0, none⟩) 2 _ [2, 7] 0 _ rfl (by decide) (Rd.of (Vw.of_blk (blk_new _ _ (by simp))) rfl) rfl).mono ?_
              rintro e w' ⟨rfl, rfl⟩
              go_wp2_with fail
              refine (of_x (some ⟨wc.heap.size + 1 + 1, 0, none⟩) 1 _ [1] 0 _ rfl (by decide) (Rd.of (Vw.of_blk (blk_new _ _ (by simp))) rfl) rfl).mono ?_
              rintro e w' ⟨rfl, rfl⟩
              go_wp2_with fail
              refine (wakes9_c _).mono ?_
              rintro e w4 ⟨rfl, bel⟩
              go_wp2
              go_ret
              exact ⟨rfl, ((KF.then0 (by repeat (first | exact Kp.refl _ _ | apply Kp.drewN | apply Kp.drew | apply Kp.alloc | (refine Kp.setCell ?_ (fun hx => absurd hx (by simp)) _)))).then0 (Kp.of_below bel)).below0⟩

theorem rows_w (v0 : Int) (run : Bool) (v2 : Int) (w : World) (_ : (Lit.int .i64 v0).wf = true) (_ : (Lit.int .i64 v2).wf = true) :
    Calls Try.prog 9 #[.int .i64 v0, .bool run, .int .i64 v2] w fun e w' => e = .returned (.bool true) ∧ Below w.heap.size w w' := rows_c v0 run v2 w
end Go.Proofs.Ytgilnhagddihcaa
