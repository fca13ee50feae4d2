/- Bytes lent, and looked at. -/
import Derived.Test.YtnlkkcpcjeeplaaCx
import Derived.BigQuiet
import Derived.Deep.CutRange
set_option linter.unusedVariables false
set_option linter.unusedSimpArgs false
namespace Go.Proofs.Ytnlkkcpcjeeplaa
open Go.RowKit

def Lent (w : World) (L : Nat) (bs : List Int) : Prop := Blk w L (bs.map (Value.int .u8 ·) ++ [Value.int .u8 85, Value.int .u8 85, Value.int .u8 85]).toArray 5

theorem lset {cs : List Value} {n : Nat} (hn : cs.length = n) (z0 z1 z2 v : Value) :
    (cs ++ [z0, z1, z2]).toArray.setIfInBounds n v = (cs ++ [v, z1, z2]).toArray ∧ (cs ++ [z0, z1, z2]).toArray.setIfInBounds (n + 1) v = (cs ++ [z0, v, z2]).toArray ∧ (cs ++ [z0, z1, z2]).toArray.setIfInBounds (n + 2) v = (cs ++ [z0, z1, v]).toArray := by
  subst hn
  refine ⟨?_, ?_, ?_⟩ <;> simp [List.set_append]

set_option maxRecDepth 100000 in
set_option maxHeartbeats 2000000 in
theorem lend_c (a : Option Addr) (cap : Nat) (bs : List Int) (w : World) (hr : Bz w a cap bs) (hl : bs.length ≤ 140737488355320) :
    Calls Try.prog 24 #[.slice a bs.length cap] w fun e w' => ∃ L, e = .returned (.slice (some ⟨L, 0, none⟩) bs.length (bs.length + 3)) ∧ w.heap.size ≤ L ∧ Lent w' L bs ∧ Kp0 w w' := by
  obtain ⟨i0, hi, hzz⟩ := Option.map_eq_some_iff.1 info5'
  simp only [Prod.mk.injEq] at hzz
  obtain ⟨hz0, hz1, hz2⟩ := hzz
  obtain ⟨Z, hZ, hmk⟩ : ∃ Z : List Value, Z.length = bs.length + 3 ∧ (Instr.makeSlice 23 (.int .i64 (bs.length : Int)) (.int .i64 ((bs.length : Int) + 3))).run Try.prog w = .ok (.slice (some ⟨w.heap.size, 0, none⟩) bs.length (bs.length + 3)) (w.alloc (.cells Z.toArray 5)) := by
    have := run_make (P := Try.prog) w 23 5 i0 (.int .u8 0) rfl hi hz0 .i64 .i64 (bs.length : Int) ((bs.length : Int) + 3) (by omega) (by omega) (by rw [hz2]; omega) (by omega)
    have e1 : ((bs.length : Int) + 3).toNat = bs.length + 3 := by omega
    rw [e1, Int.toNat_natCast, hz1] at this
    exact ⟨(madeCells (Value.int .u8 0).cells ((bs.length + 3) * 1)).toList, by simp [madeCells], by simpa using this⟩
  obtain ⟨w1, hw1⟩ : ∃ w1, w.alloc (.cells Z.toArray 5) = w1 := ⟨_, rfl⟩
  rw [hw1] at hmk
  have hB1 : w1.heap[w.heap.size]? = some (.cells Z.toArray 5 (0, 0)) := by rw [← hw1]; exact blk_new _ _ rfl
  have k1 : Kp0 w w1 := by rw [← hw1]; exact (Kp.refl _ _).alloc _
  have hbel : Below w.heap.size w w1 := k1.below0
  obtain ⟨z0, z1, z2, hZd⟩ : ∃ z0 z1 z2, Z.drop bs.length = [z0, z1, z2] := by
    have hd : (Z.drop bs.length).length = 3 := by rw [List.length_drop]; omega
    match Z.drop bs.length, hd with
    | [x, y, z], _ => exact ⟨x, y, z, rfl⟩
  have hsp : ∀ cs : List Value, cs.length = bs.length → splice Z 0 cs = cs ++ [z0, z1, z2] := by
    intro cs hcs
    simp only [splice, List.take_zero, List.nil_append, Nat.zero_add, hcs, hZd]
  have hpos : 0 < (bs.map (Value.int .u8 ·)).length → some (⟨w.heap.size, 0, none⟩ : Addr) = some ⟨w.heap.size, 0, none⟩ ∧ ∃ ad, a = some ad ∧ ∀ j v, (bs.map (Value.int .u8 ·))[j]? = some v → w1.cell? (ad.add j) = some v := by
    intro hp
    refine ⟨rfl, ?_⟩
    rcases hr with ⟨⟨rfl, rfl, rfl⟩ | ⟨B, off, rfl, hV, hB⟩, _⟩ | ⟨rfl, x, rfl⟩
    rotate_right
    · simp at hp
    · simp at hp
    · exact ⟨_, rfl, (hV.kp0 k1 hB).add⟩
  clear hw1 hi hz0 hz1 hz2
  go_enter Try.func24, Try.ntmps24
  go_wp2_with (with_reducible show wpList _ _ _ _ _ _; refine wpList_copy_splice rfl (.tmp 12) (.tmp 13) 23 23 rfl 5 rfl (by kernel_rfl) (some ⟨w.heap.size, 0, none⟩) a bs.length (bs.length + 3) bs.length cap rfl rfl w.heap.size 0 Z 5 hB1 (bs.map (Value.int .u8 ·)) (by rw [List.length_map]; exact (Nat.min_self _).symm) hpos (by simp; omega) (u8_one bs) w.heap.size w hbel (Nat.le_refl _) ?_)
  intro w2 hg2 hb2
  have hB2 : Blk w2 w.heap.size (bs.map (Value.int .u8 ·) ++ [z0, z1, z2]).toArray 5 := hg2
  clear hg2
  have k2 : Kp0 w w2 := Kp.of_below hb2
  clear hb2 hpos hsp hB1 hbel k1 hmk
  go_wp2_with fail
  go_loopw [5] (fun i wr => ∃ (k : Nat) (x0 x1 x2 : Value), k ≤ 3 ∧ i = .int .i64 ((bs.length : Int) + k) ∧ Blk wr w.heap.size (bs.map (Value.int .u8 ·) ++ [x0, x1, x2]).toArray 5 ∧ (0 < k → x0 = .int .u8 85) ∧ (1 < k → x1 = .int .u8 85) ∧ (2 < k → x2 = .int .u8 85) ∧ Kp0 w wr) (fun i _ => ((bs.length : Int) + 3 - intOf i).toNat)
  case atStart => exact ⟨0, z0, z1, z2, by decide, by simp, hB2, fun h => by omega, fun h => by omega, fun h => by omega, k2⟩
  case round =>
    clear hB2 k2
    obtain ⟨k, x0, x1, x2, hk, rfl, hB, e0, e1, e2, kr⟩ := hrel
    obtain ⟨s0, s1, s2⟩ := lset (cs := bs.map (Value.int .u8 ·)) (n := bs.length) (by simp) x0 x1 x2 (.int .u8 85)
    have hk' : k = 0 ∨ k = 1 ∨ k = 2 ∨ k = 3 := by omega
    rcases hk' with rfl | rfl | rfl | rfl
    · have c := hB.cell bs.length
      have f := hB.free bs.length
      have hset := hB.set bs.length (.int .u8 85)
      have kk := kr.setCell (p := ⟨w.heap.size, bs.length, none⟩) (fun h => absurd h (Nat.lt_irrefl _)) (.int .u8 85)
      rw [s0] at hset
      simp at c
      go_wp2
      go_roundw
      case rel => exact ⟨1, .int .u8 85, x1, x2, by decide, by go_num, hset, fun _ => rfl, fun h => by omega, fun h => by omega, kk⟩
      case measure => simp [intOf]; omega
    · have c := hB.cell (bs.length + 1)
      have f := hB.free (bs.length + 1)
      have hset := hB.set (bs.length + 1) (.int .u8 85)
      have kk := kr.setCell (p := ⟨w.heap.size, bs.length + 1, none⟩) (fun h => absurd h (Nat.lt_irrefl _)) (.int .u8 85)
      rw [s1] at hset
      simp at c
      have hx : ((bs.length : Int) + 1).toNat = bs.length + 1 := by omega
      go_wp2
      go_roundw
      case rel => exact ⟨2, x0, .int .u8 85, x2, by decide, by go_num, hset, fun _ => e0 (by decide), fun _ => rfl, fun h => by omega, kk⟩
      case measure => simp [intOf]; omega
    · have c := hB.cell (bs.length + 2)
      have f := hB.free (bs.length + 2)
      have hset := hB.set (bs.length + 2) (.int .u8 85)
      have kk := kr.setCell (p := ⟨w.heap.size, bs.length + 2, none⟩) (fun h => absurd h (Nat.lt_irrefl _)) (.int .u8 85)
      rw [s2] at hset
      simp at c
      have hx : ((bs.length : Int) + 2).toNat = bs.length + 2 := by omega
      go_wp2
      go_roundw
      case rel => exact ⟨3, x0, x1, .int .u8 85, by decide, by go_num, hset, fun _ => e0 (by decide), fun _ => e1 (by decide), fun _ => rfl, kk⟩
      case measure => simp [intOf]; omega
    · obtain rfl := e0 (by decide)
      obtain rfl := e1 (by decide)
      obtain rfl := e2 (by decide)
      go_wp2
      go_ret
      exact ⟨_, rfl, Nat.le_refl _, hB, kr⟩

set_option maxRecDepth 100000 in
set_option maxHeartbeats 4000000 in
theorem intact_c (L : Nat) (a : Option Addr) (cap : Nat) (bs : List Int) (w : World) (hL : Lent w L bs) (hr : Bz w a cap bs) (hl : bs.length ≤ 140737488355320) :
    Calls Try.prog 34 #[.slice (some ⟨L, 0, none⟩) bs.length (bs.length + 3), .slice a bs.length cap] w fun e w' => e = .returned (.bool true) ∧ Kp0 w w' := by
  have hcell : ∀ k : Nat, k < bs.length → w.cell? ⟨L, k, none⟩ = some (.int .u8 (bs.getD k 0)) := by
    intro k hk
    rw [hL.cell k]
    simp [List.getElem?_append_left, hk, List.getD]
  have hcell5 : ∀ k : Nat, bs.length ≤ k → k < bs.length + 3 → w.cell? ⟨L, k, none⟩ = some (.int .u8 85) := by
    intro k hk hk2
    rw [hL.cell k]
    have : k = bs.length ∨ k = bs.length + 1 ∨ k = bs.length + 2 := by omega
    rcases this with rfl | rfl | rfl <;> simp
  have hcellb : ∀ k : Nat, k < bs.length → ∃ B off, a = some ⟨B, off, none⟩ ∧ w.cell? ⟨B, off + k, none⟩ = some (.int .u8 (bs.getD k 0)) := by
    intro k hk
    rcases hr with ⟨⟨rfl, rfl, rfl⟩ | ⟨B, off, rfl, hV, hB⟩, _⟩ | ⟨rfl, x, rfl⟩
    rotate_right
    · simp at hk
    · simp at hk
    · exact ⟨B, off, rfl, hV k _ (by rw [List.getElem?_map, List.getElem?_eq_getElem hk]; simp [List.getD, hk])⟩
  clear hL hr
  go_enter Try.func34, Try.ntmps34
  go_wp2_with fail
  go_loopw [27] (fun i wr => ∃ (k d : Nat), k ≤ bs.length + 3 ∧ i = .int .i64 k ∧ wr = w.drewN d) (fun i _ => ((bs.length : Int) + 3 - intOf i).toNat)
  case atStart => exact ⟨0, 0, by omega, rfl, rfl⟩
  case round =>
    obtain ⟨k, d, hk, rfl, rfl⟩ := hrel
    by_cases h1 : k < bs.length
    · have c1 := hcell k h1
      obtain ⟨B, off, rfl, c2⟩ := hcellb k h1
      generalize bs.getD k 0 = x at c1 c2
      have t1 : decide ((k : Int) < bs.length) = true := decide_eq_true (by omega)
      have t1' : (k : Int) < bs.length := by omega
      have t2 : decide ((bs.length : Int) ≤ k) = false := decide_eq_false (by omega)
      have t3 : (k : Int) < (bs.length : Int) + 3 := by omega
      have t4 : decide (bs.length ≤ k) = false := decide_eq_false (by omega)
      have t5 : (bs.length ≤ k) = False := eq_false (by omega)
      have t6 : (k < bs.length) = True := eq_true (by omega)
      clear hcell hcell5 hcellb
      go_wp2_with fail
      go_quiet (fail)
      go_wp2
      go_roundw
      case rel => exact ⟨k + 1, _, by omega, by go_num, rfl⟩
      case measure => simp [intOf]; omega
    · by_cases h2 : k < bs.length + 3
      · have c1 := hcell5 k (by omega) h2
        have t1 : decide ((k : Int) < bs.length) = false := decide_eq_false (by omega)
        have t1' : ¬ (k : Int) < bs.length := by omega
        have t2 : decide ((bs.length : Int) ≤ k) = true := decide_eq_true (by omega)
        have t3 : (k : Int) < (bs.length : Int) + 3 := by omega
        have t4 : decide (bs.length ≤ k) = true := decide_eq_true (by omega)
        have t5 : (bs.length ≤ k) = True := eq_true (by omega)
        have t6 : (k < bs.length) = False := eq_false (by omega)
        clear hcell hcell5 hcellb
        go_upto_region 7 with fail
        refine wp_region_any (by kernel_rfl) ?_
        change wpAny _ _ _ _ _ _ _ (World.drew _)
        refine wpAny_take (i := 0) (v := ?_) rfl (by kernel_rfl) (by kernel_rfl) (by kernel_rfl) (fun _ _ _ h => h) (Or.inl ⟨by kernel_rfl, ?_⟩) ?_
        rotate_left
        · intro w; go_simp; first | with_reducible rfl | (first | with_reducible rfl | exact rfl)
        rotate_left
        refine wpAny_take (i := 1) (v := ?_) rfl (by kernel_rfl) (by kernel_rfl) (by kernel_rfl) (fun _ _ _ h => h) (Or.inl ⟨by kernel_rfl, ?_⟩) ?_
        rotate_left
        · intro w; go_simp; first | with_reducible rfl | (first | with_reducible rfl | exact rfl)
        rotate_left
        refine wpAny_take (i := 2) (v := ?_) rfl (by kernel_rfl) (by kernel_rfl) (by kernel_rfl) (fun _ _ _ h => h) (Or.inl ⟨by kernel_rfl, ?_⟩) ?_
        rotate_left
        · intro w; go_simp; first | with_reducible rfl | (first | with_reducible rfl | exact rfl)
        rotate_left
        refine wpAny_take (i := 3) (v := ?_) rfl (by kernel_rfl) (by kernel_rfl) (by kernel_rfl) (fun _ _ _ h => h) (Or.inl ⟨by kernel_rfl, ?_⟩) ?_
        rotate_left
        · intro w; go_simp; first | with_reducible rfl | (first | with_reducible rfl | exact rfl)
        rotate_left
        refine wpAny_take (i := 4) (v := ?_) rfl (by kernel_rfl) (by kernel_rfl) (by kernel_rfl) (fun _ _ _ h => h) (Or.inl ⟨by kernel_rfl, ?_⟩) ?_
        rotate_left
        · intro w; go_simp; first | with_reducible rfl | (first | with_reducible rfl | exact rfl)
        rotate_left
        refine wpAny_take (i := 5) (v := undef) rfl (by kernel_rfl) (by kernel_rfl) (by kernel_rfl) (fun _ _ _ h => h) (Or.inr ⟨by kernel_rfl, rfl⟩) ?_
        refine wpAny_take (i := 6) (v := undef) rfl (by kernel_rfl) (by kernel_rfl) (by kernel_rfl) (fun _ _ _ h => h) (Or.inr ⟨by kernel_rfl, rfl⟩) ?_
        refine wpAny_take (i := 7) (v := undef) rfl (by kernel_rfl) (by kernel_rfl) (by kernel_rfl) (fun _ _ _ h => h) (Or.inr ⟨by kernel_rfl, rfl⟩) ?_
        refine wpAny_take (i := 8) (v := undef) rfl (by kernel_rfl) (by kernel_rfl) (by kernel_rfl) (fun _ _ _ h => h) (Or.inr ⟨by kernel_rfl, rfl⟩) ?_
        refine wpAny_take (i := 9) (v := undef) rfl (by kernel_rfl) (by kernel_rfl) (by kernel_rfl) (fun _ _ _ h => h) (Or.inr ⟨by kernel_rfl, rfl⟩) ?_
        refine wpAny_take (i := 10) (v := undef) rfl (by kernel_rfl) (by kernel_rfl) (by kernel_rfl) (fun _ _ _ h => h) (Or.inr ⟨by kernel_rfl, rfl⟩) ?_
        refine wpAny_take (i := 11) (v := undef) rfl (by kernel_rfl) (by kernel_rfl) (by kernel_rfl) (fun _ _ _ h => h) (Or.inr ⟨by kernel_rfl, rfl⟩) ?_
        refine wpAny_take (i := 12) (v := undef) rfl (by kernel_rfl) (by kernel_rfl) (by kernel_rfl) (fun _ _ _ h => h) (Or.inr ⟨by kernel_rfl, rfl⟩) ?_
        refine wpAny_take (i := 13) (v := undef) rfl (by kernel_rfl) (by kernel_rfl) (by kernel_rfl) (fun _ _ _ h => h) (Or.inr ⟨by kernel_rfl, rfl⟩) ?_
        refine wpAny_take (i := 14) (v := ?_) rfl (by kernel_rfl) (by kernel_rfl) (by kernel_rfl) (fun _ _ _ h => h) (Or.inl ⟨by kernel_rfl, ?_⟩) ?_
        rotate_left
        · intro w; go_simp; first | with_reducible rfl | (first | with_reducible rfl | exact rfl)
        rotate_left
        refine wpAny_take (i := 15) (v := ?_) rfl (by kernel_rfl) (by kernel_rfl) (by kernel_rfl) (fun _ _ _ h => h) (Or.inl ⟨by kernel_rfl, ?_⟩) ?_
        rotate_left
        · intro w; go_simp; first | with_reducible rfl | (first | with_reducible rfl | exact rfl)
        rotate_left
        refine wpAny_take (i := 16) (v := ?_) rfl (by kernel_rfl) (by kernel_rfl) (by kernel_rfl) (fun _ _ _ h => h) (Or.inl ⟨by kernel_rfl, ?_⟩) ?_
        rotate_left
        · intro w; go_simp; first | with_reducible rfl | (first | with_reducible rfl | exact rfl)
        rotate_left
        refine wpAny_take (i := 17) (v := ?_) rfl (by kernel_rfl) (by kernel_rfl) (by kernel_rfl) (fun _ _ _ h => h) (Or.inl ⟨by kernel_rfl, ?_⟩) ?_
        rotate_left
        · intro w; go_simp; first | with_reducible rfl | (first | with_reducible rfl | exact rfl)
        rotate_left
        refine wpAny_take (i := 18) (v := ?_) rfl (by kernel_rfl) (by kernel_rfl) (by kernel_rfl) (fun _ _ _ h => h) (Or.inl ⟨by kernel_rfl, ?_⟩) ?_
        rotate_left
        · intro w; go_simp; first | with_reducible rfl | (first | with_reducible rfl | exact rfl)
        rotate_left
        refine wpAny_take (i := 19) (v := ?_) rfl (by kernel_rfl) (by kernel_rfl) (by kernel_rfl) (fun _ _ _ h => h) (Or.inl ⟨by kernel_rfl, ?_⟩) ?_
        rotate_left
        · intro w; go_simp; first | with_reducible rfl | (first | with_reducible rfl | exact rfl)
        rotate_left
        refine wpAny_take (i := 20) (v := ?_) rfl (by kernel_rfl) (by kernel_rfl) (by kernel_rfl) (fun _ _ _ h => h) (Or.inl ⟨by kernel_rfl, ?_⟩) ?_
        rotate_left
        · intro w; go_simp; first | with_reducible rfl | (first | with_reducible rfl | exact rfl)
        rotate_left
        refine wpAny_take (i := 21) (v := ?_) rfl (by kernel_rfl) (by kernel_rfl) (by kernel_rfl) (fun _ _ _ h => h) (Or.inl ⟨by kernel_rfl, ?_⟩) ?_
        rotate_left
        · intro w; go_simp; first | with_reducible rfl | (first | with_reducible rfl | exact rfl)
        rotate_left
        refine wpAny_take (i := 22) (v := ?_) rfl (by kernel_rfl) (by kernel_rfl) (by kernel_rfl) (fun _ _ _ h => h) (Or.inl ⟨by kernel_rfl, ?_⟩) ?_
        rotate_left
        · intro w; go_simp; first | with_reducible rfl | (first | with_reducible rfl | exact rfl)
        rotate_left
        refine wpAny_take (i := 23) (v := ?_) rfl (by kernel_rfl) (by kernel_rfl) (by kernel_rfl) (fun _ _ _ h => h) (Or.inl ⟨by kernel_rfl, ?_⟩) ?_
        rotate_left
        · intro w; go_simp; first | with_reducible rfl | (first | with_reducible rfl | exact rfl)
        rotate_left
        refine wpAny_ready (rs := [24]) (by kernel_rfl) (by simp) ?_
        refine (AllReady.cons rfl (fun K hK => ?_) AllReady.nil)
        go_simp
        refine hK _ _ ?_
        clear hK K
        refine wpAny_take (i := 25) (v := ?_) rfl (by kernel_rfl) (by kernel_rfl) (by kernel_rfl) (fun _ _ _ h => h) (Or.inl ⟨by kernel_rfl, ?_⟩) ?_
        rotate_left
        · intro w; go_simp; first | with_reducible rfl | (first | with_reducible rfl | exact rfl)
        rotate_left
        refine wpAny_take (i := 26) (v := ?_) rfl (by kernel_rfl) (by kernel_rfl) (by kernel_rfl) (fun _ _ _ h => h) (Or.inl ⟨by kernel_rfl, ?_⟩) ?_
        rotate_left
        · intro w; go_simp; first | with_reducible rfl | (first | with_reducible rfl | exact rfl)
        rotate_left
        refine wpAny_take (i := 27) (v := ?_) rfl (by kernel_rfl) (by kernel_rfl) (by kernel_rfl) (fun _ _ _ h => h) (Or.inl ⟨by kernel_rfl, ?_⟩) ?_
        rotate_left
        · intro w; go_simp; first | with_reducible rfl | (first | with_reducible rfl | exact rfl)
        rotate_left
        refine wpAny_done (by kernel_rfl) ?_ _
        simp only [List.getElem_toArray, List.getElem_cons_succ, List.getElem_cons_zero, Act.put, List.setIfInBounds_toArray, List.set_cons_succ, List.set_cons_zero]
        go_wp2
        go_roundw
        case rel => exact ⟨k + 1, _, by omega, by go_num, rfl⟩
        case measure => simp [intOf]; omega
      · have hk3 : k = bs.length + 3 := by omega
        subst hk3
        go_wp2
        go_ret
        exact ⟨rfl, (Kp.refl _ _).drewN _⟩
end Go.Proofs.Ytnlkkcpcjeeplaa
