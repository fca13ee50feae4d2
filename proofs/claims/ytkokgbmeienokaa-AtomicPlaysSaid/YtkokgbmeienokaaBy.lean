/- Bytes of any length: copied, cut, lent, looked at, compared. -/
import Derived.Test.YtkokgbmeienokaaProg
import Derived.Test.YtkokgbmeienokaaAp
import Derived.Laws.CopyOwn
import Derived.Laws.MakeOwn
import Derived.Deep.CutRange
set_option linter.unusedVariables false
set_option linter.unusedSimpArgs false
namespace Go.Proofs.Ytkokgbmeienokaa
open Go.RowKit

/-- Bytes that a slice holds. -/
def Br (w : World) (a : Option Addr) (cap : Nat) (bs : List Int) : Prop :=
  ((a = none ∧ cap = 0 ∧ bs = []) ∨ ∃ B off, a = some ⟨B, off, none⟩ ∧ Vw w B off (bs.map (.int .u8 ·)) ∧ B < w.heap.size) ∧ ∀ c ∈ bs, 0 ≤ c ∧ c ≤ 255
theorem Br.kp0 {w w' : World} {a : Option Addr} {cap : Nat} {bs : List Int} (h : Br w a cap bs) (k : Kp0 w w') : Br w' a cap bs := by
  obtain ⟨h | ⟨B, off, rfl, h1, h2⟩, h3⟩ := h
  · exact ⟨.inl h, h3⟩
  · exact ⟨.inr ⟨B, off, rfl, h1.kp0 k h2, Nat.lt_of_lt_of_le h2 k.size⟩, h3⟩
theorem Br.kp {S : Nat → Prop} {w w' : World} {a : Option Addr} {cap : Nat} {bs : List Int} (h : Br w a cap bs) (k : Kp S w w') (hn : ∀ i, i < w.heap.size → S i → ∀ b, a = some b → b.block = i → False) : Br w' a cap bs := by
  obtain ⟨h | ⟨B, off, rfl, h1, h2⟩, h3⟩ := h
  · exact ⟨.inl h, h3⟩
  · exact ⟨.inr ⟨B, off, rfl, h1.kp k h2 (fun x => hn B h2 x _ rfl rfl), Nat.lt_of_lt_of_le h2 k.size⟩, h3⟩
theorem info5' : (Try.prog.info? 5).map (fun i => (i.zero, i.size, i.bytes)) = some (some (.int .u8 0), 1, 1) := by kernel_rfl
set_option maxRecDepth 100000 in
/-- append of bytes behind a row of one's own, of any length that memory bears. -/
theorem app_bytes {w : World} {ops : Array Oper} {rest : List Oper} {o : Oper} {a : Act} {Q : Exit → Act → World → Prop} (hgd : o.guard = none) (s x : Operand)
    (ho : o.op = .call { callee := .builtin .append, args := #[s, x], argTypes := #[22, 22] })
    (v : Value) (n : Nat) (xs : List Value) (hs : a.eval s = v) (b off m c : Nat) (ys : List Value) (hx : a.eval x = .slice (some ⟨b, off, none⟩) m c) (hys : ys.length = m) (h1 : ∀ u ∈ ys, u.oneCell' = true)
    (hb : Vw w b off ys) (HO : w.ownsRow 0 5 1 v n xs) (hl : n + m ≤ 140737488355328)
    (h : ∀ v1 w1, w1.ownsRow 0 5 1 v1 (n + m) (xs ++ ys) → Kp (fun i => v.ownBlock = some i) w w1 → (v1.ownBlock = v.ownBlock ∨ v1.ownBlock = some w.heap.size) → wpList Try.prog ops Q rest (a.put o.dst v1) w1) :
    wpList Try.prog ops Q (o :: rest) a w := by
  obtain ⟨i0, hi, hzz⟩ := Option.map_eq_some_iff.1 info5'
  simp only [Prod.mk.injEq] at hzz
  obtain ⟨hz0, hz1, hz2⟩ := hzz
  exact wpList_append_own_at w hgd s x 22 ho 0 5 i0 (.int .u8 0) 1 1 rfl hi hz0 hz1 hz2 rfl (by decide) v n xs hs HO ⟨b, off, none⟩ m c ys hx (by omega) hb.add h1 (by simp only [maxLen]; omega) (by omega) (by simp)
    (fun v' w' h2 h3 _ h5 => h v' w' h2 ((Kp.refl _ _).grown h3 (fun k hk _ => hk)) h5)
theorem u8_one (bs : List Int) : ∀ u ∈ bs.map (Value.int .u8 ·), u.oneCell' = true := by
  intro u hu; obtain ⟨c, _, rfl⟩ := List.mem_map.1 hu; rfl
set_option maxRecDepth 100000 in
theorem copyb_c (a : Option Addr) (cap : Nat) (bs : List Int) (w : World) (hr : Br w a cap bs) (hl : bs.length ≤ 140737488355328) :
    Calls Try.prog 23 #[.slice a bs.length cap] w fun e w' => ∃ A c, e = .returned (.slice A bs.length c) ∧ w'.ownsRow 0 5 1 (.slice A bs.length c) bs.length (bs.map (.int .u8 ·)) ∧ Kp0 w w' ∧ (∀ i, (Value.slice A bs.length c).ownBlock = some i → w.heap.size ≤ i) := by
  obtain ⟨hr, hb⟩ := hr
  rcases hr with ⟨rfl, rfl, rfl⟩ | ⟨B, off, rfl, hV, hB⟩
  · go_enter Try.func23, Try.ntmps23
    go_wp2
    go_ret
    exact ⟨none, 0, rfl, World.ownsRow_nil _ _ _ _, Kp.refl _ _, by simp [Value.ownBlock]⟩
  · go_enter Try.func23, Try.ntmps23
    go_wp2_with (at_builtin; refine app_bytes rfl _ _ rfl (.slice none 0 0) 0 [] rfl B off bs.length cap (bs.map (.int .u8 ·)) rfl (by simp) (u8_one bs) hV (World.ownsRow_nil _ _ _ _) (by omega) ?_)
    intro v3 w3 o3 k3 b3
    have k3' : Kp0 w w3 := (Kp.refl (fun _ => False) _).trans k3 (fun i _ h => by simp [Value.ownBlock] at h)
    try simp only [Nat.zero_add, List.nil_append] at o3
    obtain ⟨A3, n3, c3, rfl, hn3⟩ : ∃ A n c, v3 = .slice A n c ∧ n = bs.length := by
      rcases own_shape o3 with ⟨rfl, hn, _⟩ | ⟨_, _, rfl, _⟩
      · exact ⟨_, _, _, rfl, by omega⟩
      · exact ⟨_, _, _, rfl, rfl⟩
    subst hn3
    go_wp2
    go_ret
    refine ⟨A3, c3, rfl, o3, k3', fun i hi => ?_⟩
    rcases b3 with b3 | b3
    · rw [b3] at hi; simp [Value.ownBlock] at hi
    · rw [b3] at hi; injection hi with hi; omega
theorem Br.take {w : World} {a : Option Addr} {cap : Nat} {bs : List Int} (h : Br w a cap bs) (m : Nat) : Br w a cap (bs.take m) := by
  obtain ⟨h | ⟨B, off, rfl, h1, h2⟩, h3⟩ := h
  · obtain ⟨rfl, rfl, rfl⟩ := h
    exact ⟨.inl ⟨rfl, rfl, by simp⟩, by simp⟩
  · exact ⟨.inr ⟨B, off, rfl, by rw [List.map_take]; exact h1.take m, h2⟩, fun c hc => h3 c (List.mem_of_mem_take hc)⟩
theorem cutN_c (a : Option Addr) (cap : Nat) (bs : List Int) (w : World) (hr : Br w a cap bs) (hl : bs.length ≤ 9223372036854775807) (hc : bs.length ≤ cap) (N : Nat) (hN : N ≤ 1000) :
    Calls Try.prog 18 #[.slice a bs.length cap, .int .i64 (N : Int)] w fun e w' => ∃ A c, e = .returned (.slice A (bs.take N).length c) ∧ w'.ownsRow 0 5 1 (.slice A (bs.take N).length c) (bs.take N).length ((bs.take N).map (.int .u8 ·)) ∧ Kp0 w w' ∧ (∀ i, (Value.slice A (bs.take N).length c).ownBlock = some i → w.heap.size ≤ i) := by
  have key := copyb_c a cap (bs.take N) w (hr.take N) (by rw [List.length_take]; omega)
  have hlen : (bs.take N).length = if N < bs.length then N else bs.length := by rw [List.length_take]; split <;> omega
  obtain ⟨m, hm⟩ : ∃ m, (bs.take N).length = m := ⟨_, rfl⟩
  rw [hm] at key hlen
  simp only [hm]
  by_cases h3 : N < bs.length
  · rw [if_pos h3] at hlen
    have hlen := hlen.symm
    subst hlen
    have h3' : (N : Int) < bs.length := by omega
    rcases hr.1 with ⟨rfl, rfl, rfl⟩ | ⟨B, off, rfl, hV, hB⟩
    · simp at h3
    · go_enter Try.func18, Try.ntmps18
      go_wp2_with fail
      refine key.mono ?_
      rintro e w1 ⟨A, c, rfl, o1, k1, f1⟩
      go_wp2
      go_ret
      exact ⟨A, c, rfl, o1, k1, f1⟩
  · rw [if_neg h3] at hlen
    subst hlen
    have h3' : ¬ (N : Int) < bs.length := by omega
    rcases hr.1 with ⟨rfl, rfl, rfl⟩ | ⟨B, off, rfl, hV, hB⟩
    · go_enter Try.func18, Try.ntmps18
      go_wp2_with fail
      refine key.mono ?_
      rintro e w1 ⟨A, c, rfl, o1, k1, f1⟩
      go_wp2
      go_ret
      exact ⟨A, c, rfl, o1, k1, f1⟩
    · go_enter Try.func18, Try.ntmps18
      go_wp2_with fail
      refine key.mono ?_
      rintro e w1 ⟨A, c, rfl, o1, k1, f1⟩
      go_wp2
      go_ret
      exact ⟨A, c, rfl, o1, k1, f1⟩
/-- Bytes that a slice holds; one of no length may lie anywhere. -/
def Bz (w : World) (a : Option Addr) (cap : Nat) (bs : List Int) : Prop := Br w a cap bs ∨ (bs = [] ∧ ∃ x, a = some x)
theorem Bz.byt {w : World} {a : Option Addr} {cap : Nat} {bs : List Int} (h : Bz w a cap bs) : ∀ c ∈ bs, 0 ≤ c ∧ c ≤ 255 := by
  rcases h with h | ⟨rfl, _⟩
  · exact h.2
  · simp
set_option maxRecDepth 100000 in
theorem copybz_c (a : Option Addr) (cap : Nat) (bs : List Int) (w : World) (hr : Bz w a cap bs) (hl : bs.length ≤ 140737488355328) :
    Calls Try.prog 23 #[.slice a bs.length cap] w fun e w' => ∃ A c, e = .returned (.slice A bs.length c) ∧ w'.ownsRow 0 5 1 (.slice A bs.length c) bs.length (bs.map (.int .u8 ·)) ∧ Kp0 w w' ∧ (∀ i, (Value.slice A bs.length c).ownBlock = some i → w.heap.size ≤ i) := by
  rcases hr with hr | ⟨rfl, x, rfl⟩
  · exact copyb_c a cap bs w hr hl
  · obtain ⟨i0, hi, hzz⟩ := Option.map_eq_some_iff.1 info5'
    simp only [Prod.mk.injEq] at hzz
    obtain ⟨hz0, hz1, hz2⟩ := hzz
    go_enter Try.func23, Try.ntmps23
    go_wp2_with (at_builtin; refine wpList_append_own_at w rfl _ _ 22 rfl 0 5 i0 (.int .u8 0) 1 1 rfl hi hz0 hz1 hz2 rfl (by decide) (.slice none 0 0) 0 [] rfl (World.ownsRow_nil _ _ _ _) x 0 cap [] rfl rfl (by simp) (by simp) (by decide) (by decide) (by simp) ?_)
    intro v3 w3 o3 k3 hn3 b3
    have hv : v3 = .slice none 0 0 := hn3
    subst hv
    have k3' : Kp0 w w3 := (Kp.refl (fun _ => False) _).trans ((Kp.refl _ _).grown (S := fun i => (Value.slice none 0 0).ownBlock = some i) k3 (fun k hk _ => hk)) (fun i _ h => by simp [Value.ownBlock] at h)
    clear hn3 b3
    go_wp2
    go_ret
    exact ⟨none, 0, rfl, World.ownsRow_nil _ _ _ _, k3', by simp [Value.ownBlock]⟩
set_option maxRecDepth 100000 in
theorem cutNz_c (a : Option Addr) (cap : Nat) (bs : List Int) (w : World) (hr : Bz w a cap bs) (hl : bs.length ≤ 9223372036854775807) (hc : bs.length ≤ cap) (N : Nat) (hN : N ≤ 1000) :
    Calls Try.prog 18 #[.slice a bs.length cap, .int .i64 (N : Int)] w fun e w' => ∃ A c, e = .returned (.slice A (bs.take N).length c) ∧ w'.ownsRow 0 5 1 (.slice A (bs.take N).length c) (bs.take N).length ((bs.take N).map (.int .u8 ·)) ∧ Kp0 w w' ∧ (∀ i, (Value.slice A (bs.take N).length c).ownBlock = some i → w.heap.size ≤ i) := by
  rcases hr with hr | ⟨rfl, x, rfl⟩
  · exact cutN_c a cap bs w hr hl hc N hN
  · simp only [List.take_nil]
    have key := copybz_c (some x) cap [] w (.inr ⟨rfl, x, rfl⟩) (by decide)
    go_enter Try.func18, Try.ntmps18
    go_wp2_with fail
    refine key.mono ?_
    rintro e w1 ⟨A, c, rfl, o1, k1, f1⟩
    go_wp2
    go_ret
    exact ⟨A, c, rfl, o1, k1, f1⟩
def Lent (w : World) (L : Nat) (bs : List Int) : Prop := Blk w L (bs.map (Value.int .u8 ·) ++ [Value.int .u8 85, Value.int .u8 85, Value.int .u8 85]).toArray 5
theorem lset {cs : List Value} {n : Nat} (hn : cs.length = n) (z0 z1 z2 v : Value) :
    (cs ++ [z0, z1, z2]).toArray.setIfInBounds n v = (cs ++ [v, z1, z2]).toArray ∧ (cs ++ [z0, z1, z2]).toArray.setIfInBounds (n + 1) v = (cs ++ [z0, v, z2]).toArray ∧ (cs ++ [z0, z1, z2]).toArray.setIfInBounds (n + 2) v = (cs ++ [z0, z1, v]).toArray := by
  subst hn
  refine ⟨?_, ?_, ?_⟩ <;> simp [List.set_append]
set_option maxRecDepth 100000 in
set_option maxHeartbeats 2000000 in
theorem lend_c (a : Option Addr) (cap : Nat) (bs : List Int) (w : World) (hr : Bz w a cap bs) (hl : bs.length ≤ 140737488355320) :
    Calls Try.prog 39 #[.slice a bs.length cap] w fun e w' => ∃ L, e = .returned (.slice (some ⟨L, 0, none⟩) bs.length (bs.length + 3)) ∧ w.heap.size ≤ L ∧ Lent w' L bs ∧ Kp0 w w' := by
  obtain ⟨i0, hi, hzz⟩ := Option.map_eq_some_iff.1 info5'
  simp only [Prod.mk.injEq] at hzz
  obtain ⟨hz0, hz1, hz2⟩ := hzz
  obtain ⟨Z, hZ, hmk⟩ : ∃ Z : List Value, Z.length = bs.length + 3 ∧ (Instr.makeSlice 22 (.int .i64 (bs.length : Int)) (.int .i64 ((bs.length : Int) + 3))).run Try.prog w = .ok (.slice (some ⟨w.heap.size, 0, none⟩) bs.length (bs.length + 3)) (w.alloc (.cells Z.toArray 5)) := by
    have := run_make (P := Try.prog) w 22 5 i0 (.int .u8 0) rfl hi hz0 .i64 .i64 (bs.length : Int) ((bs.length : Int) + 3) (by omega) (by omega) (by rw [hz2]; omega) (by omega)
    have e1 : ((bs.length : Int) + 3).toNat = bs.length + 3 := by omega
    rw [e1, Int.toNat_natCast, hz1] at this
    exact ⟨(madeCells (Value.int .u8 0).cells ((bs.length + 3) * 1)).toList, by simp [madeCells], by simpa using this⟩
  obtain ⟨w1, hw1⟩ : ∃ w1, w.alloc (.cells Z.toArray 5) = w1 := ⟨_, rfl⟩
  rw [hw1] at hmk
  have hB1 : w1.heap[w.heap.size]? = some (.cells Z.toArray 5 (0, 0)) := by rw [← hw1]; exact blk_new _ _ rfl
  have k1 : Kp0 w w1 := by rw [← hw1]; exact (Kp.refl _ _).alloc _
  have hbel : Below w.heap.size w w1 := k1.below0
  obtain ⟨z0, z1, z2, hZd⟩ : ∃ z0 z1 z2, Z.drop bs.length = [z0, z1, z2] := by
    have hd : (Z.drop bs.length).length = 3 := by rw [List.length_drop]; omega
    match Z.drop bs.length, hd with
    | [x, y, z], _ => exact ⟨x, y, z, rfl⟩
  have hsp : ∀ cs : List Value, cs.length = bs.length → splice Z 0 cs = cs ++ [z0, z1, z2] := by
    intro cs hcs
    simp only [splice, List.take_zero, List.nil_append, Nat.zero_add, hcs, hZd]
  have hpos : 0 < (bs.map (Value.int .u8 ·)).length → some (⟨w.heap.size, 0, none⟩ : Addr) = some ⟨w.heap.size, 0, none⟩ ∧ ∃ ad, a = some ad ∧ ∀ j v, (bs.map (Value.int .u8 ·))[j]? = some v → w1.cell? (ad.add j) = some v := by
    intro hp
    refine ⟨rfl, ?_⟩
    rcases hr with ⟨⟨rfl, rfl, rfl⟩ | ⟨B, off, rfl, hV, hB⟩, _⟩ | ⟨rfl, x, rfl⟩
    rotate_right
    · simp at hp
    · simp at hp
    · exact ⟨_, rfl, (hV.kp0 k1 hB).add⟩
  clear hw1 hi hz0 hz1 hz2
  go_enter Try.func39, Try.ntmps39
  go_wp2_with (with_reducible show wpList _ _ _ _ _ _; refine wpList_copy_splice rfl (.tmp 12) (.tmp 13) 22 22 rfl 5 rfl (by kernel_rfl) (some ⟨w.heap.size, 0, none⟩) a bs.length (bs.length + 3) bs.length cap rfl rfl w.heap.size 0 Z 5 hB1 (bs.map (Value.int .u8 ·)) (by rw [List.length_map]; exact (Nat.min_self _).symm) hpos (by simp; omega) (u8_one bs) w.heap.size w hbel (Nat.le_refl _) ?_)
  intro w2 hg2 hb2
  have hB2 : Blk w2 w.heap.size (bs.map (Value.int .u8 ·) ++ [z0, z1, z2]).toArray 5 := hg2
  clear hg2
  have k2 : Kp0 w w2 := Kp.of_below hb2
  clear hb2 hpos hsp hB1 hbel k1 hmk
  go_wp2_with fail
  go_loopw [5] (fun i wr => ∃ (k : Nat) (x0 x1 x2 : Value), k ≤ 3 ∧ i = .int .i64 ((bs.length : Int) + k) ∧ Blk wr w.heap.size (bs.map (Value.int .u8 ·) ++ [x0, x1, x2]).toArray 5 ∧ (0 < k → x0 = .int .u8 85) ∧ (1 < k → x1 = .int .u8 85) ∧ (2 < k → x2 = .int .u8 85) ∧ Kp0 w wr) (fun i _ => ((bs.length : Int) + 3 - intOf i).toNat)
  case atStart => exact ⟨0, z0, z1, z2, by decide, by simp, hB2, fun h => by omega, fun h => by omega, fun h => by omega, k2⟩
  case round =>
    clear hB2 k2
    obtain ⟨k, x0, x1, x2, hk, rfl, hB, e0, e1, e2, kr⟩ := hrel
    obtain ⟨s0, s1, s2⟩ := lset (cs := bs.map (Value.int .u8 ·)) (n := bs.length) (by simp) x0 x1 x2 (.int .u8 85)
    have hk' : k = 0 ∨ k = 1 ∨ k = 2 ∨ k = 3 := by omega
    rcases hk' with rfl | rfl | rfl | rfl
    · have c := hB.cell bs.length
      have f := hB.free bs.length
      have hset := hB.set bs.length (.int .u8 85)
      have kk := kr.setCell (p := ⟨w.heap.size, bs.length, none⟩) (fun h => absurd h (Nat.lt_irrefl _)) (.int .u8 85)
      rw [s0] at hset
      simp at c
      go_wp2
      go_roundw
      case rel => exact ⟨1, .int .u8 85, x1, x2, by decide, by go_num, hset, fun _ => rfl, fun h => by omega, fun h => by omega, kk⟩
      case measure => simp [intOf]; omega
    · have c := hB.cell (bs.length + 1)
      have f := hB.free (bs.length + 1)
      have hset := hB.set (bs.length + 1) (.int .u8 85)
      have kk := kr.setCell (p := ⟨w.heap.size, bs.length + 1, none⟩) (fun h => absurd h (Nat.lt_irrefl _)) (.int .u8 85)
      rw [s1] at hset
      simp at c
      have hx : ((bs.length : Int) + 1).toNat = bs.length + 1 := by omega
      go_wp2
      go_roundw
      case rel => exact ⟨2, x0, .int .u8 85, x2, by decide, by go_num, hset, fun _ => e0 (by decide), fun _ => rfl, fun h => by omega, kk⟩
      case measure => simp [intOf]; omega
    · have c := hB.cell (bs.length + 2)
      have f := hB.free (bs.length + 2)
      have hset := hB.set (bs.length + 2) (.int .u8 85)
      have kk := kr.setCell (p := ⟨w.heap.size, bs.length + 2, none⟩) (fun h => absurd h (Nat.lt_irrefl _)) (.int .u8 85)
      rw [s2] at hset
      simp at c
      have hx : ((bs.length : Int) + 2).toNat = bs.length + 2 := by omega
      go_wp2
      go_roundw
      case rel => exact ⟨3, x0, x1, .int .u8 85, by decide, by go_num, hset, fun _ => e0 (by decide), fun _ => e1 (by decide), fun _ => rfl, kk⟩
      case measure => simp [intOf]; omega
    · obtain rfl := e0 (by decide)
      obtain rfl := e1 (by decide)
      obtain rfl := e2 (by decide)
      go_wp2
      go_ret
      exact ⟨_, rfl, Nat.le_refl _, hB, kr⟩
set_option maxRecDepth 100000 in
set_option maxHeartbeats 4000000 in
theorem intact_c (L : Nat) (a : Option Addr) (cap : Nat) (bs : List Int) (w : World) (hL : Lent w L bs) (hr : Bz w a cap bs) (hl : bs.length ≤ 140737488355320) :
    Calls Try.prog 49 #[.slice (some ⟨L, 0, none⟩) bs.length (bs.length + 3), .slice a bs.length cap] w fun e w' => e = .returned (.bool true) ∧ Kp0 w w' := by
  have hcell : ∀ k : Nat, k < bs.length → w.cell? ⟨L, k, none⟩ = some (.int .u8 (bs.getD k 0)) := by
    intro k hk
    rw [hL.cell k]
    simp [List.getElem?_append_left, hk, List.getD]
  have hcell5 : ∀ k : Nat, bs.length ≤ k → k < bs.length + 3 → w.cell? ⟨L, k, none⟩ = some (.int .u8 85) := by
    intro k hk hk2
    rw [hL.cell k]
    have : k = bs.length ∨ k = bs.length + 1 ∨ k = bs.length + 2 := by omega
    rcases this with rfl | rfl | rfl <;> simp
  have hcellb : ∀ k : Nat, k < bs.length → ∃ B off, a = some ⟨B, off, none⟩ ∧ w.cell? ⟨B, off + k, none⟩ = some (.int .u8 (bs.getD k 0)) := by
    intro k hk
    rcases hr with ⟨⟨rfl, rfl, rfl⟩ | ⟨B, off, rfl, hV, hB⟩, _⟩ | ⟨rfl, x, rfl⟩
    rotate_right
    · simp at hk
    · simp at hk
    · exact ⟨B, off, rfl, hV k _ (by rw [List.getElem?_map, List.getElem?_eq_getElem hk]; simp [List.getD, hk])⟩
  clear hL hr
  go_enter Try.func49, Try.ntmps49
  go_wp2_with fail
  go_loopw [27] (fun i wr => ∃ (k d : Nat), k ≤ bs.length + 3 ∧ i = .int .i64 k ∧ wr = w.drewN d) (fun i _ => ((bs.length : Int) + 3 - intOf i).toNat)
  case atStart => exact ⟨0, 0, by omega, rfl, rfl⟩
  case round =>
    obtain ⟨k, d, hk, rfl, rfl⟩ := hrel
    by_cases h1 : k < bs.length
    · have c1 := hcell k h1
      obtain ⟨B, off, rfl, c2⟩ := hcellb k h1
      generalize bs.getD k 0 = x at c1 c2
      have t1 : decide ((k : Int) < bs.length) = true := decide_eq_true (by omega)
      have t1' : (k : Int) < bs.length := by omega
      have t2 : decide ((bs.length : Int) ≤ k) = false := decide_eq_false (by omega)
      have t3 : (k : Int) < (bs.length : Int) + 3 := by omega
      have t4 : decide (bs.length ≤ k) = false := decide_eq_false (by omega)
      have t5 : (bs.length ≤ k) = False := eq_false (by omega)
      have t6 : (k < bs.length) = True := eq_true (by omega)
      clear hcell hcell5 hcellb
      go_wp2_with fail
      go_quiet (fail)
      go_wp2
      go_roundw
      case rel => exact ⟨k + 1, _, by omega, by go_num, rfl⟩
      case measure => simp [intOf]; omega
    · by_cases h2 : k < bs.length + 3
      · have c1 := hcell5 k (by omega) h2
        have t1 : decide ((k : Int) < bs.length) = false := decide_eq_false (by omega)
        have t1' : ¬ (k : Int) < bs.length := by omega
        have t2 : decide ((bs.length : Int) ≤ k) = true := decide_eq_true (by omega)
        have t3 : (k : Int) < (bs.length : Int) + 3 := by omega
        have t4 : decide (bs.length ≤ k) = true := decide_eq_true (by omega)
        have t5 : (bs.length ≤ k) = True := eq_true (by omega)
        have t6 : (k < bs.length) = False := eq_false (by omega)
        clear hcell hcell5 hcellb
        go_upto_region 7 with fail
        refine wp_region_any (by kernel_rfl) ?_
        change wpAny _ _ _ _ _ _ _ (World.drew _)
        refine wpAny_take (i := 0) (v := ?_) rfl (by kernel_rfl) (by kernel_rfl) (by kernel_rfl) (fun _ _ _ h => h) (Or.inl ⟨by kernel_rfl, ?_⟩) ?_
        rotate_left
        · intro w; go_simp; first | with_reducible rfl | (first | with_reducible rfl | exact rfl)
        rotate_left
        refine wpAny_take (i := 1) (v := ?_) rfl (by kernel_rfl) (by kernel_rfl) (by kernel_rfl) (fun _ _ _ h => h) (Or.inl ⟨by kernel_rfl, ?_⟩) ?_
        rotate_left
        · intro w; go_simp; first | with_reducible rfl | (first | with_reducible rfl | exact rfl)
        rotate_left
        refine wpAny_take (i := 2) (v := ?_) rfl (by kernel_rfl) (by kernel_rfl) (by kernel_rfl) (fun _ _ _ h => h) (Or.inl ⟨by kernel_rfl, ?_⟩) ?_
        rotate_left
        · intro w; go_simp; first | with_reducible rfl | (first | with_reducible rfl | exact rfl)
        rotate_left
        refine wpAny_take (i := 3) (v := ?_) rfl (by kernel_rfl) (by kernel_rfl) (by kernel_rfl) (fun _ _ _ h => h) (Or.inl ⟨by kernel_rfl, ?_⟩) ?_
        rotate_left
        · intro w; go_simp; first | with_reducible rfl | (first | with_reducible rfl | exact rfl)
        rotate_left
        refine wpAny_take (i := 4) (v := ?_) rfl (by kernel_rfl) (by kernel_rfl) (by kernel_rfl) (fun _ _ _ h => h) (Or.inl ⟨by kernel_rfl, ?_⟩) ?_
        rotate_left
        · intro w; go_simp; first | with_reducible rfl | (first | with_reducible rfl | exact rfl)
        rotate_left
        refine wpAny_take (i := 5) (v := undef) rfl (by kernel_rfl) (by kernel_rfl) (by kernel_rfl) (fun _ _ _ h => h) (Or.inr ⟨by kernel_rfl, rfl⟩) ?_
        refine wpAny_take (i := 6) (v := undef) rfl (by kernel_rfl) (by kernel_rfl) (by kernel_rfl) (fun _ _ _ h => h) (Or.inr ⟨by kernel_rfl, rfl⟩) ?_
        refine wpAny_take (i := 7) (v := undef) rfl (by kernel_rfl) (by kernel_rfl) (by kernel_rfl) (fun _ _ _ h => h) (Or.inr ⟨by kernel_rfl, rfl⟩) ?_
        refine wpAny_take (i := 8) (v := undef) rfl (by kernel_rfl) (by kernel_rfl) (by kernel_rfl) (fun _ _ _ h => h) (Or.inr ⟨by kernel_rfl, rfl⟩) ?_
        refine wpAny_take (i := 9) (v := undef) rfl (by kernel_rfl) (by kernel_rfl) (by kernel_rfl) (fun _ _ _ h => h) (Or.inr ⟨by kernel_rfl, rfl⟩) ?_
        refine wpAny_take (i := 10) (v := undef) rfl (by kernel_rfl) (by kernel_rfl) (by kernel_rfl) (fun _ _ _ h => h) (Or.inr ⟨by kernel_rfl, rfl⟩) ?_
        refine wpAny_take (i := 11) (v := undef) rfl (by kernel_rfl) (by kernel_rfl) (by kernel_rfl) (fun _ _ _ h => h) (Or.inr ⟨by kernel_rfl, rfl⟩) ?_
        refine wpAny_take (i := 12) (v := undef) rfl (by kernel_rfl) (by kernel_rfl) (by kernel_rfl) (fun _ _ _ h => h) (Or.inr ⟨by kernel_rfl, rfl⟩) ?_
        refine wpAny_take (i := 13) (v := undef) rfl (by kernel_rfl) (by kernel_rfl) (by kernel_rfl) (fun _ _ _ h => h) (Or.inr ⟨by kernel_rfl, rfl⟩) ?_
        refine wpAny_take (i := 14) (v := ?_) rfl (by kernel_rfl) (by kernel_rfl) (by kernel_rfl) (fun _ _ _ h => h) (Or.inl ⟨by kernel_rfl, ?_⟩) ?_
        rotate_left
        · intro w; go_simp; first | with_reducible rfl | (first | with_reducible rfl | exact rfl)
        rotate_left
        refine wpAny_take (i := 15) (v := ?_) rfl (by kernel_rfl) (by kernel_rfl) (by kernel_rfl) (fun _ _ _ h => h) (Or.inl ⟨by kernel_rfl, ?_⟩) ?_
        rotate_left
        · intro w; go_simp; first | with_reducible rfl | (first | with_reducible rfl | exact rfl)
        rotate_left
        refine wpAny_take (i := 16) (v := ?_) rfl (by kernel_rfl) (by kernel_rfl) (by kernel_rfl) (fun _ _ _ h => h) (Or.inl ⟨by kernel_rfl, ?_⟩) ?_
        rotate_left
        · intro w; go_simp; first | with_reducible rfl | (first | with_reducible rfl | exact rfl)
        rotate_left
        refine wpAny_take (i := 17) (v := ?_) rfl (by kernel_rfl) (by kernel_rfl) (by kernel_rfl) (fun _ _ _ h => h) (Or.inl ⟨by kernel_rfl, ?_⟩) ?_
        rotate_left
        · intro w; go_simp; first | with_reducible rfl | (first | with_reducible rfl | exact rfl)
        rotate_left
        refine wpAny_take (i := 18) (v := ?_) rfl (by kernel_rfl) (by kernel_rfl) (by kernel_rfl) (fun _ _ _ h => h) (Or.inl ⟨by kernel_rfl, ?_⟩) ?_
        rotate_left
        · intro w; go_simp; first | with_reducible rfl | (first | with_reducible rfl | exact rfl)
        rotate_left
        refine wpAny_take (i := 19) (v := ?_) rfl (by kernel_rfl) (by kernel_rfl) (by kernel_rfl) (fun _ _ _ h => h) (Or.inl ⟨by kernel_rfl, ?_⟩) ?_
        rotate_left
        · intro w; go_simp; first | with_reducible rfl | (first | with_reducible rfl | exact rfl)
        rotate_left
        refine wpAny_take (i := 20) (v := ?_) rfl (by kernel_rfl) (by kernel_rfl) (by kernel_rfl) (fun _ _ _ h => h) (Or.inl ⟨by kernel_rfl, ?_⟩) ?_
        rotate_left
        · intro w; go_simp; first | with_reducible rfl | (first | with_reducible rfl | exact rfl)
        rotate_left
        refine wpAny_take (i := 21) (v := ?_) rfl (by kernel_rfl) (by kernel_rfl) (by kernel_rfl) (fun _ _ _ h => h) (Or.inl ⟨by kernel_rfl, ?_⟩) ?_
        rotate_left
        · intro w; go_simp; first | with_reducible rfl | (first | with_reducible rfl | exact rfl)
        rotate_left
        refine wpAny_take (i := 22) (v := ?_) rfl (by kernel_rfl) (by kernel_rfl) (by kernel_rfl) (fun _ _ _ h => h) (Or.inl ⟨by kernel_rfl, ?_⟩) ?_
        rotate_left
        · intro w; go_simp; first | with_reducible rfl | (first | with_reducible rfl | exact rfl)
        rotate_left
        refine wpAny_take (i := 23) (v := ?_) rfl (by kernel_rfl) (by kernel_rfl) (by kernel_rfl) (fun _ _ _ h => h) (Or.inl ⟨by kernel_rfl, ?_⟩) ?_
        rotate_left
        · intro w; go_simp; first | with_reducible rfl | (first | with_reducible rfl | exact rfl)
        rotate_left
        refine wpAny_ready (rs := [24]) (by kernel_rfl) (by simp) ?_
        refine (AllReady.cons rfl (fun K hK => ?_) AllReady.nil)
        go_simp
        refine hK _ _ ?_
        clear hK K
        refine wpAny_take (i := 25) (v := ?_) rfl (by kernel_rfl) (by kernel_rfl) (by kernel_rfl) (fun _ _ _ h => h) (Or.inl ⟨by kernel_rfl, ?_⟩) ?_
        rotate_left
        · intro w; go_simp; first | with_reducible rfl | (first | with_reducible rfl | exact rfl)
        rotate_left
        refine wpAny_take (i := 26) (v := ?_) rfl (by kernel_rfl) (by kernel_rfl) (by kernel_rfl) (fun _ _ _ h => h) (Or.inl ⟨by kernel_rfl, ?_⟩) ?_
        rotate_left
        · intro w; go_simp; first | with_reducible rfl | (first | with_reducible rfl | exact rfl)
        rotate_left
        refine wpAny_take (i := 27) (v := ?_) rfl (by kernel_rfl) (by kernel_rfl) (by kernel_rfl) (fun _ _ _ h => h) (Or.inl ⟨by kernel_rfl, ?_⟩) ?_
        rotate_left
        · intro w; go_simp; first | with_reducible rfl | (first | with_reducible rfl | exact rfl)
        rotate_left
        refine wpAny_done (by kernel_rfl) ?_ _
        simp only [List.getElem_toArray, List.getElem_cons_succ, List.getElem_cons_zero, Act.put, List.setIfInBounds_toArray, List.set_cons_succ, List.set_cons_zero]
        go_wp2
        go_roundw
        case rel => exact ⟨k + 1, _, by omega, by go_num, rfl⟩
        case measure => simp [intOf]; omega
      · have hk3 : k = bs.length + 3 := by omega
        subst hk3
        go_wp2
        go_ret
        exact ⟨rfl, (Kp.refl _ _).drewN _⟩
theorem br_lent {w : World} {L : Nat} {bs : List Int} (h : Lent w L bs) (hb : ∀ c ∈ bs, 0 ≤ c ∧ c ≤ 255) : Br w (some ⟨L, 0, none⟩) (bs.length + 3) bs := by
  refine ⟨.inr ⟨L, 0, rfl, ?_, h.lt⟩, hb⟩
  intro j u hj
  have hl := (List.getElem?_eq_some_iff.1 hj).1
  rw [h.cell, Nat.zero_add, ← hj]
  simp only [List.getElem?_toArray]
  rw [List.getElem?_append_left hl]
theorem Bz.kp0 {w w' : World} {a : Option Addr} {cap : Nat} {bs : List Int} (h : Bz w a cap bs) (k : Kp0 w w') : Bz w' a cap bs := by
  rcases h with h | h
  · exact .inl (h.kp0 k)
  · exact .inr h
end Go.Proofs.Ytkokgbmeienokaa
