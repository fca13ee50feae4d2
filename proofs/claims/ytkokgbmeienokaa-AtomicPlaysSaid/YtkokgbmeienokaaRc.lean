/- Bytes joined; records written: contracts. -/
import Derived.Test.YtkokgbmeienokaaBy
import Derived.Deep.AppendSrc
import Derived.Lib.AppendZeros
set_option linter.unusedVariables false
set_option linter.unusedSimpArgs false
namespace Go.Proofs.Ytkokgbmeienokaa
open Go.RowKit

abbrev u8s (bs : List Int) : List Value := bs.map (Value.int .u8 ·)

theorem run_app_nil {w : World} {n : Nat} {v : Value} {xs : List Value} (ty : TypeId) (HO : w.ownsRow 0 5 1 v n xs) : (Builtin.append_ #[22, 22] ty #[v, .slice none 0 0]).run Try.prog w = .ok v w := by
  obtain ⟨i0, hi, hzz⟩ := Option.map_eq_some_iff.1 info5'
  simp only [Prod.mk.injEq] at hzz
  obtain ⟨hz0, hz1, hz2⟩ := hzz
  rcases own_shape HO with ⟨rfl, _, _⟩ | ⟨r, cap, rfl, h1, h2, h3, h4⟩
  · kernel_rfl
  · have := run_append_room_src (P := Try.prog) (w := w) 22 22 ty 5 i0 Try.underlying22 hi r 0 n cap (.slice none 0 0) 0 [] (hz1 ▸ Src.ofNil w Try.underlying22 0) (by omega) (fun j hj => by simp at hj) (fun j hj => by simp at hj)
    simpa [World.setCells] using this

set_option maxRecDepth 100000 in
/-- append of whatever bytes behind a row of one's own. -/
theorem app_any {w : World} {ops : Array Oper} {rest : List Oper} {o : Oper} {a : Act} {Q : Exit → Act → World → Prop} (hgd : o.guard = none) (s x : Operand)
    (ho : o.op = .call { callee := .builtin .append, args := #[s, x], argTypes := #[22, 22] })
    (v : Value) (n : Nat) (xs : List Value) (hs : a.eval s = v) (A : Option Addr) (m c : Nat) (ys : List Int) (hx : a.eval x = .slice A m c) (hm : ys.length = m)
    (hb : Bz w A c ys) (HO : w.ownsRow 0 5 1 v n xs) (hl : n + m ≤ 140737488355328)
    (h : ∀ v1 w1, w1.ownsRow 0 5 1 v1 (n + m) (xs ++ u8s ys) → Kp (fun i => v.ownBlock = some i) w w1 → (v1.ownBlock = v.ownBlock ∨ v1.ownBlock = some w.heap.size) → wpList Try.prog ops Q rest (a.put o.dst v1) w1) :
    wpList Try.prog ops Q (o :: rest) a w := by
  rcases hb with ⟨⟨rfl, rfl, rfl⟩ | ⟨B, off, rfl, hV, hB⟩, _⟩ | ⟨rfl, ad, rfl⟩
  · obtain rfl : m = 0 := hm.symm
    refine wpList_plain hgd fun K hK => ?_
    unfold Oper.wp execOp
    simp only [ho, resolve, invoke, builtin, Sem.run_bind, Sem.run_pure, Result.andThen_ok, List.map_toArray, List.map_cons, List.map_nil, hs, hx, run_app_nil o.type HO]
    exact hK _ _ (h v w (by simpa using HO) (Kp.refl _ _) (.inl rfl))
  · exact app_bytes hgd s x ho v n xs hs B off m c (u8s ys) hx (by simpa using hm) (u8_one ys) hV HO hl h
  · obtain rfl : m = 0 := hm.symm
    obtain ⟨i0, hi, hzz⟩ := Option.map_eq_some_iff.1 info5'
    simp only [Prod.mk.injEq] at hzz
    obtain ⟨hz0, hz1, hz2⟩ := hzz
    exact wpList_append_own_at w hgd s x 22 ho 0 5 i0 (.int .u8 0) 1 1 rfl hi hz0 hz1 hz2 rfl (by decide) v n xs hs HO ad 0 c [] hx rfl (by simp) (by simp) (by simp only [maxLen]; omega) (by omega) (by simp)
      (fun v' w' h2 h3 _ h5 => h v' w' (by simpa using h2) ((Kp.refl _ _).grown h3 (fun k hk _ => hk)) h5)

/-- A value that a call has made: the bytes bs, in memory that w did not have. -/
def Fr (w w' : World) (e : Ending) (bs : List Int) : Prop := ∃ A c, e = .returned (.slice A bs.length c) ∧ w'.ownsRow 0 5 1 (.slice A bs.length c) bs.length (u8s bs) ∧ Kp0 w w' ∧ (∀ i, (Value.slice A bs.length c).ownBlock = some i → w.heap.size ≤ i)

theorem own_sl {w : World} {b e size n : Nat} {v : Value} {xs : List Value} (h : w.ownsRow b e size v n xs) : ∃ A c, v = .slice A n c := by
  rcases own_shape h with ⟨rfl, rfl, _⟩ | ⟨r, cap, rfl, _⟩
  · exact ⟨none, 0, rfl⟩
  · exact ⟨_, _, rfl⟩

theorem bz_own {w : World} {A : Option Addr} {c n : Nat} {bs : List Int} (h : w.ownsRow 0 5 1 (.slice A n c) bs.length (u8s bs)) (hn : n = bs.length) (hb : ∀ c ∈ bs, 0 ≤ c ∧ c ≤ 255) : Bz w A c bs := by
  subst hn
  rcases own_shape h with ⟨e, h0, hx⟩ | ⟨r, cap, e, h1, h2, h3, h4⟩
  · injection e with e1 e2 e3
    subst e1; subst e3
    exact .inl ⟨.inl ⟨rfl, rfl, List.length_eq_zero_iff.1 h0⟩, hb⟩
  · injection e with e1 e2 e3
    subst e1; subst e3
    exact .inl ⟨.inr ⟨r, 0, rfl, Vw.of_own h, h3⟩, hb⟩

set_option maxRecDepth 100000 in
theorem clone_c (a : Option Addr) (cap : Nat) (bs : List Int) (w : World) (hr : Bz w a cap bs) (hl : bs.length ≤ 140737488355328) :
    Calls Try.prog 71 #[.slice a bs.length cap] w fun e w' => Fr w w' e bs := by
  have heq : ∀ (w : World) (a : Option Addr) (n c : Nat), (binOp .eql 22 (.slice a n c) (.slice none 0 0)).run Try.prog w = .ok (.bool a.isNone) w := fun w a n c => Lib.run_eql_slice_nil w 22 5 a n c 0 0 rfl
  cases a with
  | none =>
    have hbs : bs = [] := by
      rcases hr with ⟨⟨_, _, h⟩ | ⟨B, off, h, _⟩, _⟩ | ⟨h, _⟩
      · exact h
      · cases h
      · exact h
    subst hbs
    go_enter Try.func71, Try.ntmps71
    go_wp2
    go_ret
    exact ⟨none, 0, rfl, World.ownsRow_nil _ _ _ _, Kp.refl _ _, by simp [Value.ownBlock]⟩
  | some ad =>
    have k1 : Kp0 w (w.alloc (.cells #[] 5)) := (Kp.refl _ _).alloc _
    have o1 : (w.alloc (.cells #[] 5)).ownsRow 0 5 1 (.slice (some ⟨w.heap.size, 0, none⟩) 0 0) 0 [] := ⟨by simp, .inr ⟨_, 0, #[], rfl, Nat.zero_le _, blk_new _ _ rfl, Nat.le_refl _, Nat.zero_le _, by simp, by simp⟩⟩
    have b1 := hr.kp0 k1
    go_enter Try.func71, Try.ntmps71
    go_wp2_with (at_builtin; refine app_any rfl _ _ rfl (.slice (some ⟨w.heap.size, 0, none⟩) 0 0) 0 [] rfl (some ad) bs.length cap bs rfl rfl b1 o1 (by omega) ?_)
    intro v3 w3 o3 k3 b3
    obtain ⟨A3, c3, rfl⟩ := own_sl o3
    try simp only [Nat.zero_add, List.nil_append] at o3
    try simp only [Nat.zero_add] at b3
    have K : Kp0 w w3 := k1.trans k3 (fun i hi h => by simp [Value.ownBlock] at h; omega)
    try rw [Nat.zero_add]
    go_wp2
    go_ret
    refine ⟨A3, c3, rfl, o3, K, fun i hi => ?_⟩
    rcases b3 with b3 | b3
    · rw [b3] at hi; simp [Value.ownBlock] at hi; omega
    · rw [b3] at hi; simp at hi; omega

theorem list_run {P : Program} {w w1 : World} {ops : Array Oper} {rest : List Oper} {o : Oper} {a : Act} {Q : Exit → Act → World → Prop} (hgd : o.guard = none) (s x : Operand) (t1 t2 : TypeId)
    (ho : o.op = .call { callee := .builtin .append, args := #[s, x], argTypes := #[t1, t2] }) (v u v1 : Value) (hs : a.eval s = v) (hx : a.eval x = u)
    (hrun : ∀ ty, (Builtin.append_ #[t1, t2] ty #[v, u]).run P w = .ok v1 w1) (h : wpList P ops Q rest (a.put o.dst v1) w1) : wpList P ops Q (o :: rest) a w := by
  refine wpList_plain hgd fun K hK => ?_
  unfold Oper.wp execOp
  simp only [ho, resolve, invoke, builtin, Sem.run_bind, Sem.run_pure, Result.andThen_ok, List.map_toArray, List.map_cons, List.map_nil, hs, hx, hrun]
  exact hK _ _ h

set_option maxRecDepth 100000 in
theorem grow_c (n : Nat) (hn : n ≤ 140737488355328) (w : World) :
    Calls Try.prog 89 #[.slice none 0 0, .int .i64 (n : Int)] w fun e w' => ∃ v, e = .returned v ∧ w'.ownsRow 0 5 1 v 0 [] ∧ Kp0 w w' ∧ (∀ i, v.ownBlock = some i → w.heap.size ≤ i) := by
  obtain ⟨i0, hi, hzz⟩ := Option.map_eq_some_iff.1 info5'
  simp only [Prod.mk.injEq] at hzz
  obtain ⟨hz0, hz1, hz2⟩ := hzz
  rcases Nat.eq_zero_or_pos n with rfl | h0
  · go_enter Try.func89, Try.ntmps89
    go_wp2
    go_ret
    exact ⟨_, rfl, World.ownsRow_nil _ _ _ _, Kp.refl _ _, by simp [Value.ownBlock]⟩
  · have hrun : ∀ ty, (Builtin.append_ #[22, 3] ty #[.slice none 0 0, .int .i64 (n : Int)]).run Try.prog w = _ := fun ty => Lib.run_append_nil_zeros w 22 3 ty 5 i0 (.int .u8 0) .i64 .i64 Try.underlying22 Try.underlying3 hi hz0 n h0 (by rw [hz1]; decide) (by omega) (by rw [hz2]; omega)
    obtain ⟨G, hG⟩ : ∃ G, grownCap w n 0 5 = G := ⟨_, rfl⟩
    have hGn : n ≤ G := by rw [← hG]; exact grownCap_ge w _ _ _
    have hG63 : G ≤ 9223372036854775807 := by
      have := grownCap_le_maxLen w n 0 5 (by unfold maxLen; omega)
      rw [hG] at this
      unfold maxLen at this
      omega
    rw [hG] at hrun
    obtain ⟨Z, hZ⟩ : ∃ Z, Builtin.zeroCells (Value.int .u8 0).cells n ++ Builtin.zeroCells (Value.int .u8 0).cells (G - n) = Z := ⟨_, rfl⟩
    have hZs : Z.size = G := by rw [← hZ]; simp [Builtin.zeroCells, Value.cells]; omega
    rw [hZ] at hrun
    clear hZ hG hi hz0 hz1 hz2
    have h1 : (0 : Int) < (n : Int) := by omega
    have h2 : ¬ ((n : Int) < 0) := by omega
    have h3 : (n : Int) ≤ 9223372036854775807 := by omega
    have h4 : (G : Int) ≤ 9223372036854775807 := by omega
    go_enter Try.func89, Try.ntmps89
    go_wp2_with (at_builtin; refine list_run rfl (.tmp 20) (.tmp 21) 22 3 rfl (.slice none 0 0) (.int .i64 (n : Int)) (.slice (some ⟨w.heap.size, 0, none⟩) n G) rfl rfl hrun ?_)
    clear hrun
    go_wp2
    go_ret
    exact ⟨.slice (some ⟨w.heap.size, 0, none⟩) 0 G, rfl, ⟨by simp, .inr ⟨_, G, Z, rfl, Nat.zero_le _, blk_new _ _ (by simp), Nat.zero_le _, by simp only [maxLen]; omega, by simpa using hZs, by simp⟩⟩, ((Kp.refl _ _).drew).alloc _, fun i hi => by simp [Value.ownBlock] at hi; omega⟩
end Go.Proofs.Ytkokgbmeienokaa
