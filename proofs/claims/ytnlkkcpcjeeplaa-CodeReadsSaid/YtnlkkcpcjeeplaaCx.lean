/- Bytes of any length: copied, cut, lent, looked at; a reader over them. -/
import Derived.Test.YtnlkkcpcjeeplaaCe
import Derived.Laws.CopyOwn
import Derived.Laws.MakeOwn
set_option linter.unusedVariables false
set_option linter.unusedSimpArgs false
namespace Go.Proofs.Ytnlkkcpcjeeplaa
open Go.RowKit

theorem Br.kp {S : Nat → Prop} {w w' : World} {a : Option Addr} {cap : Nat} {bs : List Int} (h : Br w a cap bs) (k : Kp S w w') (hn : ∀ i, i < w.heap.size → S i → ∀ b, a = some b → b.block = i → False) : Br w' a cap bs := by
  obtain ⟨h | ⟨B, off, rfl, h1, h2⟩, h3⟩ := h
  · exact ⟨.inl h, h3⟩
  · exact ⟨.inr ⟨B, off, rfl, h1.kp k h2 (fun x => hn B h2 x _ rfl rfl), Nat.lt_of_lt_of_le h2 k.size⟩, h3⟩

theorem info5' : (Try.prog.info? 5).map (fun i => (i.zero, i.size, i.bytes)) = some (some (.int .u8 0), 1, 1) := by kernel_rfl

set_option maxRecDepth 100000 in
/-- append of bytes behind a row of one's own, of any length that memory bears. -/
theorem app_bytes {w : World} {ops : Array Oper} {rest : List Oper} {o : Oper} {a : Act} {Q : Exit → Act → World → Prop} (hgd : o.guard = none) (s x : Operand)
    (ho : o.op = .call { callee := .builtin .append, args := #[s, x], argTypes := #[23, 23] })
    (v : Value) (n : Nat) (xs : List Value) (hs : a.eval s = v) (b off m c : Nat) (ys : List Value) (hx : a.eval x = .slice (some ⟨b, off, none⟩) m c) (hys : ys.length = m) (h1 : ∀ u ∈ ys, u.oneCell' = true)
    (hb : Vw w b off ys) (HO : w.ownsRow 0 5 1 v n xs) (hl : n + m ≤ 140737488355328)
    (h : ∀ v1 w1, w1.ownsRow 0 5 1 v1 (n + m) (xs ++ ys) → Kp (fun i => v.ownBlock = some i) w w1 → (v1.ownBlock = v.ownBlock ∨ v1.ownBlock = some w.heap.size) → wpList Try.prog ops Q rest (a.put o.dst v1) w1) :
    wpList Try.prog ops Q (o :: rest) a w := by
  obtain ⟨i0, hi, hzz⟩ := Option.map_eq_some_iff.1 info5'
  simp only [Prod.mk.injEq] at hzz
  obtain ⟨hz0, hz1, hz2⟩ := hzz
  exact wpList_append_own_at w hgd s x 23 ho 0 5 i0 (.int .u8 0) 1 1 rfl hi hz0 hz1 hz2 rfl (by decide) v n xs hs HO ⟨b, off, none⟩ m c ys hx (by omega) hb.add h1 (by simp only [maxLen]; omega) (by omega) (by simp)
    (fun v' w' h2 h3 _ h5 => h v' w' h2 ((Kp.refl _ _).grown h3 (fun k hk _ => hk)) h5)

theorem u8_one (bs : List Int) : ∀ u ∈ bs.map (Value.int .u8 ·), u.oneCell' = true := by
  intro u hu; obtain ⟨c, _, rfl⟩ := List.mem_map.1 hu; rfl

set_option maxRecDepth 100000 in
theorem copyb_c (a : Option Addr) (cap : Nat) (bs : List Int) (w : World) (hr : Br w a cap bs) (hl : bs.length ≤ 140737488355328) :
    Calls Try.prog 26 #[.slice a bs.length cap] w fun e w' => ∃ A c, e = .returned (.slice A bs.length c) ∧ w'.ownsRow 0 5 1 (.slice A bs.length c) bs.length (bs.map (.int .u8 ·)) ∧ Kp0 w w' ∧ (∀ i, (Value.slice A bs.length c).ownBlock = some i → w.heap.size ≤ i) := by
  obtain ⟨hr, hb⟩ := hr
  rcases hr with ⟨rfl, rfl, rfl⟩ | ⟨B, off, rfl, hV, hB⟩
  · go_enter Try.func26, Try.ntmps26
    go_wp2
    go_ret
    exact ⟨none, 0, rfl, World.ownsRow_nil _ _ _ _, Kp.refl _ _, by simp [Value.ownBlock]⟩
  · go_enter Try.func26, Try.ntmps26
    go_wp2_with (at_builtin; refine app_bytes rfl _ _ rfl (.slice none 0 0) 0 [] rfl B off bs.length cap (bs.map (.int .u8 ·)) rfl (by simp) (u8_one bs) hV (World.ownsRow_nil _ _ _ _) (by omega) ?_)
    intro v3 w3 o3 k3 b3
    have k3' : Kp0 w w3 := (Kp.refl (fun _ => False) _).trans k3 (fun i _ h => by simp [Value.ownBlock] at h)
    try simp only [Nat.zero_add, List.nil_append] at o3
    obtain ⟨A3, n3, c3, rfl, hn3⟩ : ∃ A n c, v3 = .slice A n c ∧ n = bs.length := by
      rcases own_shape o3 with ⟨rfl, hn, _⟩ | ⟨_, _, rfl, _⟩
      · exact ⟨_, _, _, rfl, by omega⟩
      · exact ⟨_, _, _, rfl, rfl⟩
    subst hn3
    go_wp2
    go_ret
    refine ⟨A3, c3, rfl, o3, k3', fun i hi => ?_⟩
    rcases b3 with b3 | b3
    · rw [b3] at hi; simp [Value.ownBlock] at hi
    · rw [b3] at hi; injection hi with hi; omega

set_option maxRecDepth 100000 in
theorem newW_c (a : Option Addr) (cap : Nat) (bs : List Int) (w : World) (hr : Br w a cap bs) (hl : bs.length ≤ 140737488355328) :
    Calls Try.prog 25 #[.slice a bs.length cap] w fun e w' => ∃ g, e = .returned (.pointer (some ⟨g, 0, none⟩)) ∧ w.heap.size ≤ g ∧ RrAt w' g 112 bs false ∧ Kp0 w w' := by
  obtain ⟨hr, hb⟩ := hr
  rcases hr with ⟨rfl, rfl, rfl⟩ | ⟨B, off, rfl, hV, hB⟩
  · go_enter Try.func25, Try.ntmps25
    go_wp2
    go_ret
    exact ⟨_, rfl, Nat.le_refl _, rr_new (w1 := w) (World.ownsRow_nil _ _ _ _) (Kp.alloc (Kp.refl _ _) _) hb (Blk.new _ _ _) (Nat.le_refl _), Kp.alloc (Kp.refl _ _) _⟩
  · go_enter Try.func25, Try.ntmps25
    go_wp2_with (at_builtin; refine app_bytes rfl _ _ rfl (.slice none 0 0) 0 [] rfl B off bs.length cap (bs.map (.int .u8 ·)) rfl (by simp) (u8_one bs) hV (World.ownsRow_nil _ _ _ _) (by omega) ?_)
    intro v3 w3 o3 k3 b3
    have k3' : Kp0 w w3 := (Kp.refl (fun _ => False) _).trans k3 (fun i _ h => by simp [Value.ownBlock] at h)
    try simp only [Nat.zero_add, List.nil_append] at o3
    obtain ⟨A3, n3, c3, rfl⟩ : ∃ A n c, v3 = .slice A n c := by rcases own_shape o3 with ⟨rfl, _⟩ | ⟨_, _, rfl, _⟩ <;> exact ⟨_, _, _, rfl⟩
    go_wp2
    go_ret
    exact ⟨_, rfl, k3'.size, rr_new o3 (Kp.alloc (Kp.refl _ _) _) hb (Blk.new _ _ _) (Nat.le_refl _), k3'.alloc _⟩

theorem Br.take {w : World} {a : Option Addr} {cap : Nat} {bs : List Int} (h : Br w a cap bs) (m : Nat) : Br w a cap (bs.take m) := by
  obtain ⟨h | ⟨B, off, rfl, h1, h2⟩, h3⟩ := h
  · obtain ⟨rfl, rfl, rfl⟩ := h
    exact ⟨.inl ⟨rfl, rfl, by simp⟩, by simp⟩
  · exact ⟨.inr ⟨B, off, rfl, by rw [List.map_take]; exact h1.take m, h2⟩, fun c hc => h3 c (List.mem_of_mem_take hc)⟩

theorem cut3_c (a : Option Addr) (cap : Nat) (bs : List Int) (w : World) (hr : Br w a cap bs) (hl : bs.length ≤ 140737488355328) (hc : bs.length ≤ cap) :
    Calls Try.prog 23 #[.slice a bs.length cap, .int .i64 3] w fun e w' => ∃ A c, e = .returned (.slice A (bs.take 3).length c) ∧ w'.ownsRow 0 5 1 (.slice A (bs.take 3).length c) (bs.take 3).length ((bs.take 3).map (.int .u8 ·)) ∧ Kp0 w w' ∧ (∀ i, (Value.slice A (bs.take 3).length c).ownBlock = some i → w.heap.size ≤ i) := by
  have key := copyb_c a cap (bs.take 3) w (hr.take 3) (by rw [List.length_take]; omega)
  have hlen : (bs.take 3).length = if 3 < bs.length then 3 else bs.length := by rw [List.length_take]; split <;> omega
  obtain ⟨m, hm⟩ : ∃ m, (bs.take 3).length = m := ⟨_, rfl⟩
  rw [hm] at key hlen
  simp only [hm]
  by_cases h3 : 3 < bs.length
  · rw [if_pos h3] at hlen
    subst hlen
    have h3' : (3 : Int) < bs.length := by omega
    rcases hr.1 with ⟨rfl, rfl, rfl⟩ | ⟨B, off, rfl, hV, hB⟩
    · simp at h3
    · go_enter Try.func23, Try.ntmps23
      go_wp2_with fail
      refine key.mono ?_
      rintro e w1 ⟨A, c, rfl, o1, k1, f1⟩
      go_wp2
      go_ret
      exact ⟨A, c, rfl, o1, k1, f1⟩
  · rw [if_neg h3] at hlen
    subst hlen
    have h3' : ¬ (3 : Int) < bs.length := by omega
    rcases hr.1 with ⟨rfl, rfl, rfl⟩ | ⟨B, off, rfl, hV, hB⟩
    · go_enter Try.func23, Try.ntmps23
      go_wp2_with fail
      refine key.mono ?_
      rintro e w1 ⟨A, c, rfl, o1, k1, f1⟩
      go_wp2
      go_ret
      exact ⟨A, c, rfl, o1, k1, f1⟩
    · go_enter Try.func23, Try.ntmps23
      go_wp2_with fail
      refine key.mono ?_
      rintro e w1 ⟨A, c, rfl, o1, k1, f1⟩
      go_wp2
      go_ret
      exact ⟨A, c, rfl, o1, k1, f1⟩

/-- Bytes that a slice holds; one of no length may lie anywhere. -/
def Bz (w : World) (a : Option Addr) (cap : Nat) (bs : List Int) : Prop := Br w a cap bs ∨ (bs = [] ∧ ∃ x, a = some x)
theorem Bz.byt {w : World} {a : Option Addr} {cap : Nat} {bs : List Int} (h : Bz w a cap bs) : ∀ c ∈ bs, 0 ≤ c ∧ c ≤ 255 := by
  rcases h with h | ⟨rfl, _⟩
  · exact h.2
  · simp

set_option maxRecDepth 100000 in
theorem copybz_c (a : Option Addr) (cap : Nat) (bs : List Int) (w : World) (hr : Bz w a cap bs) (hl : bs.length ≤ 140737488355328) :
    Calls Try.prog 26 #[.slice a bs.length cap] w fun e w' => ∃ A c, e = .returned (.slice A bs.length c) ∧ w'.ownsRow 0 5 1 (.slice A bs.length c) bs.length (bs.map (.int .u8 ·)) ∧ Kp0 w w' ∧ (∀ i, (Value.slice A bs.length c).ownBlock = some i → w.heap.size ≤ i) := by
  rcases hr with hr | ⟨rfl, x, rfl⟩
  · exact copyb_c a cap bs w hr hl
  · obtain ⟨i0, hi, hzz⟩ := Option.map_eq_some_iff.1 info5'
    simp only [Prod.mk.injEq] at hzz
    obtain ⟨hz0, hz1, hz2⟩ := hzz
    go_enter Try.func26, Try.ntmps26
    go_wp2_with (at_builtin; refine wpList_append_own_at w rfl _ _ 23 rfl 0 5 i0 (.int .u8 0) 1 1 rfl hi hz0 hz1 hz2 rfl (by decide) (.slice none 0 0) 0 [] rfl (World.ownsRow_nil _ _ _ _) x 0 cap [] rfl rfl (by simp) (by simp) (by decide) (by decide) (by simp) ?_)
    intro v3 w3 o3 k3 hn3 b3
    have hv : v3 = .slice none 0 0 := hn3
    subst hv
    have k3' : Kp0 w w3 := (Kp.refl (fun _ => False) _).trans ((Kp.refl _ _).grown (S := fun i => (Value.slice none 0 0).ownBlock = some i) k3 (fun k hk _ => hk)) (fun i _ h => by simp [Value.ownBlock] at h)
    clear hn3 b3
    go_wp2
    go_ret
    exact ⟨none, 0, rfl, World.ownsRow_nil _ _ _ _, k3', by simp [Value.ownBlock]⟩

set_option maxRecDepth 100000 in
theorem cut3z_c (a : Option Addr) (cap : Nat) (bs : List Int) (w : World) (hr : Bz w a cap bs) (hl : bs.length ≤ 140737488355328) (hc : bs.length ≤ cap) :
    Calls Try.prog 23 #[.slice a bs.length cap, .int .i64 3] w fun e w' => ∃ A c, e = .returned (.slice A (bs.take 3).length c) ∧ w'.ownsRow 0 5 1 (.slice A (bs.take 3).length c) (bs.take 3).length ((bs.take 3).map (.int .u8 ·)) ∧ Kp0 w w' ∧ (∀ i, (Value.slice A (bs.take 3).length c).ownBlock = some i → w.heap.size ≤ i) := by
  rcases hr with hr | ⟨rfl, x, rfl⟩
  · exact cut3_c a cap bs w hr hl hc
  · have key := copybz_c (some x) cap [] w (.inr ⟨rfl, x, rfl⟩) (by decide)
    go_enter Try.func23, Try.ntmps23
    go_wp2_with fail
    refine key.mono ?_
    rintro e w1 ⟨A, c, rfl, o1, k1, f1⟩
    go_wp2
    go_ret
    exact ⟨A, c, rfl, o1, k1, f1⟩
end Go.Proofs.Ytnlkkcpcjeeplaa
