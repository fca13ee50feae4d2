/- Package disk: how many bytes there are. -/
import Derived.Test.YtkokgbmeienokaaDl
set_option linter.unusedVariables false
set_option linter.unusedSimpArgs false
namespace Go.Proofs.Ytkokgbmeienokaa
open Go.RowKit

theorem list_range {w : World} {ops : Array Oper} {rest : List Oper} {o : Oper} {a : Act} {Q : Exit → Act → World → Prop} (hg : o.guard = none) (m : Operand) (hop : o.op = Op.range 84 m) {b n : Nat} {F : ByteArray → Option Value}
    (hm : a.eval m = .map (some b)) (h : MapD w b n F)
    (hK : ∀ w' cnt, MapR w' b w.heap.size n F (fun p => (F p).isSome) cnt → Kp0 w w' → w'.heap.size = w.heap.size + 1 → cnt ≤ n → wpList Try.prog ops Q rest (a.put o.dst (.pointer (some ⟨w.heap.size, 0, none⟩))) w') :
    wpList Try.prog ops Q (o :: rest) a w := by
  refine wpList_plain hg fun K' hK' => ?_
  obtain ⟨w', cnt, hrun, r1, r2, r3, r4⟩ := h.range
  unfold Oper.wp
  simp [execOp, hop, hm, hrun, Result.andThen]
  exact hK' _ _ (hK w' cnt r1 r2 r3 r4)

theorem list_next {w : World} {ops : Array Oper} {rest : List Oper} {o : Oper} {a : Act} {Q : Exit → Act → World → Prop} (hg : o.guard = none) (it : Operand) (hop : o.op = Op.next it false) {b r n cnt : Nat} {F : ByteArray → Option Value} {left : ByteArray → Bool}
    (hit : a.eval it = .pointer (some ⟨r, 0, none⟩)) (h : MapR w b r n F left cnt)
    (hDone : cnt = 0 → (∀ p, p.size ≤ 100 → left p = false) → wpList Try.prog ops Q rest (a.put o.dst (.tuple #[.bool false])) w)
    (hMore : ∀ p v w' cnt', p.size ≤ 100 → left p = true → F p = some v → MapR w' b r n F (pt left p false) cnt' → cnt' < cnt → Kp (· = r) w w' → (Instr.entry (.pointer (some ⟨r, 0, none⟩))).run Try.prog w' = .ok (.tuple #[.string p, v]) w' → wpList Try.prog ops Q rest (a.put o.dst (.tuple #[.bool true, .string p, v])) w') :
    wpList Try.prog ops Q (o :: rest) a w := by
  refine wpList_plain hg fun K' hK' => ?_
  unfold Oper.wp
  rcases h.next o.type with ⟨h0, hl, hrun⟩ | ⟨p, v, w', cnt', hp, hl, hF, hrun, hR, hlt, hk, hen⟩
  · simp [execOp, hop, hit, hrun, Result.andThen]
    exact hK' _ _ (hDone h0 hl)
  · simp [execOp, hop, hit, hrun, Result.andThen]
    exact hK' _ _ (hMore p v w' cnt' hp hl hF hR hlt hk hen)

theorem MapR.left_eq {w : World} {b r n cnt : Nat} {F : ByteArray → Option Value} {left : ByteArray → Bool} (h : MapR w b r n F left cnt) : w.rangeLeft b r = cnt := by
  obtain ⟨D, lf, h, _⟩ := h
  exact h.left_eq
theorem MapR.kp0 {w w' : World} {b r n cnt : Nat} {F : ByteArray → Option Value} {left : ByteArray → Bool} (h : MapR w b r n F left cnt) (k : Kp0 w w') : MapR w' b r n F left cnt := h.kp k (fun x => x) (fun x => x)

def Dk.sum (d : Dk) (left : ByteArray → Bool) : Nat := (d.ks.map (fun p => if left p = true then 0 else d.len p)).sum
theorem sum_none (l : List ByteArray) (f : ByteArray → Nat) (left : ByteArray → Bool) (h : ∀ p ∈ l, left p = true) : (l.map (fun p => if left p = true then 0 else f p)).sum = 0 := by
  induction l with
  | nil => rfl
  | cons x l ih => simp [h x (by simp), ih (fun p hp => h p (by simp [hp]))]
theorem sum_all (l : List ByteArray) (f : ByteArray → Nat) (left : ByteArray → Bool) (h : ∀ p ∈ l, left p = false) : (l.map (fun p => if left p = true then 0 else f p)).sum = (l.map f).sum := by
  congr 1
  apply List.map_congr_left
  intro p hp
  simp [h p hp]
theorem sum_le (l : List ByteArray) (f : ByteArray → Nat) (left : ByteArray → Bool) : (l.map (fun p => if left p = true then 0 else f p)).sum ≤ (l.map f).sum := by
  induction l with
  | nil => simp
  | cons x l ih => simp only [List.map_cons, List.sum_cons]; split <;> omega
theorem sum_step (l : List ByteArray) (f : ByteArray → Nat) (left : ByteArray → Bool) (q : ByteArray) (hn : l.Nodup) (hq : q ∈ l) (hl : left q = true) :
    (l.map (fun p => if pt left q false p = true then 0 else f p)).sum = (l.map (fun p => if left p = true then 0 else f p)).sum + f q := by
  induction l with
  | nil => cases hq
  | cons x l ih =>
    rw [List.nodup_cons] at hn
    simp only [List.map_cons, List.sum_cons]
    by_cases hx : x = q
    · subst hx
      have e : (l.map (fun p => if pt left x false p = true then 0 else f p)) = l.map (fun p => if left p = true then 0 else f p) := by
        apply List.map_congr_left
        intro p hp
        rw [pt_other _ _ (fun (h : p = x) => hn.1 (h ▸ hp))]
      rw [e, pt_same, hl]
      simp
      omega
    · have := ih hn.2 (by rcases List.mem_cons.1 hq with h | h; exact absurd h.symm hx; exact h)
      rw [this, pt_other _ _ hx]
      omega

set_option maxRecDepth 100000 in
set_option maxHeartbeats 1000000 in
theorem used27_c (g n : Nat) (O : Nat → Prop) (d : Dk) (w : World) (h : DkAt w g n O d) :
    Calls Try.prog 27 #[.pointer (some ⟨g, 0, none⟩)] w fun e w' => e = .returned (.int .i64 (d.used : Nat)) ∧ Kp0 w w' := by
  obtain ⟨bm, V, h⟩ := h
  have c0 := h.cell.cell 0
  simp at c0
  have hus : d.used ≤ 65536 := Nat.le_trans h.us h.qu
  have hV : ∀ p, p.size ≤ 100 → (V p).isSome = (d.F p).isSome := by
    intro p hp
    cases hF : d.F p with
    | none => rw [h.no p hF hp]; rfl
    | some f => obtain ⟨v, e, _⟩ := h.yes p f hF; rw [e]; rfl
  go_enter Try.func27, Try.ntmps27
  go_wp2_with (refine list_range rfl (.tmp 9) rfl rfl h.mp ?_)
  intro w1 cnt R1 K1 hs1 hcn
  have h0 : d.sum (fun p => (V p).isSome) = 0 := sum_none _ _ _ (fun p hp => by rw [hV p (h.sz p ((h.ks p).1 hp))]; exact (h.ks p).1 hp)
  go_wp2_with fail
  go_loopw [3] (fun s wx => ∃ (left : ByteArray → Bool) (cnt : Nat), s = .int .i64 (d.sum left : Nat) ∧ MapR wx bm w.heap.size n V left cnt ∧ Kp0 w wx) (fun _ wx => wx.rangeLeft bm w.heap.size)
  case atStart => exact ⟨_, cnt, by rw [h0]; rfl, R1, K1⟩
  case round =>
    obtain ⟨left, cnt, rfl, R, K⟩ := hrel
    have hle := sum_le d.ks d.len left
    have hle' : d.sum left ≤ 65536 := Nat.le_trans hle hus
    have HC := Lib.hid R.left_eq
    go_wp2_with (at_next; refine list_next rfl _ rfl rfl R ?_ ?_)
    · intro hc0 hno
      have he : d.sum left = d.used := sum_all _ _ _ (fun p hp => hno p (h.sz p ((h.ks p).1 hp)))
      have HE := Lib.hid he
      clear he R c0
      go_wp2
      go_ret
      exact ⟨by rw [HE.out]; rfl, K⟩
    · intro p v w2 cnt2 hp hl hF R2 hlt hk hen
      have hpk : p ∈ d.ks := by
        refine (h.ks p).2 ?_
        rw [← hV p hp, hF]; rfl
      obtain ⟨f, hf⟩ := Option.isSome_iff_exists.1 ((h.ks p).1 hpk)
      obtain ⟨v', e1, A, c, e2, _⟩ := h.yes p f hf
      rw [hF] at e1
      injection e1 with e1
      subst e1; subst e2
      have hst : d.sum (pt left p false) = d.sum left + f.b.length := by
        have := sum_step d.ks d.len left p h.nd hpk hl
        have e : d.len p = f.b.length := by unfold Dk.len; rw [hf]
        rw [e] at this
        exact this
      have hle2 : d.sum left + f.b.length ≤ 65536 := by
        have := sum_le d.ks d.len (pt left p false)
        rw [← hst]
        exact Nat.le_trans this hus
      have K2 : Kp0 w w2 := K.trans hk (fun i hi e => by omega)
      have HST := Lib.hid hst
      generalize f.b.length = m at *
      generalize hN : d.sum left = N at *
      have R3 := R2.kp0 ((Kp.refl _ w2).alloc (.cells #[.slice A m c, .int .i64 (f.sy : Int), .bool f.firm] 90))
      have K3 : Kp0 w (w2.alloc (.cells #[.slice A m c, .int .i64 (f.sy : Int), .bool f.firm] 90)) := K2.alloc _
      have HL3 := Lib.hid R3.left_eq
      clear hst R R2 hk K K2 c0 hN hle
      go_wp2
      go_roundw
      case rel => exact ⟨pt left p false, cnt2, by rw [HST.out]; go_num, R3, K3⟩
      case measure => rw [HL3.out, HC.out]; exact hlt

set_option maxRecDepth 100000 in
theorem room36_c (g n : Nat) (O : Nat → Prop) (d : Dk) (w : World) (h : DkAt w g n O d) :
    Calls Try.prog 36 #[.pointer (some ⟨g, 0, none⟩)] w fun e w' => e = .returned (.int .i64 ((d.quota : Int) - (d.used : Int))) ∧ Kp0 w w' := by
  have h0 := h
  obtain ⟨bm, V, h⟩ := h
  have hus := h.us
  have hqu := h.qu
  have cU : ∀ W, Kp0 w W → Calls Try.prog 27 #[.pointer (some ⟨g, 0, none⟩)] W fun e w' => e = .returned (.int .i64 (d.used : Nat)) ∧ Kp0 w w' := fun W k => (used27_c g n O d W (h0.kp0 k)).mono (by rintro e w' ⟨rfl, k'⟩; exact ⟨rfl, k.then0 k'⟩)
  have hS : ∀ W, Kp0 w W → W.cell? ⟨g, 1, none⟩ = some (.int .i64 (d.quota : Int)) := fun W k => (h.cell.kp0 k).cell 1
  have K0 : Kp0 w w.drew := (Kp.refl _ _).drew
  clear h h0
  generalize d.used = u at *
  generalize d.quota = q at *
  go_enter Try.func36, Try.ntmps36
  go_wp2_with fail
  go_region_held3 (fun W => W.cell? ⟨g, 1, none⟩ = some (.int .i64 (q : Int))) (first | exact hS _ K0 | exact hS _ KA) (first | (go_at_call 27; go_fit (cU _ K0); rintro e wA ⟨rfl, KA⟩))
  go_wp2
  go_ret
  exact ⟨ret_int (by rw [IntKind.wrap_i64]; omega), KA⟩

set_option maxRecDepth 100000 in
theorem whole70_c (A : Option Addr) (m c : Nat) (w : World) :
    Calls Try.prog 70 #[.slice A m c] w fun e w' => e = .returned (.agg #[.slice A m c, .int .i64 (m : Int), .bool true]) ∧ Kp0 w w' := by
  go_enter Try.func70, Try.ntmps70
  go_wp2
  exact bodyPost_ret (v := .agg #[.slice A m c, .int .i64 (m : Int), .bool true]) (by simp [results, Try.results70, go_sem]) rfl ⟨rfl, (Kp.refl _ _).alloc _⟩

set_option maxRecDepth 100000 in
theorem read25_c (g n : Nat) (O : Nat → Prop) (d : Dk) (p : ByteArray) (hp : p.size ≤ 100) (bs : List Int) (is : Bool) (hd : (d.F p = none ∧ bs = [] ∧ is = false) ∨ ∃ f, d.F p = some f ∧ bs = f.b ∧ is = true) (hl : bs.length ≤ 140737488355328) (w : World) (h : DkAt w g n O d) :
    Calls Try.prog 25 #[.pointer (some ⟨g, 0, none⟩), .string p] w fun e w' => ∃ A c, e = .returned (.tuple #[.slice A bs.length c, .bool is]) ∧
      w'.ownsRow 0 5 1 (.slice A bs.length c) bs.length (u8s bs) ∧ Kp0 w w' ∧ (∀ i, (Value.slice A bs.length c).ownBlock = some i → w.heap.size ≤ i) := by
  obtain ⟨bm, V, h⟩ := h
  have c0 := h.cell.cell 0
  simp at c0
  have hlk := h.mp.look_ok hp
  obtain ⟨A, c, s, f, hv, hz⟩ : ∃ A c s f, (V p).getD zf = .agg #[.slice A bs.length c, .int .i64 s, .bool f] ∧ Bz w A c bs ∧ (V p).isSome = is := by
    rcases hd with ⟨hF, rfl, rfl⟩ | ⟨f, hF, rfl, rfl⟩
    · rw [h.no p hF hp]; exact ⟨none, 0, 0, false, rfl, .inl ⟨.inl ⟨rfl, rfl, rfl⟩, by simp⟩, rfl⟩
    · obtain ⟨v, e, A, c, e2, hb, _⟩ := h.yes p f hF
      rw [e, e2]; exact ⟨A, c, _, _, rfl, hb, rfl⟩
  obtain ⟨hb, his⟩ := hz
  rw [hv, his] at hlk
  have k1 : Kp0 w (w.alloc (.cells #[.slice A bs.length c, .int .i64 s, .bool f] 90)) := (Kp.refl _ _).alloc _
  have hcl := clone_c A c bs _ (hb.kp0 k1) hl
  clear h hd his hv hb
  generalize hm : bs.length = m at *
  have HM := Lib.hid hm
  clear hm
  go_enter Try.func25, Try.ntmps25
  go_wp2_with fail
  refine hcl.mono ?_
  rintro e w1 ⟨A1, c1, rfl, o1, K1, f1⟩
  rw [HM.out] at o1 f1 ⊢
  go_wp2
  go_ret2
  exact ⟨A1, c1, rfl, o1, k1.then0 K1, fun i hi => by have := f1 i hi; simp at this; omega⟩
end Go.Proofs.Ytkokgbmeienokaa
