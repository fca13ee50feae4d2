/- Package disk: Append. -/
import Derived.Test.YtkokgbmeienokaaDn
set_option linter.unusedVariables false
set_option linter.unusedSimpArgs false
namespace Go.Proofs.Ytkokgbmeienokaa
open Go.RowKit

def Dk.put (d : Dk) (p : ByteArray) (f : Fi) : Dk := { d with F := pt d.F p (some f), ks := if (d.F p).isSome = true then d.ks else p :: d.ks }
theorem put_len_same (d : Dk) (p : ByteArray) (f : Fi) : (d.put p f).len p = f.b.length := by unfold Dk.len Dk.put; simp [pt_same]
theorem put_len_other (d : Dk) {p q : ByteArray} (f : Fi) (h : q ≠ p) : (d.put p f).len q = d.len q := by unfold Dk.len Dk.put; simp [pt_other _ _ h]
theorem sum_swap (l : List ByteArray) (f g : ByteArray → Nat) (q : ByteArray) (hn : l.Nodup) (hq : q ∈ l) (h : ∀ p, p ≠ q → f p = g p) : (l.map f).sum + g q = (l.map g).sum + f q := by
  induction l with
  | nil => cases hq
  | cons x l ih =>
    rw [List.nodup_cons] at hn
    simp only [List.map_cons, List.sum_cons]
    by_cases hx : x = q
    · subst hx
      have e : l.map f = l.map g := List.map_congr_left (fun p hp => h p (fun (e : p = x) => hn.1 (e ▸ hp)))
      rw [e]; omega
    · have := ih hn.2 (by rcases List.mem_cons.1 hq with h | h; exact absurd h.symm hx; exact h)
      rw [h x hx]; omega
theorem used_put (d : Dk) (p : ByteArray) (f : Fi) (hn : d.ks.Nodup) (hk : ∀ p, p ∈ d.ks ↔ (d.F p).isSome = true) : (d.put p f).used + d.len p = d.used + f.b.length := by
  by_cases hp : (d.F p).isSome = true
  · have hks : (d.put p f).ks = d.ks := by unfold Dk.put; simp [hp]
    have := sum_swap d.ks (d.put p f).len d.len p hn ((hk p).2 hp) (fun q hq => put_len_other d f hq)
    rw [put_len_same] at this
    unfold Dk.used
    rw [hks]; exact this
  · have hks : (d.put p f).ks = p :: d.ks := by unfold Dk.put; simp [hp]
    have hnm : p ∉ d.ks := fun h => hp ((hk p).1 h)
    have e : d.ks.map (d.put p f).len = d.ks.map d.len := List.map_congr_left (fun q hq => put_len_other d f (fun (e : q = p) => hnm (e ▸ hq)))
    have hz : d.len p = 0 := by
      unfold Dk.len
      cases hF : d.F p with
      | none => rfl
      | some f => rw [hF] at hp; exact absurd rfl hp
    unfold Dk.used
    rw [hks, List.map_cons, List.sum_cons, e, put_len_same, hz]; omega

theorem FileV.mono {w : World} {O O' : Nat → Prop} {v : Value} {f : Fi} (h : FileV w O v f) (hO : ∀ i, O i → O' i) : FileV w O' v f := by
  obtain ⟨A, c, e, hb, l1, l2, hs, ho⟩ := h
  exact ⟨A, c, e, hb, l1, l2, hs, fun hz b hA => hO _ (ho hz b hA)⟩

theorem DkIn.put {w w' : World} {g bm n : Nat} {O O' : Nat → Prop} {V : ByteArray → Option Value} {d : Dk} {p : ByteArray} {v : Value} {f : Fi} (h : DkIn w g bm n O V d) (hp : p.size ≤ 100)
    (hm : MapD w' bm (n + 1) (pt V p (some v))) (k : Kp (· = bm) w w') (hv : FileV w' O' v f) (hO : ∀ i, O i → O' i) (hO' : ∀ i, O' i → i < w'.heap.size) (hus : (d.put p f).used ≤ d.quota) :
    DkIn w' g bm (n + 1) O' (pt V p (some v)) (d.put p f) := by
  have hF : ∀ q, (d.put p f).F q = pt d.F p (some f) q := fun q => rfl
  refine ⟨h.cell.kp k (fun e => h.mp.ne h.cell e.symm), hm, fun q hq hs => ?_, fun q f' hq => ?_, ?_, fun q => ?_, fun q hq => ?_, hus, h.qu, h.fu, hO _ h.og, hO _ h.om, hO'⟩
  · rw [hF] at hq
    by_cases e : q = p
    · subst e; rw [pt_same] at hq; cases hq
    · rw [pt_other _ _ e] at hq ⊢; exact h.no q hq hs
  · rw [hF] at hq
    by_cases e : q = p
    · subst e; rw [pt_same] at hq ⊢; injection hq with hq; subst hq; exact ⟨v, rfl, hv⟩
    · rw [pt_other _ _ e] at hq ⊢
      obtain ⟨u, e2, hu⟩ := h.yes q f' hq
      exact ⟨u, e2, (hu.kp' k h.mp.cells).mono hO⟩
  · unfold Dk.put
    by_cases hs : (d.F p).isSome = true
    · rw [if_pos hs]; exact h.nd
    · rw [if_neg hs]; exact List.nodup_cons.2 ⟨fun hm => hs ((h.ks p).1 hm), h.nd⟩
  · rw [hF]
    unfold Dk.put
    by_cases hs : (d.F p).isSome = true
    · rw [if_pos hs]
      by_cases e : q = p
      · subst e; rw [pt_same]; exact ⟨fun _ => rfl, fun _ => (h.ks q).2 hs⟩
      · rw [pt_other _ _ e]; exact h.ks q
    · rw [if_neg hs]
      by_cases e : q = p
      · subst e; rw [pt_same]; exact ⟨fun _ => rfl, fun _ => List.mem_cons_self⟩
      · rw [pt_other _ _ e]
        simp only [List.mem_cons, e, false_or]
        exact h.ks q
  · rw [hF] at hq
    by_cases e : q = p
    · subst e; exact hp
    · rw [pt_other _ _ e] at hq; exact h.sz q hq

def Dk.old (d : Dk) (p : ByteArray) : Fi := (d.F p).getD ⟨[], 0, false⟩
theorem old_len (d : Dk) (p : ByteArray) : (d.old p).b.length = d.len p := by unfold Dk.old Dk.len; cases d.F p <;> rfl
noncomputable def Dk.app (d : Dk) (p : ByteArray) (b : List Int) : Int × Dk :=
  if d.may [p] ≠ 0 then (d.may [p], d) else if (d.quota : Int) - (d.used : Int) < (b.length : Int) then (6, d) else if d.step.1 ≠ 0 then d.step else (0, d.step.2.put p { d.old p with b := (d.old p).b ++ b })

theorem step_files (d : Dk) : d.step.2.F = d.F ∧ d.step.2.ks = d.ks ∧ d.step.2.quota = d.quota := by unfold Dk.step; split <;> (try split) <;> exact ⟨rfl, rfl, rfl⟩

def Did (w w' : World) (g n : Nat) (O : Nat → Prop) (r : Int × Dk) (e : Ending) : Prop :=
  ∃ O', e = .returned (.int .i64 r.1) ∧ DkAt w' g n O' r.2 ∧ (∀ i, O' i → O i ∨ w.heap.size ≤ i) ∧ Kp O w w'
theorem Did.same {w w' : World} {g n m : Nat} {O : Nat → Prop} {d : Dk} {x : Int} (h : DkAt w g n O d) (hm : n ≤ m) (k : Kp0 w w') : Did w w' g m O (x, d) (.returned (.int .i64 x)) := by
  obtain ⟨bm, V, h⟩ := h.kp0 k
  exact ⟨O, rfl, ⟨bm, V, { h with mp := h.mp.mono hm }⟩, fun i hi => .inl hi, k.mono (fun _ _ x => x.elim)⟩

set_option maxRecDepth 100000 in
set_option maxHeartbeats 2000000 in
theorem append20_c (g n : Nat) (O : Nat → Prop) (d : Dk) (p : ByteArray) (hp : p.size ≤ 100) (A : Option Addr) (c : Nat) (bs : List Int) (hl : bs.length ≤ 1000000) (hn : n ≤ 1000000) (w : World) (h : DkAt w g n O d) (hb : Bz w A c bs) (hbO : bs ≠ [] → ∀ b, A = some b → ¬ O b.block) :
    Calls Try.prog 20 #[.pointer (some ⟨g, 0, none⟩), .string p, .slice A bs.length c] w fun e w' => Did w w' g (n + 1) O (d.app p bs) e := by
  have k1 : Kp0 w (w.alloc (.cells #[.string p] 9)) := (Kp.refl _ _).alloc _
  have hT : Ts (w.alloc (.cells #[.string p] 9)) w.heap.size [p] := ⟨by simp, fun j hj => by
    obtain rfl : j = 0 := by simpa using hj
    exact Blk.cell (Blk.new _ _ _) 0⟩
  have hmay := may66_c g n O d w.heap.size 1 [p] (by simp) _ (h.kp0 k1) hT
  clear hT
  obtain ⟨m, hm⟩ : ∃ m, d.may [p] = m := ⟨_, rfl⟩
  have happ : d.app p bs = if m ≠ 0 then (m, d) else if (d.quota : Int) - (d.used : Int) < (bs.length : Int) then (6, d) else if d.step.1 ≠ 0 then d.step else (0, d.step.2.put p { d.old p with b := (d.old p).b ++ bs }) := by unfold Dk.app; rw [hm]
  rw [hm] at hmay
  clear hm
  by_cases hm0 : m = 0
  · subst hm0
    rw [if_neg (by simp)] at happ
    have hroom := fun W (k : Kp0 w W) => room36_c g n O d W (h.kp0 k)
    obtain ⟨R, hR⟩ : ∃ R : Int, (d.quota : Int) - (d.used : Int) = R := ⟨_, rfl⟩
    have hus : (d.used : Int) + R = (d.quota : Int) := by omega
    rw [hR] at happ
    simp only [hR] at hroom
    clear hR
    by_cases h6 : R < (bs.length : Int)
    · rw [if_pos h6] at happ
      rw [happ]
      clear happ hus hb hbO
      go_enter Try.func20, Try.ntmps20
      go_wp2_with fail
      refine hmay.mono ?_
      rintro e w' ⟨rfl, rfl⟩
      go_wp2_with fail
      refine (hroom _ k1).mono ?_
      rintro e w2 ⟨rfl, k2⟩
      go_wp2
      go_ret
      exact Did.same h (by omega) (k1.then0 k2)
    · rw [if_neg h6] at happ
      have hstep := fun W (k : Kp0 w W) => step67_c g n O d W (h.kp0 k)
      obtain ⟨sF, sK, sQ⟩ := step_files d
      obtain ⟨s1, d2, hs⟩ : ∃ s1 d2, d.step = (s1, d2) := ⟨_, _, rfl⟩
      rw [hs] at happ sF sK sQ
      simp only [hs] at hstep happ sF sK sQ
      clear hs
      have hog : O g := by obtain ⟨bm, V, h⟩ := h; exact h.og
      have holt := h.olt
      have hqu : d.quota ≤ 65536 := by obtain ⟨bm, V, h⟩ := h; exact h.qu
      by_cases hs0 : s1 = 0
      · subst hs0
        rw [if_neg (by simp)] at happ
        rw [happ]
        clear happ
        go_enter Try.func20, Try.ntmps20
        go_wp2_with fail
        refine hmay.mono ?_
        rintro e w' ⟨rfl, rfl⟩
        go_wp2_with fail
        refine (hroom _ k1).mono ?_
        rintro e w2 ⟨rfl, k2⟩
        have k12 := k1.then0 k2
        go_wp2_with fail
        refine (hstep _ k12).mono ?_
        rintro e w3 ⟨rfl, h3, k3⟩
        clear hmay hroom hstep k1 k2
        obtain ⟨bm, V, I⟩ := h3
        have c0 := I.cell.cell 0
        simp at c0
        have hlk := I.mp.look hp
        have hold : d2.old p = d.old p := by unfold Dk.old; rw [sF]
        have hlen : d2.len p = d.len p := by unfold Dk.len; rw [sF]
        have huse : d2.used = d.used := by unfold Dk.used; rw [sK]; congr 1; apply List.map_congr_left; intro q _; unfold Dk.len; rw [sF]
        have hK3 : Kp O w w3 := (k12.mono (fun _ _ x => x.elim)).trans k3 (fun i _ e => by rw [e]; exact hog)
        have hbt : ∀ i, O i → i < w3.heap.size := I.lt
        have hb3 : Bz w3 A c bs := (hb.kp0 k12).kp k3 (fun hz b hA e => hbO hz b hA (by rw [e]; exact hog))
        obtain ⟨Ao, co, hv, hz⟩ : ∃ Ao co, (V p).getD zf = .agg #[.slice Ao (d2.old p).b.length co, .int .i64 ((d2.old p).sy : Int), .bool (d2.old p).firm] ∧ Bz w3 Ao co (d2.old p).b ∧ (d2.old p).sy ≤ (d2.old p).b.length := by
          unfold Dk.old
          cases hF : d2.F p with
          | none => rw [I.no p hF hp]; exact ⟨none, 0, rfl, .inl ⟨.inl ⟨rfl, rfl, rfl⟩, by simp⟩, Nat.le_refl _⟩
          | some f =>
            obtain ⟨v, e, A', c', e2, hb', l1, l2, hs', ho⟩ := I.yes p f hF
            rw [e, e2]
            exact ⟨A', c', rfl, hb', hs'⟩
        obtain ⟨hbo, hsy⟩ := hz
        rw [hv] at hlk
        have hlo : (d2.old p).b.length ≤ 65536 := by
          rw [old_len]
          have h1 := I.us
          have h2 : d2.len p ≤ d2.used := by
            by_cases hm : p ∈ d2.ks
            · have : ∀ (l : List ByteArray), p ∈ l → d2.len p ≤ (l.map d2.len).sum := by
                intro l
                induction l with
                | nil => intro h; cases h
                | cons x l ih =>
                  intro h
                  simp only [List.map_cons, List.sum_cons]
                  rcases List.mem_cons.1 h with rfl | h
                  · omega
                  · have := ih h; omega
              exact this _ hm
            · have : d2.len p = 0 := by
                unfold Dk.len
                cases hF : d2.F p with
                | none => rfl
                | some f => exact absurd ((I.ks p).2 (by rw [hF]; rfl)) hm
              omega
          have := I.qu; omega
        clear hv
        obtain ⟨ob, osy, ofm, hob⟩ : ∃ ob osy ofm, d2.old p = ⟨ob, osy, ofm⟩ := ⟨_, _, _, rfl⟩
        rw [hob] at hlk hbo hlo hsy
        simp only at hlk hbo hlo hsy
        have hol : d2.len p = ob.length := by rw [← old_len, hob]
        have hbyt : ∀ c ∈ ob ++ bs, 0 ≤ c ∧ c ≤ 255 := fun x hx => by
          rcases List.mem_append.1 hx with hx | hx
          · exact hbo.byt x hx
          · exact hb3.byt x hx
        have kA : Kp0 w3 (w3.alloc (.cells #[.slice Ao ob.length co, .int .i64 (osy : Int), .bool ofm] 90)) := (Kp.refl _ _).alloc _
        have kB := kA.alloc (.cells #[.slice Ao ob.length co, .slice A bs.length c] 22)
        have PA : Blk (w3.alloc (.cells #[.slice Ao ob.length co, .int .i64 (osy : Int), .bool ofm] 90)) w3.heap.size #[.slice Ao ob.length co, .int .i64 (osy : Int), .bool ofm] 90 := blk_new _ _ rfl
        have PB : Blk ((w3.alloc (.cells #[.slice Ao ob.length co, .int .i64 (osy : Int), .bool ofm] 90)).alloc (.cells #[.slice Ao ob.length co, .slice A bs.length c] 22)) (w3.heap.size + 1) #[.slice Ao ob.length co, .slice A bs.length c] 22 := blk_new _ _ (by simp)
        have hP : Parts ((w3.alloc (.cells #[.slice Ao ob.length co, .int .i64 (osy : Int), .bool ofm] 90)).alloc (.cells #[.slice Ao ob.length co, .slice A bs.length c] 22)) (w3.heap.size + 1) [ob, bs] := by
          intro j hj
          obtain rfl | rfl : j = 0 ∨ j = 1 := by simp at hj; omega
          · exact ⟨_, _, PB.cell 0, hbo.kp0 kB, PB.lt⟩
          · exact ⟨_, _, PB.cell 1, hb3.kp0 kB, PB.lt⟩
        have hcat := concat_c (w3.heap.size + 1) 2 [ob, bs] (by simp) (by simp; omega) _ hP
        have PA2 := PA.kp0 ((Kp.refl _ _).alloc (.cells #[.slice Ao ob.length co, .slice A bs.length c] 22))
        have hfl : [ob, bs].flatten = ob ++ bs := by simp
        rw [hfl] at hcat
        have hgN : ∀ i, O i → i ≠ w3.heap.size := fun i hi e => by have := hbt i hi; omega
        -- what follows the joining
        have hEnd : ∀ A4 c4 w4, w4.ownsRow 0 5 1 (.slice A4 (ob ++ bs).length c4) (ob ++ bs).length (u8s (ob ++ bs)) → Kp0 ((w3.alloc (.cells #[.slice Ao ob.length co, .int .i64 (osy : Int), .bool ofm] 90)).alloc (.cells #[.slice Ao ob.length co, .slice A bs.length c] 22)) w4 → (∀ i, (Value.slice A4 (ob ++ bs).length c4).ownBlock = some i → ((w3.alloc (.cells #[.slice Ao ob.length co, .int .i64 (osy : Int), .bool ofm] 90)).alloc (.cells #[.slice Ao ob.length co, .slice A bs.length c] 22)).heap.size ≤ i) →
            (w4.setCell ⟨w3.heap.size, 0, none⟩ (.slice A4 (ob ++ bs).length c4)).drew.cell? ⟨g, 0, none⟩ = some (.map (some bm)) ∧
            Blk (w4.setCell ⟨w3.heap.size, 0, none⟩ (.slice A4 (ob ++ bs).length c4)).drew w3.heap.size #[.slice A4 (ob ++ bs).length c4, .int .i64 (osy : Int), .bool ofm] 90 ∧
            ∃ w6, (Instr.mapUpdate 84 (.map (some bm)) (.string p) (.agg #[.slice A4 (ob ++ bs).length c4, .int .i64 (osy : Int), .bool ofm])).run Try.prog (w4.setCell ⟨w3.heap.size, 0, none⟩ (.slice A4 (ob ++ bs).length c4)).drew = .ok () w6 ∧ (w6.cell? ⟨g, 0, none⟩ = some (.map (some bm)) ∧ Blk w6 w3.heap.size #[.slice A4 (ob ++ bs).length c4, .int .i64 (osy : Int), .bool ofm] 90) ∧
              Did w w6 g (n + 1) O (0, d2.put p { d.old p with b := (d.old p).b ++ bs }) (.returned (.int .i64 0)) := by
          intro A4 c4 w4 o4 k4 f4
          have P4 := PA2.kp0 k4
          have kN : Kp (· = w3.heap.size) w4 (w4.setCell ⟨w3.heap.size, 0, none⟩ (.slice A4 (ob ++ bs).length c4)).drew := ((Kp.self _ _).put 0 _).drew
          have k34 : Kp0 w3 w4 := kB.then0 k4
          have I5 := (I.kp k34 (fun _ _ x => x)).kp kN (fun i hi e => hgN i hi e)
          have P5 : Blk (w4.setCell ⟨w3.heap.size, 0, none⟩ (.slice A4 (ob ++ bs).length c4)).drew w3.heap.size #[.slice A4 (ob ++ bs).length c4, .int .i64 (osy : Int), .bool ofm] 90 := by
            simpa using (P4.set 0 (.slice A4 (ob ++ bs).length c4)).kp0 (Kp.refl _ _).drew
          obtain ⟨w6, hrun, m6, k6⟩ := I5.mp.put hn hp (.agg #[.slice A4 (ob ++ bs).length c4, .int .i64 (osy : Int), .bool ofm])
          refine ⟨by simpa using I5.cell.cell 0, P5, w6, hrun, ⟨by simpa using (I5.cell.kp k6 (fun e => I5.mp.ne I5.cell e.symm)).cell 0, P5.kp k6 (fun e => by have := hbt bm I.om; omega)⟩, ?_⟩
          have b4 := bz_own o4 rfl hbyt
          have hA4 : ∀ b, A4 = some b → w3.heap.size + 2 ≤ b.block := fun b hA => by
            subst hA
            rcases own_shape o4 with ⟨e, _, _⟩ | ⟨r, cap, e, _⟩
            · cases e
            · injection e with e1 _ _
              injection e1 with e1
              subst e1
              have := f4 r (by simp [Value.ownBlock])
              simpa using this
          have b5 := b4.kp kN (fun hz b hA e => by have := hA4 b hA; omega)
          have b6 := b5.kp k6 (fun hz b hA e => by have := hA4 b hA; have := hbt bm I.om; omega)
          have hsz : w4.heap.size ≤ w6.heap.size := Nat.le_trans kN.size k6.size
          have ho2 : d.old p = ⟨ob, osy, ofm⟩ := hold.symm.trans hob
          rw [ho2]
          have hcap : (ob ++ bs).length ≤ c4 ∧ c4 ≤ 9223372036854775807 := by
            rcases own_shape o4 with ⟨e, e0, _⟩ | ⟨r, cap, e, e1, e2, _⟩
            · injection e with _ _ e3
              subst e3; omega
            · injection e with _ _ e3
              subst e3; exact ⟨e1, e2⟩
          have hup := used_put d2 p ⟨ob ++ bs, osy, ofm⟩ I.nd I.ks
          rw [hol] at hup
          refine ⟨fun i => O i ∨ (Value.slice A4 (ob ++ bs).length c4).ownBlock = some i, rfl, ⟨bm, _, I5.put hp m6 k6 ⟨A4, c4, rfl, b6, ?_, ?_, ?_, ?_⟩ (fun i hi => .inl hi) ?_ ?_⟩, ?_, ?_⟩
          · exact hcap.1
          · exact hcap.2
          · simp; omega
          · rintro _ b rfl; exact .inr rfl
          · rintro i (hi | hi)
            · exact Nat.lt_of_lt_of_le (hbt i hi) (Nat.le_trans k34.size hsz)
            · rcases own_shape o4 with ⟨e, _, _⟩ | ⟨r, cap, e, _, _, hr, _⟩
              · rw [e] at hi; simp [Value.ownBlock] at hi
              · rw [e] at hi; simp [Value.ownBlock] at hi
                omega
          · have : (ob ++ bs).length = ob.length + bs.length := List.length_append
            simp only at hup
            rw [this] at hup
            have hq2 : d2.quota = d.quota := sQ
            show (d2.put p ⟨ob ++ bs, osy, ofm⟩).used ≤ d2.quota
            omega
          · rintro i (hi | hi)
            · exact .inl hi
            · have := f4 i hi
              simp at this
              have := hK3.size
              exact .inr (by omega)
          · have hK3s := hK3.size
            exact ((hK3.trans k34 (fun _ _ x => x.elim)).trans kN (fun i hi e => by omega)).trans k6 (fun i _ e => by rw [e]; exact I.om)
        have HE := Lib.hid hEnd
        have HO := Lib.hid hog
        clear hEnd hog
        have hlt3 := I.cell.lt
        clear hb hbO hb3 hbo hbyt hP PB hsy I hbt holt hgN h hqu hus huse hlen hold hK3 hob hol sF sK sQ k12 k3 kA kB h6
        go_wp2_with fail
        refine hcat.mono ?_
        rintro e w4 ⟨A4, c4, rfl, o4, k4, f4⟩
        obtain ⟨g0, P5, w6, hrun, ⟨g6, P6⟩, hdid⟩ := HE.out A4 c4 w4 o4 k4 f4
        clear hcat HE hfl
        generalize (ob ++ bs).length = m4 at *
        have P4 := PA2.kp0 k4
        have f0 := P4.free 0
        have p0 := P4.cell 0
        simp at p0
        have hS : (w4.setCell ⟨w3.heap.size, 0, none⟩ (.slice A4 m4 c4)).drew.cell? ⟨g, 0, none⟩ = some (.map (some bm)) ∧ (w4.setCell ⟨w3.heap.size, 0, none⟩ (.slice A4 m4 c4)).drew.cell? ⟨w3.heap.size, 0, none⟩ = some (.slice A4 m4 c4) ∧ (w4.setCell ⟨w3.heap.size, 0, none⟩ (.slice A4 m4 c4)).drew.cell? ⟨w3.heap.size, 1, none⟩ = some (.int .i64 (osy : Int)) ∧ (w4.setCell ⟨w3.heap.size, 0, none⟩ (.slice A4 m4 c4)).drew.cell? ⟨w3.heap.size, 2, none⟩ = some (.bool ofm) := ⟨g0, P5.cell 0, P5.cell 1, P5.cell 2⟩
        have HD := Lib.hid hdid
        have hS6 : w6.cell? ⟨g, 0, none⟩ = some (.map (some bm)) ∧ w6.cell? ⟨w3.heap.size, 0, none⟩ = some (.slice A4 m4 c4) ∧ w6.cell? ⟨w3.heap.size, 1, none⟩ = some (.int .i64 (osy : Int)) ∧ w6.cell? ⟨w3.heap.size, 2, none⟩ = some (.bool ofm) := ⟨g6, P6.cell 0, P6.cell 1, P6.cell 2⟩
        clear hdid o4 k4 f4 PA PA2 P4 P5 hlk g0 g6 P6
        go_wp2_with fail
        go_region_held3 (fun W => W.cell? ⟨g, 0, none⟩ = some (.map (some bm)) ∧ W.cell? ⟨w3.heap.size, 0, none⟩ = some (.slice A4 m4 c4) ∧ W.cell? ⟨w3.heap.size, 1, none⟩ = some (.int .i64 (osy : Int)) ∧ W.cell? ⟨w3.heap.size, 2, none⟩ = some (.bool ofm)) (first | exact hS | exact hS6) (fail)
        go_wp2
        go_ret
        exact HD.out
      · rw [if_pos hs0] at happ
        rw [happ]
        have hs' : (s1 != 0) = true := by rw [bne_iff_ne]; exact hs0
        clear happ hs0 hb hbO
        go_enter Try.func20, Try.ntmps20
        go_wp2_with fail
        refine hmay.mono ?_
        rintro e w' ⟨rfl, rfl⟩
        go_wp2_with fail
        refine (hroom _ k1).mono ?_
        rintro e w2 ⟨rfl, k2⟩
        go_wp2_with fail
        refine (hstep _ (k1.then0 k2)).mono ?_
        rintro e w3 ⟨rfl, h3, k3⟩
        clear hmay hroom hstep
        go_wp2
        go_ret
        obtain ⟨bm, V, I⟩ := h3
        exact ⟨O, rfl, ⟨bm, V, { I with mp := I.mp.mono (by omega) }⟩, fun i hi => .inl hi, ((k1.then0 k2).mono (fun _ _ x => x.elim)).trans k3 (fun i _ e => by rw [e]; exact hog)⟩
  · rw [if_pos hm0] at happ
    rw [happ]
    have hm' : (m != 0) = true := by rw [bne_iff_ne]; exact hm0
    clear happ hm0 hb hbO
    go_enter Try.func20, Try.ntmps20
    go_wp2_with fail
    refine hmay.mono ?_
    rintro e w' ⟨rfl, rfl⟩
    go_wp2
    go_ret
    exact Did.same h (by omega) k1
end Go.Proofs.Ytkokgbmeienokaa
