/- Package disk: Append, Crash: no byte's cell is turned. -/
import Derived.Test.YtkokgbmeienokaaEa
set_option linter.unusedVariables false
set_option linter.unusedSimpArgs false
namespace Go.Proofs.Ytkokgbmeienokaa
open Go.RowKit

theorem NoBy.gm {w w' : World} {g bm n : Nat} {O : Nat → Prop} {V : ByteArray → Option Value} {d : Dk} (I : DkIn w g bm n O V d) (k : Kp (fun i => i = g ∨ i = bm) w w') : NoBy w w' O :=
  ⟨fun i => i = g ∨ i = bm, k, fun i hi => by rcases hi with rfl | rfl; exact I.og; exact I.om, fun i hi => by
    rcases hi with rfl | rfl
    · exact I.cells_g _ rfl
    · exact I.mp.cells _ rfl⟩
theorem NoBy.gm3 {w w3 w6 : World} {g bm n m : Nat} {O : Nat → Prop} {V : ByteArray → Option Value} {d d2 : Dk} (h : DkAt w g n O d) (k3 : Kp (· = g) w w3) (I : DkIn w3 g bm m O V d2) (k6 : Kp (· = bm) w3 w6) : NoBy w w6 O := by
  have hlt := h.olt bm I.om
  have hne := I.mp.ne I.cell
  obtain ⟨bm0, V0, I0⟩ := h
  refine ⟨fun i => i = g ∨ i = bm, (k3.mono (fun i _ e => .inl e)).trans k6 (fun i _ e => .inr e), fun i hi => by rcases hi with rfl | rfl; exact I.og; exact I.om, fun i hi => ?_⟩
  rcases hi with rfl | rfl
  · exact I0.cells_g _ rfl
  · intro j x hc
    refine I.mp.cells _ rfl j x ?_
    have e := k3.block i hlt hne
    simp only [World.cell?, e] at hc ⊢
    exact hc

set_option maxRecDepth 100000 in
set_option maxHeartbeats 2000000 in
theorem append20_n (g n : Nat) (O : Nat → Prop) (d : Dk) (p : ByteArray) (hp : p.size ≤ 100) (A : Option Addr) (c : Nat) (bs : List Int) (hl : bs.length ≤ 1000000) (hn : n ≤ 1000000) (w : World) (h : DkAt w g n O d) (hb : Bz w A c bs) (hbO : bs ≠ [] → ∀ b, A = some b → ¬ O b.block) :
    Calls Try.prog 20 #[.pointer (some ⟨g, 0, none⟩), .string p, .slice A bs.length c] w fun e w' => Did w w' g (n + 1) O (d.app p bs) e ∧ NoBy w w' O := by
  have k1 : Kp0 w (w.alloc (.cells #[.string p] 9)) := (Kp.refl _ _).alloc _
  have hT : Ts (w.alloc (.cells #[.string p] 9)) w.heap.size [p] := ⟨by simp, fun j hj => by
    obtain rfl : j = 0 := by simpa using hj
    exact Blk.cell (Blk.new _ _ _) 0⟩
  have hmay := may66_c g n O d w.heap.size 1 [p] (by simp) _ (h.kp0 k1) hT
  clear hT
  obtain ⟨m, hm⟩ : ∃ m, d.may [p] = m := ⟨_, rfl⟩
  have happ : d.app p bs = if m ≠ 0 then (m, d) else if (d.quota : Int) - (d.used : Int) < (bs.length : Int) then (6, d) else if d.step.1 ≠ 0 then d.step else (0, d.step.2.put p { d.old p with b := (d.old p).b ++ bs }) := by unfold Dk.app; rw [hm]
  rw [hm] at hmay
  clear hm
  by_cases hm0 : m = 0
  · subst hm0
    rw [if_neg (by simp)] at happ
    have hroom := fun W (k : Kp0 w W) => room36_c g n O d W (h.kp0 k)
    obtain ⟨R, hR⟩ : ∃ R : Int, (d.quota : Int) - (d.used : Int) = R := ⟨_, rfl⟩
    have hus : (d.used : Int) + R = (d.quota : Int) := by omega
    rw [hR] at happ
    simp only [hR] at hroom
    clear hR
    by_cases h6 : R < (bs.length : Int)
    · rw [if_pos h6] at happ
      rw [happ]
      clear happ hus hb hbO
      go_enter Try.func20, Try.ntmps20
      go_wp2_with fail
      refine hmay.mono ?_
      rintro e w' ⟨rfl, rfl⟩
      go_wp2_with fail
      refine (hroom _ k1).mono ?_
      rintro e w2 ⟨rfl, k2⟩
      go_wp2
      go_ret
      exact ⟨Did.same h (by omega) (k1.then0 k2), NoBy.none (k1.then0 k2)⟩
    · rw [if_neg h6] at happ
      have hstep := fun W (k : Kp0 w W) => step67_c g n O d W (h.kp0 k)
      obtain ⟨sF, sK, sQ⟩ := step_files d
      obtain ⟨s1, d2, hs⟩ : ∃ s1 d2, d.step = (s1, d2) := ⟨_, _, rfl⟩
      rw [hs] at happ sF sK sQ
      simp only [hs] at hstep happ sF sK sQ
      clear hs
      have hog : O g := by obtain ⟨bm, V, h⟩ := h; exact h.og
      have holt := h.olt
      have hqu : d.quota ≤ 65536 := by obtain ⟨bm, V, h⟩ := h; exact h.qu
      by_cases hs0 : s1 = 0
      · subst hs0
        rw [if_neg (by simp)] at happ
        rw [happ]
        clear happ
        go_enter Try.func20, Try.ntmps20
        go_wp2_with fail
        refine hmay.mono ?_
        rintro e w' ⟨rfl, rfl⟩
        go_wp2_with fail
        refine (hroom _ k1).mono ?_
        rintro e w2 ⟨rfl, k2⟩
        have k12 := k1.then0 k2
        go_wp2_with fail
        refine (hstep _ k12).mono ?_
        rintro e w3 ⟨rfl, h3, k3⟩
        clear hmay hroom hstep k1 k2
        obtain ⟨bm, V, I⟩ := h3
        have c0 := I.cell.cell 0
        simp at c0
        have hlk := I.mp.look hp
        have hold : d2.old p = d.old p := by unfold Dk.old; rw [sF]
        have hlen : d2.len p = d.len p := by unfold Dk.len; rw [sF]
        have huse : d2.used = d.used := by unfold Dk.used; rw [sK]; congr 1; apply List.map_congr_left; intro q _; unfold Dk.len; rw [sF]
        have hK3 : Kp O w w3 := (k12.mono (fun _ _ x => x.elim)).trans k3 (fun i _ e => by rw [e]; exact hog)
        have hbt : ∀ i, O i → i < w3.heap.size := I.lt
        have hb3 : Bz w3 A c bs := (hb.kp0 k12).kp k3 (fun hz b hA e => hbO hz b hA (by rw [e]; exact hog))
        obtain ⟨Ao, co, hv, hz⟩ : ∃ Ao co, (V p).getD zf = .agg #[.slice Ao (d2.old p).b.length co, .int .i64 ((d2.old p).sy : Int), .bool (d2.old p).firm] ∧ Bz w3 Ao co (d2.old p).b ∧ (d2.old p).sy ≤ (d2.old p).b.length := by
          unfold Dk.old
          cases hF : d2.F p with
          | none => rw [I.no p hF hp]; exact ⟨none, 0, rfl, .inl ⟨.inl ⟨rfl, rfl, rfl⟩, by simp⟩, Nat.le_refl _⟩
          | some f =>
            obtain ⟨v, e, A', c', e2, hb', l1, l2, hs', ho⟩ := I.yes p f hF
            rw [e, e2]
            exact ⟨A', c', rfl, hb', hs'⟩
        obtain ⟨hbo, hsy⟩ := hz
        rw [hv] at hlk
        have hlo : (d2.old p).b.length ≤ 65536 := by
          rw [old_len]
          have h1 := I.us
          have h2 : d2.len p ≤ d2.used := by
            by_cases hm : p ∈ d2.ks
            · have : ∀ (l : List ByteArray), p ∈ l → d2.len p ≤ (l.map d2.len).sum := by
                intro l
                induction l with
                | nil => intro h; cases h
                | cons x l ih =>
                  intro h
                  simp only [List.map_cons, List.sum_cons]
                  rcases List.mem_cons.1 h with rfl | h
                  · omega
                  · have := ih h; omega
              exact this _ hm
            · have : d2.len p = 0 := by
                unfold Dk.len
                cases hF : d2.F p with
                | none => rfl
                | some f => exact absurd ((I.ks p).2 (by rw [hF]; rfl)) hm
              omega
          have := I.qu; omega
        clear hv
        obtain ⟨ob, osy, ofm, hob⟩ : ∃ ob osy ofm, d2.old p = ⟨ob, osy, ofm⟩ := ⟨_, _, _, rfl⟩
        rw [hob] at hlk hbo hlo hsy
        simp only at hlk hbo hlo hsy
        have hol : d2.len p = ob.length := by rw [← old_len, hob]
        have hbyt : ∀ c ∈ ob ++ bs, 0 ≤ c ∧ c ≤ 255 := fun x hx => by
          rcases List.mem_append.1 hx with hx | hx
          · exact hbo.byt x hx
          · exact hb3.byt x hx
        have kA : Kp0 w3 (w3.alloc (.cells #[.slice Ao ob.length co, .int .i64 (osy : Int), .bool ofm] 90)) := (Kp.refl _ _).alloc _
        have kB := kA.alloc (.cells #[.slice Ao ob.length co, .slice A bs.length c] 22)
        have PA : Blk (w3.alloc (.cells #[.slice Ao ob.length co, .int .i64 (osy : Int), .bool ofm] 90)) w3.heap.size #[.slice Ao ob.length co, .int .i64 (osy : Int), .bool ofm] 90 := blk_new _ _ rfl
        have PB : Blk ((w3.alloc (.cells #[.slice Ao ob.length co, .int .i64 (osy : Int), .bool ofm] 90)).alloc (.cells #[.slice Ao ob.length co, .slice A bs.length c] 22)) (w3.heap.size + 1) #[.slice Ao ob.length co, .slice A bs.length c] 22 := blk_new _ _ (by simp)
        have hP : Parts ((w3.alloc (.cells #[.slice Ao ob.length co, .int .i64 (osy : Int), .bool ofm] 90)).alloc (.cells #[.slice Ao ob.length co, .slice A bs.length c] 22)) (w3.heap.size + 1) [ob, bs] := by
          intro j hj
          obtain rfl | rfl : j = 0 ∨ j = 1 := by simp at hj; omega
          · exact ⟨_, _, PB.cell 0, hbo.kp0 kB, PB.lt⟩
          · exact ⟨_, _, PB.cell 1, hb3.kp0 kB, PB.lt⟩
        have hcat := concat_c (w3.heap.size + 1) 2 [ob, bs] (by simp) (by simp; omega) _ hP
        have PA2 := PA.kp0 ((Kp.refl _ _).alloc (.cells #[.slice Ao ob.length co, .slice A bs.length c] 22))
        have hfl : [ob, bs].flatten = ob ++ bs := by simp
        rw [hfl] at hcat
        have hgN : ∀ i, O i → i ≠ w3.heap.size := fun i hi e => by have := hbt i hi; omega
        -- what follows the joining
        have hEnd : ∀ A4 c4 w4, w4.ownsRow 0 5 1 (.slice A4 (ob ++ bs).length c4) (ob ++ bs).length (u8s (ob ++ bs)) → Kp0 ((w3.alloc (.cells #[.slice Ao ob.length co, .int .i64 (osy : Int), .bool ofm] 90)).alloc (.cells #[.slice Ao ob.length co, .slice A bs.length c] 22)) w4 → (∀ i, (Value.slice A4 (ob ++ bs).length c4).ownBlock = some i → ((w3.alloc (.cells #[.slice Ao ob.length co, .int .i64 (osy : Int), .bool ofm] 90)).alloc (.cells #[.slice Ao ob.length co, .slice A bs.length c] 22)).heap.size ≤ i) →
            (w4.setCell ⟨w3.heap.size, 0, none⟩ (.slice A4 (ob ++ bs).length c4)).drew.cell? ⟨g, 0, none⟩ = some (.map (some bm)) ∧
            Blk (w4.setCell ⟨w3.heap.size, 0, none⟩ (.slice A4 (ob ++ bs).length c4)).drew w3.heap.size #[.slice A4 (ob ++ bs).length c4, .int .i64 (osy : Int), .bool ofm] 90 ∧
            ∃ w6, (Instr.mapUpdate 84 (.map (some bm)) (.string p) (.agg #[.slice A4 (ob ++ bs).length c4, .int .i64 (osy : Int), .bool ofm])).run Try.prog (w4.setCell ⟨w3.heap.size, 0, none⟩ (.slice A4 (ob ++ bs).length c4)).drew = .ok () w6 ∧ (w6.cell? ⟨g, 0, none⟩ = some (.map (some bm)) ∧ Blk w6 w3.heap.size #[.slice A4 (ob ++ bs).length c4, .int .i64 (osy : Int), .bool ofm] 90) ∧
              (Did w w6 g (n + 1) O (0, d2.put p { d.old p with b := (d.old p).b ++ bs }) (.returned (.int .i64 0)) ∧ NoBy w w6 O) := by
          intro A4 c4 w4 o4 k4 f4
          have P4 := PA2.kp0 k4
          have kN : Kp (· = w3.heap.size) w4 (w4.setCell ⟨w3.heap.size, 0, none⟩ (.slice A4 (ob ++ bs).length c4)).drew := ((Kp.self _ _).put 0 _).drew
          have k34 : Kp0 w3 w4 := kB.then0 k4
          have I5 := (I.kp k34 (fun _ _ x => x)).kp kN (fun i hi e => hgN i hi e)
          have P5 : Blk (w4.setCell ⟨w3.heap.size, 0, none⟩ (.slice A4 (ob ++ bs).length c4)).drew w3.heap.size #[.slice A4 (ob ++ bs).length c4, .int .i64 (osy : Int), .bool ofm] 90 := by
            simpa using (P4.set 0 (.slice A4 (ob ++ bs).length c4)).kp0 (Kp.refl _ _).drew
          obtain ⟨w6, hrun, m6, k6⟩ := I5.mp.put hn hp (.agg #[.slice A4 (ob ++ bs).length c4, .int .i64 (osy : Int), .bool ofm])
          refine ⟨by simpa using I5.cell.cell 0, P5, w6, hrun, ⟨by simpa using (I5.cell.kp k6 (fun e => I5.mp.ne I5.cell e.symm)).cell 0, P5.kp k6 (fun e => by have := hbt bm I.om; omega)⟩, ?_⟩
          have b4 := bz_own o4 rfl hbyt
          have hA4 : ∀ b, A4 = some b → w3.heap.size + 2 ≤ b.block := fun b hA => by
            subst hA
            rcases own_shape o4 with ⟨e, _, _⟩ | ⟨r, cap, e, _⟩
            · cases e
            · injection e with e1 _ _
              injection e1 with e1
              subst e1
              have := f4 r (by simp [Value.ownBlock])
              simpa using this
          have b5 := b4.kp kN (fun hz b hA e => by have := hA4 b hA; omega)
          have b6 := b5.kp k6 (fun hz b hA e => by have := hA4 b hA; have := hbt bm I.om; omega)
          have hsz : w4.heap.size ≤ w6.heap.size := Nat.le_trans kN.size k6.size
          have ho2 : d.old p = ⟨ob, osy, ofm⟩ := hold.symm.trans hob
          rw [ho2]
          have hcap : (ob ++ bs).length ≤ c4 ∧ c4 ≤ 9223372036854775807 := by
            rcases own_shape o4 with ⟨e, e0, _⟩ | ⟨r, cap, e, e1, e2, _⟩
            · injection e with _ _ e3
              subst e3; omega
            · injection e with _ _ e3
              subst e3; exact ⟨e1, e2⟩
          have hup := used_put d2 p ⟨ob ++ bs, osy, ofm⟩ I.nd I.ks
          rw [hol] at hup
          refine ⟨?_, NoBy.gm3 h ((k12.mono (fun _ _ x => x.elim)).trans k3 (fun i _ e => e)) I (((k34.mono (fun _ _ x => x.elim)).trans kN (fun i hi e => by omega)).trans k6 (fun i _ e => e))⟩
          refine ⟨fun i => O i ∨ (Value.slice A4 (ob ++ bs).length c4).ownBlock = some i, rfl, ⟨bm, _, I5.put hp m6 k6 ⟨A4, c4, rfl, b6, ?_, ?_, ?_, ?_⟩ (fun i hi => .inl hi) ?_ ?_⟩, ?_, ?_⟩
          · exact hcap.1
          · exact hcap.2
          · simp; omega
          · rintro _ b rfl; exact .inr rfl
          · rintro i (hi | hi)
            · exact Nat.lt_of_lt_of_le (hbt i hi) (Nat.le_trans k34.size hsz)
            · rcases own_shape o4 with ⟨e, _, _⟩ | ⟨r, cap, e, _, _, hr, _⟩
              · rw [e] at hi; simp [Value.ownBlock] at hi
              · rw [e] at hi; simp [Value.ownBlock] at hi
                omega
          · have : (ob ++ bs).length = ob.length + bs.length := List.length_append
            simp only at hup
            rw [this] at hup
            have hq2 : d2.quota = d.quota := sQ
            show (d2.put p ⟨ob ++ bs, osy, ofm⟩).used ≤ d2.quota
            omega
          · rintro i (hi | hi)
            · exact .inl hi
            · have := f4 i hi
              simp at this
              have := hK3.size
              exact .inr (by omega)
          · have hK3s := hK3.size
            exact ((hK3.trans k34 (fun _ _ x => x.elim)).trans kN (fun i hi e => by omega)).trans k6 (fun i _ e => by rw [e]; exact I.om)
        have HE := Lib.hid hEnd
        have HO := Lib.hid hog
        clear hEnd hog
        have hlt3 := I.cell.lt
        clear hb hbO hb3 hbo hbyt hP PB hsy I hbt holt hgN h hqu hus huse hlen hold hK3 hob hol sF sK sQ k12 k3 kA kB h6
        go_wp2_with fail
        refine hcat.mono ?_
        rintro e w4 ⟨A4, c4, rfl, o4, k4, f4⟩
        obtain ⟨g0, P5, w6, hrun, ⟨g6, P6⟩, hdid⟩ := HE.out A4 c4 w4 o4 k4 f4
        clear hcat HE hfl
        generalize (ob ++ bs).length = m4 at *
        have P4 := PA2.kp0 k4
        have f0 := P4.free 0
        have p0 := P4.cell 0
        simp at p0
        have hS : (w4.setCell ⟨w3.heap.size, 0, none⟩ (.slice A4 m4 c4)).drew.cell? ⟨g, 0, none⟩ = some (.map (some bm)) ∧ (w4.setCell ⟨w3.heap.size, 0, none⟩ (.slice A4 m4 c4)).drew.cell? ⟨w3.heap.size, 0, none⟩ = some (.slice A4 m4 c4) ∧ (w4.setCell ⟨w3.heap.size, 0, none⟩ (.slice A4 m4 c4)).drew.cell? ⟨w3.heap.size, 1, none⟩ = some (.int .i64 (osy : Int)) ∧ (w4.setCell ⟨w3.heap.size, 0, none⟩ (.slice A4 m4 c4)).drew.cell? ⟨w3.heap.size, 2, none⟩ = some (.bool ofm) := ⟨g0, P5.cell 0, P5.cell 1, P5.cell 2⟩
        have HD := Lib.hid hdid
        have hS6 : w6.cell? ⟨g, 0, none⟩ = some (.map (some bm)) ∧ w6.cell? ⟨w3.heap.size, 0, none⟩ = some (.slice A4 m4 c4) ∧ w6.cell? ⟨w3.heap.size, 1, none⟩ = some (.int .i64 (osy : Int)) ∧ w6.cell? ⟨w3.heap.size, 2, none⟩ = some (.bool ofm) := ⟨g6, P6.cell 0, P6.cell 1, P6.cell 2⟩
        clear hdid o4 k4 f4 PA PA2 P4 P5 hlk g0 g6 P6
        go_wp2_with fail
        go_region_held3 (fun W => W.cell? ⟨g, 0, none⟩ = some (.map (some bm)) ∧ W.cell? ⟨w3.heap.size, 0, none⟩ = some (.slice A4 m4 c4) ∧ W.cell? ⟨w3.heap.size, 1, none⟩ = some (.int .i64 (osy : Int)) ∧ W.cell? ⟨w3.heap.size, 2, none⟩ = some (.bool ofm)) (first | exact hS | exact hS6) (fail)
        go_wp2
        go_ret
        exact HD.out
      · rw [if_pos hs0] at happ
        rw [happ]
        have hs' : (s1 != 0) = true := by rw [bne_iff_ne]; exact hs0
        clear happ hs0 hb hbO
        go_enter Try.func20, Try.ntmps20
        go_wp2_with fail
        refine hmay.mono ?_
        rintro e w' ⟨rfl, rfl⟩
        go_wp2_with fail
        refine (hroom _ k1).mono ?_
        rintro e w2 ⟨rfl, k2⟩
        go_wp2_with fail
        refine (hstep _ (k1.then0 k2)).mono ?_
        rintro e w3 ⟨rfl, h3, k3⟩
        clear hmay hroom hstep
        go_wp2
        go_ret
        obtain ⟨bm, V, I⟩ := h3
        exact ⟨⟨O, rfl, ⟨bm, V, { I with mp := I.mp.mono (by omega) }⟩, fun i hi => .inl hi, ((k1.then0 k2).mono (fun _ _ x => x.elim)).trans k3 (fun i _ e => by rw [e]; exact hog)⟩, NoBy.step h (k1.then0 k2) k3⟩
  · rw [if_pos hm0] at happ
    rw [happ]
    have hm' : (m != 0) = true := by rw [bne_iff_ne]; exact hm0
    clear happ hm0 hb hbO
    go_enter Try.func20, Try.ntmps20
    go_wp2_with fail
    refine hmay.mono ?_
    rintro e w' ⟨rfl, rfl⟩
    go_wp2
    go_ret
    exact ⟨Did.same h (by omega) k1, NoBy.none k1⟩
set_option maxRecDepth 100000 in
set_option maxHeartbeats 2000000 in
theorem crash24_n (g n : Nat) (O : Nat → Prop) (d : Dk) (k : Nat) (hk : k ≤ 9223372036854775807) (hn : n ≤ 1000000) (w : World) (h : DkAt w g n O d) :
    Calls Try.prog 24 #[.pointer (some ⟨g, 0, none⟩), .int .i64 (k : Int)] w fun e w' => e = .returned (.tuple #[]) ∧ (∃ O', DkAt w' g n O' (d.crash k) ∧ (∀ i, O' i → O i ∨ w.heap.size ≤ i) ∧ Kp O w w') ∧ NoBy w w' O := by
  obtain ⟨bm, V0, h⟩ := h
  have c0 := h.cell.cell 0
  simp at c0
  have hus : d.used ≤ 65536 := Nat.le_trans h.us h.qu
  have hgl := h.cell.lt
  go_enter Try.func24, Try.ntmps24
  go_wp2_with (refine list_range rfl (.tmp 10) rfl rfl h.mp ?_)
  intro w1 cnt R1 K1 hs1 hcn
  have hst := CrI.start (k := k) h R1 K1
  go_wp2_with fail
  go_loopw [6] (fun s wx => ∃ (O' : Nat → Prop) (V : ByteArray → Option Value) (left : ByteArray → Bool) (cnt : Nat), CrI w wx g bm w.heap.size n O O' V d k left cnt ∧ Kp (· = bm) w wx) (fun _ wx => wx.rangeLeft bm w.heap.size)
  case atStart => exact ⟨_, _, _, _, hst, K1.mono (fun _ _ x => x.elim)⟩
  case round =>
    obtain ⟨O', V, left, cnt, I, KB⟩ := hrel
    have HC := Lib.hid I.mp.left_eq
    have cc := I.cell.cell 0
    simp at cc
    go_wp2_with (at_next; refine list_next rfl _ rfl rfl I.mp ?_ ?_)
    · intro hc0 hno
      have c2 := I.cell.cell 2
      have c3 := I.cell.cell 3
      have c4 := I.cell.cell 4
      have f2 := I.cell.free 2
      have f3 := I.cell.free 3
      have f4 := I.cell.free 4
      simp at c2 c3 c4
      have B := ((I.cell.set 2 (.bool false)).set 3 (.bool false)).set 4 (.int .i64 0)
      have K := ((((Kp.self g wr).put 2 (.bool false)).put 3 (.bool false)).put 4 (.int .i64 0))
      have hfin := I.done h hno K (by simpa using B)
      have hnb := NoBy.gm h ((KB.mono (S' := fun i => i = g ∨ i = bm) (fun _ _ e => .inr e)).trans K (fun i _ e => .inl e))
      clear I B K hno h R1 hst c0 KB
      go_wp2
      go_end0
      exact ⟨rfl, ⟨O', hfin⟩, hnb⟩
    · intro p v w2 cnt2 hp hl hF R2 hlt hk2 hen
      have hfp := I.fits p hp
      rw [if_pos hl] at hfp
      obtain ⟨f, hf⟩ : ∃ f, d.F p = some f := by
        cases hF2 : d.F p with
        | none => rw [hfp.1 hF2] at hF; cases hF
        | some f => exact ⟨f, rfl⟩
      obtain ⟨v', e1, hfv⟩ := hfp.2 f hf
      rw [hF] at e1
      injection e1 with e1
      subst e1
      obtain ⟨A, c, rfl, hb, l1, l2, hsy, ho⟩ := hfv
      have hlen : f.b.length ≤ 65536 := by
        have := len_le_used d p h.ks
        unfold Dk.len at this
        rw [hf] at this
        exact Nat.le_trans this hus
      obtain ⟨fb, fs, ff⟩ := f
      simp only at hb l1 hsy ho hlen hF hen
      go_upto_region 3 with fail
      have Ka : Kp0 w2 (w2.alloc (.cells #[.slice A fb.length c, .int .i64 (fs : Int), .bool ff] 90)) := (Kp.refl _ _).alloc _
      have KB3 := (KB.trans hk2 (fun i hi e => by omega)).then0 Ka
      have B3 : Blk (w2.alloc (.cells #[.slice A fb.length c, .int .i64 (fs : Int), .bool ff] 90)) w2.heap.size #[.slice A fb.length c, .int .i64 (fs : Int), .bool ff] 90 := blk_new _ _ rfl
      have R3 := R2.kp0 Ka
      have hb3 := (hb.kp hk2 (fun hz b hA e => by
        obtain ⟨B, off, eA, _, hc⟩ := hb.cell 0 (List.length_pos_iff.2 hz)
        rw [eA] at hA; injection hA with hA; subst hA
        exact I.mp.cells_r _ e _ _ hc)).kp0 Ka
      have cg3 := ((I.cell.kp hk2 (fun e => by omega)).kp0 Ka)
      obtain ⟨M, hM⟩ : ∃ M, kept k ⟨fb, fs, ff⟩ = M := ⟨_, rfl⟩
      have hMe : M = fs + min k (fb.length - fs) := by rw [← hM]; rfl
      have q0 := B3.cell 0
      have q1 := B3.cell 1
      have q2 := B3.cell 2
      simp only [List.getElem?_toArray, List.getElem?_cons_zero, List.getElem?_cons_succ] at q0 q1 q2
      generalize hw3 : w2.alloc (.cells #[.slice A fb.length c, .int .i64 (fs : Int), .bool ff] 90) = w3 at *
      go_cut [6] from 17 to 28 (fun s wx => s = .int .i64 (M : Nat) ∧ w3 = wx)
      case first =>
        clear hM hb hb3 R3 cg3 B3 Ka hk2 R2 I hfp hf h hst R1 ho hF hen
        generalize fb.length = L at *
        have hw1 : IntKind.i64.wrap ((L : Int) - (fs : Int)) = (L : Int) - fs := by rw [IntKind.wrap_i64]; omega
        have HM := Lib.hid hMe
        clear hMe
        go_wp2_with fail
        all_goals
          go_meet
          have := HM.out
          refine ⟨congrArg (Value.int .i64) ?_, rfl⟩
          first | omega | (rw [IntKind.wrap_i64]; omega) | (trace_state; omega)
      case rest =>
        obtain ⟨rfl, rfl⟩ := hcut
        have hcr : (d.F p).bind (crF k) = if M = 0 ∧ ff = false then none else some ⟨fb.take M, M, true⟩ := by
          rw [hf]
          show crF k ⟨fb, fs, ff⟩ = _
          unfold crF
          rw [hM]
        have cg0 := cg3.cell 0
        simp only [List.getElem?_toArray, List.getElem?_cons_zero] at cg0
        have hMl : M ≤ fb.length := by omega
        have hgL := hgl
        have hHS : w.heap.size ≤ w.heap.size := Nat.le_refl _
        by_cases hdel : M = 0 ∧ ff = false
        · obtain ⟨rfl, rfl⟩ := hdel
          rw [if_pos ⟨rfl, rfl⟩] at hcr
          have hfin := fun w6 cnt3 (R6 : MapR w6 bm w.heap.size n (pt V p none) (pt (pt left p false) p false) cnt3) (k6 : Kp (· = bm) w3 w6) => I.del hHS hgL h.om hk2 Ka R3 R6 k6 hcr
          have HF := Lib.hid hfin
          clear hfin hcr hM hMe hMl hb hb3 cg3 B3 I hfp hf h hst R1 ho hF hen R2 hk2 Ka c0 cc
          go_wp2_with (at_delete; refine list_delm rfl (.tmp 39) (.tmp 40) rfl rfl rfl R3 hp ?_)
          intro w6 cnt3 R6 hle k6
          have I6 := HF.out w6 cnt3 R6 k6
          have KB6 := KB3.trans k6 (fun i _ e => e)
          have HL := Lib.hid R6.left_eq
          clear HF
          go_wp2
          go_roundw
          case rel => exact ⟨_, _, _, _, I6, KB6⟩
          case measure => rw [HL.out, HC.out]; omega
        · rw [if_neg hdel] at hcr
          obtain ⟨A1, c1, hsl, hb1, m1, m2⟩ := run_cuthi hb3 l1 l2 M hMl
          have htk : (fb.take M).length = M := by rw [List.length_take]; omega
          have hcl : ∀ W, Kp0 w3 W → Calls Try.prog 71 #[.slice A1 M c1] W fun e w' => ∃ A c, e = .returned (.slice A M c) ∧ w'.ownsRow 0 5 1 (.slice A M c) M (u8s (fb.take M)) ∧ Kp0 w3 w' ∧ (∀ i, (Value.slice A M c).ownBlock = some i → w3.heap.size ≤ i) := fun W kW => by
            have := clone_c A1 c1 (fb.take M) W (hb1.kp0 kW) (by rw [htk]; omega)
            unfold Fr at this
            rw [htk] at this
            exact this.mono (by rintro e w' ⟨A, c, e1, e2, e3, e4⟩; exact ⟨A, c, e1, e2, kW.then0 e3, fun i hi => Nat.le_trans kW.size (e4 i hi)⟩)
          have hwh : ∀ W, Kp0 w3 W → ∀ A c, Calls Try.prog 70 #[.slice A M c] W fun e w' => e = .returned (.agg #[.slice A M c, .int .i64 (M : Int), .bool true]) ∧ Kp0 w3 w' ∧ Kp0 W w' := fun W kW A c => (whole70_c A M c W).mono (by rintro e w' ⟨rfl, k'⟩; exact ⟨rfl, kW.then0 k', k'⟩)
          have hS : ∀ W, Kp0 w3 W → W.cell? ⟨g, 0, none⟩ = some (.map (some bm)) ∧ W.cell? ⟨w2.heap.size, 0, none⟩ = some (.slice A fb.length c) := fun W kW => ⟨by simpa using (cg3.kp0 kW).cell 0, by simpa using (B3.kp0 kW).cell 0⟩
          have hw2 : w.heap.size ≤ w2.heap.size := Nat.le_trans I.kp.size hk2.size
          have hbl : bm < w.heap.size := h.lt bm h.om
          have hbg : bm ≠ g := h.mp.ne h.cell
          have hw23 : w2.heap.size < w3.heap.size := B3.lt
          have hEnd : ∀ A2 c2 wA wB, wA.ownsRow 0 5 1 (.slice A2 M c2) M (u8s (fb.take M)) → Kp0 w3 wA → (∀ i, (Value.slice A2 M c2).ownBlock = some i → w3.heap.size ≤ i) → Kp0 wA wB →
              ∃ w6, (Instr.mapUpdate 84 (.map (some bm)) (.string p) (.agg #[.slice A2 M c2, .int .i64 (M : Int), .bool true])).run Try.prog wB = .ok () w6 ∧ (w6.cell? ⟨g, 0, none⟩ = some (.map (some bm)) ∧ w6.cell? ⟨w2.heap.size, 0, none⟩ = some (.slice A fb.length c)) ∧
                ∃ O2 V2, CrI w w6 g bm w.heap.size n O O2 V2 d k (pt left p false) cnt2 ∧ Kp (· = bm) w w6 := by
            intro A2 c2 wA wB o2 kA f2 kB
            have k3B := kA.then0 kB
            obtain ⟨w6, hrun, R6, k6⟩ := (R3.kp0 k3B).put_old hn hp (by rw [hF]; rfl) (.agg #[.slice A2 M c2, .int .i64 (M : Int), .bool true])
            have o2' : wA.ownsRow 0 5 1 (.slice A2 M c2) (fb.take M).length (u8s (fb.take M)) := by rw [htk]; exact o2
            have b2 := bz_own o2' htk.symm (fun x hx => hb.byt x (List.mem_of_mem_take hx))
            have hA2 : ∀ b, A2 = some b → w3.heap.size ≤ b.block ∧ b.block < wA.heap.size := fun b hA => by
              subst hA
              rcases own_shape o2 with ⟨e, _, _⟩ | ⟨r, cap, e, _, _, hr, _⟩
              · cases e
              · injection e with e1 _ _
                injection e1 with e1
                subst e1
                exact ⟨f2 r (by simp [Value.ownBlock]), hr⟩
            have hcap : M ≤ c2 ∧ c2 ≤ 9223372036854775807 := by
              rcases own_shape o2 with ⟨e, e0, _⟩ | ⟨r, cap, e, e1, e2, _⟩
              · injection e with _ _ e3
                subst e3; omega
              · injection e with _ _ e3
                subst e3; exact ⟨e1, e2⟩
            have b6 := (b2.kp0 kB).kp k6 (fun hz b hA e => by have := (hA2 b hA).1; omega)
            have hz6 : wA.heap.size ≤ w6.heap.size := Nat.le_trans kB.size k6.size
            refine ⟨w6, hrun, ⟨by simpa using ((cg3.kp0 k3B).kp k6 (fun e => hbg e.symm)).cell 0, by simpa using ((B3.kp0 k3B).kp k6 (fun e => by omega)).cell 0⟩,
              fun i => O' i ∨ (Value.slice A2 M c2).ownBlock = some i, _, I.put hHS hgL h.om hk2 (Ka.then0 k3B) (R3.kp0 k3B) R6 k6 hcr ⟨A2, c2, by rw [htk], b6, by rw [htk]; exact hcap.1, hcap.2, by simp [htk], ?_⟩ (fun i hi => .inl hi) ?_ ?_, (KB3.then0 k3B).trans k6 (fun i _ e => e)⟩
            · rintro _ b rfl; exact .inr rfl
            · rintro i (hi | hi)
              · exact .inl hi
              · have := f2 i hi
                exact .inr (by omega)
            · rintro i (hi | hi)
              · exact Nat.lt_of_lt_of_le (I.lt i hi) (Nat.le_trans hk2.size (Nat.le_trans Ka.size (Nat.le_trans k3B.size k6.size)))
              · rcases own_shape o2 with ⟨e, _, _⟩ | ⟨r, cap, e, _, _, hr, _⟩
                · rw [e] at hi; simp [Value.ownBlock] at hi
                · rw [e] at hi; simp [Value.ownBlock] at hi
                  omega
          have HE := Lib.hid hEnd
          have K0 : Kp0 w3 w3.drew := (Kp.refl _ _).drew
          have hM0 : 0 ≤ (M : Int) := by omega
          have hMc : (M : Int) ≤ (c : Int) := by omega
          clear hEnd hcr hM hMe hb hb1 hb3 cg3 B3 I hfp hf h hst R1 R3 ho hF hen R2 hk2 Ka c0 cc htk
          go_upto_region 4 with fail
          go_cut [35] from 29 to 35 (fun s wx => s = .bool false ∧ w3 = wx)
          case first =>
            clear hS hcl hwh hsl HE
            by_cases hz : M = 0
            · subst hz
              have hff : ff = true := by
                cases ff with
                | true => rfl
                | false => exact absurd ⟨rfl, rfl⟩ hdel
              subst hff
              go_wp2_with fail
              go_meet
              exact ⟨rfl, rfl⟩
            · have hz' : ((M : Int) == 0) = false := by rw [beq_eq_false_iff_ne]; omega
              go_wp2_with fail
              go_meet
              exact ⟨rfl, rfl⟩
          case rest =>
            obtain ⟨rfl, rfl⟩ := hcut
            go_wp2_with fail
            go_region_held3 (fun W => W.cell? ⟨g, 0, none⟩ = some (.map (some bm)) ∧ W.cell? ⟨w2.heap.size, 0, none⟩ = some (.slice A fb.length c)) (first | exact hS _ K0 | exact hS _ KA | exact hS _ KB | exact hS6) (first | (go_at_call 71; go_fit (hcl _ K0); rintro e wA ⟨A2, c2, rfl, o2, KA, f2⟩) | (go_at_call 70; go_fit (hwh _ KA A2 c2); rintro e wB ⟨rfl, KB, kab⟩; obtain ⟨w6, hrun, hS6, O2, V2, I6, KB6⟩ := HE.out A2 c2 wA wB o2 KA f2 kab))
            have HL := Lib.hid I6.mp.left_eq
            go_wp2
            go_roundw
            case rel => exact ⟨_, _, _, _, I6, KB6⟩
            case measure => rw [HL.out, HC.out]; exact hlt
end Go.Proofs.Ytkokgbmeienokaa
