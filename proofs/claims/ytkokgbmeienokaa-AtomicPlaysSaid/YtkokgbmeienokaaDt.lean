/- Package disk: disks of one file; a disk of one's own, call by call; law05.wakes. -/
import Derived.Test.YtkokgbmeienokaaDs
import Derived.Test.YtkokgbmeienokaaRh
import Derived.Test.YtkokgbmeienokaaRj
set_option linter.unusedVariables false
set_option linter.unusedSimpArgs false
namespace Go.Proofs.Ytkokgbmeienokaa
open Go.RowKit

def one (q : Nat) (p : ByteArray) (f : Fi) : Dk := { F := pt (fun _ => none) p (some f), ks := [p], quota := q, dead := false, lit := false, fuse := 0 }
theorem pt_pt {α : Type} (F : ByteArray → α) (p : ByteArray) (u v : α) : pt (pt F p u) p v = pt F p v := by
  funext q
  by_cases e : q = p
  · subst e; rw [pt_same, pt_same]
  · rw [pt_other _ _ e, pt_other _ _ e, pt_other _ _ e]
def emp : ByteArray := { data := #[] }
theorem dead_may {d : Dk} {p : ByteArray} (hd : d.dead = false) (hp : p ≠ emp) : d.may [p] = 0 := by
  unfold Dk.may
  rw [if_neg (by rw [hd]; simp), if_neg (by rw [hasE_no (by simp only [List.mem_singleton]; exact fun e => hp e.symm)]; simp)]
theorem unlit_step {d : Dk} (h : d.lit = false) : d.step = (0, d) := by unfold Dk.step; simp [h]
theorem zero_used (q : Nat) : (dk0 q).used = 0 := rfl
theorem one_len (q : Nat) (p : ByteArray) (f : Fi) : (one q p f).len p = f.b.length := by unfold Dk.len one; simp [pt_same]
theorem one_used (q : Nat) (p : ByteArray) (f : Fi) : (one q p f).used = f.b.length := by
  unfold Dk.used
  show ([p].map (one q p f).len).sum = _
  simp [one_len]
theorem one_F (q : Nat) (p : ByteArray) (f : Fi) : (one q p f).F p = some f := by
  show pt (fun _ => none) p (some f) p = some f
  rw [pt_same]
theorem one_old (q : Nat) (p : ByteArray) (f : Fi) : (one q p f).old p = f := by unfold Dk.old; rw [one_F]; rfl
theorem zero_put (q : Nat) (p : ByteArray) (f : Fi) : (dk0 q).put p f = one q p f := rfl
theorem one_put (q : Nat) (p : ByteArray) (f f' : Fi) : (one q p f).put p f' = one q p f' := by
  unfold Dk.put
  rw [one_F]
  unfold one
  rw [pt_pt]
  rfl
theorem zero_app {q : Nat} {p : ByteArray} {b : List Int} (hp : p ≠ emp) (h : b.length ≤ q) : (dk0 q).app p b = (0, one q p ⟨b, 0, false⟩) := by
  unfold Dk.app
  rw [dead_may rfl hp, zero_used, unlit_step rfl, if_neg (by simp), if_neg (by show ¬ ((q : Int) - _ < _); omega), if_neg (by simp)]
  rfl
theorem one_app {q : Nat} {p : ByteArray} {f : Fi} {b : List Int} (hp : p ≠ emp) (h : f.b.length + b.length ≤ q) : (one q p f).app p b = (0, one q p { f with b := f.b ++ b }) := by
  unfold Dk.app
  rw [dead_may rfl hp, one_used, unlit_step rfl, if_neg (by simp), if_neg (by show ¬ ((q : Int) - _ < _); omega), if_neg (by simp), one_old, one_put]
theorem one_syn {q : Nat} {p : ByteArray} {f : Fi} (hp : p ≠ emp) : (one q p f).syn p = (0, one q p ⟨f.b, f.b.length, true⟩) := by
  have : (one q p f).there p = 0 := by
    unfold Dk.there
    rw [dead_may rfl hp, if_neg (by simp), one_F]; rfl
  unfold Dk.syn
  rw [this, unlit_step rfl, if_neg (by simp), if_neg (by simp), one_old, one_put]
theorem one_crash (q : Nat) (p : ByteArray) (f : Fi) (k : Nat) : (one q p f).crash k = match crF k f with | none => dk0 q | some f' => one q p f' := by
  have hF : (fun r => ((one q p f).F r).bind (crF k)) = pt (fun _ => none) p (crF k f) := by
    funext r
    by_cases e : r = p
    · subst e; rw [pt_same, one_F]; rfl
    · rw [pt_other _ _ e]; show (pt (fun _ => none) p (some f) r).bind _ = _; rw [pt_other _ _ e]; rfl
  have hks : (one q p f).ks.filter (fun r => (((one q p f).F r).bind (crF k)).isSome) = if (crF k f).isSome = true then [p] else [] := by
    show [p].filter _ = _
    simp only [List.filter_cons, List.filter_nil, one_F]
    rfl
  unfold Dk.crash
  rw [hF, hks]
  cases crF k f with
  | none =>
    have : pt (fun _ => none) p none = (fun _ : ByteArray => (none : Option Fi)) := by
      funext r
      by_cases e : r = p
      · subst e; rw [pt_same]
      · rw [pt_other _ _ e]
    rw [this]; rfl
  | some f' => rfl
theorem zero_crash (q k : Nat) : (dk0 q).crash k = dk0 q := rfl

/-- A disk that was made behind w. -/
structure Fd (w w' : World) (g n : Nat) (O : Nat → Prop) (d : Dk) : Prop where
  at_ : DkAt w' g n O d
  new : ∀ i, O i → w.heap.size ≤ i
  kp : Kp0 w w'
theorem Fd.kp0 {w w1 w2 : World} {g n : Nat} {O : Nat → Prop} {d : Dk} (h : Fd w w1 g n O d) (k : Kp0 w1 w2) : Fd w w2 g n O d := ⟨h.at_.kp0 k, h.new, h.kp.then0 k⟩
theorem Fd.did {w w1 w2 : World} {g n m : Nat} {O : Nat → Prop} {d d2 : Dk} {e : Ending} {x : Int} (h : Fd w w1 g n O d) (D : Did w1 w2 g m O (x, d2) e) : e = .returned (.int .i64 x) ∧ ∃ O', Fd w w2 g m O' d2 := by
  obtain ⟨O', rfl, h1, h2, k⟩ := D
  refine ⟨rfl, O', h1, fun i hi => ?_, h.kp.trans k (fun i hi e => by have := h.new i e; omega)⟩
  rcases h2 i hi with h3 | h3
  · exact h.new i h3
  · exact Nat.le_trans h.kp.size h3

theorem fd_app {w w1 : World} {g n : Nat} {O : Nat → Prop} {d d2 : Dk} {p : ByteArray} {x : Int} (h : Fd w w1 g n O d) (hp : p.size ≤ 100) {A : Option Addr} {c : Nat} {bs : List Int} (hl : bs.length ≤ 1000000) (hn : n ≤ 1000000) (hb : Bz w1 A c bs) (hbO : bs ≠ [] → ∀ b, A = some b → ¬ O b.block) (he : d.app p bs = (x, d2)) :
    Calls Try.prog 20 #[.pointer (some ⟨g, 0, none⟩), .string p, .slice A bs.length c] w1 fun e w' => e = .returned (.int .i64 x) ∧ ∃ O', Fd w w' g (n + 1) O' d2 :=
  (append20_c g n O d p hp A c bs hl hn w1 h.at_ hb hbO).mono fun e w' D => h.did (he ▸ D)
theorem fd_syn {w w1 : World} {g n : Nat} {O : Nat → Prop} {d d2 : Dk} {p : ByteArray} {x : Int} (h : Fd w w1 g n O d) (hp : p.size ≤ 100) (hn : n ≤ 1000000) (he : d.syn p = (x, d2)) :
    Calls Try.prog 21 #[.pointer (some ⟨g, 0, none⟩), .string p] w1 fun e w' => e = .returned (.int .i64 x) ∧ ∃ O', Fd w w' g (n + 1) O' d2 :=
  (sync21_c g n O d p hp hn w1 h.at_).mono fun e w' D => h.did (he ▸ D)
theorem fd_crash {w w1 : World} {g n : Nat} {O : Nat → Prop} {d d2 : Dk} (h : Fd w w1 g n O d) (k : Nat) (hk : k ≤ 9223372036854775807) (hn : n ≤ 1000000) (he : d.crash k = d2) :
    Calls Try.prog 24 #[.pointer (some ⟨g, 0, none⟩), .int .i64 (k : Int)] w1 fun e w' => e = .returned (.tuple #[]) ∧ ∃ O', Fd w w' g n O' d2 ∧ Kp O w1 w' ∧ (∀ i, O' i → O i ∨ w1.heap.size ≤ i) := by
  refine (crash24_c g n O d k hk hn w1 h.at_).mono ?_
  rintro e w' ⟨rfl, O', h1, h2, kk⟩
  subst he
  refine ⟨rfl, O', ⟨h1, fun i hi => ?_, h.kp.trans kk (fun i hi e => by have := h.new i e; omega)⟩, kk, h2⟩
  rcases h2 i hi with h3 | h3
  · exact h.new i h3
  · exact Nat.le_trans h.kp.size h3
theorem fd_read {w w1 : World} {g n : Nat} {O : Nat → Prop} {d : Dk} {p : ByteArray} (h : Fd w w1 g n O d) (hp : p.size ≤ 100) (bs : List Int) (is : Bool) (hd : (d.F p = none ∧ bs = [] ∧ is = false) ∨ ∃ f, d.F p = some f ∧ bs = f.b ∧ is = true) (hl : bs.length ≤ 140737488355328) (hby : ∀ c ∈ bs, 0 ≤ c ∧ c ≤ 255) :
    Calls Try.prog 25 #[.pointer (some ⟨g, 0, none⟩), .string p] w1 fun e w' => ∃ A c, e = .returned (.tuple #[.slice A bs.length c, .bool is]) ∧ Bz w' A c bs ∧ Fd w w' g n O d ∧ Kp0 w1 w' ∧ (∀ b, A = some b → w1.heap.size ≤ b.block) := by
  refine (read25_c g n O d p hp bs is hd hl w1 h.at_).mono ?_
  rintro e w' ⟨A, c, rfl, o, k, f⟩
  refine ⟨A, c, rfl, bz_own o rfl hby, h.kp0 k, k, fun b hA => ?_⟩
  rcases own_shape o with ⟨e, _, _⟩ | ⟨r, cap, e, _⟩
  · injection e with e1; rw [hA] at e1; cases e1
  · injection e with e1
    have := f r (by rw [e1]; simp [Value.ownBlock])
    rw [hA] at e1; injection e1 with e1; subst e1
    exact this

def pa : ByteArray := { data := #[97] }
theorem pa_ne : pa ≠ emp := by intro h; have := congrArg (fun b => b.data.size) h; simp [pa, emp] at this

theorem two_bz {w : World} {B : Nat} {x y : Int} {T : TypeId} (h : Blk w B #[.int .u8 x, .int .u8 y] T) (hx : 0 ≤ x ∧ x ≤ 255) (hy : 0 ≤ y ∧ y ≤ 255) : Bz w (some ⟨B, 0, none⟩) 2 [x, y] :=
  .inl ⟨.inr ⟨B, 0, rfl, Vw.of_blk h, h.lt⟩, by simp; exact ⟨hx, hy⟩⟩

set_option maxRecDepth 100000 in
set_option maxHeartbeats 1000000 in
theorem wakes29_c (w : World) : Calls Try.prog 29 #[] w fun e w' => e = .returned (.bool true) ∧ Kp0 w w' := by
  go_enter Try.func29, Try.ntmps29
  go_wp2_with fail
  refine (new19_c 10 w).mono ?_
  rintro e w1 ⟨g, O, rfl, h1, hO, k1⟩
  have h1 : Fd w w1 g 0 O (dk0 10) := ⟨h1, hO, k1⟩
  clear k1 hO
  go_wp2_with fail
  refine (fd_read h1 (p := pa) (by decide) [] false (.inl ⟨rfl, rfl, rfl⟩) (by simp) (by simp)).mono ?_
  rintro e w2 ⟨A0, c0, rfl, _, h2, _⟩
  clear h1
  go_wp2_with fail
  have ka : Kp0 w2 (w2.alloc (.cells #[.int .u8 1, .int .u8 2] 5)) := (Kp.refl _ _).alloc _
  have hlt := h2.at_.olt
  refine (fd_app (h2.kp0 ka) (p := pa) (bs := [1, 2]) (by decide) (by simp) (by omega) (two_bz (blk_new _ _ rfl) (by omega) (by omega)) (fun _ b hb ho => ?_) (zero_app pa_ne (by simp))).mono ?_
  · injection hb with hb; subst hb; exact Nat.lt_irrefl _ (hlt _ ho)
  rintro e w3 ⟨rfl, O3, h3⟩
  clear h2 ka hlt
  go_wp2_with fail
  refine (fd_syn h3 (p := pa) (by decide) (by omega) (one_syn pa_ne)).mono ?_
  rintro e w4 ⟨rfl, O4, h4⟩
  clear h3
  go_wp2_with fail
  have ka : Kp0 w4 (w4.alloc (.cells #[.int .u8 3] 5)) := (Kp.refl _ _).alloc _
  have hlt := h4.at_.olt
  refine (fd_app (h4.kp0 ka) (p := pa) (bs := [3]) (by decide) (by simp) (by omega) (one_bz (blk_new _ _ rfl) (by omega)) (fun _ b hb ho => ?_) (one_app pa_ne (by simp))).mono ?_
  · injection hb with hb; subst hb; exact Nat.lt_irrefl _ (hlt _ ho)
  rintro e w5 ⟨rfl, O5, h5⟩
  clear h4 ka hlt
  go_wp2_with fail
  refine (fd_crash h5 0 (by omega) (by omega) ((one_crash _ _ _ _).trans (show _ = one 10 pa ⟨[1, 2], 2, true⟩ from rfl))).mono ?_
  rintro e w6 ⟨rfl, O6, h6, _⟩
  clear h5
  go_wp2_with fail
  refine (fd_read h6 (p := pa) (by decide) [1, 2] true (.inr ⟨_, one_F _ _ _, rfl, rfl⟩) (by simp) (by simp)).mono ?_
  rintro e w7 ⟨A7, c7, rfl, b7, h7, _⟩
  clear h6
  go_wp2_with fail
  have ka : Kp0 w7 (w7.alloc (.cells #[.int .u8 1, .int .u8 2] 5)) := (Kp.refl _ _).alloc _
  refine (same26_c A7 c7 (some ⟨w7.heap.size, 0, none⟩) 2 [1, 2] (by simp) _ (b7.kp0 ka) (two_bz (blk_new _ _ rfl) (by omega) (by omega))).mono ?_
  rintro e w8 ⟨rfl, k8⟩
  have h8 := (h7.kp0 ka).kp0 k8
  clear h7 ka b7 k8
  go_wp2_with fail
  refine (room36_c g _ _ _ _ h8.at_).mono ?_
  rintro e w9 ⟨rfl, k9⟩
  have K := h8.kp.then0 k9
  have hu : ((one 10 pa ⟨[1, 2], 2, true⟩).quota : Int) - ((one 10 pa ⟨[1, 2], 2, true⟩).used : Int) = 8 := by rw [one_used]; rfl
  rw [hu]
  clear h8
  go_wp2
  go_ret
  exact ⟨rfl, K⟩
end Go.Proofs.Ytkokgbmeienokaa
