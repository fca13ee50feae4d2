/- Package disk: what a dead disk answers; a disk with a fuse. -/
import Derived.Test.YtkokgbmeienokaaDw
import Derived.Test.YtkokgbmeienokaaDu
set_option linter.unusedVariables false
set_option linter.unusedSimpArgs false
namespace Go.Proofs.Ytkokgbmeienokaa
open Go.RowKit

theorem dead_7 {d : Dk} (h : d.dead = true) (ps : List ByteArray) : d.may ps = 7 := by unfold Dk.may; rw [if_pos h]
theorem dead_app {d : Dk} (h : d.dead = true) (p : ByteArray) (b : List Int) : d.app p b = (7, d) := by unfold Dk.app; rw [dead_7 h, if_pos (by simp)]
theorem dead_there {d : Dk} (h : d.dead = true) (p : ByteArray) : d.there p = 7 := by unfold Dk.there; rw [dead_7 h, if_pos (by simp)]
theorem dead_syn {d : Dk} (h : d.dead = true) (p : ByteArray) : d.syn p = (7, d) := by unfold Dk.syn; rw [dead_there h, if_pos (by simp)]
theorem dead_rem {d : Dk} (h : d.dead = true) (p : ByteArray) : d.rem p = (7, d) := by unfold Dk.rem; rw [dead_there h, if_pos (by simp)]

set_option maxRecDepth 100000 in
theorem rename32_dead (g n : Nat) (O : Nat → Prop) (d : Dk) (p q : ByteArray) (hd : d.dead = true) (w : World) (h : DkAt w g n O d) :
    Calls Try.prog 32 #[.pointer (some ⟨g, 0, none⟩), .string p, .string q] w fun e w' => e = .returned (.int .i64 7) ∧ Kp0 w w' := by
  have k1 : Kp0 w (w.alloc (.cells #[.string p, .string q] 9)) := (Kp.refl _ _).alloc _
  have hT : Ts (w.alloc (.cells #[.string p, .string q] 9)) w.heap.size [p, q] := ⟨by simp, fun j hj => by
    obtain rfl | rfl : j = 0 ∨ j = 1 := by simp at hj; omega
    · exact Blk.cell (Blk.new _ _ _) 0
    · exact Blk.cell (Blk.new _ _ _) 1⟩
  have hmay := may66_c g n O d w.heap.size 2 [p, q] (by simp) _ (h.kp0 k1) hT
  rw [dead_7 hd] at hmay
  clear hT
  go_enter Try.func32, Try.ntmps32
  go_wp2_with fail
  refine hmay.mono ?_
  rintro e w' ⟨rfl, rfl⟩
  go_wp2
  go_ret
  exact ⟨rfl, k1⟩
set_option maxRecDepth 100000 in
theorem cut33_dead (g n : Nat) (O : Nat → Prop) (d : Dk) (p : ByteArray) (hp : p.size ≤ 100) (x : Int) (hd : d.dead = true) (w : World) (h : DkAt w g n O d) :
    Calls Try.prog 33 #[.pointer (some ⟨g, 0, none⟩), .string p, .int .i64 x] w fun e w' => e = .returned (.int .i64 7) ∧ Kp0 w w' := by
  have hth := there69_c g n O d p hp w h
  rw [dead_there hd] at hth
  go_enter Try.func33, Try.ntmps33
  go_wp2_with fail
  refine hth.mono ?_
  rintro e w' ⟨rfl, k1⟩
  go_wp2
  go_ret
  exact ⟨rfl, k1⟩

def lt (d : Dk) (k : Nat) : Dk := { d with lit := true, fuse := k }
def bX (b : List Int) (i : Nat) : List Int := (List.replicate i b).flatten
theorem bX_len (b : List Int) (i : Nat) : (bX b i).length = i * b.length := by unfold bX; simp
theorem bX_succ (b : List Int) (i : Nat) : bX b (i + 1) = bX b i ++ b := by
  unfold bX
  rw [List.replicate_succ', List.flatten_append, List.flatten_cons, List.flatten_nil, List.append_nil]
def ba (b : List Int) : Nat → Dk
  | 0 => dk0 1000
  | i + 1 => one 1000 pf ⟨bX b (i + 1), 0, false⟩
theorem ba_used (b : List Int) (i : Nat) : (ba b i).used = i * b.length := by
  cases i with
  | zero => simp [ba, zero_used]
  | succ i => exact (one_used _ _ _).trans (bX_len b _)
theorem ba_dead (b : List Int) (i : Nat) : (ba b i).dead = false := by cases i <;> rfl
theorem ba_quota (b : List Int) (i : Nat) : (ba b i).quota = 1000 := by cases i <;> rfl
theorem ba_put (b : List Int) (i : Nat) : (ba b i).put pf { (ba b i).old pf with b := ((ba b i).old pf).b ++ b } = ba b (i + 1) := by
  cases i with
  | zero =>
    show one 1000 pf ⟨[] ++ b, 0, false⟩ = one 1000 pf ⟨bX b 1, 0, false⟩
    simp [bX]
  | succ i =>
    show (one 1000 pf _).put pf { (one 1000 pf _).old pf with b := ((one 1000 pf _).old pf).b ++ b } = one 1000 pf ⟨bX b (i + 1 + 1), 0, false⟩
    rw [one_old, one_put, bX_succ b (i + 1)]
theorem lt_app (b : List Int) (i k : Nat) (h : (i + 1) * b.length ≤ 1000) : (lt (ba b i) (k + 1)).app pf b = (0, lt (ba b (i + 1)) k) := by
  have h1 : (lt (ba b i) (k + 1)).may [pf] = 0 := dead_may (ba_dead b i) pf_ne
  have h2 : (lt (ba b i) (k + 1)).used = i * b.length := ba_used b i
  have h3 : (lt (ba b i) (k + 1)).quota = 1000 := ba_quota b i
  have h4 : (lt (ba b i) (k + 1)).step = (0, lt (ba b i) k) := by unfold Dk.step lt; simp
  rw [Nat.add_mul] at h
  unfold Dk.app
  rw [h1, h2, h3, h4, if_neg (by simp), if_neg (by omega), if_neg (by simp)]
  show (0, lt ((ba b i).put pf { (ba b i).old pf with b := ((ba b i).old pf).b ++ b }) k) = _
  rw [ba_put]
def dd (b : List Int) (i : Nat) : Dk := { lt (ba b i) 0 with dead := true }
theorem lt_last (b : List Int) (i : Nat) (h : (i + 1) * b.length ≤ 1000) : (lt (ba b i) 0).app pf b = (7, dd b i) := by
  have h1 : (lt (ba b i) 0).may [pf] = 0 := dead_may (ba_dead b i) pf_ne
  have h2 : (lt (ba b i) 0).used = i * b.length := ba_used b i
  have h3 : (lt (ba b i) 0).quota = 1000 := ba_quota b i
  have h4 : (lt (ba b i) 0).step = (7, dd b i) := by unfold Dk.step lt dd; simp [lt]
  rw [Nat.add_mul] at h
  unfold Dk.app
  rw [h1, h2, h3, h4, if_neg (by simp), if_neg (by omega), if_pos (by simp)]
theorem lt_none (b : List Int) (i k : Nat) : (lt (ba b i) k).app emp b = (1, lt (ba b i) k) := by
  have : (lt (ba b i) k).may [emp] = 1 := by
    unfold Dk.may
    rw [if_neg (by show ¬ (ba b i).dead = true; rw [ba_dead]; simp), if_pos (hasE_yes (by simp [emp]))]
  unfold Dk.app
  rw [this, if_pos (by simp)]
def px : ByteArray := { data := #[120] }
theorem px_ne : px ≠ emp := by intro h; have := congrArg (fun b => b.data[0]?) h; simp [px, emp] at this
theorem px_pf : px ≠ pf := by intro h; have := congrArg (fun b => b.data[0]?) h; simp [px, pf] at this
theorem lt_rem (b : List Int) (i k : Nat) : (lt (ba b i) k).rem px = (3, lt (ba b i) k) := by
  have hF : (lt (ba b i) k).F px = none := by
    cases i with
    | zero => rfl
    | succ i =>
      show pt (fun _ => none) pf (some (⟨bX b (i + 1), 0, false⟩ : Fi)) px = none
      rw [pt_other _ _ px_pf]
  have h1 : (lt (ba b i) k).may [px] = 0 := dead_may (ba_dead b i) px_ne
  have : (lt (ba b i) k).there px = 3 := by
    unfold Dk.there
    rw [h1, if_neg (by simp), hF]; rfl
  unfold Dk.rem
  rw [this, if_pos (by simp)]
theorem dd_crash (b : List Int) (i : Nat) (h : i * b.length ≤ 1000) : ∃ d6, (dd b i).crash 1000 = d6 ∧ ((d6.F pf = none ∧ bX b i = [] ∧ decide (0 < i * b.length) = false) ∨ ∃ f, d6.F pf = some f ∧ bX b i = f.b ∧ decide (0 < i * b.length) = true) ∧
    ∃ d7 d8, (b.length ≤ 8 → i * b.length ≤ 900 → d6.app pf b = (0, d7)) ∧ d7.syn pf = (0, d8) := by
  have e0 : (dd b i).crash 1000 = (ba b i).crash 1000 := by
    show ({ F := _, ks := _, quota := _, dead := _, lit := _, fuse := _ } : Dk) = _
    rfl
  have hl := bX_len b i
  have hz : i * b.length = 0 → (ba b i).crash 1000 = dk0 1000 := fun hz => by
    cases i with
    | zero => rfl
    | succ i =>
      refine (one_crash _ _ _ _).trans ?_
      have : crF 1000 ⟨bX b (i + 1), 0, false⟩ = none := by
        unfold crF kept
        rw [if_pos ⟨by show 0 + min 1000 ((bX b (i + 1)).length - 0) = 0; omega, rfl⟩]
      rw [this]
  by_cases h0 : i * b.length = 0
  · refine ⟨_, e0.trans (hz h0), .inl ⟨rfl, List.length_eq_zero_iff.1 (hl.trans h0), by simp [h0]⟩, _, _, fun h8 h9 => zero_app pf_ne (by omega), one_syn pf_ne⟩
  · obtain ⟨j, rfl⟩ : ∃ j, i = j + 1 := ⟨i - 1, by have : i ≠ 0 := fun e => h0 (by rw [e]; simp); omega⟩
    have : crF 1000 ⟨bX b (j + 1), 0, false⟩ = some ⟨bX b (j + 1), (bX b (j + 1)).length, true⟩ := by
      have hk : kept 1000 ⟨bX b (j + 1), 0, false⟩ = (bX b (j + 1)).length := by
        show 0 + min 1000 ((bX b (j + 1)).length - 0) = _
        omega
      unfold crF
      rw [hk, if_neg (by rintro ⟨e, _⟩; omega), List.take_length]
    have hc : (ba b (j + 1)).crash 1000 = one 1000 pf ⟨bX b (j + 1), (bX b (j + 1)).length, true⟩ := by
      refine (one_crash _ _ _ _).trans ?_
      rw [this]
    refine ⟨_, e0.trans hc, .inr ⟨_, one_F _ _ _, rfl, by simp; exact Nat.pos_of_ne_zero (fun e => h0 (by rw [e]; simp))⟩, _, _, fun h8 h9 => one_app pf_ne (by show (bX b (j + 1)).length + b.length ≤ 1000; omega), one_syn pf_ne⟩
end Go.Proofs.Ytkokgbmeienokaa
