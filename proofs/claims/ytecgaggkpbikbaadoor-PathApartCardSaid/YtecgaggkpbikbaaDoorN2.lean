/- Maps of strings as functions: looked up, written. -/
import Derived.Test.YtecgaggkpbikbaaDoorN1
import Derived.Maps.Own
import Derived.Maps.OwnSet
import Derived.Maps.Views
set_option linter.unusedVariables false
set_option linter.unusedSimpArgs false
set_option maxRecDepth 100000
namespace Go.Proofs.YtecgaggkpbikbaaDoor
open Go.RowKit
open Go.Maps (Keyed)
open Go.ChangeMaps (setBlock)

/-- A value, held as it is. -/
def RV (v : Value) : Option (DataW Value × List MemPlace) := some (.held v, [])
theorem str_law : Keyed Tryd.prog 9 := Maps.string_keyed Tryd.underlying9
def klp (p : ByteArray) : Lit := .string p.data.toList
theorem klp_inj {p q : ByteArray} (h : klp p = klp q) : p = q := by
  unfold klp at h
  injection h with h
  cases p; cases q
  simp at h
  subst h; rfl
theorem key_str (p : ByteArray) (h : p.size ≤ 100) : keyOf Tryd.prog 9 (.string p) = some (klp p)   := Go.WideMaps.keyOf_string_mk Tryd.underlying9 (by unfold maxLen; omega)

/-- Block b is a map of at most n entries: F's. -/
def MapD (w : World) (b n : Nat) (F : ByteArray → Option Value) : Prop :=
  ∃ D, w.ownsMap Tryd.prog 9 RV b n D ∧ (∀ p, p.size ≤ 100 → Maps.has D (klp p) = (F p).isSome) ∧ (∀ p v, p.size ≤ 100 → F p = some v → ∀ z, D.atKey (klp p) z = .held v) ∧ (∀ kl, Maps.has D kl = true → ∃ p, p.size ≤ 100 ∧ kl = klp p)

theorem MapD.lt {w : World} {b n : Nat} {F : ByteArray → Option Value} (h : MapD w b n F) : b < w.heap.size := by
  obtain ⟨D, h, _⟩ := h
  exact h.lt
theorem MapD.made (w : World) : MapD (w.alloc (.map #[] 0)) w.heap.size 0 (fun _ => none) :=
  ⟨_, World.ownsMap_made w Tryd.prog 9 RV, fun _ _ => rfl, fun p v _ (h : none = some v) => (by cases h), fun kl (h : false = true) => (by cases h)⟩
theorem MapD.mono {w : World} {b n m : Nat} {F : ByteArray → Option Value} (h : MapD w b n F) (hm : n ≤ m) : MapD w b m F := by
  obtain ⟨D, h, g⟩ := h
  exact ⟨D, h.mono hm, g⟩
theorem MapD.kp {S : Nat → Prop} {w w' : World} {b n : Nat} {F : ByteArray → Option Value} (h : MapD w b n F) (k : Kp S w w') (hn : ¬ S b) : MapD w' b n F := by
  have hlt := h.lt
  obtain ⟨D, ⟨es, clock, hb, Ft, hs, hD⟩, g⟩ := h
  exact ⟨D, ⟨es, clock, (k.block b hlt hn).trans hb, Ft, hs, hD⟩, g⟩
theorem MapD.kp0 {w w' : World} {b n : Nat} {F : ByteArray → Option Value} (h : MapD w b n F) (k : Kp0 w w') : MapD w' b n F := h.kp k (fun x => x)
theorem MapD.ne {w : World} {b n g : Nat} {F : ByteArray → Option Value} {cs : Array Value} {T : TypeId} (h : MapD w b n F) (hb : Blk w g cs T) : b ≠ g := by
  obtain ⟨D, ⟨es, clock, h1, _⟩, _⟩ := h
  intro e
  subst e
  have := h1.symm.trans hb
  cases this

def zf : Value := .bool false
theorem zero4 (w : World) : (zeroValue 4).run Tryd.prog w = .ok zf w := by kernel_rfl

theorem MapD.look {w : World} {b n : Nat} {F : ByteArray → Option Value} (h : MapD w b n F) {p : ByteArray} (hp : p.size ≤ 100) :
    (Instr.lookup 49 (.map (some b)) (.string p) false).run Tryd.prog w = .ok ((F p).getD zf) w := by
  obtain ⟨D, h, g1, g2, _⟩ := h
  obtain ⟨v, ps, hrun, hv⟩ := h.lookup str_law Tryd.underlying49 (zero4 w) (show RV zf = some (.held zf, []) from rfl) (key_str p hp)
  rw [hrun]
  have h1 := Option.some.inj hv
  injection h1 with h2 _
  cases hF : F p with
  | none =>
    have : Maps.has D (klp p) = false := by rw [g1 p hp, hF]; rfl
    rw [Maps.atKey_of_not_has this] at h2
    injection h2 with h2
    rw [h2]; rfl
  | some u =>
    rw [g2 p u hp hF] at h2
    injection h2 with h2
    rw [h2]; rfl
theorem MapD.look_ok {w : World} {b n : Nat} {F : ByteArray → Option Value} (h : MapD w b n F) {p : ByteArray} (hp : p.size ≤ 100) :
    (Instr.lookup 49 (.map (some b)) (.string p) true).run Tryd.prog w = .ok (.tuple #[(F p).getD zf, .bool (F p).isSome]) w := by
  obtain ⟨D, h, g1, g2, _⟩ := h
  obtain ⟨v, ps, hrun, hv⟩ := h.look_ok str_law Tryd.underlying49 (zero4 w) (show RV zf = some (.held zf, []) from rfl) (key_str p hp)
  rw [hrun, g1 p hp]
  have h1 := Option.some.inj hv
  injection h1 with h2 _
  cases hF : F p with
  | none =>
    have : Maps.has D (klp p) = false := by rw [g1 p hp, hF]; rfl
    rw [Maps.atKey_of_not_has this] at h2
    injection h2 with h2
    rw [h2]; rfl
  | some u =>
    rw [g2 p u hp hF] at h2
    injection h2 with h2
    rw [h2]; rfl

/-- F, but v at p. -/
def pt {α : Type} (F : ByteArray → α) (p : ByteArray) (v : α) : ByteArray → α := fun q => if q = p then v else F q
theorem pt_same {α : Type} (F : ByteArray → α) (p : ByteArray) (v : α) : pt F p v p = v := by unfold pt; rw [if_pos rfl]
theorem pt_other {α : Type} (F : ByteArray → α) {p q : ByteArray} (v : α) (h : q ≠ p) : pt F p v q = F q := by unfold pt; rw [if_neg h]

theorem kp_turned {w w' : World} {b : Nat} (h : w.mapTurned w' b) : Kp (· = b) w w' :=
  (Kp.refl _ _).grown h.grown (fun k hk _ => (Option.some.inj hk).symm)

theorem MapD.put {w : World} {b n : Nat} {F : ByteArray → Option Value} (h : MapD w b n F) (hn : n ≤ 1000000) {p : ByteArray} (hp : p.size ≤ 100) (v : Value) :
    ∃ w', (Instr.mapUpdate 49 (.map (some b)) (.string p) v).run Tryd.prog w = .ok () w' ∧ MapD w' b (n + 1) (pt F p (some v)) ∧ Kp (· = b) w w' := by
  obtain ⟨D, h, g1, g2, g3⟩ := h
  have hD : Maps.IsMap D := h.isMap
  have hk := str_law.key (key_str p hp)
  obtain ⟨w', hrun, h', ht⟩ := h.store str_law Tryd.underlying49 (by unfold maxLen; omega) (key_str p hp) (show RV v = some (.held v, []) from rfl)
  refine ⟨w', hrun, ⟨_, h', fun q hq => ?_, fun q u hq hF z => ?_, fun kl hkl => ?_⟩, kp_turned ht⟩
  · by_cases e : q = p
    · subst e; rw [Maps.has_put_same hD hk, pt_same]; rfl
    · rw [Maps.has_put_other (fun h => e (klp_inj h)), pt_other _ _ e, g1 q hq]
  · by_cases e : q = p
    · subst e; rw [pt_same] at hF; injection hF with hF; subst hF; rw [Maps.atKey_put_same hD hk]
    · rw [pt_other _ _ e] at hF; rw [Maps.atKey_put_other (fun h => e (klp_inj h)), g2 q u hq hF]
  · by_cases e : kl = klp p
    · exact ⟨p, hp, e⟩
    · rw [Maps.has_put_other e] at hkl; exact g3 kl hkl
end Go.Proofs.YtecgaggkpbikbaaDoor
