/- Maps of strings as functions: looked up, written, struck, ranged over. -/
import Derived.Test.YtkokgbmeienokaaRm
import Derived.Maps.Own
import Derived.Maps.OwnSet
import Derived.Maps.Views
import Derived.Maps.RangeWalk
set_option linter.unusedVariables false
set_option linter.unusedSimpArgs false
set_option maxRecDepth 100000
namespace Go.Proofs.Ytkokgbmeienokaa
open Go.RowKit
open Go.Maps (Keyed)
open Go.ChangeMaps (setBlock)

/-- A value, held as it is. -/
def RV (v : Value) : Option (DataW Value × List MemPlace) := some (.held v, [])
theorem str_law : Keyed Try.prog 9 := Maps.string_keyed Try.underlying9
def klp (p : ByteArray) : Lit := .string p.data.toList
theorem klp_inj {p q : ByteArray} (h : klp p = klp q) : p = q := by
  unfold klp at h
  injection h with h
  cases p; cases q
  simp at h
  subst h; rfl
theorem key_str (p : ByteArray) (h : p.size ≤ 100) : keyOf Try.prog 9 (.string p) = some (klp p)   := Go.WideMaps.keyOf_string_mk Try.underlying9 (by unfold maxLen; omega)

/-- Block b is a map of at most n entries: F's. -/
def MapD (w : World) (b n : Nat) (F : ByteArray → Option Value) : Prop :=
  ∃ D, w.ownsMap Try.prog 9 RV b n D ∧ (∀ p, p.size ≤ 100 → Maps.has D (klp p) = (F p).isSome) ∧ (∀ p v, p.size ≤ 100 → F p = some v → ∀ z, D.atKey (klp p) z = .held v) ∧ (∀ kl, Maps.has D kl = true → ∃ p, p.size ≤ 100 ∧ kl = klp p)

theorem MapD.lt {w : World} {b n : Nat} {F : ByteArray → Option Value} (h : MapD w b n F) : b < w.heap.size := by
  obtain ⟨D, h, _⟩ := h
  exact h.lt
theorem MapD.made (w : World) : MapD (w.alloc (.map #[] 0)) w.heap.size 0 (fun _ => none) :=
  ⟨_, World.ownsMap_made w Try.prog 9 RV, fun _ _ => rfl, fun p v _ (h : none = some v) => (by cases h), fun kl (h : false = true) => (by cases h)⟩
theorem MapD.mono {w : World} {b n m : Nat} {F : ByteArray → Option Value} (h : MapD w b n F) (hm : n ≤ m) : MapD w b m F := by
  obtain ⟨D, h, g⟩ := h
  exact ⟨D, h.mono hm, g⟩
theorem MapD.kp {S : Nat → Prop} {w w' : World} {b n : Nat} {F : ByteArray → Option Value} (h : MapD w b n F) (k : Kp S w w') (hn : ¬ S b) : MapD w' b n F := by
  have hlt := h.lt
  obtain ⟨D, ⟨es, clock, hb, Ft, hs, hD⟩, g⟩ := h
  exact ⟨D, ⟨es, clock, (k.block b hlt hn).trans hb, Ft, hs, hD⟩, g⟩
theorem MapD.kp0 {w w' : World} {b n : Nat} {F : ByteArray → Option Value} (h : MapD w b n F) (k : Kp0 w w') : MapD w' b n F := h.kp k (fun x => x)
theorem MapD.ne {w : World} {b n g : Nat} {F : ByteArray → Option Value} {cs : Array Value} {T : TypeId} (h : MapD w b n F) (hb : Blk w g cs T) : b ≠ g := by
  obtain ⟨D, ⟨es, clock, h1, _⟩, _⟩ := h
  intro e
  subst e
  have := h1.symm.trans hb
  cases this

def zf : Value := .agg #[.slice none 0 0, .int .i64 0, .bool false]
theorem zero90 (w : World) : (zeroValue 90).run Try.prog w = .ok zf w := by kernel_rfl

theorem MapD.look {w : World} {b n : Nat} {F : ByteArray → Option Value} (h : MapD w b n F) {p : ByteArray} (hp : p.size ≤ 100) :
    (Instr.lookup 84 (.map (some b)) (.string p) false).run Try.prog w = .ok ((F p).getD zf) w := by
  obtain ⟨D, h, g1, g2, _⟩ := h
  obtain ⟨v, ps, hrun, hv⟩ := h.lookup str_law Try.underlying84 (zero90 w) (show RV zf = some (.held zf, []) from rfl) (key_str p hp)
  rw [hrun]
  have h1 := Option.some.inj hv
  injection h1 with h2 _
  cases hF : F p with
  | none =>
    have : Maps.has D (klp p) = false := by rw [g1 p hp, hF]; rfl
    rw [Maps.atKey_of_not_has this] at h2
    injection h2 with h2
    rw [h2]; rfl
  | some u =>
    rw [g2 p u hp hF] at h2
    injection h2 with h2
    rw [h2]; rfl
theorem MapD.look_ok {w : World} {b n : Nat} {F : ByteArray → Option Value} (h : MapD w b n F) {p : ByteArray} (hp : p.size ≤ 100) :
    (Instr.lookup 84 (.map (some b)) (.string p) true).run Try.prog w = .ok (.tuple #[(F p).getD zf, .bool (F p).isSome]) w := by
  obtain ⟨D, h, g1, g2, _⟩ := h
  obtain ⟨v, ps, hrun, hv⟩ := h.look_ok str_law Try.underlying84 (zero90 w) (show RV zf = some (.held zf, []) from rfl) (key_str p hp)
  rw [hrun, g1 p hp]
  have h1 := Option.some.inj hv
  injection h1 with h2 _
  cases hF : F p with
  | none =>
    have : Maps.has D (klp p) = false := by rw [g1 p hp, hF]; rfl
    rw [Maps.atKey_of_not_has this] at h2
    injection h2 with h2
    rw [h2]; rfl
  | some u =>
    rw [g2 p u hp hF] at h2
    injection h2 with h2
    rw [h2]; rfl

/-- F, but v at p. -/
def pt {α : Type} (F : ByteArray → α) (p : ByteArray) (v : α) : ByteArray → α := fun q => if q = p then v else F q
theorem pt_same {α : Type} (F : ByteArray → α) (p : ByteArray) (v : α) : pt F p v p = v := by unfold pt; rw [if_pos rfl]
theorem pt_other {α : Type} (F : ByteArray → α) {p q : ByteArray} (v : α) (h : q ≠ p) : pt F p v q = F q := by unfold pt; rw [if_neg h]

theorem kp_turned {w w' : World} {b : Nat} (h : w.mapTurned w' b) : Kp (· = b) w w' :=
  (Kp.refl _ _).grown h.grown (fun k hk _ => (Option.some.inj hk).symm)

theorem MapD.put {w : World} {b n : Nat} {F : ByteArray → Option Value} (h : MapD w b n F) (hn : n ≤ 1000000) {p : ByteArray} (hp : p.size ≤ 100) (v : Value) :
    ∃ w', (Instr.mapUpdate 84 (.map (some b)) (.string p) v).run Try.prog w = .ok () w' ∧ MapD w' b (n + 1) (pt F p (some v)) ∧ Kp (· = b) w w' := by
  obtain ⟨D, h, g1, g2, g3⟩ := h
  have hD : Maps.IsMap D := h.isMap
  have hk := str_law.key (key_str p hp)
  obtain ⟨w', hrun, h', ht⟩ := h.store str_law Try.underlying84 (by unfold maxLen; omega) (key_str p hp) (show RV v = some (.held v, []) from rfl)
  refine ⟨w', hrun, ⟨_, h', fun q hq => ?_, fun q u hq hF z => ?_, fun kl hkl => ?_⟩, kp_turned ht⟩
  · by_cases e : q = p
    · subst e; rw [Maps.has_put_same hD hk, pt_same]; rfl
    · rw [Maps.has_put_other (fun h => e (klp_inj h)), pt_other _ _ e, g1 q hq]
  · by_cases e : q = p
    · subst e; rw [pt_same] at hF; injection hF with hF; subst hF; rw [Maps.atKey_put_same hD hk]
    · rw [pt_other _ _ e] at hF; rw [Maps.atKey_put_other (fun h => e (klp_inj h)), g2 q u hq hF]
  · by_cases e : kl = klp p
    · exact ⟨p, hp, e⟩
    · rw [Maps.has_put_other e] at hkl; exact g3 kl hkl
theorem MapD.del {w : World} {b n : Nat} {F : ByteArray → Option Value} (h : MapD w b n F) {p : ByteArray} (hp : p.size ≤ 100) (ty : TypeId) :
    ∃ w', (Builtin.delete_ #[84, 9] ty #[.map (some b), .string p]).run Try.prog w = .ok (.tuple #[]) w' ∧ MapD w' b n (pt F p none) ∧ Kp (· = b) w w' := by
  obtain ⟨D, h, g1, g2, g3⟩ := h
  obtain ⟨w', hrun, h', ht⟩ := h.drop str_law Try.underlying84 (key_str p hp) ty
  refine ⟨w', hrun, ⟨_, h', fun q hq => ?_, fun q u hq hF z => ?_, fun kl hkl => ?_⟩, kp_turned ht⟩
  · by_cases e : q = p
    · subst e; rw [Maps.has_del_same, pt_same]; rfl
    · rw [Maps.has_del_other (fun h => e (klp_inj h)), pt_other _ _ e, g1 q hq]
  · by_cases e : q = p
    · subst e; rw [pt_same] at hF; cases hF
    · rw [pt_other _ _ e] at hF; rw [Maps.atKey_del_other (fun h => e (klp_inj h)), g2 q u hq hF]
  · by_cases e : kl = klp p
    · subst e; rw [Maps.has_del_same] at hkl; cases hkl
    · rw [Maps.has_del_other e] at hkl; exact g3 kl hkl

/-- A loop over the map under way, its iterator in block r: left: the keys that are still to come. -/
def MapR (w : World) (b r n : Nat) (F : ByteArray → Option Value) (left : ByteArray → Bool) (cnt : Nat) : Prop :=
  ∃ D lf, w.ranges Try.prog 9 RV b r n D lf cnt ∧ (∀ p, p.size ≤ 100 → Maps.has D (klp p) = (F p).isSome) ∧ (∀ p v, p.size ≤ 100 → F p = some v → ∀ z, D.atKey (klp p) z = .held v) ∧ (∀ kl, Maps.has D kl = true → ∃ p, p.size ≤ 100 ∧ kl = klp p) ∧
    (∀ p, p.size ≤ 100 → lf (klp p) = left p)

theorem MapD.range {w : World} {b n : Nat} {F : ByteArray → Option Value} (h : MapD w b n F) :
    ∃ w' cnt, (Instr.range 84 (.map (some b))).run Try.prog w = .ok (.pointer (some ⟨w.heap.size, 0, none⟩)) w' ∧ MapR w' b w.heap.size n F (fun p => (F p).isSome) cnt ∧ Kp0 w w' ∧ w'.heap.size = w.heap.size + 1 ∧ cnt ≤ n := by
  obtain ⟨D, h, g1, g2, g3⟩ := h
  obtain ⟨w', hrun, hr, hg, hs⟩ := h.range str_law Try.underlying84
  exact ⟨w', _, hrun, ⟨D, _, hr, g1, g2, g3, fun p hp => g1 p hp⟩, (Kp.refl _ _).grown hg (fun k hk _ => by cases hk), hs, h.size_le⟩
theorem MapR.owns {w : World} {b r n cnt : Nat} {F : ByteArray → Option Value} {left : ByteArray → Bool} (h : MapR w b r n F left cnt) : MapD w b n F := by
  obtain ⟨D, lf, h, g1, g2, g3, _⟩ := h
  exact ⟨D, h.owns, g1, g2, g3⟩
theorem MapR.kp {S : Nat → Prop} {w w' : World} {b r n cnt : Nat} {F : ByteArray → Option Value} {left : ByteArray → Bool} (h : MapR w b r n F left cnt) (k : Kp S w w') (hb : ¬ S b) (hr : ¬ S r) : MapR w' b r n F left cnt := by
  obtain ⟨D, lf, h, g⟩ := h
  have h1 := h.owns.lt
  have h2 := h.lt
  obtain ⟨es, clock, since, seen, c0, hbb, Ft, hs, hD, hrr, rest⟩ := h
  exact ⟨D, lf, ⟨es, clock, since, seen, c0, (k.block b h1 hb).trans hbb, Ft, hs, hD, (k.block r h2 hr).trans hrr, rest⟩, g⟩

/-- The step. -/
theorem MapR.next {w : World} {b r n cnt : Nat} {F : ByteArray → Option Value} {left : ByteArray → Bool} (h : MapR w b r n F left cnt) (ty : TypeId) :
    (cnt = 0 ∧ (∀ p, p.size ≤ 100 → left p = false) ∧ (Instr.next (.pointer (some ⟨r, 0, none⟩)) false ty).run Try.prog w = .ok (.tuple #[.bool false]) w) ∨
    ∃ p v w' cnt', p.size ≤ 100 ∧ left p = true ∧ F p = some v ∧ (Instr.next (.pointer (some ⟨r, 0, none⟩)) false ty).run Try.prog w = .ok (.tuple #[.bool true, .string p, v]) w' ∧
      MapR w' b r n F (pt left p false) cnt' ∧ cnt' < cnt ∧ Kp (· = r) w w' ∧ (Instr.entry (.pointer (some ⟨r, 0, none⟩))).run Try.prog w' = .ok (.tuple #[.string p, v]) w' := by
  obtain ⟨D, lf, h, g1, g2, g3, g4⟩ := h
  rcases h.next str_law ty with ⟨h0, hl, hrun⟩ | ⟨key, v, kl, y, w', cnt', hkey, hlk, hv, hat, hrun, hrg, hlt, hgr, hsz, hen⟩
  · exact .inl ⟨h0, fun p hp => by rw [← g4 p hp, hl], hrun⟩
  · right
    have hhas : Maps.has D kl = true := Maps.has_true_of_atKey hat
    obtain ⟨p, hp, rfl⟩ := g3 kl hhas
    have hkp := key_str p hp
    have hk : key = .string p := str_law.inj hkey hkp
    subst hk
    have hF : F p = some v := by
      have h1 := g1 p hp
      rw [hhas] at h1
      obtain ⟨u, hu⟩ := Option.isSome_iff_exists.1 h1.symm
      have h2 := g2 p u hp hu (.held v)
      rw [hat] at h2
      have h3 : RV v = some y := hv
      unfold RV at h3
      injection h3 with h3
      rw [← h3] at h2
      injection h2 with h2
      rw [hu, h2]
    refine ⟨p, v, w', cnt', hp, by rw [← g4 p hp]; exact hlk, hF, hrun, ⟨D, _, hrg, g1, g2, g3, fun q hq => ?_⟩, hlt, (Kp.refl _ _).grown hgr (fun k hk _ => (Option.some.inj hk).symm), hen⟩
    show (lf (klp q) && !(klp q).sameKey (klp p)) = _
    by_cases e : q = p
    · subst e; rw [pt_same, Go.WideAt.sameKey_self (str_law.key hkp)]; simp
    · rw [pt_other _ _ e, Maps.sameKey_ne (fun h => e (klp_inj h)), g4 q hq]; simp
end Go.Proofs.Ytkokgbmeienokaa
