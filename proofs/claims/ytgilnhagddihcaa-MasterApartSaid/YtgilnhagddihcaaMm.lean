/- Maps whose keys are a framework's and a task's name, as functions. -/
import Derived.Test.YtgilnhagddihcaaAp
import Derived.Maps.Own
import Derived.Maps.Views
import Derived.DeepKeys4
set_option linter.unusedVariables false
set_option linter.unusedSimpArgs false
namespace Go.Proofs.Ytgilnhagddihcaa
open Go.RowKit
open Go.Maps (Keyed)

/-- A value, held as it is. -/
def RV (v : Value) : Option (DataW Value × List MemPlace) := some (.held v, [])

theorem laidOutP : laidOutB Try.prog = true := by kernel_rfl
theorem row52 : (52 : TypeId) < Try.prog.types.size := of_decide_eq_true (by kernel_rfl)
theorem wide52 : (match Try.prog.underlying 52 with | some (.array _ _) | some (.struct _) => true | _ => false) = true := by rw [Try.underlying52]
theorem key_law : Keyed Try.prog 52 := Keyed.of_law (deep_law_laid laidOutP (m := 2) (by omega) row52 (by kernel_rfl) wide52)

def kv (F T : ByteArray) : Value := .agg #[.string F, .string T]
theorem cells52 : Try.prog.cellsOf 52 = 2 := by kernel_rfl
theorem cells9 : Try.prog.cellsOf 9 = 1 := by kernel_rfl
theorem keyType52 : Try.prog.keyType 52 = true := by kernel_rfl

theorem lits9 (d : Nat) (s : ByteArray) (h : s.size ≤ maxLen) : Try.prog.keyLits (d + 1) 9 [.string s] = some [.string s.data.toList] := by
  simp only [Program.keyLits, Try.underlying9, if_pos h]

theorem lits52 (d : Nat) (F T : ByteArray) (hF : F.size ≤ maxLen) (hT : T.size ≤ maxLen) : Try.prog.keyLits (d + 2) 52 [.string F, .string T] = some [.string F.data.toList, .string T.data.toList] := by
  simp only [Program.keyLits, Try.underlying52, cells52]
  simp [cells9, Try.underlying9, hF, hT]

theorem key_of (F T : ByteArray) (hF : F.size ≤ 100) (hT : T.size ≤ 100) : ∃ kl, keyOf Try.prog 52 (kv F T) = some kl := by
  have hF' : F.size ≤ maxLen := by unfold maxLen; omega
  have hT' : T.size ≤ maxLen := by unfold maxLen; omega
  obtain ⟨d, hd⟩ : ∃ d, Try.prog.types.size + 1 = d + 2 := ⟨Try.prog.types.size - 1, by have h : 52 < Try.prog.types.size := row52; omega⟩
  have hl := lits52 d F T hF' hT'
  have hf : (kv F T).formed Try.prog 52 = true := by simp [kv, Value.formed, Try.underlying52, cells52]
  have hc : (kv F T).cells.toList = [.string F, .string T] := rfl
  unfold keyOf
  rw [hd, hc, hl, Try.underlying52]
  simp only [keyType52, hf, Bool.and_self, if_true, Option.map_some]
  exact ⟨_, rfl⟩

abbrev Key := ByteArray × ByteArray
def kvp (p : Key) : Value := kv p.1 p.2
def Small (p : Key) : Prop := p.1.size ≤ 100 ∧ p.2.size ≤ 100
theorem Small.key {p : Key} (h : Small p) : ∃ kl, keyOf Try.prog 52 (kvp p) = some kl := key_of p.1 p.2 h.1 h.2

theorem kv_inj {p q : Key} (h : kvp p = kvp q) : p = q := by
  unfold kvp kv at h
  injection h with h
  have h1 := congrArg Array.toList h
  simp at h1
  exact Prod.ext h1.1 h1.2

/-- Block b is a map of at most n entries: f's, z where there is none. -/
def MapAs (w : World) (b n : Nat) (z : Value) (f : Key → Value) : Prop :=
  ∃ D, w.ownsMap Try.prog 52 RV b n D ∧ ∀ p kl, keyOf Try.prog 52 (kvp p) = some kl → D.atKey kl (.held z) = .held (f p)

/-- f, but v at k. -/
def upd {α : Type} (f : Key → α) (k : Key) (v : α) : Key → α := fun p => if p = k then v else f p
theorem upd_same {α : Type} (f : Key → α) (k : Key) (v : α) : upd f k v k = v := by unfold upd; rw [if_pos rfl]
theorem upd_other {α : Type} (f : Key → α) {k p : Key} (v : α) (h : p ≠ k) : upd f k v p = f p := by unfold upd; rw [if_neg h]

theorem MapAs.lt {w : World} {b n : Nat} {z : Value} {f : Key → Value} (h : MapAs w b n z f) : b < w.heap.size := by
  obtain ⟨D, h, _⟩ := h
  exact h.lt
theorem MapAs.made (w : World) (z : Value) : MapAs (w.alloc (.map #[] 0)) w.heap.size 0 z (fun _ => z) :=
  ⟨_, World.ownsMap_made w Try.prog 52 RV, fun _ _ _ => rfl⟩
theorem MapAs.mono {w : World} {b n m : Nat} {z : Value} {f : Key → Value} (h : MapAs w b n z f) (hm : n ≤ m) : MapAs w b m z f := by
  obtain ⟨D, h, g⟩ := h
  exact ⟨D, h.mono hm, g⟩
theorem MapAs.kp {S : Nat → Prop} {w w' : World} {b n : Nat} {z : Value} {f : Key → Value} (h : MapAs w b n z f) (k : Kp S w w') (hn : ¬ S b) : MapAs w' b n z f := by
  have hlt := h.lt
  obtain ⟨D, ⟨es, clock, hb, F, hs, hD⟩, g⟩ := h
  exact ⟨D, ⟨es, clock, (k.block b hlt hn).trans hb, F, hs, hD⟩, g⟩
theorem MapAs.kp0 {w w' : World} {b n : Nat} {z : Value} {f : Key → Value} (h : MapAs w b n z f) (k : Kp0 w w') : MapAs w' b n z f := h.kp k (fun x => x)
theorem MapAs.ne {w : World} {b n g : Nat} {z : Value} {f : Key → Value} {cs : Array Value} {T : TypeId} (h : MapAs w b n z f) (hb : Blk w g cs T) : b ≠ g := by
  obtain ⟨D, ⟨es, clock, h1, _⟩, _⟩ := h
  intro e
  subst e
  have := h1.symm.trans hb
  cases this
theorem MapAs.ne_row {w : World} {b n i m : Nat} {e : TypeId} {z v : Value} {f : Key → Value} {xs : List Value} (h : MapAs w b n z f) (o : w.ownsRow 0 e 1 v m xs) (hi : v.ownBlock = some i) : b ≠ i := by
  obtain ⟨D, ⟨es, clock, h1, _⟩, _⟩ := h
  obtain ⟨_, ⟨rfl, _⟩ | ⟨g, cap, cur, rfl, _, h3, _⟩⟩ := o
  · cases hi
  · simp [Value.ownBlock] at hi
    subst hi
    intro e
    subst e
    have := h1.symm.trans h3
    cases this

theorem MapAs.look {w : World} {b n t e : Nat} {z : Value} {f : Key → Value} (h : MapAs w b n z f) (ht : Try.prog.underlying t = some (.map 52 e)) (hz : (zeroValue e).run Try.prog w = .ok z w) {p : Key} (hp : Small p) :
    (Instr.lookup t (.map (some b)) (kvp p) false).run Try.prog w = .ok (f p) w := by
  obtain ⟨D, h, g⟩ := h
  obtain ⟨kl, hkl⟩ := hp.key
  obtain ⟨v, ps, hrun, hv⟩ := h.lookup key_law ht hz (show RV z = some (.held z, []) from rfl) hkl
  rw [g p kl hkl] at hv
  have : v = f p := by
    have h1 := Option.some.inj hv
    injection h1 with h2 _
    injection h2
  rw [hrun, this]

theorem MapAs.upd {w : World} {b n t e : Nat} {z : Value} {f : Key → Value} (h : MapAs w b n z f) (ht : Try.prog.underlying t = some (.map 52 e)) (hn : n ≤ 1000000) {p : Key} (hp : Small p) (val : Value) :
    ∃ w', (Instr.mapUpdate t (.map (some b)) (kvp p) val).run Try.prog w = .ok () w' ∧ MapAs w' b (n + 1) z (upd f p val) ∧ Kp (· = b) w w' := by
  obtain ⟨D, h, g⟩ := h
  obtain ⟨kl, hkl⟩ := hp.key
  obtain ⟨w', hrun, h', hg⟩ := h.update key_law ht (by unfold maxLen; omega) hkl (show RV val = some (.held val, []) from rfl)
  refine ⟨w', hrun, ⟨_, h', fun p' kl' hkl' => ?_⟩, (Kp.refl _ _).grown hg (fun k hk _ => (Option.some.inj hk).symm)⟩
  have hD : Maps.IsMap D := by obtain ⟨es, clock, _, _, _, hD⟩ := h; exact ⟨_, hD⟩
  by_cases hk : p' = p
  · subst hk
    have : kl' = kl := Option.some.inj (hkl'.symm.trans hkl)
    subst this
    rw [upd_same, Maps.atKey_put_same hD (key_law.key hkl)]
  · rw [upd_other _ _ hk, Maps.atKey_put_other (fun e => hk (kv_inj (key_law.inj (hkl'.trans (congrArg some e)) hkl))), g p' kl' hkl']
end Go.Proofs.Ytgilnhagddihcaa
