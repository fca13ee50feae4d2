/- Maps of strings, while a loop goes over them: an old key written, a key struck. -/
import Derived.Test.YtkokgbmeienokaaDp
import Derived.ChangeMaps3
set_option linter.unusedVariables false
set_option linter.unusedSimpArgs false
namespace Go.Proofs.Ytkokgbmeienokaa
open Go.RowKit
open Go.Maps (Keyed)
open Go.ChangeMaps Go.MapKept Go.WideElems

theorem filt_set {α : Type} (f : α → Bool) : ∀ (l : List α) (j : Nat) (a b : α), l[j]? = some a → f b = f a → ((l.set j b).filter f).length = (l.filter f).length
  | [], _, _, _, h, _ => by simp at h
  | x :: r, 0, a, b, h, e => by
    simp at h; subst h
    simp only [List.set_cons_zero, List.filter_cons, e]
    split <;> simp
  | x :: r, j + 1, a, b, h, e => by
    simp at h
    have ih := filt_set f r j a b h e
    simp only [List.set_cons_succ, List.filter_cons]
    split <;> simp [ih]

set_option maxRecDepth 100000 in
theorem MapR.put_old {w : World} {b r n cnt : Nat} {F : ByteArray → Option Value} {left : ByteArray → Bool} (h : MapR w b r n F left cnt) (hn : n ≤ 1000000) {p : ByteArray} (hp : p.size ≤ 100) (hF : (F p).isSome = true) (v : Value) :
    ∃ w', (Instr.mapUpdate 84 (.map (some b)) (.string p) v).run Try.prog w = .ok () w' ∧ MapR w' b r n (pt F p (some v)) left cnt ∧ Kp (· = b) w w' := by
  obtain ⟨w', hrun, hM, hK⟩ := h.owns.put hn hp v
  refine ⟨w', hrun, ?_, hK⟩
  have hlook := h.owns.look_ok hp
  rw [hF] at hlook
  obtain ⟨D, lf, h, g1, g2, g3, g4⟩ := h
  have hne := h.ne
  obtain ⟨es, clock, since, seen, c0, hb, F0, hs, rfl, hr, hold, rfl, hl1, hl2, hsc, hsk⟩ := h
  obtain ⟨D', ⟨es', clock', hb', F', hs', rfl⟩, q1, q2, q3⟩ := hM
  have hkey := key_str p hp
  rcases str_law.find w hkey es.toList F0.keys with ⟨h1, h2⟩ | ⟨j, e0, h1, h2, h3⟩
  · exfalso
    have r3 : (Instr.lookup 84 (.map (some b)) (.string p) true).run Try.prog w = .ok (.tuple #[zf, .bool false]) w := by
      simp [Instr.lookup, run_underlying Try.underlying84, MapKept.run_getObj_map hb, str_law.check w es.isEmpty hkey, str_law.check w (!es.isEmpty) hkey, str_law.check w false hkey, h1, zero90 w, Result.andThen]
    have e4 := hlook.symm.trans r3
    injection e4 with e4 _
    injection e4 with e4
    injection e4 with e4
    simp at e4
  · have hj : es[j]? = some e0 := by simpa using h2
    have hrun2 : (Instr.mapUpdate 84 (.map (some b)) (.string p) v).run Try.prog w = .ok () (setBlock w b (.map (es.modify j (fun e => { e with key := .string p, val := v })) clock)) := by
      simp [Instr.mapUpdate, run_underlying Try.underlying84, MapKept.run_getObj_map hb, str_law.check w false hkey, h1, hj, h3, str_law.stays w hkey, MapKept.run_setObj_map _ hb, Result.andThen, setBlock]
    have e1 := hrun.symm.trans hrun2
    injection e1 with _ e1
    subst e1
    have hbb : (setBlock w b (.map (es.modify j (fun e => { e with key := .string p, val := v })) clock)).heap[b]? = some (.map (es.modify j (fun e => { e with key := .string p, val := v })) clock) := heap_setBlock_same hb _
    rw [hbb] at hb'
    injection hb' with hb'
    injection hb' with hb1 hb2
    subst hb1; subst hb2
    have hlist : (es.modify j (fun e' => { e' with key := .string p, val := v })).toList = es.toList.set j { e0 with key := .string p, val := v } := by rw [Array.toList_modify, modify_eq_set _ _ _ _ h2]
    have hjl : j < es.toList.length := (List.getElem?_eq_some_iff.1 h2).1
    have hrg : ∀ born, (rg Try.prog 9 RV ⟨.string p, v, born⟩).1 = klp p := fun born => by rw [rg_of (rd_mk hkey (show RV v = some (.held v, []) from rfl))]
    have hm0 : e0 ∈ es.toList := List.mem_of_getElem? h2
    have hrg0 : (rg Try.prog 9 RV e0).1 = klp p := by
      obtain ⟨y, hy⟩ := F0.reads e0 hm0
      have m1 := rd_key hy
      rw [h3, hkey] at m1
      rw [rg_of hy]; exact (Option.some.inj m1).symm
    refine ⟨_, lf, ⟨_, clock, since, seen, c0, hbb, F', (by rw [← Array.length_toList, hlist, List.length_set, Array.length_toList]; exact hs), rfl, (heap_setBlock_other hb _ hne).trans hr, fun x hx => ?_, ?_, fun x hx => ?_, fun kl hkl => ?_, hsc, hsk⟩, q1, q2, q3, g4⟩
    · rw [hlist] at hx
      rcases List.mem_or_eq_of_mem_set hx with hx | rfl
      · exact hold x hx
      · exact hold e0 hm0
    · have e1 : ∀ a : Array MapEntry, (leftOf a seen).size = (a.toList.filter fun e => !seen.contains e.born).length := fun a => by
        unfold leftOf
        rw [← Array.toList_filter, Array.length_toList]
      rw [e1, e1, hlist]
      exact filt_set _ _ _ e0 _ h2 rfl
    · rw [hlist] at hx
      rcases List.mem_or_eq_of_mem_set hx with hx | rfl
      · exact hl1 x hx
      · rw [hrg, ← hrg0]; exact hl1 e0 hm0
    · obtain ⟨x, hx, rfl⟩ := hl2 kl hkl
      rw [hlist]
      by_cases hxe : x = e0
      · subst hxe
        exact ⟨_, List.mem_set hjl _, by rw [hrg, hrg0]⟩
      · obtain ⟨i, hi⟩ := List.getElem?_of_mem hx
        refine ⟨x, List.mem_of_getElem? (i := i) ?_, rfl⟩
        rw [List.getElem?_set_ne (fun e => hxe (by rw [← e, h2] at hi; exact (Option.some.inj hi).symm))]
        exact hi

theorem MapR.del {w : World} {b r n cnt : Nat} {F : ByteArray → Option Value} {left : ByteArray → Bool} (h : MapR w b r n F left cnt) {p : ByteArray} (hp : p.size ≤ 100) (ty : TypeId) :
    ∃ w' cnt', (Builtin.delete_ #[84, 9] ty #[.map (some b), .string p]).run Try.prog w = .ok (.tuple #[]) w' ∧ MapR w' b r n (pt F p none) (pt left p false) cnt' ∧ cnt' ≤ cnt ∧ Kp (· = b) w w' := by
  obtain ⟨D, lf, h, g1, g2, g3, g4⟩ := h
  have hkey := key_str p hp
  obtain ⟨w', cnt', hrun, h', hle, ht⟩ := h.drop str_law Try.underlying84 hkey ty
  refine ⟨w', cnt', hrun, ⟨_, _, h', fun q hq => ?_, fun q u hq hF z => ?_, fun kl hkl => ?_, fun q hq => ?_⟩, hle, kp_turned ht⟩
  · by_cases e : q = p
    · subst e; rw [Maps.has_del_same, pt_same]; rfl
    · rw [Maps.has_del_other (fun h => e (klp_inj h)), pt_other _ _ e, g1 q hq]
  · by_cases e : q = p
    · subst e; rw [pt_same] at hF; cases hF
    · rw [pt_other _ _ e] at hF; rw [Maps.atKey_del_other (fun h => e (klp_inj h)), g2 q u hq hF]
  · by_cases e : kl = klp p
    · subst e; rw [Maps.has_del_same] at hkl; cases hkl
    · rw [Maps.has_del_other e] at hkl; exact g3 kl hkl
  · show (lf (klp q) && !(klp q).sameKey (klp p)) = _
    by_cases e : q = p
    · subst e; rw [pt_same, Go.WideAt.sameKey_self (str_law.key hkey)]; simp
    · rw [pt_other _ _ e, Maps.sameKey_ne (fun h => e (klp_inj h)), g4 q hq]; simp
end Go.Proofs.Ytkokgbmeienokaa
