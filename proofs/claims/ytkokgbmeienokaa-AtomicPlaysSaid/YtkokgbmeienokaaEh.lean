/- Package disk: List. -/
import Derived.Test.YtkokgbmeienokaaSh
import Derived.Test.YtkokgbmeienokaaEg
set_option linter.unusedVariables false
set_option linter.unusedSimpArgs false
namespace Go.Proofs
open Go.RowKit Go.Maps Go.Sort Go.Shelf

theorem Try.sorts74 (m : Nat) : AnyZ.SortsIn Try.prog Try.sorted74_ren Fence.wide m :=
  ⟨fun blk off cap ss W hH hblk hsz => callsIn_wide.2 (AnyM.slices_Sort_string Try.sort93 blk off cap ss W hH hblk hsz),
   fun p cap W => callsIn_wide.2 (AnyM.slices_Sort_string_none Try.sort93 p cap W)⟩
theorem Try.maps_Keys_75 (mb : Option Nat) (W : World) : Calls Try.prog 75 #[.map mb] W fun e w' => e = .returned (.func (.func 94) #[] #[.pointer (some ⟨W.heap.size, 0, none⟩)]) ∧ w' = W.alloc (.cells #[.map mb] 84) :=
  (callsIn_wide (n := 5)).1 (AnyZ.keys_in Try.keys75 Fence.wide 5 trivial rfl mb W)

set_option maxHeartbeats 1000000 in
theorem Try.slices_Sorted_keys_74_75 {H : Type} (b nn : Nat) (D0 : DataW H) (R : Value → Option (DataW H × List MemPlace)) (w : World) (hown : w.ownsMap Try.prog 9 R b nn D0) (hmax : Maps.size D0 ≤ maxLen) (hbytes : Maps.size D0 * 16 ≤ 140737488355328) :
    Calls Try.prog 74 #[.func (.func 94) #[] #[.pointer (some ⟨w.heap.size, 0, none⟩)]] (w.alloc (.cells #[.map (some b)] 84)) fun e w' => ∃ (v : Value) (ss : List (List UInt8)), e = .returned v ∧ ss.Perm (strKeys D0) ∧
      w'.ownsRow (w.alloc (.cells #[.map (some b)] 84)).heap.size 9 1 v ss.length ((ss.mergeSort (fun x y => decide (x ≤ y))).map encStr) ∧ (v = .slice none 0 0 ↔ ss = []) ∧ Below (w.alloc (.cells #[.map (some b)] 84)).heap.size (w.alloc (.cells #[.map (some b)] 84)) w' := by
  have hbl := hown.lt
  have hseq : SeqGives Fence.wide 2 Try.prog 94 #[.pointer (some ⟨w.heap.size, 0, none⟩)] encStr (fun ss => ss.Perm (strKeys D0)) (Maps.size D0) (w.alloc (.cells #[.map (some b)] 84)) :=
    AnyZ.keys_gives (ρ := Try.keys75_ren) { Try.keys75 with } Fence.wide _ trivial rfl (by omega) w.heap.size b nn D0 _ (by simp) (by simp) (by
      obtain ⟨es, clock, hb, Ft, hs, hD⟩ := hown
      exact ⟨es, clock, (Below.heap_alloc _ _ b hbl).trans hb, Ft, hs, hD⟩)
  exact (callsIn_wide (n := 5)).1 (AnyZ.sorted_in Try.sorted74 Fence.wide 5 trivial trivial trivial trivial rfl (by omega) (Try.sorts74 _) (enters_of Try.func93 (by kernel_rfl) rfl) 94 #[.pointer (some ⟨w.heap.size, 0, none⟩)] trivial (enters_of Try.func94 (by kernel_rfl) rfl) _ _ hmax hbytes _ hseq)
end Go.Proofs

namespace Go.Proofs.Ytkokgbmeienokaa
open Go.RowKit
theorem idx_false {α : Type} (l : List α) (x : α) : ∀ i, Lib.idxByFrom (fun _ _ => false) x l i = -1 := by
  induction l with
  | nil => intro i; rfl
  | cons y l ih => intro i; unfold Lib.idxByFrom; simp [ih]

/-- A path, as bytes. -/
def tol (p : ByteArray) : List UInt8 := p.data.toList
theorem tol_inj {p q : ByteArray} (h : tol p = tol q) : p = q := by
  cases p; cases q
  unfold tol at h
  simp at h
  subst h; rfl
def leB' (x y : List UInt8) : Bool := decide (x ≤ y)
/-- All paths, rising. -/
def srt (ks : List ByteArray) : List (List UInt8) := (ks.map tol).mergeSort leB'
def Dk.lst (d : Dk) : List ByteArray := (srt d.ks).map (fun b => ⟨b.toArray⟩)
theorem lst_len (d : Dk) : d.lst.length = d.ks.length := by unfold Dk.lst srt; simp [List.length_mergeSort]
theorem lst_enc (d : Dk) : d.lst.map Value.string = (srt d.ks).map encStr := by
  unfold Dk.lst
  rw [List.map_map]
  rfl

/-- The closure at no prefix: no path is struck. -/
theorem pre76 (B : Nat) (x : ByteArray) (W : World) (hc : W.cell? ⟨B, 0, none⟩ = some (.string es)) : FnGives Try.prog 76 #[.pointer (some ⟨B, 0, none⟩)] #[.string x] (.bool false) W := by
  have hp := Any.strings_HasPrefix Try.pre77 x es
  have hpp : Lib.hasPrefix x.data.toList es.data.toList = true := by unfold Lib.hasPrefix; rfl
  rw [hpp] at hp
  have hp : ∀ W, Calls Try.prog 77 #[.string x, .string es] W fun e w' => e = .returned (.bool true) ∧ w' = W := hp
  show Calls Try.prog 76 #[.string x, .pointer (some ⟨B, 0, none⟩)] W _
  go_enter Try.func76, Try.ntmps76
  go_wp2_with (go_at_call 77; refine (hp _).mono ?_; rintro e w' ⟨rfl, rfl⟩)
  go_ret
  exact ⟨rfl, 0, rfl⟩

theorem map_keys {w : World} {b n : Nat} {V : ByteArray → Option Value} {D : DataW Value} (d : Dk) (own : w.ownsMap Try.prog 9 RV b n D) (g1 : ∀ p, p.size ≤ 100 → Maps.has D (klp p) = (V p).isSome) (g3 : ∀ kl, Maps.has D kl = true → ∃ p, p.size ≤ 100 ∧ kl = klp p)
    (hV : ∀ p, p.size ≤ 100 → (V p).isSome = (d.F p).isSome) (hk : ∀ p, p ∈ d.ks ↔ (d.F p).isSome = true) (hn : d.ks.Nodup) (hs : ∀ p, (d.F p).isSome = true → p.size ≤ 100) : (d.ks.map tol).Perm (strKeys D) := by
  have hC : Collected D (fun _ => false) (d.ks.map tol) := by
    refine ⟨?_, fun x => ?_⟩
    · exact List.pairwise_map.2 (hn.imp (fun h e => h (tol_inj e)))
    · rw [List.mem_map]
      constructor
      · rintro ⟨p, hp, rfl⟩
        have h1 := (hk p).1 hp
        exact ⟨by rw [show Lit.string (tol p) = klp p from rfl, g1 p (hs p h1), hV p (hs p h1)]; exact h1, rfl⟩
      · rintro ⟨h, _⟩
        obtain ⟨p, hp, e⟩ := g3 _ h
        rw [e] at h
        unfold klp at e
        injection e with e
        refine ⟨p, (hk p).2 ?_, e.symm⟩
        rw [← hV p hp, ← g1 p hp]; exact h
  exact hC.perm own str_law Try.underlying9 (fun _ => rfl)

set_option maxRecDepth 100000 in
theorem del73_all {base : Nat} (v : Value) (l : List ByteArray) (B : Nat) (W : World) (o : W.ownsRow base 9 1 v l.length (l.map Value.string)) (hc : W.cell? ⟨B, 0, none⟩ = some (.string es)) :
    Calls Try.prog 73 #[v, .func (.func 76) #[] #[.pointer (some ⟨B, 0, none⟩)]] W fun e w' => e = .returned v ∧ Kp0 W w' := by
  have hI : Calls Try.prog 91 #[v, .func (.func 76) #[] #[.pointer (some ⟨B, 0, none⟩)]] W fun e w' => e = .returned (.int .i64 (-1)) ∧ Kp0 W w' := by
    rcases own_shape o with ⟨rfl, h0, _⟩ | ⟨r, cap, rfl, m1, m2, m3, m4⟩
    · exact (AnyE.slices_IndexFunc_empty Try.idxf91 none 0 _ W).mono (by rintro e w' ⟨rfl, rfl⟩; exact ⟨rfl, Kp.refl _ _⟩)
    · have hB : B < W.heap.size := World.block_lt_of_cell? W ⟨B, 0, none⟩ hc
      have := AnyE.slices_IndexFunc Try.idxf91 Value.string (fun _ => false) 76 #[.pointer (some ⟨B, 0, none⟩)] (enters_of Try.func76 (by kernel_rfl) rfl) r 0 l.length cap l W (fun W' x hb => pre76 B x W' ((hb.cell (p := ⟨B, 0, none⟩) hB).trans hc)) (Nat.le_refl _) (by omega) (fun j hj => by
        rw [Nat.zero_add, m4 j (by omega), List.getElem?_map, List.getElem?_eq_getElem hj, List.getElem!_eq_getElem?_getD, List.getElem?_eq_getElem hj]; rfl)
      refine Calls.mono this ?_
      rintro e w' ⟨rfl, q, rfl⟩
      exact ⟨by unfold Lib.idxBy; rw [idx_false], (Kp.refl _ _).drewN q⟩
  go_enter Try.func73, Try.ntmps73
  go_wp2_with fail
  refine hI.mono ?_
  rintro e w' ⟨rfl, k1⟩
  go_wp2
  go_ret
  exact ⟨rfl, k1⟩

set_option maxRecDepth 100000 in
set_option maxHeartbeats 2000000 in
theorem list35_c (g n : Nat) (O : Nat → Prop) (d : Dk) (hn : n ≤ 1000000) (w : World) (h : DkAt w g n O d) :
    Calls Try.prog 35 #[.pointer (some ⟨g, 0, none⟩), .string es] w fun e w' => ∃ v, e = .returned v ∧ w'.ownsRow 0 9 1 v d.lst.length (d.lst.map Value.string) ∧ Kp0 w w' ∧ (∀ i, v.ownBlock = some i → w.heap.size ≤ i) := by
  obtain ⟨bm, V, I⟩ := h
  have k0 : Kp0 w (w.alloc (.cells #[.string es] 9)) := (Kp.refl _ _).alloc _
  have B0 : Blk (w.alloc (.cells #[.string es] 9)) w.heap.size #[.string es] 9 := blk_new _ _ rfl
  have I0 := I.kp k0 (fun _ _ x => x)
  have c0 : (w.alloc (.cells #[.string es] 9)).cell? ⟨g, 0, none⟩ = some (.map (some bm)) := by simpa using I0.cell.cell 0
  obtain ⟨D, own, g1, g2, g3⟩ := I0.mp
  have hV : ∀ p, p.size ≤ 100 → (V p).isSome = (d.F p).isSome := fun p hp => by
    cases hF : d.F p with
    | none => rw [I.no p hF hp]; rfl
    | some f => obtain ⟨v, e, _⟩ := I.yes p f hF; rw [e]; rfl
  have hperm := map_keys d own g1 g3 hV I.ks I.nd I.sz
  have hsz : Maps.size D ≤ n := own.size_le
  have hso := Try.slices_Sorted_keys_74_75 bm n D RV _ own (by unfold maxLen; omega) (by omega)
  have hke := Try.maps_Keys_75 (some bm) (w.alloc (.cells #[.string es] 9))
  generalize hw0 : w.alloc (.cells #[.string es] 9) = w0 at *
  have hper' : (d.ks.map tol).length = (strKeys D).length := hperm.length_eq
  have hres : ∀ ss : List (List UInt8), ss.Perm (strKeys D) → ss.mergeSort (fun x y => decide (x ≤ y)) = srt d.ks := fun ss hp => mergeSort_of_perm (hp.trans hperm.symm)
  have k1 : Kp0 w0 (w0.alloc (.cells #[.map (some bm)] 84)) := (Kp.refl _ _).alloc _
  clear I I0 g1 g2 g3 hV hperm own hsz
  go_enter Try.func35, Try.ntmps35
  go_wp2_with fail
  refine hke.mono ?_
  rintro e w' ⟨rfl, rfl⟩
  go_wp2_with fail
  refine hso.mono ?_
  rintro e w2 ⟨v, ss, rfl, hS, hrow, hnil, hbel⟩
  rw [hres ss hS, ← lst_enc] at hrow
  have hlen : ss.length = d.lst.length := by rw [lst_len, ← List.length_map (f := tol), hper', ← hS.length_eq]
  rw [hlen] at hrow
  have k2 : Kp0 w w2 := (k0.then0 k1).then0 (Kp.of_below hbel)
  have hcell : w2.cell? ⟨w.heap.size, 0, none⟩ = some (.string es) := by
    have := (B0.kp0 (k1.then0 (Kp.of_below hbel))).cell 0
    simpa using this
  have hd := del73_all v d.lst w.heap.size w2 hrow hcell
  clear hso hke hS hres
  go_wp2_with fail
  refine hd.mono ?_
  rintro e w3 ⟨rfl, k3⟩
  have hfr : ∀ i, v.ownBlock = some i → w.heap.size ≤ i := fun i hi => by
    have := (hrow.lt i hi).1
    have := k1.size
    have := k0.size
    omega
  have o3 := own_kp (ownsRow_base_a hrow (Nat.zero_le _)) k3 (fun _ _ x => x)
  clear hrow hd
  go_wp2
  go_ret
  exact ⟨v, rfl, o3, k2.then0 k3, hfr⟩
end Go.Proofs.Ytkokgbmeienokaa
