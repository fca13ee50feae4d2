/- Package disk: List at any prefix. -/
import Derived.Test.YtkokgbmeienokaaEr
import Derived.Sort.OwnSorted
set_option linter.unusedVariables false
set_option linter.unusedSimpArgs false
set_option linter.unnecessarySimpa false
namespace Go.Proofs.Ytkokgbmeienokaa
open Go.RowKit Go.Sort

def mkp (x : List UInt8) : ByteArray := ⟨x.toArray⟩
theorem pre76g (B : Nat) (pre : ByteArray) (x : List UInt8) (W : World) (hc : W.cell? ⟨B, 0, none⟩ = some (.string pre)) : FnGives Try.prog 76 #[.pointer (some ⟨B, 0, none⟩)] #[encStr x] (.bool (!(Lib.hasPrefix x (tol pre)))) W := by
  have hp := Any.strings_HasPrefix Try.pre77 (mkp x) pre
  have hpp : Lib.hasPrefix (mkp x).data.toList pre.data.toList = Lib.hasPrefix x (tol pre) := by unfold mkp tol; simp
  rw [hpp] at hp
  have hp : ∀ W, Calls Try.prog 77 #[.string (mkp x), .string pre] W fun e w' => e = .returned (.bool (Lib.hasPrefix x (tol pre))) ∧ w' = W := hp
  show Calls Try.prog 76 #[.string (mkp x), .pointer (some ⟨B, 0, none⟩)] W _
  generalize mkp x = px at hp
  generalize Lib.hasPrefix x (tol pre) = bb at hp ⊢
  go_enter Try.func76, Try.ntmps76
  go_wp2_with (go_at_call 77; refine (hp _).mono ?_; rintro e w' ⟨rfl, rfl⟩)
  go_ret
  exact ⟨rfl, 0, rfl⟩

set_option maxRecDepth 100000 in
theorem del73_gen {base : Nat} (v : Value) (l : List (List UInt8)) (B : Nat) (pre : ByteArray) (W : World) (o : W.ownsRow base 9 1 v l.length (l.map encStr)) (hc : W.cell? ⟨B, 0, none⟩ = some (.string pre)) (hv : v.ownBlock ≠ some B) :
    Calls Try.prog 73 #[v, .func (.func 76) #[] #[.pointer (some ⟨B, 0, none⟩)]] W fun e w' => ∃ A c, e = .returned (.slice A (l.filter (fun x => Lib.hasPrefix x (tol pre))).length c) ∧ Sg w' A ((l.filter (fun x => Lib.hasPrefix x (tol pre))).map mkp) ∧ Kp (fun i => v.ownBlock = some i) W w' := by
  rcases own_shape o with ⟨rfl, h0, hx⟩ | ⟨r, cap, rfl, m1, m2, m3, m4⟩
  · have hl : l = [] := List.length_eq_zero_iff.1 h0
    subst hl
    have hI : Calls Try.prog 91 #[.slice none 0 0, .func (.func 76) #[] #[.pointer (some ⟨B, 0, none⟩)]] W fun e w' => e = .returned (.int .i64 (-1)) ∧ w' = W := AnyE.slices_IndexFunc_empty Try.idxf91 none 0 _ W
    go_enter Try.func73, Try.ntmps73
    go_wp2_with fail
    refine hI.mono ?_
    rintro e w' ⟨rfl, rfl⟩
    go_wp2
    go_ret
    exact ⟨none, 0, rfl, fun j hj => by simp at hj, Kp.refl _ _⟩
  · have hB : B < W.heap.size := World.block_lt_of_cell? W ⟨B, 0, none⟩ hc
    have hne : B ≠ r := fun e => hv (by simp [Value.ownBlock, e])
    have hH : Holds encStr W r 0 l.toArray := fun j hj => by
      have hj' : j < l.length := by simpa using hj
      refine ⟨?_, by rw [Nat.zero_add]; exact o.frozenAt j⟩
      rw [Nat.zero_add, m4 j (by omega), List.getElem?_map, List.getElem?_eq_getElem hj', getElem!_pos l.toArray j hj]; simp
    have key := AnyE.slices_DeleteFunc Try.delf73 encStr (fun _ => rfl) (fun x => !(Lib.hasPrefix x (tol pre))) 76 #[.pointer (some ⟨B, 0, none⟩)] (enters_of Try.func76 (by kernel_rfl) rfl) [] (fun w => by kernel_rfl) r 0 cap l.toArray W
      (fun W' x hb => pre76g B pre x W' ((hb.cell (p := ⟨B, 0, none⟩) hB).trans hc))
      (fun n os dk x _ => pre76g B pre x _ (by
        unfold sortWorld
        rw [cell?_grow _ _ _ (by show B < (putRow _ _ _ _ _).heap.size; rw [size_putRow]; exact hB), cell?_putRow_other _ _ r 0 _ _ (Or.inl hne)]
        exact hc)) hH (by simpa using (show l.length ≤ 9223372036854775807 by omega)) (by simpa using m1)
    simp only [List.size_toArray, Bool.not_not] at key
    refine Calls.mono key ?_
    rintro e w' ⟨rfl, q, rfl⟩
    have hfl := List.length_filter_le (fun x => Lib.hasPrefix x (tol pre)) l
    generalize l.filter (fun x => Lib.hasPrefix x (tol pre)) = fs at hfl ⊢
    have hsz : (fs ++ List.replicate (l.length - fs.length) ([] : List UInt8)).toArray.size = l.toArray.size := by simp; omega
    have hH2 := holds_putRow encStr (Sort.ahead W q) r 0 l.toArray _ hH hsz
    refine ⟨_, _, rfl, fun j hj => ?_, ?_⟩
    · have hj' : j < fs.length := by simpa using hj
      refine ⟨r, 0, rfl, by rw [size_putRow]; exact m3, ?_⟩
      rw [(hH2 j (by simp; omega)).1, getElem!_pos _ j (by simp; omega)]
      simp [List.getElem_append_left hj', mkp, encStr]
    · have := grownBy_sorted (w := W) (g := r) (n := q) (os := #[]) (fs ++ List.replicate (l.length - fs.length) ([] : List UInt8)).toArray
      rw [grow_empty] at this
      exact (Kp.refl _ _).grown this (fun k hk _ => by injection hk with hk; subst hk; simp [Value.ownBlock])

/-- The paths that begin so. -/
def Dk.lsp (d : Dk) (pre : ByteArray) : List ByteArray := ((srt d.ks).filter (fun x => Lib.hasPrefix x (tol pre))).map mkp

set_option maxRecDepth 100000 in
set_option maxHeartbeats 2000000 in
theorem listp35_c (g n : Nat) (O : Nat → Prop) (d : Dk) (pre : ByteArray) (hn : n ≤ 1000000) (w : World) (h : DkAt w g n O d) :
    Calls Try.prog 35 #[.pointer (some ⟨g, 0, none⟩), .string pre] w fun e w' => ∃ A c, e = .returned (.slice A (d.lsp pre).length c) ∧ Sg w' A (d.lsp pre) ∧ Kp0 w w' := by
  obtain ⟨bm, V, I⟩ := h
  have k0 : Kp0 w (w.alloc (.cells #[.string pre] 9)) := (Kp.refl _ _).alloc _
  have B0 : Blk (w.alloc (.cells #[.string pre] 9)) w.heap.size #[.string pre] 9 := blk_new _ _ rfl
  have I0 := I.kp k0 (fun _ _ x => x)
  have c0 : (w.alloc (.cells #[.string pre] 9)).cell? ⟨g, 0, none⟩ = some (.map (some bm)) := by simpa using I0.cell.cell 0
  obtain ⟨D, own, g1, g2, g3⟩ := I0.mp
  have hV : ∀ p, p.size ≤ 100 → (V p).isSome = (d.F p).isSome := fun p hp => by
    cases hF : d.F p with
    | none => rw [I.no p hF hp]; rfl
    | some f => obtain ⟨v, e, _⟩ := I.yes p f hF; rw [e]; rfl
  have hperm := map_keys d own g1 g3 hV I.ks I.nd I.sz
  have hsz : Maps.size D ≤ n := own.size_le
  have hso := Try.slices_Sorted_keys_74_75 bm n D RV _ own (by unfold maxLen; omega) (by omega)
  have hke := Try.maps_Keys_75 (some bm) (w.alloc (.cells #[.string pre] 9))
  generalize hw0 : w.alloc (.cells #[.string pre] 9) = w0 at *
  have hper' : (d.ks.map tol).length = (strKeys D).length := hperm.length_eq
  have hres : ∀ ss : List (List UInt8), ss.Perm (strKeys D) → ss.mergeSort (fun x y => decide (x ≤ y)) = srt d.ks := fun ss hp => mergeSort_of_perm (hp.trans hperm.symm)
  have k1 : Kp0 w0 (w0.alloc (.cells #[.map (some bm)] 84)) := (Kp.refl _ _).alloc _
  have hlp : d.lsp pre = ((srt d.ks).filter (fun x => Lib.hasPrefix x (tol pre))).map mkp := rfl
  have hll : (srt d.ks).length = d.ks.length := by unfold srt; simp [List.length_mergeSort]
  clear I I0 g1 g2 g3 hV hperm own hsz
  go_enter Try.func35, Try.ntmps35
  go_wp2_with fail
  refine hke.mono ?_
  rintro e w' ⟨rfl, rfl⟩
  go_wp2_with fail
  refine hso.mono ?_
  rintro e w2 ⟨v, ss, rfl, hS, hrow, hnil, hbel⟩
  rw [hres ss hS] at hrow
  have hlen : ss.length = (srt d.ks).length := by rw [hll, ← List.length_map (f := tol), hper', ← hS.length_eq]
  rw [hlen] at hrow
  have k2 : Kp0 w w2 := (k0.then0 k1).then0 (Kp.of_below hbel)
  have hcell : w2.cell? ⟨w.heap.size, 0, none⟩ = some (.string pre) := by
    have := (B0.kp0 (k1.then0 (Kp.of_below hbel))).cell 0
    simpa using this
  have hz0 := B0.lt
  have hz1 := k1.size
  have hfr : ∀ i, v.ownBlock = some i → w.heap.size < i := fun i hi => by
    have := (hrow.lt i hi).1
    omega
  have hd := del73_gen v (srt d.ks) w.heap.size pre w2 hrow hcell (fun e => by have := hfr _ e; omega)
  clear hso hke hS hres hrow
  go_wp2_with fail
  refine hd.mono ?_
  rintro e w3 ⟨A, c, rfl, hsg, k3⟩
  have K : Kp0 w w3 := k2.trans k3 (fun i hi e => by have := hfr i e; omega)
  clear hd k3
  go_wp2
  go_ret
  refine ⟨A, c, ?_, hsg, K⟩
  rw [hlp, List.length_map]; rfl
end Go.Proofs.Ytkokgbmeienokaa
