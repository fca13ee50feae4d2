/- Package disk: what stands against an act; how many bytes there are. -/
import Derived.Test.YtkokgbmeienokaaDk
set_option linter.unusedVariables false
set_option linter.unusedSimpArgs false
namespace Go.Proofs.Ytkokgbmeienokaa
open Go.RowKit
open Classical in
/-- Is one of the paths empty? -/
noncomputable def hasE (ps : List ByteArray) : Bool := decide (({ data := #[] } : ByteArray) ∈ ps)
theorem hasE_yes {ps : List ByteArray} (h : ({ data := #[] } : ByteArray) ∈ ps) : hasE ps = true := by simp [hasE, h]
theorem hasE_no {ps : List ByteArray} (h : ¬ ({ data := #[] } : ByteArray) ∈ ps) : hasE ps = false := by simp [hasE, h]

abbrev es : ByteArray := { data := #[] }
theorem es_of {p : ByteArray} (h : p.data.toList = []) : p = es := by
  cases p with
  | mk d => cases d; simp at h; subst h; rfl

theorem tl_ne {p : ByteArray} (h : p ≠ es) : p.toList.isEmpty = false ∧ (p.toList == []) = false ∧ ¬ p.toList = [] := by
  have h1 : ¬ p.toList = [] := by rw [ByteArray.toList_eq]; exact fun e => h (es_of e)
  exact ⟨by simpa using h1, by simpa using h1, h1⟩
theorem tl_es : es.toList = [] := by rw [ByteArray.toList_eq]

/-- Texts that a slice has. -/
def Ts (w : World) (P : Nat) (ps : List ByteArray) : Prop := P < w.heap.size ∧ ∀ j (h : j < ps.length), w.cell? ⟨P, j, none⟩ = some (.string ps[j])
theorem Ts.kp0 {w w' : World} {P : Nat} {ps : List ByteArray} (h : Ts w P ps) (k : Kp0 w w') : Ts w' P ps :=
  ⟨Nat.lt_of_lt_of_le h.1 k.size, fun j hj => (k.below0.cell (p := ⟨P, j, none⟩) h.1).trans (h.2 j hj)⟩

set_option maxRecDepth 100000 in
theorem index97_c (P c : Nat) (ps : List ByteArray) (hl : ps.length ≤ 1000) (w : World) (h : Ts w P ps) :
    Calls Try.prog 97 #[.slice (some ⟨P, 0, none⟩) ps.length c, .string es] w fun e w' => ∃ i : Int, e = .returned (.int .i64 i) ∧ (decide (0 ≤ i) = hasE ps) ∧ w = w' := by
  go_enter Try.func97, Try.ntmps97
  go_wp2_with fail
  go_loopw [8] (fun i wr => ∃ j : Nat, j ≤ ps.length ∧ i = .int .i64 j ∧ w = wr ∧ ∀ q, q ∈ ps.take j → q ≠ es) (fun i _ => (ps.length - intOf i).toNat)
  case atStart => exact ⟨0, by omega, rfl, rfl, by simp⟩
  case round =>
    obtain ⟨j, hj, rfl, rfl, hno⟩ := hrel
    by_cases hlt : j < ps.length
    · have hc := h.2 j hlt
      have hin := List.getElem_mem hlt
      have htk : ps.take (j + 1) = ps.take j ++ [ps[j]] := List.take_succ_eq_append_getElem hlt
      generalize ps[j] = p at hc hin htk
      by_cases hp : p = es
      · subst hp
        clear h
        go_wp2
        go_ret
        exact ⟨j, rfl, by rw [hasE_yes hin]; exact decide_eq_true (by omega), rfl⟩
      · have HT := Lib.hid htk
        have hno' : ∀ q, q ∈ ps.take (j + 1) → q ≠ es := by
          intro q hq
          rw [htk] at hq
          rcases List.mem_append.1 hq with hq | hq
          · exact hno q hq
          · rw [List.mem_singleton.1 hq]; exact hp
        obtain ⟨h1, h2, h3⟩ := tl_ne hp
        clear h htk hno hin
        go_wp2
        go_roundw
        case rel => exact ⟨j + 1, by omega, by go_num, by simp, hno'⟩
        case measure => simp [intOf]; omega
    · obtain rfl : j = ps.length := by omega
      rw [List.take_length] at hno
      clear h
      go_wp2
      go_ret
      exact ⟨-1, rfl, by rw [hasE_no (fun h => hno _ h rfl)]; rfl, rfl⟩

set_option maxRecDepth 100000 in
theorem contains88_c (P c : Nat) (ps : List ByteArray) (hl : ps.length ≤ 1000) (w : World) (h : Ts w P ps) :
    Calls Try.prog 88 #[.slice (some ⟨P, 0, none⟩) ps.length c, .string es] w fun e w' => e = .returned (.bool (hasE ps)) ∧ w = w' := by
  go_enter Try.func88, Try.ntmps88
  go_wp2_with fail
  refine (index97_c P c ps hl _ h).mono ?_
  rintro e w' ⟨i, rfl, hi, rfl⟩
  have HI := Lib.hid hi
  clear hi
  go_wp2
  go_ret
  exact ⟨by rw [← HI.out]; rfl, rfl⟩

noncomputable def Dk.may (d : Dk) (ps : List ByteArray) : Int := if d.dead = true then 7 else if hasE ps = true then 1 else 0

set_option maxRecDepth 100000 in
theorem may66_c (g n : Nat) (O : Nat → Prop) (d : Dk) (P c : Nat) (ps : List ByteArray) (hl : ps.length ≤ 1000) (w : World) (h : DkAt w g n O d) (ht : Ts w P ps) :
    Calls Try.prog 66 #[.pointer (some ⟨g, 0, none⟩), .slice (some ⟨P, 0, none⟩) ps.length c] w fun e w' => e = .returned (.int .i64 (d.may ps)) ∧ w = w' := by
  obtain ⟨bm, V, h⟩ := h
  have c2 := h.cell.cell 2
  simp at c2
  clear h
  unfold Dk.may
  cases hd : d.dead with
  | true =>
    rw [hd] at c2
    clear hd
    go_enter Try.func66, Try.ntmps66
    go_wp2
    go_ret
    exact ⟨rfl, rfl⟩
  | false =>
    rw [hd] at c2
    clear hd
    cases he : hasE ps with
    | true =>
      have hc := contains88_c P c ps hl w ht
      rw [he] at hc
      clear he
      go_enter Try.func66, Try.ntmps66
      go_wp2_with fail
      refine hc.mono ?_
      rintro e w' ⟨rfl, rfl⟩
      go_wp2
      go_ret
      exact ⟨rfl, rfl⟩
    | false =>
      have hc := contains88_c P c ps hl w ht
      rw [he] at hc
      clear he
      go_enter Try.func66, Try.ntmps66
      go_wp2_with fail
      refine hc.mono ?_
      rintro e w' ⟨rfl, rfl⟩
      go_wp2
      go_ret
      exact ⟨rfl, rfl⟩

noncomputable def Dk.there (d : Dk) (p : ByteArray) : Int := if d.may [p] ≠ 0 then d.may [p] else if (d.F p).isSome then 0 else 3

set_option maxRecDepth 100000 in
theorem there69_c (g n : Nat) (O : Nat → Prop) (d : Dk) (p : ByteArray) (hp : p.size ≤ 100) (w : World) (h : DkAt w g n O d) :
    Calls Try.prog 69 #[.pointer (some ⟨g, 0, none⟩), .string p] w fun e w' => e = .returned (.int .i64 (d.there p)) ∧ Kp0 w w' := by
  have k1 : Kp0 w (w.alloc (.cells #[.string p] 9)) := (Kp.refl _ _).alloc _
  have hT : Ts (w.alloc (.cells #[.string p] 9)) w.heap.size [p] := ⟨by simp, fun j hj => by
    obtain rfl : j = 0 := by simpa using hj
    exact Blk.cell (Blk.new _ _ _) 0⟩
  have hmay := may66_c g n O d w.heap.size 1 [p] (by simp) _ (h.kp0 k1) hT
  obtain ⟨bm, V, h1⟩ := h.kp0 k1
  have c0 := h1.cell.cell 0
  simp at c0
  have hlk := h1.mp.look_ok hp
  have hV : (V p).isSome = (d.F p).isSome := by
    cases hF : d.F p with
    | none => rw [h1.no p hF hp]; rfl
    | some f => obtain ⟨v, e, _⟩ := h1.yes p f hF; rw [e]; rfl
  rw [hV] at hlk
  have hz : ∃ A m c s f, (V p).getD zf = .agg #[.slice A m c, .int .i64 s, .bool f] := by
    cases hF : d.F p with
    | none => rw [h1.no p hF hp]; exact ⟨_, _, _, _, _, rfl⟩
    | some f => obtain ⟨v, e, A, c, e2, _⟩ := h1.yes p f hF; rw [e, e2]; exact ⟨_, _, _, _, _, rfl⟩
  obtain ⟨A, m, c, s, f, hz⟩ := hz
  rw [hz] at hlk
  unfold Dk.there
  clear h1 hV hz h hT
  generalize d.may [p] = e0 at *
  by_cases he : e0 = 0
  · subst he
    generalize (d.F p).isSome = b at *
    cases b with
    | true =>
      go_enter Try.func69, Try.ntmps69
      go_wp2_with fail
      refine hmay.mono ?_
      rintro e w' ⟨rfl, rfl⟩
      go_wp2
      go_ret
      exact ⟨rfl, k1.alloc _⟩
    | false =>
      go_enter Try.func69, Try.ntmps69
      go_wp2_with fail
      refine hmay.mono ?_
      rintro e w' ⟨rfl, rfl⟩
      go_wp2
      go_ret
      exact ⟨rfl, k1.alloc _⟩
  · have he' : (e0 != 0) = true := by rw [bne_iff_ne]; exact he
    have hif : (if e0 ≠ 0 then e0 else if (d.F p).isSome = true then 0 else 3) = e0 := if_pos he
    rw [hif]
    clear hif he
    go_enter Try.func69, Try.ntmps69
    go_wp2_with fail
    refine hmay.mono ?_
    rintro e w' ⟨rfl, rfl⟩
    go_wp2
    go_ret
    exact ⟨rfl, k1⟩
end Go.Proofs.Ytkokgbmeienokaa
