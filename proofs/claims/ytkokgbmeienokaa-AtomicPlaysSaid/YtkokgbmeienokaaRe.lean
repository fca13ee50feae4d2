/- Records: packed, looked at, compared. -/
import Derived.Test.YtkokgbmeienokaaRd
import Derived.Deep.QuietTactic
set_option linter.unusedVariables false
set_option linter.unusedSimpArgs false
namespace Go.Proofs.Ytkokgbmeienokaa
open Go.RowKit

def pk (bs : List Int) : List Int := if bs.length ≤ 200 then (bs.length : Int) :: (bs ++ [165]) else []
theorem pk_byt {bs : List Int} (h : ∀ c ∈ bs, 0 ≤ c ∧ c ≤ 255) : ∀ c ∈ pk bs, 0 ≤ c ∧ c ≤ 255 := by
  unfold pk
  split
  · intro c hc
    simp only [List.mem_cons, List.mem_append, List.mem_singleton, List.not_mem_nil, or_false] at hc
    rcases hc with rfl | hc | rfl
    · omega
    · exact h c hc
    · omega
  · simp

theorem one_bz {w : World} {B : Nat} {x : Int} {T : TypeId} (h : Blk w B #[.int .u8 x] T) (hx : 0 ≤ x ∧ x ≤ 255) : Bz w (some ⟨B, 0, none⟩) 1 [x] :=
  .inl ⟨.inr ⟨B, 0, rfl, Vw.of_blk h, h.lt⟩, by simpa using hx⟩

set_option maxRecDepth 100000 in
set_option maxHeartbeats 1000000 in
theorem pack_c (a : Option Addr) (cap : Nat) (bs : List Int) (w : World) (hr : Bz w a cap bs) (hl : bs.length ≤ 140737488355320) :
    Calls Try.prog 56 #[.slice a bs.length cap] w fun e w' => Fr w w' e (pk bs) := by
  by_cases h2 : bs.length ≤ 200
  · have hpk : pk bs = [[(bs.length : Int)], bs, [165]].flatten := by unfold pk; rw [if_pos h2]; simp
    have h3 : ¬ (200 : Int) < bs.length := by omega
    have h4 : IntKind.u8.wrap (bs.length : Int) = bs.length := by rw [IntKind.wrap_u8]; omega
    have hP : Parts (((w.alloc (.cells #[.int .u8 (bs.length : Int)] 5)).alloc (.cells #[.int .u8 165] 5)).alloc (.cells #[.slice (some ⟨w.heap.size, 0, none⟩) 1 1, .slice a bs.length cap, .slice (some ⟨w.heap.size + 1, 0, none⟩) 1 1] 22)) (w.heap.size + 1 + 1) [[(bs.length : Int)], bs, [165]] := by
      have k1 : Kp0 w (w.alloc (.cells #[.int .u8 (bs.length : Int)] 5)) := (Kp.refl _ _).alloc _
      have k2 : Kp0 (w.alloc (.cells #[.int .u8 (bs.length : Int)] 5)) ((w.alloc (.cells #[.int .u8 (bs.length : Int)] 5)).alloc (.cells #[.int .u8 165] 5)) := (Kp.refl _ _).alloc _
      have k3 : Kp0 ((w.alloc (.cells #[.int .u8 (bs.length : Int)] 5)).alloc (.cells #[.int .u8 165] 5)) (((w.alloc (.cells #[.int .u8 (bs.length : Int)] 5)).alloc (.cells #[.int .u8 165] 5)).alloc (.cells #[.slice (some ⟨w.heap.size, 0, none⟩) 1 1, .slice a bs.length cap, .slice (some ⟨w.heap.size + 1, 0, none⟩) 1 1] 22)) := (Kp.refl _ _).alloc _
      have b1 : Blk (w.alloc (.cells #[.int .u8 (bs.length : Int)] 5)) w.heap.size #[.int .u8 (bs.length : Int)] 5 := blk_new _ _ rfl
      have b2 : Blk ((w.alloc (.cells #[.int .u8 (bs.length : Int)] 5)).alloc (.cells #[.int .u8 165] 5)) (w.heap.size + 1) #[.int .u8 165] 5 := blk_new _ _ (by simp)
      have b3 : Blk (((w.alloc (.cells #[.int .u8 (bs.length : Int)] 5)).alloc (.cells #[.int .u8 165] 5)).alloc (.cells #[.slice (some ⟨w.heap.size, 0, none⟩) 1 1, .slice a bs.length cap, .slice (some ⟨w.heap.size + 1, 0, none⟩) 1 1] 22)) (w.heap.size + 1 + 1) #[.slice (some ⟨w.heap.size, 0, none⟩) 1 1, .slice a bs.length cap, .slice (some ⟨w.heap.size + 1, 0, none⟩) 1 1] 22 := blk_new _ _ (by simp)
      intro j hj
      obtain rfl | rfl | rfl : j = 0 ∨ j = 1 ∨ j = 2 := by simp at hj; omega
      · exact ⟨_, _, b3.cell 0, one_bz ((b1.kp0 k2).kp0 k3) (by omega), b3.lt⟩
      · exact ⟨_, _, b3.cell 1, ((hr.kp0 k1).kp0 k2).kp0 k3, b3.lt⟩
      · exact ⟨_, _, b3.cell 2, one_bz (b2.kp0 k3) (by omega), b3.lt⟩
    have hc := concat_c (w.heap.size + 1 + 1) 3 [[(bs.length : Int)], bs, [165]] (by simp) (by simp; omega) _ hP
    rw [← hpk] at hc
    clear hpk hP
    go_enter Try.func56, Try.ntmps56
    go_wp2_with fail
    refine hc.mono ?_
    rintro e w1 ⟨A, c, rfl, o1, k1, f1⟩
    go_wp2
    go_ret
    exact ⟨A, c, rfl, o1, (((Kp.refl _ _).alloc _).alloc _).alloc _ |>.then0 k1, fun i hi => by have := f1 i hi; simp at this; omega⟩
  · have hpk : pk bs = [] := by unfold pk; rw [if_neg h2]
    rw [hpk]
    have h3 : (200 : Int) < bs.length := by omega
    go_enter Try.func56, Try.ntmps56
    go_wp2
    go_ret
    exact ⟨none, 0, rfl, World.ownsRow_nil _ _ _ _, Kp.refl _ _, by simp [Value.ownBlock]⟩

theorem own_one {w : World} {B : Nat} {u : Value} {T : TypeId} (h : Blk w B #[u] T) : w.ownsRow 0 T 1 (.slice (some ⟨B, 0, none⟩) 1 1) 1 [u] :=
  ⟨by simp, .inr ⟨B, 1, #[u], rfl, Nat.zero_le _, h, Nat.le_refl _, by unfold maxLen; omega, by simp, by simp⟩⟩

set_option maxRecDepth 100000 in
set_option maxHeartbeats 1000000 in
theorem record_c (a : Option Addr) (cap : Nat) (bs : List Int) (w : World) (hr : Bz w a cap bs) (hl : bs.length ≤ 140737488355320) :
    Calls Try.prog 60 #[.slice a bs.length cap] w fun e w' => Fr w w' e (pk bs) := by
  by_cases h2 : bs.length ≤ 200
  · have hpk : pk bs = [(bs.length : Int)] ++ bs ++ [165] := by unfold pk; rw [if_pos h2]; simp
    have hpl : (pk bs).length = 1 + bs.length + 1 := by rw [hpk]; simp; omega
    have h3 : ¬ (200 : Int) < bs.length := by omega
    have h4 : IntKind.u8.wrap (bs.length : Int) = bs.length := by rw [IntKind.wrap_u8]; omega
    have k1 : Kp0 w (w.alloc (.cells #[.int .u8 (bs.length : Int)] 5)) := (Kp.refl _ _).alloc _
    have o1 := own_one (w := w.alloc (.cells #[.int .u8 (bs.length : Int)] 5)) (B := w.heap.size) (T := 5) (blk_new _ _ rfl)
    have hr1 := hr.kp0 k1
    have HP := Lib.hid hpk
    have HL := Lib.hid hpl
    clear hpk hpl
    go_enter Try.func60, Try.ntmps60
    go_wp2_with (at_builtin; refine app_any rfl (.tmp 9) (.tmp 10) rfl (.slice (some ⟨w.heap.size, 0, none⟩) 1 1) 1 [.int .u8 (bs.length : Int)] rfl a bs.length cap bs rfl rfl hr1 o1 (by omega) ?_)
    intro v3 w3 o3 k3 b3
    obtain ⟨A3, c3, rfl⟩ := own_sl o3
    have K3 : Kp0 w w3 := k1.trans k3 (fun i hi h => by simp [Value.ownBlock] at h; omega)
    have f3 : ∀ i, (Value.slice A3 (1 + bs.length) c3).ownBlock = some i → w.heap.size ≤ i := by
      intro i hi
      rcases b3 with b3 | b3
      · rw [b3] at hi; simp [Value.ownBlock] at hi; omega
      · rw [b3] at hi; simp at hi; omega
    have k4 : Kp0 w3 (w3.alloc (.cells #[.int .u8 165] 5)) := (Kp.refl _ _).alloc _
    have o4 := own_kp o3 k4 (fun _ _ x => x)
    have z4 := one_bz (w := w3.alloc (.cells #[.int .u8 165] 5)) (B := w3.heap.size) (x := 165) (T := 5) (blk_new _ _ rfl) (by omega)
    clear o1 hr1 k3 b3 o3
    go_wp2_with (at_builtin; refine app_any rfl (.tmp 11) (.tmp 12) rfl (.slice A3 (1 + bs.length) c3) (1 + bs.length) _ rfl (some ⟨w3.heap.size, 0, none⟩) 1 1 [165] rfl rfl z4 o4 (by omega) ?_)
    intro v5 w5 o5 k5 b5
    obtain ⟨A5, c5, rfl⟩ := own_sl o5
    have K5 : Kp0 w w5 := (K3.then0 k4).trans k5 (fun i hi h => by have := f3 i h; omega)
    have f5 : ∀ i, (Value.slice A5 (1 + bs.length + 1) c5).ownBlock = some i → w.heap.size ≤ i := by
      intro i hi
      rcases b5 with b5 | b5
      · exact f3 i (b5 ▸ hi)
      · rw [b5] at hi; simp at hi; have := K3.size; omega
    clear k5 b5 o4 z4
    go_wp2
    go_ret
    exact ⟨A5, c5, by rw [HL.out]; rfl, by rw [HL.out, HP.out]; simpa [u8s] using o5, K5, by rw [HL.out]; exact f5⟩
  · have hpk : pk bs = [] := by unfold pk; rw [if_neg h2]
    rw [hpk]
    have h3 : (200 : Int) < bs.length := by omega
    go_enter Try.func60, Try.ntmps60
    go_wp2
    go_ret
    exact ⟨none, 0, rfl, World.ownsRow_nil _ _ _ _, Kp.refl _ _, by simp [Value.ownBlock]⟩

/-- How many bytes the first record has. -/
def wh (bs : List Int) : Nat := if bs = [] ∨ 200 < bs.headD 0 ∨ bs.length < (bs.headD 0).toNat + 2 ∨ bs.getD ((bs.headD 0).toNat + 1) 0 ≠ 165 then 0 else (bs.headD 0).toNat + 2

theorem wh_no {bs : List Int} (h : bs = [] ∨ 200 < bs.headD 0 ∨ bs.length < (bs.headD 0).toNat + 2 ∨ bs.getD ((bs.headD 0).toNat + 1) 0 ≠ 165) : wh bs = 0 := by unfold wh; rw [if_pos h]

set_option maxRecDepth 100000 in
set_option maxHeartbeats 1000000 in
theorem whole_c (a : Option Addr) (cap : Nat) (bs : List Int) (w : World) (hr : Bz w a cap bs) (hl : bs.length ≤ 140737488355320) :
    Calls Try.prog 87 #[.slice a bs.length cap] w fun e w' => e = .returned (.int .i64 (wh bs : Nat)) ∧ w = w' := by
  rcases Nat.eq_zero_or_pos bs.length with h0 | h0
  · rw [wh_no (.inl (List.length_eq_zero_iff.1 h0)), h0]
    go_enter Try.func87, Try.ntmps87
    go_wp2
    go_ret
    exact ⟨rfl, rfl⟩
  · obtain ⟨B, off, rfl, hV, hB⟩ : ∃ B off, a = some ⟨B, off, none⟩ ∧ Vw w B off (u8s bs) ∧ B < w.heap.size := by
      rcases hr with ⟨⟨_, _, rfl⟩ | h, _⟩ | ⟨rfl, _⟩
      · simp at h0
      · exact h
      · simp at h0
    have hb := hr.byt
    clear hr
    obtain ⟨x, r, rfl⟩ : ∃ x r, bs = x :: r := by
      cases bs with
      | nil => simp at h0
      | cons x r => exact ⟨x, r, rfl⟩
    obtain ⟨n, rfl⟩ : ∃ n : Nat, x = n := ⟨x.toNat, by have := hb x (by simp); omega⟩
    have hn := hb n (by simp)
    have c0 : w.cell? ⟨B, off, none⟩ = some (.int .u8 (n : Int)) := by simpa using hV 0 (.int .u8 n) rfl
    have hhd : ((n : Int) :: r).headD 0 = n := rfl
    have hz : ((((n : Int) :: r).length : Int) == 0) = false := by rw [beq_eq_false_iff_ne]; simp; omega
    by_cases h1 : 200 < (n : Int)
    · rw [wh_no (bs := (n : Int) :: r) (.inr (.inl h1))]
      clear hV hb
      generalize ((n : Int) :: r).length = len at *
      go_enter Try.func87, Try.ntmps87
      go_wp2
      go_ret
      exact ⟨rfl, rfl⟩
    · by_cases h2 : ((n : Int) :: r).length < n + 2
      · rw [wh_no (bs := (n : Int) :: r) (.inr (.inr (.inl (by rw [hhd, Int.toNat_natCast]; exact h2))))]
        clear hV hb
        generalize ((n : Int) :: r).length = len at *
        have h2' : (len : Int) < (n : Int) + 2 := by omega
        go_enter Try.func87, Try.ntmps87
        go_wp2
        go_ret
        exact ⟨rfl, rfl⟩
      · have hg : ((n : Int) :: r)[n + 1]? = some (((n : Int) :: r).getD (n + 1) 0) := by rw [List.getD_eq_getElem?_getD, List.getElem?_eq_getElem (by omega)]; rfl
        have c1 := hV (n + 1) (.int .u8 (((n : Int) :: r).getD (n + 1) 0)) (by rw [List.getElem?_map, hg]; rfl)
        have hwh : wh ((n : Int) :: r) = if ((n : Int) :: r).getD (n + 1) 0 ≠ 165 then 0 else n + 2 := by
          unfold wh
          rw [hhd, Int.toNat_natCast]
          by_cases h5 : ((n : Int) :: r).getD (n + 1) 0 ≠ 165
          · rw [if_pos h5, if_pos (.inr (.inr (.inr h5)))]
          · rw [if_neg h5, if_neg]
            rintro (h | h | h | h)
            · cases h
            · exact h1 h
            · exact h2 h
            · exact h5 h
        rw [hwh]
        clear hV hb hg hwh hhd
        generalize ((n : Int) :: r).getD (n + 1) 0 = y at *
        generalize ((n : Int) :: r).length = len at *
        have h2' : ¬ (len : Int) < (n : Int) + 2 := by omega
        have w1 : IntKind.i64.wrap ((n : Int) + 2 - 1) = ((n + 1 : Nat) : Int) := by rw [IntKind.wrap_i64]; omega
        by_cases h5 : y = 165
        · subst h5
          rw [if_neg (by simp)]
          go_enter Try.func87, Try.ntmps87
          go_wp2
          go_ret
          exact ⟨rfl, rfl⟩
        · rw [if_pos h5]
          have h5' : (y != 165) = true := by rw [bne_iff_ne]; exact h5
          go_enter Try.func87, Try.ntmps87
          go_wp2
          go_ret
          exact ⟨rfl, rfl⟩
end Go.Proofs.Ytkokgbmeienokaa
