/- Contracts of package code's Reader: texts, and the rest. -/
import Derived.Test.YtnlkkcpcjeeplaaCd
import Derived.Laws.BytesString
import Derived.Laws.Cells
set_option linter.unusedVariables false
set_option linter.unusedSimpArgs false
namespace Go.Proofs.Ytnlkkcpcjeeplaa
open Go.RowKit

def mkStr (l : List Int) : ByteArray := l.foldl (fun r n => r.push (UInt8.ofNat n.toNat)) ByteArray.empty
def txtR (bs : List Int) (bad : Bool) : ByteArray × List Int × Bool :=
  if (numR bs bad).2.2 = true then (ByteArray.empty, [], true)
  else if 200 < (numR bs bad).1 ∨ ((numR bs bad).2.1.length : Int) < (numR bs bad).1 then (ByteArray.empty, [], true)
  else (mkStr ((numR bs bad).2.1.take (numR bs bad).1.toNat), (numR bs bad).2.1.drop (numR bs bad).1.toNat, false)

theorem nb_range : ∀ (bs : List Int) (k : Nat) (n : Int), (∀ c ∈ bs, 0 ≤ c ∧ c ≤ 255) → 0 ≤ n → ∀ v j, nb bs k n = some (v, j) → 0 ≤ v
  | [], _, _, _, _, _, _, h => by simp [nb] at h
  | c :: r, k, n, hb, hn, v, j, h => by
    rw [nb] at h
    have hp : (0 : Int) ≤ 2 ^ (7 * k) := Int.le_of_lt (Int.pow_pos (by decide))
    have hm := Int.emod_nonneg c (show (128 : Int) ≠ 0 by decide)
    have hN : 0 ≤ n + c % 128 * 2 ^ (7 * k) := by have := Int.mul_nonneg hm hp; omega
    split at h
    · cases h
    · split at h
      · exact nb_range r _ _ (fun c hc => hb c (List.mem_cons_of_mem _ hc)) hN v j h
      · split at h
        · cases h
        · obtain ⟨rfl, _⟩ := Prod.mk.inj (Option.some.inj h)
          exact hN

theorem num_range {bs : List Int} {bad : Bool} (hb : ∀ c ∈ bs, 0 ≤ c ∧ c ≤ 255) : 0 ≤ (numR bs bad).1 := by
  unfold numR
  split
  · decide
  · split
    · decide
    · rename_i v k h
      exact nb_range bs 0 0 hb (by decide) v k h

theorem conv_str {w : World} {B off n cap : Nat} {ns : List Int} (h : Vw w B off (ns.map (.int .u8 ·))) (hn : ns.length = n) :
    (Conv.bytesToString (.slice (some ⟨B, off, none⟩) n cap)).run Try.prog w = .ok (.string (mkStr ns)) w := by
  subst hn
  have := run_loadCells_list (P := Try.prog) w ⟨B, off, none⟩ (ns.map (.int .u8 ·)) h.add
  rw [List.length_map] at this
  exact run_bytesToString w _ _ _ _ this

set_option maxRecDepth 100000 in
set_option maxHeartbeats 4000000 in
theorem text_c (g : Nat) (bs : List Int) (bad : Bool) (w : World) (h : RrAt w g 112 bs bad) :
    Calls Try.prog 29 #[.pointer (some ⟨g, 0, none⟩)] w fun e w' => e = .returned (.string (txtR bs bad).1) ∧ RrAt w' g 112 (txtR bs bad).2.1 (txtR bs bad).2.2 ∧ Kp (· = g) w w' := by
  have hv0 : 0 ≤ (numR bs bad).1 := num_range (by obtain ⟨_, _, _, _, _, _, hb⟩ := h; exact hb)
  go_enter Try.func29, Try.ntmps29
  go_wp2_with fail
  refine (number_c g bs bad _ h).mono ?_
  rintro e w1 ⟨rfl, h1, k1⟩
  have ht : txtR bs bad = txtR bs bad := rfl
  conv at ht => rhs; unfold txtR
  generalize numR bs bad = nr at *
  obtain ⟨v, r, bd⟩ := nr
  simp only at *
  have h10 := h1
  obtain ⟨a, cap, hB, hc, hm, hv, hb⟩ := h1
  have c0 := Blk.cell hB 0
  have c1 := Blk.cell hB 1
  have f0 := Blk.free hB 0
  simp at c0 c1
  cases bd with
  | true =>
    rw [if_pos rfl] at ht
    go_wp2_with fail
    refine (fail_c g _ _ _ h10).mono ?_
    rintro e w2 ⟨rfl, h2, k2⟩
    go_wp2
    go_ret
    rw [ht]
    exact ⟨rfl, h2, k1.trans k2 (fun i _ x => x)⟩
  | false =>
    rw [if_neg (by decide)] at ht
    by_cases hg : 200 < v ∨ (r.length : Int) < v
    · rw [if_pos hg] at ht
      by_cases hg1 : 200 < v
      · go_wp2_with fail
        refine (fail_c g _ _ _ h10).mono ?_
        rintro e w2 ⟨rfl, h2, k2⟩
        go_wp2
        go_ret
        rw [ht]
        exact ⟨rfl, h2, k1.trans k2 (fun i _ x => x)⟩
      · have hg2 : (r.length : Int) < v := hg.resolve_left hg1
        go_wp2_with fail
        refine (fail_c g _ _ _ h10).mono ?_
        rintro e w2 ⟨rfl, h2, k2⟩
        go_wp2
        go_ret
        rw [ht]
        exact ⟨rfl, h2, k1.trans k2 (fun i _ x => x)⟩
    · rw [if_neg hg] at ht
      have hg1 : ¬ 200 < v := fun x => hg (.inl x)
      have hg2 : ¬ (r.length : Int) < v := fun x => hg (.inr x)
      obtain ⟨m, rfl⟩ := Int.eq_ofNat_of_zero_le hv0
      simp only [Int.toNat_natCast] at ht
      clear hg h10 hv0
      rcases hv with ⟨rfl, rfl, rfl⟩ | ⟨B, off, rfl, hV, hBs, hBg⟩
      · have hm0 : m = 0 := by simp at hg2; omega
        subst hm0
        have hcv : (convert 23 9 (.slice none 0 0)).run Try.prog w1 = .ok (.string ByteArray.empty) w1 := by rw [run_convert_bytes_string _ 23 9 5 none 0 0 rfl rfl rfl]; rfl
        go_wp2
        all_goals
          go_ret
          try rw [ht]
          exact ⟨rfl, ⟨none, 0, by simpa using hB.set 0 (.slice none 0 0), by simp, by simp, .inl ⟨rfl, rfl, rfl⟩, by simp⟩, k1.trans ((Kp.self g w1).put 0 _) (fun i _ x => x)⟩
      · have hcv := conv_str (n := m) (cap := cap) (ns := r.take m) (by rw [List.map_take]; exact hV.take m) (by rw [List.length_take]; omega)
        have hcv1 : (convert 23 9 (.slice (some ⟨B, off, none⟩) m cap)).run Try.prog w1 = .ok (.string (mkStr (r.take m))) w1 := by rw [run_convert_bytes_string _ 23 9 5 _ m cap rfl rfl rfl]; exact hcv
        clear hcv
        go_wp2
        all_goals
          go_ret
          try rw [ht]
          first | exact ⟨rfl, rr_end (bd := undef) hB hV hBg hBs hc hm hb m (by omega), k1.trans ((Kp.self g w1).put 0 _) (fun i _ x => x)⟩ | exact ⟨rfl, rr_end0 hB hBg hBs m 0 (by omega), k1.trans ((Kp.self g w1).put 0 _) (fun i _ x => x)⟩

theorem bad_c (g : Nat) (bs : List Int) (bad : Bool) (w : World) (h : RrAt w g 112 bs bad) :
    Calls Try.prog 33 #[.pointer (some ⟨g, 0, none⟩)] w fun e w' => e = .returned (.bool bad) ∧ w = w' := by
  obtain ⟨a, cap, hB, _⟩ := h
  have c1 := Blk.cell hB 1
  simp at c1
  go_enter Try.func33, Try.ntmps33
  go_wp2
  go_ret
  exact ⟨rfl, rfl⟩

theorem done_c (g : Nat) (bs : List Int) (bad : Bool) (w : World) (h : RrAt w g 112 bs bad) :
    Calls Try.prog 31 #[.pointer (some ⟨g, 0, none⟩)] w fun e w' => e = .returned (.bool (!bad && (bs.length == 0))) ∧ w = w' := by
  obtain ⟨a, cap, hB, _⟩ := h
  have c0 := Blk.cell hB 0
  have c1 := Blk.cell hB 1
  simp at c0 c1
  cases bad with
  | true =>
    go_enter Try.func31, Try.ntmps31
    go_wp2
    go_ret
    exact ⟨rfl, rfl⟩
  | false =>
    go_enter Try.func31, Try.ntmps31
    go_wp2
    go_ret
    exact ⟨by congr 2; cases bs <;> simp <;> omega, rfl⟩

/-- Bytes that a slice holds. -/
def Br (w : World) (a : Option Addr) (cap : Nat) (bs : List Int) : Prop :=
  ((a = none ∧ cap = 0 ∧ bs = []) ∨ ∃ B off, a = some ⟨B, off, none⟩ ∧ Vw w B off (bs.map (.int .u8 ·)) ∧ B < w.heap.size) ∧ ∀ c ∈ bs, 0 ≤ c ∧ c ≤ 255

theorem rr_new {w1 w2 : World} {g : Nat} {v : Value} {bs : List Int} (o : w1.ownsRow 0 5 1 v bs.length (bs.map (.int .u8 ·))) (k : Kp0 w1 w2) (hb : ∀ c ∈ bs, 0 ≤ c ∧ c ≤ 255) (h : Blk w2 g #[v, .bool false] 112) (hg : w1.heap.size ≤ g) : RrAt w2 g 112 bs false := by
  rcases own_shape o with ⟨rfl, hn, _⟩ | ⟨r, cap, rfl, h1, h2, h3, _⟩
  · have : bs = [] := List.eq_nil_of_length_eq_zero hn
    subst this
    exact ⟨none, 0, by simpa using h, by simp, by simp, .inl ⟨rfl, rfl, rfl⟩, hb⟩
  · exact ⟨some ⟨r, 0, none⟩, cap, h, h1, h2, .inr ⟨r, 0, rfl, (Vw.of_own o).kp0 k h3, Nat.lt_of_lt_of_le h3 k.size, by omega⟩, hb⟩

set_option maxRecDepth 100000 in
theorem new_c (a : Option Addr) (cap : Nat) (bs : List Int) (w : World) (hr : Br w a cap bs) (hl : bs.length ≤ 100000) :
    Calls Try.prog 25 #[.slice a bs.length cap] w fun e w' => ∃ g, e = .returned (.pointer (some ⟨g, 0, none⟩)) ∧ w.heap.size ≤ g ∧ RrAt w' g 112 bs false ∧ Kp0 w w' := by
  obtain ⟨hr, hb⟩ := hr
  rcases hr with ⟨rfl, rfl, rfl⟩ | ⟨B, off, rfl, hV, hB⟩
  · go_enter Try.func25, Try.ntmps25
    go_wp2
    go_ret
    exact ⟨_, rfl, Nat.le_refl _, rr_new (w1 := w) (World.ownsRow_nil _ _ _ _) (Kp.alloc (Kp.refl _ _) _) hb (Blk.new _ _ _) (Nat.le_refl _), Kp.alloc (Kp.refl _ _) _⟩
  · go_enter Try.func25, Try.ntmps25
    go_wp2_with (at_builtin; refine list_app rfl _ _ 23 5 (.int .u8 0) 1 1 rfl rfl rfl rfl (by decide) (.slice none 0 0) 0 [] rfl B off bs.length cap (bs.map (.int .u8 ·)) rfl (by simp) (by intro u hu; obtain ⟨c, _, rfl⟩ := List.mem_map.1 hu; rfl) hV (World.ownsRow_nil _ _ _ _) (by omega) (by omega) ?_)
    intro v3 w3 o3 k3 b3
    have k3' : Kp0 w w3 := (Kp.refl (fun _ => False) _).trans k3 (fun i _ h => by simp [Value.ownBlock] at h)
    try simp only [Nat.zero_add, List.nil_append] at o3
    obtain ⟨A3, n3, c3, rfl⟩ : ∃ A n c, v3 = .slice A n c := by rcases own_shape o3 with ⟨rfl, _⟩ | ⟨_, _, rfl, _⟩ <;> exact ⟨_, _, _, rfl⟩
    go_wp2
    go_ret
    exact ⟨_, rfl, k3'.size, rr_new o3 (Kp.alloc (Kp.refl _ _) _) hb (Blk.new _ _ _) (Nat.le_refl _), k3'.alloc _⟩
end Go.Proofs.Ytnlkkcpcjeeplaa
