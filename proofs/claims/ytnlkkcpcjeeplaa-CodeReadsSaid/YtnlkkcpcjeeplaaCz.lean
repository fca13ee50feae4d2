/- The reference's written bytes; two readers, lent bytes, kept beside each other. -/
import Derived.Test.YtnlkkcpcjeeplaaCs
import Derived.Test.YtnlkkcpcjeeplaaCq
import Derived.Test.YtnlkkcpcjeeplaaCy
import Derived.Test.YtnlkkcpcjeeplaaPCodeReadsx
set_option linter.unusedVariables false
set_option linter.unusedSimpArgs false
namespace Go.Proofs.Ytnlkkcpcjeeplaa
open Go.RowKit
open Go.Proofs.YtnlkkcpcjeeplaaW.PrintWords Go.Proofs.YtnlkkcpcjeeplaaW.PrintLast

theorem rl0 (k : Nat) : ∀ (K : Nat) (n : Int) (l : List Int), 0 ≤ n → n < 128 ^ (k + 1) → k ≤ 4 → l.length + k ≤ 8 → k < K → (∀ c ∈ l, 0 ≤ c ∧ c ≤ 255) →
    ∃ r, PCodeReads.hostlerref01_Number.l0 K n l = some r ∧ r.length ≤ l.length + k + 1 ∧ 0 < r.length ∧ ∀ c ∈ r, 0 ≤ c ∧ c ≤ 255 := by
  have fin : ∀ (n : Int) (l : List Int), (∀ c ∈ l, 0 ≤ c ∧ c ≤ 255) → ∀ c ∈ l ++ [n % 256], 0 ≤ c ∧ c ≤ 255 := by
    intro n l hl c hc
    rcases List.mem_append.1 hc with hc | hc
    · exact hl c hc
    · rw [List.mem_singleton] at hc; omega
  induction k with
  | zero =>
    intro K n l h0 h1 _ hl hK hb
    obtain ⟨K, rfl⟩ : ∃ j, K = j + 1 := ⟨K - 1, by omega⟩
    refine ⟨l ++ [n % 256], ?_, by simp, by simp, fin n l hb⟩
    rw [PCodeReads.hostlerref01_Number.l0, if_neg (by simp at h1; omega), if_pos (by omega)]
  | succ k ih =>
    intro K n l h0 h1 hk hl hK hb
    obtain ⟨K, rfl⟩ : ∃ j, K = j + 1 := ⟨K - 1, by omega⟩
    by_cases hn : n ≥ 128
    · rw [PCodeReads.hostlerref01_Number.l0, if_pos hn, if_pos (by omega)]
      have e : Int.tdiv n 128 = n / 128 := Int.tdiv_eq_ediv_of_nonneg h0
      have hb2 : n < 128 * 128 ^ (k + 1) := by rw [Int.pow_succ] at h1; omega
      have h128 : (128 : Int) ^ (k + 1) ≤ 34359738368 := by
        have : k = 0 ∨ k = 1 ∨ k = 2 ∨ k = 3 := by omega
        rcases this with rfl | rfl | rfl | rfl <;> decide
      have ew : wrap64 (Int.tdiv n 128) = n / 128 := by rw [e]; unfold wrap64; omega
      rw [ew]
      obtain ⟨r, e1, e2, e3, e4⟩ := ih K (n / 128) (l ++ [(wrap64 ((Int.tmod n 128) + 128)) % 256]) (by omega) (by omega) (by omega) (by simp; omega) (by omega) (fin _ l hb)
      exact ⟨r, e1, by simp at e2; omega, e3, e4⟩
    · refine ⟨l ++ [n % 256], ?_, by simp, by simp, fin n l hb⟩
      rw [PCodeReads.hostlerref01_Number.l0, if_neg hn, if_pos (by omega)]

theorem rnumW (n : Int) (h0 : 0 ≤ n) (h1 : n < 34359738368) : ∃ r, PCodeReads.hostlerref01_Number.f 10 n = some r ∧ r.length ≤ 5 ∧ 0 < r.length ∧ ∀ c ∈ r, 0 ≤ c ∧ c ≤ 255 := by
  obtain ⟨r, e1, e2, e3, e4⟩ := rl0 4 9 n [] h0 (by rw [show (128 : Int) ^ (4 + 1) = 34359738368 from rfl]; omega) (by omega) (by simp) (by omega) (by simp)
  refine ⟨r, ?_, by simpa using e2, e3, e4⟩
  rw [PCodeReads.hostlerref01_Number.f, if_neg (by omega), decide_eq_false (by omega)]
  simp only [PCodeReads.hostlerref01_Number.j0]
  exact e1

theorem rtxtW (s : ByteArray) (h : s.size ≤ 40) : ∃ r, PCodeReads.hostlerref01_Text.f 10 s = some r ∧ r.length ≤ 45 ∧ 0 < r.length ∧ ∀ c ∈ r, 0 ≤ c ∧ c ≤ 255 := by
  obtain ⟨r, e1, e2, e3, e4⟩ := rnumW (s.size : Int) (by omega) (by omega)
  refine ⟨r ++ bytesOf s, ?_, by rw [List.length_append, bytesOf_length]; omega, by rw [List.length_append]; omega, ?_⟩
  · rw [PCodeReads.hostlerref01_Text.f, if_neg (by omega), e1]
    have : r.length + s.size < 140737488355328 := by omega
    simp [this]
  · intro c hc
    rcases List.mem_append.1 hc with hc | hc
    · exact e4 c hc
    · obtain ⟨b, _, rfl⟩ := List.mem_map.1 hc
      have := b.toNat_lt
      omega

theorem refnum_c (n : Int) (w : World) (h0 : 0 ≤ n) (h1 : n < 34359738368) :
    Calls Try.prog 18 #[.int .i64 n] w fun e w' => ∃ (r : List Int) (g c : Nat), e = .returned (.slice (some ⟨g, 0, none⟩) r.length c) ∧ r.length ≤ 5 ∧ (∀ c ∈ r, 0 ≤ c ∧ c ≤ 255) ∧ Vw w' g 0 (r.map (.int .u8 ·)) ∧ Kp0 w w' := by
  obtain ⟨r, e1, e2, e3, e4⟩ := rnumW n h0 h1
  refine (row_c (R := fun _ _ => True) (PCodeReads.hostlerref01_Number.calls 10 n r w e1)).mono ?_
  rintro e w' ⟨A, c, rfl, o, k, _⟩
  obtain ⟨g, c', he, _⟩ := own_some o e3
  injection he with hA hn hc
  subst hA
  exact ⟨r, g, c, rfl, e2, e4, Vw.of_own o, k⟩

theorem reftxt_c (s : ByteArray) (w : World) (h : s.size ≤ 40) :
    Calls Try.prog 20 #[.string s] w fun e w' => ∃ (r : List Int) (g c : Nat), e = .returned (.slice (some ⟨g, 0, none⟩) r.length c) ∧ r.length ≤ 45 ∧ (∀ c ∈ r, 0 ≤ c ∧ c ≤ 255) ∧ Vw w' g 0 (r.map (.int .u8 ·)) ∧ Kp0 w w' := by
  obtain ⟨r, e1, e2, e3, e4⟩ := rtxtW s h
  refine (row_c (R := fun _ _ => True) (PCodeReads.hostlerref01_Text.calls 10 s r w e1)).mono ?_
  rintro e w' ⟨A, c, rfl, o, k, _⟩
  obtain ⟨g, c', he, _⟩ := own_some o e3
  injection he with hA hn hc
  subst hA
  exact ⟨r, g, c, rfl, e2, e4, Vw.of_own o, k⟩

theorem keepText40_c (s : ByteArray) (w : World) :
    Calls Try.prog 22 #[.string s, .int .i64 40] w fun e w' => ∃ r : ByteArray, r.size ≤ 40 ∧ e = .returned (.string r) ∧ Kp0 w w' := by
  have hm : 0 ≤ mn (s.size : Int) 40 ∧ mn (s.size : Int) 40 ≤ (s.size : Int) ∧ mn (s.size : Int) 40 ≤ 40 := by unfold mn; omega
  have h : PCodeReads.hostlerkeep_Text.f s 40 = some (s.extract 0 (mn (s.size : Int) 40).toNat) := by
    rw [PCodeReads.hostlerkeep_Text.f, if_pos hm.1, if_pos hm.2.1]
  exact (PCodeReads.hostlerkeep_Text.calls s 40 _ w h).mono fun e w' hh => ⟨_, by rw [ByteArray.size_extract]; omega, hh.1, Kp.of_below hh.2⟩

theorem rr_newT {w1 w2 : World} {g T : Nat} {v : Value} {bs : List Int} (o : w1.ownsRow 0 5 1 v bs.length (bs.map (.int .u8 ·))) (k : Kp0 w1 w2) (hb : ∀ c ∈ bs, 0 ≤ c ∧ c ≤ 255) (h : Blk w2 g #[v, .bool false] T) (hg : w1.heap.size ≤ g) : RrAt w2 g T bs false := by
  rcases own_shape o with ⟨rfl, hn, _⟩ | ⟨r, cap, rfl, h1, h2, h3, _⟩
  · have : bs = [] := List.eq_nil_of_length_eq_zero hn
    subst this
    exact ⟨none, 0, by simpa using h, by simp, by simp, .inl ⟨rfl, rfl, rfl⟩, hb⟩
  · exact ⟨some ⟨r, 0, none⟩, cap, h, h1, h2, .inr ⟨r, 0, rfl, (Vw.of_own o).kp0 k h3, Nat.lt_of_lt_of_le h3 k.size, by omega⟩, hb⟩

theorem br_ownO {w : World} {A : Option Addr} {c : Nat} {bs : List Int} (h : w.ownsRow 0 5 1 (.slice A bs.length c) bs.length (bs.map (.int .u8 ·))) (hb : ∀ c ∈ bs, 0 ≤ c ∧ c ≤ 255) : Br w A c bs := by
  rcases own_shape h with ⟨e, hn, _⟩ | ⟨g, cap, e, _, _, hg, _⟩
  · injection e with e1 e2 e3
    subst e1
    subst e3
    exact ⟨.inl ⟨rfl, rfl, List.eq_nil_of_length_eq_zero hn⟩, hb⟩
  · injection e with e1 e2 e3
    subst e1
    subst e3
    exact ⟨.inr ⟨g, 0, rfl, Vw.of_own h, hg⟩, hb⟩

theorem row_slice {w : World} {e n : Nat} {v : Value} {xs : List Value} (h : w.ownsRow 0 e 1 v n xs) : ∃ A c, v = .slice A n c := by
  rcases own_shape h with ⟨rfl, rfl, _⟩ | ⟨r, cap, rfl, _, _, _, hcell⟩
  · exact ⟨none, 0, rfl⟩
  · exact ⟨_, _, rfl⟩

theorem Vw.other {w w' : World} {B off g T T' : Nat} {bs bs' : List Int} {bad : Bool} (h : Vw w B off (bs.map (.int .u8 ·))) (hB : B < w.heap.size) (R : RrAt w g T bs' bad) (k : Kp (· = g) w w') : Vw w' B off (bs.map (.int .u8 ·)) := by
  by_cases hBg : B = g
  · subst hBg
    cases bs with
    | nil => intro j u hj; simp at hj
    | cons x t =>
      exfalso
      obtain ⟨a, cap, hb, _⟩ := R
      have h0 := h 0 (.int .u8 x) (by simp)
      rw [hb.cell, Nat.add_zero] at h0
      match off, h0 with
      | 0, h0 => simp at h0
      | 1, h0 => simp at h0
      | n + 2, h0 => simp at h0
  · exact h.kp k hB hBg

theorem RrAt.other {w w' : World} {h g T T' : Nat} {bs bs' : List Int} {bad bad' : Bool} (X : RrAt w h T bs bad) (R : RrAt w g T' bs' bad') (hne : h ≠ g) (k : Kp (· = g) w w') : RrAt w' h T bs bad := by
  obtain ⟨a, cap, h1, hc, hm, hv, hb⟩ := X
  refine ⟨a, cap, h1.kp k hne, hc, hm, ?_, hb⟩
  rcases hv with hv | ⟨B, off, rfl, h3, h4, h5⟩
  · exact .inl hv
  · exact .inr ⟨B, off, rfl, Vw.other (T' := 0) h3 h4 R k, Nat.lt_of_lt_of_le h4 k.size, h5⟩
theorem Br.other {w w' : World} {g c T' : Nat} {A : Option Addr} {bs bs' : List Int} {bad' : Bool} (X : Br w A c bs) (R : RrAt w g T' bs' bad') (k : Kp (· = g) w w') : Br w' A c bs := by
  obtain ⟨hv, hb⟩ := X
  refine ⟨?_, hb⟩
  rcases hv with hv | ⟨B, off, rfl, h3, h4⟩
  · exact .inl hv
  · exact .inr ⟨B, off, rfl, Vw.other (T' := 0) h3 h4 R k, Nat.lt_of_lt_of_le h4 k.size⟩
theorem Lent.other {w w' : World} {L g T' : Nat} {bs bs' : List Int} {bad' : Bool} (X : Lent w L bs) (R : RrAt w g T' bs' bad') (hT : T' ≠ 5) (k : Kp (· = g) w w') : Lent w' L bs := by
  obtain ⟨a, cap, h1, _⟩ := R
  refine Blk.kp X k (fun e => ?_)
  subst e
  have := Option.some.inj (X.symm.trans h1)
  injection this with _ h2 _
  exact hT h2.symm
theorem br_lent {w : World} {L : Nat} {bs : List Int} (h : Lent w L bs) (hb : ∀ c ∈ bs, 0 ≤ c ∧ c ≤ 255) : Br w (some ⟨L, 0, none⟩) (bs.length + 3) bs := by
  refine ⟨.inr ⟨L, 0, rfl, ?_, h.lt⟩, hb⟩
  intro j u hj
  have hl := (List.getElem?_eq_some_iff.1 hj).1
  rw [h.cell, Nat.zero_add, ← hj]
  simp only [List.getElem?_toArray]
  rw [List.getElem?_append_left hl]

theorem Bz.kp0 {w w' : World} {a : Option Addr} {cap : Nat} {bs : List Int} (h : Bz w a cap bs) (k : Kp0 w w') : Bz w' a cap bs := by
  rcases h with h | h
  · exact .inl (h.kp0 k)
  · exact .inr h
theorem Bz.other {w w' : World} {g c T' : Nat} {A : Option Addr} {bs bs' : List Int} {bad' : Bool} (X : Bz w A c bs) (R : RrAt w g T' bs' bad') (k : Kp (· = g) w w') : Bz w' A c bs := by
  rcases X with h | h
  · exact .inl (h.other R k)
  · exact .inr h
/-- The law's state, act by act. -/
structure Rd (w0 wr : World) (L g h : Nat) (A : Option Addr) (c : Nat) (bs bsr bsx : List Int) (bad : Bool) : Prop where
  r : RrAt wr g 112 bsr bad
  x : RrAt wr h 38 bsx bad
  like : Like bsr bsx bad
  lent : Lent wr L bs
  b : Bz wr A c bs
  k : Kp0 w0 wr
theorem Rd.drewN {w0 wr : World} {L g h c : Nat} {A : Option Addr} {bs bsr bsx : List Int} {bad : Bool} (D : Rd w0 wr L g h A c bs bsr bsx bad) (n : Nat) : Rd w0 (wr.drewN n) L g h A c bs bsr bsx bad :=
  ⟨D.r, D.x, D.like, D.lent, D.b, D.k.drewN n⟩
end Go.Proofs.Ytnlkkcpcjeeplaa
