/- Package atomic: what a write makes of a disk of few files; law07.wakes. -/
import Derived.Test.YtkokgbmeienokaaEh
set_option linter.unusedVariables false
set_option linter.unusedSimpArgs false
set_option linter.unnecessarySimpa false
namespace Go.Proofs.Ytkokgbmeienokaa
open Go.RowKit

theorem alu_new {l : Fl} {p : ByteArray} (h : p ∉ l.map (·.1)) (v : Fi) : alu l p v = (p, v) :: l := by unfold alu; rw [alp_none h]; rfl
theorem alu_head (l : Fl) (p : ByteArray) (u v : Fi) : alu ((p, u) :: l) p v = (p, v) :: l := by unfold alu alp; rw [if_pos rfl]; rfl
theorem alg_head {l : Fl} {p : ByteArray} (h : p ∉ l.map (·.1)) (v : Fi) : alg ((p, v) :: l) p = l := by
  unfold alg
  rw [List.filter_cons_of_neg (by simp)]
  refine List.filter_eq_self.2 (fun x hx => decide_eq_true (fun e => h ?_))
  rw [← e]; exact List.mem_map_of_mem hx
theorem alo_new {l : Fl} {p : ByteArray} (h : p ∉ l.map (·.1)) : alo l p = ⟨[], 0, false⟩ := by unfold alo; rw [alf_none h]; rfl
theorem alo_head (l : Fl) (p : ByteArray) (v : Fi) : alo ((p, v) :: l) p = v := by unfold alo alf; rw [if_pos rfl]; rfl
theorem alf_head (l : Fl) (p : ByteArray) (v : Fi) : alf ((p, v) :: l) p = some v := by unfold alf; rw [if_pos rfl]
theorem al_Fh (q : Nat) (l : Fl) (fu : Option Nat) (p : ByteArray) (v : Fi) : (al q ((p, v) :: l) fu).F p = some v := alf_head l p v
theorem tl_ne_emp (p : ByteArray) : p ++ tl ≠ emp := by
  intro h
  have h1 : (p ++ tl).size = 0 := by rw [h]; rfl
  rw [tl_size] at h1
  omega

def wrs (q : Nat) (l : Fl) (p t : ByteArray) (b : List Int) : Option Nat → Int × Dk
  | none => (0, al q (alu l p ⟨b, b.length, true⟩) none)
  | some 0 => (7, ald q l)
  | some 1 => (7, ald q ((t, ⟨b, 0, false⟩) :: l))
  | some 2 => (7, ald q ((t, ⟨b, b.length, true⟩) :: l))
  | some (k + 3) => (0, al q (alu l p ⟨b, b.length, true⟩) (some k))
theorem al_wri {q : Nat} {l : Fl} (fu : Option Nat) {p : ByteArray} {b : List Int} (hn : (l.map (·.1)).Nodup) (hp : p ≠ emp) (ht : p ++ tl ∉ l.map (·.1)) (h : als l + b.length ≤ q) :
    (al q l fu).wri p b = wrs q l p (p ++ tl) b fu := by
  have hte := tl_ne_emp p
  unfold Dk.wri
  generalize p ++ tl = t at *
  have ha := al_app fu hn hte h
  rw [alo_new ht, alu_new ht] at ha
  simp only [List.nil_append] at ha
  have hs := fun fu => al_syn (q := q) (l := (t, ⟨b, 0, false⟩) :: l) fu hte (by rw [alf_head]; rfl)
  simp only [alo_head, alu_head] at hs
  have hr := fun fu => al_ren (q := q) (l := (t, ⟨b, b.length, true⟩) :: l) (p := t) (r := p) fu hte hp (by rw [alf_head]; rfl)
  simp only [alo_head, alg_head ht] at hr
  have h1 : ∀ k, ((al q l (some (k + 1))).app t b) = (0, al q ((t, ⟨b, 0, false⟩) :: l) (some k)) := fun k => by
    have := al_app (some (k + 1)) hn hte h
    rw [alo_new ht, alu_new ht] at this
    simp only [List.nil_append] at this
    exact this
  rcases fu with _ | _ | _ | _ | k
  · rw [ha]
    show (if (0 : Int) ≠ 0 then _ else _) = _
    rw [if_neg (by simp)]
    show (if ((al q ((t, ⟨b, 0, false⟩) :: l) none).syn t).1 ≠ 0 then _ else ((al q ((t, ⟨b, 0, false⟩) :: l) none).syn t).2.ren t p) = _
    rw [hs none]
    show (if (0 : Int) ≠ 0 then _ else (al q ((t, ⟨b, b.length, true⟩) :: l) none).ren t p) = _
    rw [if_neg (by simp), hr none]; rfl
  · rw [ha]; rfl
  · rw [h1 0]
    show (if (0 : Int) ≠ 0 then _ else _) = _
    rw [if_neg (by simp)]
    show (if ((al q ((t, ⟨b, 0, false⟩) :: l) (some 0)).syn t).1 ≠ 0 then ((al q ((t, ⟨b, 0, false⟩) :: l) (some 0)).syn t) else _) = _
    rw [hs (some 0)]; rfl
  · rw [h1 1]
    show (if (0 : Int) ≠ 0 then _ else _) = _
    rw [if_neg (by simp)]
    show (if ((al q ((t, ⟨b, 0, false⟩) :: l) (some 1)).syn t).1 ≠ 0 then _ else ((al q ((t, ⟨b, 0, false⟩) :: l) (some 1)).syn t).2.ren t p) = _
    rw [hs (some 1)]
    show (if (0 : Int) ≠ 0 then _ else (al q ((t, ⟨b, b.length, true⟩) :: l) (some 0)).ren t p) = _
    rw [if_neg (by simp), hr (some 0)]; rfl
  · rw [h1 (k + 2)]
    show (if (0 : Int) ≠ 0 then _ else _) = _
    rw [if_neg (by simp)]
    show (if ((al q ((t, ⟨b, 0, false⟩) :: l) (some (k + 2))).syn t).1 ≠ 0 then _ else ((al q ((t, ⟨b, 0, false⟩) :: l) (some (k + 2))).syn t).2.ren t p) = _
    rw [hs (some (k + 2))]
    show (if (0 : Int) ≠ 0 then _ else (al q ((t, ⟨b, b.length, true⟩) :: l) (some (k + 1))).ren t p) = _
    rw [if_neg (by simp), hr (some (k + 1))]; rfl
theorem al_wfull {q : Nat} {l : Fl} (fu : Option Nat) {p : ByteArray} {b : List Int} (hn : (l.map (·.1)).Nodup) (h : q < als l + b.length) :
    (al q l fu).wri p b = (6, al q l fu) := by
  unfold Dk.wri
  rw [al_full fu hn (tl_ne_emp p) h, if_pos (by simp)]

theorem fd_wri {w w1 : World} {g n : Nat} {O : Nat → Prop} {d d2 : Dk} {p : ByteArray} {x : Int} (h : Fd w w1 g n O d) (hp : p.size ≤ 90) {A : Option Addr} {c : Nat} {bs : List Int} (hl : bs.length ≤ 1000000) (hn : n ≤ 900000) (hb : Bz w1 A c bs) (hbO : bs ≠ [] → ∀ b, A = some b → ¬ O b.block) (he : d.wri p bs = (x, d2)) :
    Calls Try.prog 50 #[.pointer (some ⟨g, 0, none⟩), .string p, .slice A bs.length c] w1 fun e w' => e = .returned (.int .i64 x) ∧ ∃ O', Fd w w' g (n + 3) O' d2 :=
  (write50_c g n O d p hp A c bs hl hn w1 h.at_ hb hbO).mono fun e w' D => h.did (he ▸ D)
theorem fd_list {w w1 : World} {g n : Nat} {O : Nat → Prop} {d : Dk} (h : Fd w w1 g n O d) (hn : n ≤ 1000000) (ps : List ByteArray) (hps : d.lst = ps) :
    Calls Try.prog 35 #[.pointer (some ⟨g, 0, none⟩), .string es] w1 fun e w' => ∃ A c, e = .returned (.slice A ps.length c) ∧ w'.ownsRow 0 9 1 (.slice A ps.length c) ps.length (ps.map Value.string) ∧ Fd w w' g n O d ∧ Kp0 w1 w' := by
  refine (list35_c g n O d hn w1 h.at_).mono ?_
  rintro e w' ⟨v, rfl, o, k, _⟩
  rw [hps] at o
  obtain ⟨A, c, rfl⟩ := own_sl o
  exact ⟨A, c, rfl, o, h.kp0 k, k⟩
theorem al_lst_len (q : Nat) (l : Fl) (fu : Option Nat) : (al q l fu).lst.length = l.length := by rw [lst_len]; show (l.map _).length = _; simp
/-- How many paths there are. -/
theorem fd_len {w w1 : World} {g n q : Nat} {O : Nat → Prop} {l : Fl} {fu : Option Nat} (h : Fd w w1 g n O (al q l fu)) (hn : n ≤ 1000000) :
    Calls Try.prog 35 #[.pointer (some ⟨g, 0, none⟩), .string es] w1 fun e w' => ∃ A c, e = .returned (.slice A l.length c) ∧ Fd w w' g n O (al q l fu) := by
  refine (fd_list h hn _ rfl).mono ?_
  rintro e w' ⟨A, c, rfl, _, h', _⟩
  rw [al_lst_len]
  exact ⟨A, c, rfl, h'⟩

set_option maxRecDepth 100000 in
theorem wakes51_c (w : World) : Calls Try.prog 51 #[] w fun e w' => e = .returned (.bool true) ∧ Kp0 w w' := by
  go_enter Try.func51, Try.ntmps51
  go_wp2_with fail
  refine (new19_c 10 w).mono ?_
  rintro e w1 ⟨g, O, rfl, h1, hO, k1⟩
  have h1 : Fd w w1 g 0 O (al 10 [] none) := ⟨h1, hO, k1⟩
  clear k1 hO
  have ka : Kp0 w1 (w1.alloc (.cells #[.int .u8 1] 5)) := (Kp.refl _ _).alloc _
  have hlt := h1.at_.olt
  have hw : (al 10 [] none).wri pa [1] = (0, al 10 [(pa, ⟨[1], 1, true⟩)] none) := al_wri none (by simp) pa_ne (by simp) (by simp [als])
  go_wp2_with fail
  refine (fd_wri (h1.kp0 ka) (p := pa) (bs := [1]) (by decide) (by simp) (by omega) (one_bz (blk_new _ _ rfl) (by omega)) (fun _ b hb ho => ?_) hw).mono ?_
  · injection hb with hb; subst hb; exact Nat.lt_irrefl _ (hlt _ ho)
  rintro e w3 ⟨rfl, O3, h3⟩
  clear h1 ka hlt hw
  go_wp2_with fail
  refine (fd_read h3 (p := pa) (by decide) [1] true (.inr ⟨_, al_Fh _ _ _ _ _, rfl, rfl⟩) (by simp) (by simp)).mono ?_
  rintro e w7 ⟨A7, c7, rfl, b7, h7, _⟩
  clear h3
  have ka : Kp0 w7 (w7.alloc (.cells #[.int .u8 1] 5)) := (Kp.refl _ _).alloc _
  go_wp2_with fail
  refine (same26_c A7 c7 (some ⟨w7.heap.size, 0, none⟩) 1 [1] (by simp) _ (b7.kp0 ka) (one_bz (blk_new _ _ rfl) (by omega))).mono ?_
  rintro e w8 ⟨rfl, k8⟩
  have h8 := (h7.kp0 ka).kp0 k8
  clear h7 ka b7 k8
  go_wp2_with fail
  refine (fd_len h8 (by omega)).mono ?_
  rintro e w9 ⟨A9, c9, rfl, h9⟩
  have K := h9.kp
  clear h8 h9
  go_wp2
  go_ret
  exact ⟨rfl, K⟩
end Go.Proofs.Ytkokgbmeienokaa
