/- DiskOwn: the walk. -/
import Derived.Test.YtkokgbmeienokaaFb
import Derived.Test.YtkokgbmeienokaaEu
set_option linter.unusedVariables false
set_option linter.unusedSimpArgs false
namespace Go.Proofs.Ytkokgbmeienokaa
open Go.RowKit

theorem Fd.turn {w w1 w2 : World} {g n X : Nat} {O : Nat → Prop} {d : Dk} (h : Fd w w1 g n O d) (k : Kp (· = X) w1 w2) (hX : ¬ O X) (hw : w.heap.size ≤ X) : Fd w w2 g n O d :=
  ⟨h.at_.kp k (fun i hi e => hX (e ▸ hi)), h.new, h.kp.new k hw⟩
theorem tw_app {w w1 : World} {g n gd nd : Nat} {O OD : Nat → Prop} {d d2 D : Dk} {p : ByteArray} {x : Int} (h : Fd w w1 g n O d) (t : Twin w1 gd nd OD D O) (hp : p.size ≤ 100) {A : Option Addr} {c : Nat} {bs : List Int} (hl : bs.length ≤ 1000000) (hn : n ≤ 1000000) (hb : Bz w1 A c bs) (hbO : bs ≠ [] → ∀ b, A = some b → ¬ O b.block) (he : d.app p bs = (x, d2)) :
    Calls Try.prog 20 #[.pointer (some ⟨g, 0, none⟩), .string p, .slice A bs.length c] w1 fun e w' => e = .returned (.int .i64 x) ∧ ∃ O', Fd w w' g (n + 1) O' d2 ∧ Twin w' gd nd OD D O' := by
  refine (append20_n g n O d p hp A c bs hl hn w1 h.at_ hb hbO).mono ?_
  rintro e w' ⟨⟨O', rfl, h1, h2, k⟩, N⟩
  rw [he] at h1 ⊢
  refine ⟨rfl, O', ⟨h1, fun i hi => ?_, h.kp.trans k (fun i hi e => by have := h.new i e; omega)⟩, t.nob N h2⟩
  rcases h2 i hi with h3 | h3
  · exact h.new i h3
  · exact Nat.le_trans h.kp.size h3
theorem tw_crash {w w1 : World} {g n gd nd : Nat} {O OD : Nat → Prop} {d d2 D : Dk} (h : Fd w w1 g n O d) (t : Twin w1 gd nd OD D O) (k : Nat) (hk : k ≤ 9223372036854775807) (hn : n ≤ 1000000) (he : d.crash k = d2) :
    Calls Try.prog 24 #[.pointer (some ⟨g, 0, none⟩), .int .i64 (k : Int)] w1 fun e w' => e = .returned (.tuple #[]) ∧ ∃ O', Fd w w' g n O' d2 ∧ Twin w' gd nd OD D O' := by
  refine (crash24_n g n O d k hk hn w1 h.at_).mono ?_
  rintro e w' ⟨rfl, ⟨O', h1, h2, kk⟩, N⟩
  subst he
  refine ⟨rfl, O', ⟨h1, fun i hi => ?_, h.kp.trans kk (fun i hi e => by have := h.new i e; omega)⟩, t.nob N h2⟩
  rcases h2 i hi with h3 | h3
  · exact h.new i h3
  · exact Nat.le_trans h.kp.size h3

theorem fd_len2 {w w1 : World} {g n q : Nat} {O : Nat → Prop} {l : Fl} {fu : Option Nat} (h : Fd w w1 g n O (al q l fu)) (hn : n ≤ 1000000) :
    Calls Try.prog 35 #[.pointer (some ⟨g, 0, none⟩), .string es] w1 fun e w' => ∃ A c, e = .returned (.slice A l.length c) ∧ Kp0 w1 w' := by
  refine (fd_list h hn _ rfl).mono ?_
  rintro e w' ⟨A, c, rfl, _, h', k⟩
  rw [al_lst_len]
  exact ⟨A, c, rfl, k⟩

def pg : ByteArray := { data := #[103] }
theorem pg_pf : pg ≠ pf := by intro h; have := congrArg (fun b => b.data[0]?) h; simp [pg, pf] at this
theorem pg_ne : pg ≠ emp := by intro h; have := congrArg (fun b => b.data.size) h; simp [pg, emp] at this
theorem pf_ne' : pf ≠ emp := by intro h; have := congrArg (fun b => b.data.size) h; simp [pf, emp] at this
theorem own_law (b : List Int) (hb : b.length ≤ 21) : (al 200 [] none).app pf b = (0, al 200 [(pf, ⟨b, 0, false⟩)] none) ∧ (al 200 [(pf, ⟨b, 0, false⟩)] none).app pf [9] = (0, al 200 [(pf, ⟨b ++ [9], 0, false⟩)] none) ∧
    (al 200 [(pf, ⟨b ++ [9], 0, false⟩)] none).app pg b = (0, al 200 [(pg, ⟨b, 0, false⟩), (pf, ⟨b ++ [9], 0, false⟩)] none) ∧ (al 200 [(pg, ⟨b, 0, false⟩), (pf, ⟨b ++ [9], 0, false⟩)] none).crash 0 = al 200 [] none := by
  refine ⟨?_, ?_, ?_, ?_⟩
  · rw [al_app none (by simp) pf_ne' (by simp [als]; omega)]
    show (0, al 200 (alu [] pf _) none) = _
    rw [alu_new (by simp), alo_new (by simp)]; rfl
  · rw [al_app none (by simp) pf_ne' (by simp [als]; omega)]
    show (0, al 200 (alu _ pf _) none) = _
    rw [alu_head, alo_head]
  · rw [al_app none (by simp) pg_ne (by simp [als]; omega)]
    show (0, al 200 (alu _ pg _) none) = _
    rw [alu_new (by simp [pg_pf]), alo_new (by simp [pg_pf])]; rfl
  · rw [al_crash 200 _ none 0 (by simp [pg_pf])]
    simp [acr, crF, kept]

set_option maxRecDepth 100000 in
set_option maxHeartbeats 8000000 in
theorem diskOwn_c (a1 : Option Addr) (ca : Nat) (us : List Int) (w : World) (ha : Bz w a1 ca us) (la : us.length ≤ 140737488355328) (ka : us.length ≤ ca) :
    Calls Try.prog 5 #[.slice a1 us.length ca] w fun e' w' => e' = .returned (.bool true) ∧ Kp0 w w' := by
  go_enter Try.func5, Try.ntmps5
  go_wp2_with fail
  refine (cutNz_c a1 ca us w ha (by omega) ka 20 (by decide)).mono ?_
  rintro e w1 ⟨A, c, rfl, o1, k1, f1⟩
  have hab : ∀ c ∈ us.take 20, 0 ≤ c ∧ c ≤ 255 := fun c hc => ha.byt c (List.mem_of_mem_take hc)
  have hal : (us.take 20).length ≤ 20 := by rw [List.length_take]; omega
  clear ha ka la
  generalize us.take 20 = b0 at hab hal o1 f1 ⊢
  have kA : Kp0 w1 (w1.alloc (.cells #[.int .u8 3] 5)) := (Kp.refl _ _).alloc _
  have o2 := own_kp o1 kA (fun _ _ x => x)
  go_wp2_with (at_builtin; refine app_bytes rfl _ _ rfl (.slice A b0.length c) b0.length (u8s b0) rfl w1.heap.size 0 1 1 [.int .u8 3] rfl rfl (by simp [Value.oneCell']) (Vw.of_blk (blk_new _ _ rfl)) o2 (by omega) ?_)
  intro v2 w2 o3 k3 b3
  have K2 : Kp0 w w2 := ((k1.then0 kA)).trans k3 (fun i hi e => by have := f1 i e; omega)
  obtain ⟨b, hz⟩ : ∃ b, b0 ++ [3] = b := ⟨_, rfl⟩
  have hby : ∀ c ∈ b, 0 ≤ c ∧ c ≤ 255 := fun c hc => by
    rw [← hz] at hc
    rcases List.mem_append.1 hc with hc | hc
    · exact hab c hc
    · rw [List.mem_singleton] at hc; subst hc; omega
  have hlen : b.length = b0.length + 1 := by rw [← hz]; simp
  have o4 : w2.ownsRow 0 5 1 v2 b.length (u8s b) := by
    rw [hlen, ← hz]
    have : u8s (b0 ++ [3]) = u8s b0 ++ [.int .u8 3] := by simp [u8s]
    rw [this]; exact o3
  obtain ⟨A2, c2, rfl⟩ := own_sl o4
  have zb := bz_own o4 rfl hby
  have hbl : b.length ≤ 21 ∧ 0 < b.length := by omega
  obtain ⟨hbl, hb0⟩ := hbl
  have hlb : b0.length + 1 = b.length := hlen.symm
  obtain ⟨z, hz0⟩ : ∃ z, b[0]? = some z := ⟨_, List.getElem?_eq_getElem hb0⟩
  have HZ := Lib.hid hz0
  have HBY := Lib.hid hby
  clear o1 f1 k1 kA o2 k3 b3 hab hal o4 o3 hz hlen hlb hz0 hby
  obtain ⟨e1, e2, e3, e4⟩ := own_law b hbl
  have E1 := Lib.hid e1
  have E2 := Lib.hid e2
  have E3 := Lib.hid e3
  have E4 := Lib.hid e4
  clear e1 e2 e3 e4
  go_wp2_with fail
  refine (new19_c 200 w2).mono ?_
  rintro e w3 ⟨g, O, rfl, h1, hO, k2⟩
  have F3 : Fd w2 w3 g 0 O (al 200 [] none) := ⟨h1, hO, k2⟩
  clear h1 hO k2
  have hcp := copybz_c A2 c2 b w3 (zb.kp0 F3.kp) (by omega)
  go_wp2_with fail
  refine hcp.mono ?_
  rintro e w4 ⟨A4, c4, rfl, o4, k4, f4⟩
  obtain ⟨X, cX, eX, _, _, hX⟩ := own_some o4 hb0
  injection eX with eX1 eX2 eX3
  subst eX1
  subst eX3
  clear eX2
  have hX3 := f4 X rfl
  have hXO : ¬ O X := fun h => by have := F3.at_.olt _ h; omega
  have F4 := F3.kp0 k4
  have hX2 : w2.heap.size ≤ X := Nat.le_trans F3.kp.size hX3
  clear F3 k4 f4 hcp hX3
  have z4 := bz_own o4 rfl HBY.out
  go_wp2_with fail
  have hb6 : b.length ≤ 1000000 := by omega
  have hxo : b ≠ [] → ∀ q, (some (⟨X, 0, none⟩ : Addr)) = some q → ¬ O q.block := fun _ q hq ho => by
    injection hq with hq; subst hq; exact hXO ho
  have ha1 := fd_app2 F4 (p := pf) (by decide) hb6 (by decide) z4 hxo E1.out
  clear hxo
  go_wp2_with fail
  refine ha1.mono ?_
  rintro e w5 ⟨rfl, K5, O5, F5, hO5⟩
  have hXO5 : ¬ O5 X := fun h => by rcases hO5 _ h with h | h; exact hXO h; omega
  have o5 := own_kp o4 K5 (fun i hi e => by simp [Value.ownBlock] at hi; subst hi; exact hXO e)
  have c0 : w5.cell? ⟨X, 0, none⟩ = some (.int .u8 z) := by
    have h := o5.cellAt 0 (by omega)
    rw [h, List.getElem?_map, HZ.out]; rfl
  have f0 : w5.frozen? ⟨X, 0, none⟩ = false := by
    obtain ⟨_, ⟨h, _⟩ | ⟨gg, cc, cur, ev, _, hh, _⟩⟩ := o5
    · cases h
    · injection ev with ev1 _ _
      injection ev1 with ev1
      injection ev1 with ev1
      subst ev1
      simp [World.frozen?, hh]
  clear o4 o5 z4 F4 K5 hO5 hXO
  have hX5 : X < w5.heap.size := World.block_lt_of_cell? _ ⟨X, 0, none⟩ c0
  go_upto_region 9 with fail
  have F6 := F5.turn ((Kp.self X w5).put 0 (.int .u8 ((z + 1) % 256))) hXO5 hX2
  clear F5 c0 f0 hX5 hXO5
  go_wp2_with fail
  refine (read25_c g _ _ _ pf (by decide) b true (.inr ⟨_, rfl, rfl, rfl⟩) (by omega) _ F6.at_).mono ?_
  rintro e w7 ⟨A7, c7, rfl, o7, k7, f7⟩
  obtain ⟨Y, cY, eY, _, _, hY⟩ := own_some o7 hb0
  injection eY with eY1 eY2 eY3
  subst eY1
  subst eY3
  clear eY2
  have hY6 := f7 Y rfl
  have hYO : ¬ O5 Y := fun h => by have := F6.at_.olt _ h; omega
  have hY2 : w2.heap.size ≤ Y := Nat.le_trans F6.kp.size hY6
  have F7 := F6.kp0 k7
  clear F6 k7 f7 hY6
  have z7 := bz_own o7 rfl HBY.out
  have hs7 := same26_c (some ⟨Y, 0, none⟩) c7 A2 c2 b (by omega) w7 z7 (zb.kp0 F7.kp)
  go_wp2_with fail
  refine hs7.mono ?_
  rintro e w8 ⟨rfl, k8⟩
  have o8 := own_kp o7 k8 (fun _ _ x => x)
  have F8 := F7.kp0 k8
  have c0 : w8.cell? ⟨Y, 0, none⟩ = some (.int .u8 z) := by
    have h := o8.cellAt 0 (by omega)
    rw [h, List.getElem?_map, HZ.out]; rfl
  have f0 : w8.frozen? ⟨Y, 0, none⟩ = false := by
    obtain ⟨_, ⟨h, _⟩ | ⟨gg, cc, cur, ev, _, hh, _⟩⟩ := o8
    · cases h
    · injection ev with ev1 _ _
      injection ev1 with ev1
      injection ev1 with ev1
      subst ev1
      simp [World.frozen?, hh]
  clear o7 o8 k8 F7 z7 hs7
  go_upto_region 13 with fail
  have F9 := F8.turn ((Kp.self Y w8).put 0 (.int .u8 ((z - 1) % 256))) hYO hY2
  clear F8 c0 f0 hYO hY2 hY
  generalize w8.setCell ⟨Y, 0, none⟩ (.int .u8 ((z - 1) % 256)) = w9 at F9 ⊢
  go_wp2_with fail
  refine (clone34_c g _ _ _ w9 F9.at_).mono ?_
  rintro e wA ⟨g', O', rfl, hA, TA, hOA, kA⟩
  have hnew : ∀ i, O5 i → w2.heap.size ≤ i := F9.new
  have hFA : Fd w2 wA g' _ O' _ := ⟨hA, fun i hi => by
    rcases hOA i hi with h | h
    · exact F9.new i h
    · exact Nat.le_trans F9.kp.size h, F9.kp.then0 kA⟩
  clear F9 hA hOA kA
  go_wp2_with fail
  have ka : Kp0 wA (wA.alloc (.cells #[.int .u8 9] 5)) := (Kp.refl _ _).alloc _
  refine (tw_app (hFA.kp0 ka) (TA.kp0 ka) (p := pf) (bs := [9]) (by decide) (by simp) (by omega) (one_bz (blk_new _ _ rfl) (by omega)) (fun _ => fresh_not (w2 := wA) hFA 1) E2.out).mono ?_
  rintro e wB ⟨rfl, OB, FB, TB⟩
  clear hFA TA ka
  go_wp2_with fail
  refine (tw_app FB TB (p := pg) (by decide) (by omega) (by omega) (zb.kp0 FB.kp) (fd_own FB zb) E3.out).mono ?_
  rintro e wC ⟨rfl, OC, FC, TC⟩
  clear FB TB
  go_wp2_with fail
  refine (tw_crash FC TC 0 (by omega) (by omega) E4.out).mono ?_
  rintro e wD ⟨rfl, OD, FD, TD⟩
  clear FC TC
  have GD : Fd w2 wD g _ O5 _ := ⟨TD.at_, hnew, FD.kp⟩
  clear TD
  go_wp2_with fail
  refine (read25_c g _ _ _ pf (by decide) b true (.inr ⟨_, rfl, rfl, rfl⟩) (by omega) _ GD.at_).mono ?_
  rintro e wE ⟨AE, cE, rfl, oE, kE, fE⟩
  have FE := FD.kp0 kE
  have GE := GD.kp0 kE
  have zE := bz_own oE rfl HBY.out
  clear FD GD kE oE fE
  go_wp2_with fail
  refine (read25_c g' _ _ _ pf (by decide) [] false (.inl ⟨rfl, rfl, rfl⟩) (by simp) _ FE.at_).mono ?_
  rintro e wF ⟨AF, cF, rfl, oF, kF, fF⟩
  have FF := FE.kp0 kF
  have GF := GE.kp0 kF
  have zF := zE.kp0 kF
  clear FE GE kF oF fF zE
  have hsF := same26_c AE cE A2 c2 b (by omega) wF zF (zb.kp0 FF.kp)
  go_wp2_with fail
  refine hsF.mono ?_
  rintro e wG ⟨rfl, kG⟩
  have FG := FF.kp0 kG
  have GG := GF.kp0 kG
  clear FF GF zF kG hsF
  go_wp2_with fail
  refine (fd_len2 GG (by omega)).mono ?_
  rintro e wH ⟨AH, cH, rfl, kH⟩
  have FH := FG.kp0 kH
  clear FG GG kH
  go_wp2_with fail
  refine (fd_len2 FH (by omega)).mono ?_
  rintro e wI ⟨AI, cI, rfl, kI⟩
  have KI := (K2.then0 FH.kp).then0 kI
  clear FH kI zb
  go_wp2_with fail
  refine (wakes29_c _).mono ?_
  rintro e wJ ⟨rfl, kJ⟩
  go_wp2
  go_ret
  exact ⟨rfl, KI.then0 kJ⟩
theorem diskOwn_w (a1 : Option Addr) (len1 cap1 : Nat) (us1 : List Int) (w : World) (h1 : IsInts .u8 w a1 len1 cap1 us1) (l1 : len1 * 1 ≤ 140737488351232) :
    Calls Try.prog 5 #[.slice a1 len1 cap1] w fun e w' => e = .returned (.bool true) ∧ Below w.heap.size w w' := by
  obtain ⟨us, rfl, c1, b1⟩ := br_ints h1
  exact (diskOwn_c a1 cap1 us w b1 (by omega) c1).mono fun _ _ h => ⟨h.1, h.2.below0⟩
end Go.Proofs.Ytkokgbmeienokaa
