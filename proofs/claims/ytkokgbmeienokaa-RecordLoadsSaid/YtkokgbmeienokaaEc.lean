/- Package record over a plain disk: what a crash leaves of a log (plain law). -/
import Derived.Test.YtkokgbmeienokaaEb
set_option linter.unusedVariables false
set_option linter.unusedSimpArgs false
namespace Go.Proofs.Ytkokgbmeienokaa
open Go.RowKit

def lo : ByteArray := { data := #[108, 111, 103] }
theorem lo_ne : lo ≠ emp := by intro h; have := congrArg (fun b => b.data.size) h; simp [lo, emp] at this

/-- A log of these records, all synced. -/
def bs_ (q : Nat) (xs : List (List Int)) : Dk := match xs with | [] => dk0 q | x :: r => one q lo ⟨fl (x :: r), (fl (x :: r)).length, true⟩
/-- The record b is behind them, but not synced. -/
def md (q : Nat) (xs : List (List Int)) (b : List Int) : Dk := one q lo ⟨fl xs ++ pk b, (fl xs).length, !xs.isEmpty⟩
def dy (d : Dk) : Dk := { lt d 0 with dead := true }

theorem lt_may {d : Dk} (hd : d.dead = false) (k : Nat) : (lt d k).may [lo] = 0 := dead_may hd lo_ne
theorem lt_step0 (d : Dk) : (lt d 0).step = (7, dy d) := by unfold Dk.step lt dy; simp [lt]
theorem lt_step (d : Dk) (k : Nat) : (lt d (k + 1)).step = (0, lt d k) := by unfold Dk.step lt; simp
theorem bs_dead (q : Nat) (xs : List (List Int)) : (bs_ q xs).dead = false := by cases xs <;> rfl
theorem bs_lit (q : Nat) (xs : List (List Int)) : (bs_ q xs).lit = false := by cases xs <;> rfl
theorem bs_quota (q : Nat) (xs : List (List Int)) : (bs_ q xs).quota = q := by cases xs <;> rfl
theorem bs_used (q : Nat) (xs : List (List Int)) : (bs_ q xs).used = (fl xs).length := by
  cases xs with
  | nil => rfl
  | cons x r => exact one_used _ _ _
theorem bs_old (q : Nat) (xs : List (List Int)) : (bs_ q xs).old lo = ⟨fl xs, (fl xs).length, !xs.isEmpty⟩ := by
  cases xs with
  | nil => rfl
  | cons x r => exact one_old _ _ _
theorem bs_put (q : Nat) (xs : List (List Int)) (f : Fi) : (bs_ q xs).put lo f = one q lo f := by
  cases xs with
  | nil => rfl
  | cons x r => exact one_put _ _ _ _
theorem bs_snoc (q : Nat) (xs : List (List Int)) (b : List Int) : one q lo ⟨fl xs ++ pk b, (fl xs ++ pk b).length, true⟩ = bs_ q (xs ++ [b]) := by
  rw [← fl_snoc]
  cases xs <;> rfl

theorem bs_app0 (q : Nat) (xs : List (List Int)) (b : List Int) (h : (fl xs).length + (pk b).length ≤ q) : (lt (bs_ q xs) 0).app lo (pk b) = (7, dy (bs_ q xs)) := by
  have h1 := lt_may (bs_dead q xs) 0
  have h2 : (lt (bs_ q xs) 0).used = (fl xs).length := bs_used q xs
  have h3 : (lt (bs_ q xs) 0).quota = q := bs_quota q xs
  unfold Dk.app
  rw [h1, h2, h3, lt_step0, if_neg (by simp), if_neg (by omega), if_pos (by simp)]
theorem bs_app (q : Nat) (xs : List (List Int)) (b : List Int) (k : Nat) (h : (fl xs).length + (pk b).length ≤ q) : (lt (bs_ q xs) (k + 1)).app lo (pk b) = (0, lt (md q xs b) k) := by
  have h1 := lt_may (bs_dead q xs) (k + 1)
  have h2 : (lt (bs_ q xs) (k + 1)).used = (fl xs).length := bs_used q xs
  have h3 : (lt (bs_ q xs) (k + 1)).quota = q := bs_quota q xs
  unfold Dk.app
  rw [h1, h2, h3, lt_step, if_neg (by simp), if_neg (by omega), if_neg (by simp)]
  show (0, lt ((bs_ q xs).put lo { (bs_ q xs).old lo with b := ((bs_ q xs).old lo).b ++ pk b }) k) = _
  rw [bs_put, bs_old]
  rfl
theorem one_there {q : Nat} {f : Fi} {d : Dk} (hd : d.dead = false) (hF : d.F = (one q lo f).F) : d.there lo = 0 := by
  unfold Dk.there
  rw [dead_may hd lo_ne, if_neg (by simp), hF, one_F]; rfl
theorem md_syn0 (q : Nat) (xs : List (List Int)) (b : List Int) : (lt (md q xs b) 0).syn lo = (7, dy (md q xs b)) := by
  have : (lt (md q xs b) 0).there lo = 0 := one_there (q := q) (f := ⟨fl xs ++ pk b, (fl xs).length, !xs.isEmpty⟩) rfl rfl
  unfold Dk.syn
  rw [this, lt_step0, if_neg (by simp), if_pos (by simp)]
theorem md_syn (q : Nat) (xs : List (List Int)) (b : List Int) (k : Nat) : (lt (md q xs b) (k + 1)).syn lo = (0, lt (bs_ q (xs ++ [b])) k) := by
  have : (lt (md q xs b) (k + 1)).there lo = 0 := one_there (q := q) (f := ⟨fl xs ++ pk b, (fl xs).length, !xs.isEmpty⟩) rfl rfl
  have ho : (lt (md q xs b) (k + 1)).old lo = ⟨fl xs ++ pk b, (fl xs).length, !xs.isEmpty⟩ := one_old q lo ⟨fl xs ++ pk b, (fl xs).length, !xs.isEmpty⟩
  unfold Dk.syn
  rw [this, lt_step, if_neg (by simp), if_neg (by simp), ho]
  show (0, lt ((one q lo _).put lo _) k) = _
  rw [one_put, bs_snoc]

theorem bs_add0 (q : Nat) (xs : List (List Int)) (b : List Int) (hb : b.length ≤ 200) (h : (fl xs).length + (pk b).length ≤ q) : (lt (bs_ q xs) 0).add lo b = (7, dy (bs_ q xs)) := by
  unfold Dk.add
  rw [if_neg (by omega), bs_app0 q xs b h, if_pos (by simp)]
theorem bs_add1 (q : Nat) (xs : List (List Int)) (b : List Int) (hb : b.length ≤ 200) (h : (fl xs).length + (pk b).length ≤ q) : (lt (bs_ q xs) 1).add lo b = (7, dy (md q xs b)) := by
  unfold Dk.add
  rw [if_neg (by omega), bs_app q xs b 0 h, if_neg (by simp), md_syn0]
theorem bs_add (q : Nat) (xs : List (List Int)) (b : List Int) (k : Nat) (hb : b.length ≤ 200) (h : (fl xs).length + (pk b).length ≤ q) : (lt (bs_ q xs) (k + 2)).add lo b = (0, lt (bs_ q (xs ++ [b])) k) := by
  unfold Dk.add
  rw [if_neg (by omega), bs_app q xs b (k + 1) h, if_neg (by simp), md_syn]

/-- The log's disk when all of these bytes are synced. -/
def ls_ (q : Nat) (bs : List Int) (d : Dk) : Prop := (bs = [] ∧ d = dk0 q) ∨ d = one q lo ⟨bs, bs.length, true⟩

theorem bs_crash (q : Nat) (xs : List (List Int)) (k : Nat) : ls_ q (fl xs) ((bs_ q xs).crash k) := by
  cases xs with
  | nil => exact .inl ⟨rfl, zero_crash q k⟩
  | cons x r =>
    refine .inr ((one_crash _ _ _ _).trans ?_)
    have hk : kept k ⟨fl (x :: r), (fl (x :: r)).length, true⟩ = (fl (x :: r)).length := by unfold kept; simp
    have : crF k ⟨fl (x :: r), (fl (x :: r)).length, true⟩ = some ⟨fl (x :: r), (fl (x :: r)).length, true⟩ := by
      unfold crF
      rw [hk, if_neg (by simp), List.take_length]
    rw [this]
theorem md_crash (q : Nat) (xs : List (List Int)) (b : List Int) (k : Nat) : ls_ q ((fl (xs ++ [b])).take ((fl xs).length + min k (pk b).length)) ((md q xs b).crash k) := by
  rw [fl_snoc]
  have hk : kept k ⟨fl xs ++ pk b, (fl xs).length, !xs.isEmpty⟩ = (fl xs).length + min k (pk b).length := by
    unfold kept; simp
  have hln : ((fl xs ++ pk b).take ((fl xs).length + min k (pk b).length)).length = (fl xs).length + min k (pk b).length := by
    rw [List.length_take, List.length_append]; omega
  have hc : crF k ⟨fl xs ++ pk b, (fl xs).length, !xs.isEmpty⟩ = if (fl xs).length + min k (pk b).length = 0 ∧ (!xs.isEmpty) = false then none else some ⟨(fl xs ++ pk b).take ((fl xs).length + min k (pk b).length), (fl xs).length + min k (pk b).length, true⟩ := by
    unfold crF
    rw [hk]
  have h1 := one_crash q lo ⟨fl xs ++ pk b, (fl xs).length, !xs.isEmpty⟩ k
  rw [hc] at h1
  by_cases hz : (fl xs).length + min k (pk b).length = 0 ∧ (!xs.isEmpty) = false
  · rw [if_pos hz] at h1
    exact .inl ⟨by rw [hz.1, List.take_zero], h1⟩
  · rw [if_neg hz] at h1
    refine .inr (h1.trans ?_)
    show one q lo _ = one q lo _
    rw [hln]

/-- Loaded: the records; their bytes stay. -/
theorem ls_load {q : Nat} {bs : List Int} {d : Dk} (h : ls_ q bs d) : d.load lo = (0, (sc bs).1, if (sc bs).2 < bs.length then one q lo ⟨bs.take (sc bs).2, (sc bs).2, true⟩ else d) := by
  have ho : (d.old lo).b = bs := by
    rcases h with ⟨rfl, rfl⟩ | rfl
    · rfl
    · rw [one_old]
  unfold Dk.load
  simp only [ho]
  by_cases hlt : (sc bs).2 < bs.length
  · rw [if_pos hlt, if_pos hlt]
    rcases h with ⟨rfl, rfl⟩ | rfl
    · simp at hlt
    · have h1 : (one q lo ⟨bs, bs.length, true⟩).there lo = 0 := one_there rfl rfl
      have h2 : (one q lo ⟨bs, bs.length, true⟩).len lo = bs.length := one_len _ _ _
      have hcut : (one q lo ⟨bs, bs.length, true⟩).cut lo ((sc bs).2 : Nat) = (0, one q lo ⟨bs.take (sc bs).2, (sc bs).2, true⟩) := by
        unfold Dk.cut
        rw [h1, h2, unlit_step rfl, if_neg (by simp), if_neg (by omega), if_neg (by simp), one_old]
        show (0, (one q lo _).put lo _) = _
        rw [one_put]
        rfl
      rw [hcut]
      simp
  · rw [if_neg hlt, if_neg hlt]

theorem ls_again {q : Nat} {bs : List Int} {d : Dk} (h : ls_ q bs d) (zs : List (List Int)) (hs : sc bs = (zs, (fl zs).length)) (ht : bs.take (fl zs).length = fl zs) (hz : ∀ x ∈ zs, x.length ≤ 200) :
    ∃ d2, d.load lo = (0, zs, d2) ∧ ls_ q (fl zs) d2 := by
  refine ⟨_, by rw [ls_load h, hs], ?_⟩
  by_cases hlt : (fl zs).length < bs.length
  · rw [if_pos (show (zs, (fl zs).length).2 < bs.length from hlt)]
    refine .inr ?_
    show one q lo ⟨bs.take (fl zs).length, (fl zs).length, true⟩ = _
    rw [ht]
  · rw [if_neg (show ¬ (zs, (fl zs).length).2 < bs.length from hlt)]
    have : bs = fl zs := by rw [← ht, List.take_of_length_le (by omega)]
    rw [← this]; exact h

theorem ls_add {q : Nat} {zs : List (List Int)} {d : Dk} (b : List Int) (h : ls_ q (fl zs) d) (hb : b.length ≤ 200) (hq : (fl zs).length + (pk b).length ≤ q) : ∃ d2, d.add lo b = (0, d2) := by
  unfold Dk.add
  rw [if_neg (by omega)]
  rcases h with ⟨h0, rfl⟩ | rfl
  · rw [zero_app lo_ne (by omega), if_neg (by simp), one_syn lo_ne]
    exact ⟨_, rfl⟩
  · rw [one_app lo_ne hq, if_neg (by simp), one_syn lo_ne]
    exact ⟨_, rfl⟩

theorem ls_old {q : Nat} {bs : List Int} {d : Dk} (h : ls_ q bs d) : (d.old lo).b = bs := by
  rcases h with ⟨rfl, rfl⟩ | rfl
  · rfl
  · rw [one_old]
theorem kept_fin {q : Nat} {zs : List (List Int)} {bs : List Int} {d : Dk} (h : ls_ q bs d) (hzl : ∀ x ∈ zs, x.length ≤ 200) (hq : (fl zs).length + 3 ≤ q) (hs : sc bs = (zs, (fl zs).length)) (ht : bs.take (fl zs).length = fl zs) :
    ∃ d2 d3 d4, d.load lo = (0, zs, d2) ∧ d2.load lo = (0, zs, d3) ∧ d3.add lo [5] = (0, d4) ∧ ¬ (sc (d2.old lo).b).2 < (d2.old lo).b.length := by
  obtain ⟨d2, e2, h2⟩ := ls_again h zs hs ht hzl
  obtain ⟨d3, e3, h3⟩ := ls_again h2 zs (sc_all zs hzl) (List.take_length ..) hzl
  obtain ⟨d4, e4⟩ := ls_add [5] h3 (by simp) (by
    have : (pk [5]).length = 3 := by decide
    omega)
  exact ⟨d2, d3, d4, e2, e3, e4, by rw [ls_old h2, sc_all zs hzl]; exact Nat.lt_irrefl _⟩
/-- What a log has behind a crash: all that was added well .. -/
theorem kept_bs (q : Nat) (xs : List (List Int)) (k : Nat) (hx : ∀ x ∈ xs, x.length ≤ 200) (hq : (fl xs).length + 3 ≤ q) :
    ∃ d2 d3 d4, ((bs_ q xs).crash k).load lo = (0, xs, d2) ∧ d2.load lo = (0, xs, d3) ∧ d3.add lo [5] = (0, d4) ∧ ¬ (sc (d2.old lo).b).2 < (d2.old lo).b.length :=
  kept_fin (bs_crash q xs k) hx hq (sc_all xs hx) (List.take_length ..)
/-- .. and at most the one that was under way. -/
theorem kept_md (q : Nat) (xs : List (List Int)) (b : List Int) (k : Nat) (hx : ∀ x ∈ xs, x.length ≤ 200) (hb : b.length ≤ 200) (hq : (fl xs).length + (pk b).length + 3 ≤ q) :
    ∃ zs d2 d3 d4, (zs = xs ∨ zs = xs ++ [b]) ∧ ((md q xs b).crash k).load lo = (0, zs, d2) ∧ d2.load lo = (0, zs, d3) ∧ d3.add lo [5] = (0, d4) ∧ ¬ (sc (d2.old lo).b).2 < (d2.old lo).b.length := by
  have hfl : (fl (xs ++ [b])).length = (fl xs).length + (pk b).length := by rw [fl_snoc, List.length_append]
  have hall : ∀ x ∈ xs ++ [b], x.length ≤ 200 := fun x hm => by
    rcases List.mem_append.1 hm with h | h
    · exact hx x h
    · rw [List.mem_singleton.1 h]; exact hb
  have hc := md_crash q xs b k
  have hpl := pk_len hb
  by_cases hfull : (pk b).length ≤ k
  · have e : (fl (xs ++ [b])).take ((fl xs).length + min k (pk b).length) = fl (xs ++ [b]) := List.take_of_length_le (by omega)
    rw [e] at hc
    obtain ⟨d2, d3, d4, h⟩ := kept_fin hc hall (by omega) (sc_all _ hall) (List.take_length ..)
    exact ⟨_, d2, d3, d4, .inr rfl, h⟩
  · have htk : (xs ++ [b]).take xs.length = xs := by simp
    have hs := sc_cut (xs ++ [b]) xs.length ((fl xs).length + min k (pk b).length) hall (by simp) (by rw [htk]; omega) (.inr (by
      rw [List.take_of_length_le (by simp)]
      omega))
    rw [htk] at hs
    obtain ⟨d2, d3, d4, h⟩ := kept_fin hc hx (by omega) hs (by rw [List.take_take, Nat.min_eq_left (by omega), fl_snoc, List.take_left])
    exact ⟨_, d2, d3, d4, .inl rfl, h⟩
end Go.Proofs.Ytkokgbmeienokaa
