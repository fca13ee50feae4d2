/- RecordScans as its row wants it: a bound on what comes in. -/
import Derived.Test.YtkokgbmeienokaaRows
import Derived.Test.YtkokgbmeienokaaRl
import Derived.Test.YtkokgbmeienokaaRn
set_option linter.unusedVariables false
set_option linter.unusedSimpArgs false
namespace Go.Proofs.Ytkokgbmeienokaa
open Go.RowKit
open Go.ChangeShapes Go.WideShapes Go.ChangeAt

theorem bulk_pos {H : Type} (d : DataW H) : 1 ≤ Rows.uptoBulk d := by
  cases d with
  | lit l => cases l <;> simp [Rows.uptoBulk]
  | _ => simp [Rows.uptoBulk]
theorem bulk_len {H : Type} : ∀ l : List (DataW H), l.length ≤ Rows.uptoBulkAll l
  | [] => by simp [Rows.uptoBulkAll]
  | d :: l => by have := bulk_pos d; have := bulk_len l; simp only [Rows.uptoBulkAll, List.length_cons]; omega
theorem bulk_part {H : Type} {d : DataW H} : ∀ {l : List (DataW H)}, d ∈ l → Rows.uptoBulk d ≤ Rows.uptoBulkAll l
  | x :: l, h => by
    simp only [Rows.uptoBulkAll]
    rcases List.mem_cons.1 h with rfl | h
    · omega
    · have := bulk_part h; omega

theorem bytes_small {H : Type} {enc : TypeId × Value → H} {W : World} {base : Nat} {a : Option Addr} {len cap : Nat} {d : DataW H} {ps : List MemPlace} {ds : List (DataW H)}
    (h : DataW.Trod enc Try.prog W base (fun _ => true) true 22 (.slice a len cap) d ps) (hd : d ∈ ds) (hk : Rows.uptoSmall H ds = true) :
    ∃ bs : List Int, bs.length = len ∧ len ≤ cap ∧ cap ≤ 9223372036854775807 ∧ Bz W a cap bs ∧ bs.length ≤ 1048576 := by
  obtain ⟨zs, hz⟩ := isInts_of Try.underlying22 Try.underlying5 (by kernel_rfl) h
  obtain ⟨bs, hbl, hlc, hb⟩ := br_ints hz
  have hcap : cap ≤ 9223372036854775807 := by
    rcases hz with ⟨_, _, h, _⟩ | ⟨x, _, _, h, _⟩
    · omega
    · unfold maxLen at h; omega
  refine ⟨bs, hbl, hlc, hcap, hb, ?_⟩
  have hB : Rows.uptoBulkAll ds ≤ 1048576 := of_decide_eq_true hk
  have hp := bulk_part hd
  obtain ⟨fuel, hf⟩ := h
  rcases open_ints Try.underlying22 Try.underlying5 (by kernel_rfl) hf with ⟨hcs, _⟩ | ⟨x, l, c, zs', hcs, _, hl, _, hz', hx, _, _⟩ <;> simp [Value.cells] at hcs <;> obtain ⟨rfl, rfl, rfl⟩ := hcs
  · omega
  · obtain ⟨rfl, _⟩ := Prod.mk.inj hx
    have h1 := bulk_len (lits (H := H) .u8 (zs'.take len))
    have h2 : (lits (H := H) .u8 (zs'.take len)).length = len := by
      have : zs'.length = cap := by simpa using hz'
      simp [lits]; omega
    simp only [Rows.uptoBulk] at hp
    omega

theorem recordScans_w (a0 : Option Addr) (len0 cap0 : Nat) (a1 : Option Addr) (cap1 : Nat) (bs1 : List Int) (v2 v3 : Int) (raw : Bool) (v5 : Int) (w : World) (h0 : Ar w a0 len0) (l0 : len0 ≤ 9223372036854775807)
    (h1 : Bz w a1 cap1 bs1) (l1 : bs1.length ≤ 1048576) (c1 : bs1.length ≤ cap1) (m1 : cap1 ≤ 9223372036854775807) :
    Calls Try.prog 14 #[.slice a0 len0 cap0, .slice a1 bs1.length cap1, .int .i64 v2, .int .i64 v3, .bool raw, .int .i64 v5] w fun e' w' => e' = .returned (.bool true) ∧ Below w.heap.size w w' :=
  (recordScans_c a0 len0 cap0 a1 cap1 bs1 v2 v3 raw v5 w h0 l0 h1 l1 c1 m1).mono fun _ _ h => ⟨h.1, h.2.below0⟩
end Go.Proofs.Ytkokgbmeienokaa
