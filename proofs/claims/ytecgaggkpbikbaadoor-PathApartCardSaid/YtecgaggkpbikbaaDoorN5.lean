/- NameKeys: plain law. -/
import Derived.Test.YtecgaggkpbikbaaDoorN4
set_option linter.unusedVariables false
set_option linter.unusedSimpArgs false
namespace Go.Proofs.YtecgaggkpbikbaaDoor
open Go.RowKit

def tol (p : ByteArray) : List UInt8 := p.data.toList
theorem tol_inj {p q : ByteArray} (h : tol p = tol q) : p = q := by
  cases p; cases q
  unfold tol at h
  simp at h
  subst h; rfl
theorem sz_tol (p : ByteArray) : p.size = (tol p).length := by unfold tol; rw [Array.length_toList]; rfl
theorem tol_app (p q : ByteArray) : tol (p ++ q) = tol p ++ tol q := by unfold tol; rw [ByteArray.data_append, Array.toList_append]
theorem tol_ext (p : ByteArray) (a b : Nat) : tol (p.extract a b) = ((tol p).take b).drop a := by
  unfold tol
  rw [ByteArray.data_extract, Array.toList_extract, List.extract_eq_take_drop, List.take_drop]
  by_cases h : a ≤ b
  · rw [show a + (b - a) = b by omega]
  · have h1 : ((p.data.toList.take b).drop a) = [] := List.drop_eq_nil_of_le (by rw [List.length_take]; omega)
    rw [h1, show a + (b - a) = a by omega]
    exact List.drop_eq_nil_of_le (by rw [List.length_take]; omega)
theorem rgt_tol (p : ByteArray) : rgt p = (decide (0 < (tol p).length ∧ (tol p).length ≤ 8) && (tol p).all sgn) := by unfold rgt; rw [sz_tol]; rfl
theorem rgt_of {p : ByteArray} {b : Bool} (h1 : 0 < (tol p).length ∧ (tol p).length ≤ 8) (h2 : (tol p).all sgn = b) : rgt p = b := by rw [rgt_tol, decide_eq_true h1, h2]; rfl

abbrev fK : ByteArray := { data := #[102, 114, 97, 109, 101, 119, 114, 107] }
abbrev tK : ByteArray := { data := #[116, 97, 115, 107, 48, 48, 48, 49] }
theorem all_take {l : List UInt8} {p : UInt8 → Bool} (h : l.all p = true) (n : Nat) : (l.take n).all p = true := List.all_eq_true.2 (fun x hx => List.all_eq_true.1 h x (List.mem_of_mem_take hx))
theorem all_drop {l : List UInt8} {p : UInt8 → Bool} (h : l.all p = true) (n : Nat) : (l.drop n).all p = true := List.all_eq_true.2 (fun x hx => List.all_eq_true.1 h x (List.mem_of_mem_drop hx))
theorem tol_cut (K : ByteArray) (n : Nat) : tol (K.extract 0 n) = (tol K).take n := by rw [tol_ext, List.drop_zero]
theorem cut_len (K : ByteArray) (hK : (tol K).length = 8) (n : Nat) (h : n ≤ 8) : (tol (K.extract 0 n)).length = n := by rw [tol_cut, List.length_take]; omega
theorem one_str (v : Int) : tol (mkStr [v]) = [UInt8.ofNat v.toNat] := rfl

/-- Names that are cut, lengthened, or have another sign. -/
theorem keys_law (n m a : Nat) (v : Int) (hn : 1 ≤ n ∧ n ≤ 8) (hm : 1 ≤ m ∧ m ≤ 8) (ha : a < n) (hv : 0 ≤ v ∧ v < 256) (s t x : ByteArray) (hs : fK.extract 0 n = s) (ht : tK.extract 0 m = t) (hx : s.extract 0 a ++ mkStr [v] ++ s.extract (a + 1) s.size = x) :
    s.size = n ∧ x.size = n ∧ t.size = m ∧ rgt s = true ∧ rgt t = true ∧ rgt x = sgi v ∧ s ≠ t ∧ rgt (s ++ { data := #[49, 50, 51, 52, 53, 54, 55, 56] }) = false := by
  have hf8 : (tol fK).length = 8 := rfl
  have ht8 : (tol tK).length = 8 := rfl
  have hfa : (tol fK).all sgn = true := by decide
  have hta : (tol tK).all sgn = true := by decide
  have ls : (tol s).length = n := by rw [← hs]; exact cut_len fK hf8 n hn.2
  have lt : (tol t).length = m := by rw [← ht]; exact cut_len tK ht8 m hm.2
  have as_ : (tol s).all sgn = true := by rw [← hs, tol_cut]; exact all_take hfa n
  have at_ : (tol t).all sgn = true := by rw [← ht, tol_cut]; exact all_take hta m
  have tx : tol x = (tol s).take a ++ [UInt8.ofNat v.toNat] ++ (tol s).drop (a + 1) := by
    rw [← hx, tol_app, tol_app, tol_cut, tol_ext, one_str, sz_tol, List.take_length]
  have lx : (tol x).length = n := by rw [tx]; simp; omega
  refine ⟨by rw [sz_tol, ls], by rw [sz_tol, lx], by rw [sz_tol, lt], rgt_of (by omega) as_, rgt_of (by omega) at_, rgt_of (by omega) ?_, ?_, ?_⟩
  · rw [tx, List.all_append, List.all_append, all_take as_ a, all_drop as_ (a + 1)]
    simp [sgn_of v hv]
  · intro e
    have h1 : (tol s)[0]? = some 102 := by rw [← hs, tol_cut, List.getElem?_take_of_lt (by omega)]; rfl
    have h2 : (tol t)[0]? = some 116 := by rw [← ht, tol_cut, List.getElem?_take_of_lt (by omega)]; rfl
    rw [e, h2] at h1
    revert h1; decide
  · rw [rgt_tol, tol_app, List.length_append, ls]
    rw [decide_eq_false (by
      have : (tol { data := #[49, 50, 51, 52, 53, 54, 55, 56] }).length = 8 := rfl
      omega)]
    rfl
end Go.Proofs.YtecgaggkpbikbaaDoor
