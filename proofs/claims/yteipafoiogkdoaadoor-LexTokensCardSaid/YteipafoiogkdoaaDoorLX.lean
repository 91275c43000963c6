/- Walks: the reference's texts. -/
import Derived.Test.YteipafoiogkdoaaDoorLV
set_option linter.unusedSimpArgs false
set_option linter.unusedVariables false
namespace Go.Proofs.YteipafoiogkdoaaDoor
open Go.RowKit Go.Maps
theorem Tryd.infoByte : (Tryd.prog.info? 5).map (fun i => (i.zero, i.size, i.bytes)) = some (some (.int .u8 0), 1, 1) := by kernel_rfl
/-- Where the first zero stands, of the places from a up to k; -1: nowhere. -/
def ZeroAt (l : List UInt8) (a k : Nat) (z : Int) : Prop :=
  (z = -1 ∧ ∀ j, a ≤ j → j < k → l.getD j 1 ≠ 0) ∨ ∃ n : Nat, z = n ∧ a ≤ n ∧ n < k ∧ l.getD n 1 = 0 ∧ ∀ j, a ≤ j → j < n → l.getD j 1 ≠ 0
theorem ZeroAt.skip {l : List UInt8} {a k : Nat} {z : Int} (h : ZeroAt l a k z) (hk : l.getD k 1 ≠ 0) : ZeroAt l a (k + 1) z := by
  rcases h with ⟨rfl, h⟩ | ⟨n, rfl, h1, h2, h3, h4⟩
  · refine .inl ⟨rfl, fun j h1 h2 => ?_⟩
    by_cases hj : j = k
    · subst hj; exact hk
    · exact h j h1 (by omega)
  · exact .inr ⟨n, rfl, h1, by omega, h3, h4⟩
theorem ZeroAt.hit {l : List UInt8} {a k : Nat} (h : ZeroAt l a k (-1)) (hak : a ≤ k) (hk : l.getD k 1 = 0) : ZeroAt l a (k + 1) k := by
  rcases h with ⟨-, h⟩ | ⟨n, e, -⟩
  · exact .inr ⟨k, rfl, hak, by omega, hk, h⟩
  · omega
theorem ZeroAt.more {l : List UInt8} {a k : Nat} {z : Int} (h : ZeroAt l a k z) (hz : 0 ≤ z) : ZeroAt l a (k + 1) z := by
  rcases h with ⟨rfl, h⟩ | ⟨n, rfl, h1, h2, h3, h4⟩
  · omega
  · exact .inr ⟨n, rfl, h1, by omega, h3, h4⟩
theorem ZeroAt.ge {l : List UInt8} {a k : Nat} {z : Int} (h : ZeroAt l a k z) : -1 ≤ z ∧ z < k ∨ z = -1 := by
  rcases h with ⟨rfl, h⟩ | ⟨n, rfl, h1, h2, h3, h4⟩
  · exact .inr rfl
  · exact .inl ⟨by omega, by omega⟩
/-- What the reference's text answers, at a quote. -/
def refTextR (l : List UInt8) (a : Nat) : Value := match P11.textOf (l.drop (a + 1)) with
  | none => .tuple #[.string ⟨#[]⟩, .int .i64 0, .int .i64 a, .int .i64 112]
  | some x => if ((l.drop a).take (x.2 + 1)).contains 0 then .tuple #[.string ⟨#[]⟩, .int .i64 0, .int .i64 ((a + ((l.drop a).take (x.2 + 1)).idxOf 0 : Nat) : Int), .int .i64 111]
    else .tuple #[.string ⟨x.1.toArray⟩, .int .i64 ((a + 1 + x.2 : Nat) : Int), .int .i64 0, .int .i64 0]
theorem no_zero {l : List UInt8} {a k : Nat} (h : ZeroAt l a k (-1)) (hk : k ≤ l.length) (hak : a ≤ k) : ((l.drop a).take (k - a)).contains 0 = false := by
  rcases h with ⟨-, h⟩ | ⟨n, e, -⟩
  · rw [Bool.eq_false_iff]
    intro hc
    obtain ⟨j, hj⟩ := List.mem_iff_getElem?.1 (by simpa using hc : (0 : UInt8) ∈ (l.drop a).take (k - a))
    rw [List.getElem?_take] at hj
    split at hj
    · rw [List.getElem?_drop] at hj
      exact h (a + j) (by omega) (by omega) (by rw [List.getD_eq_getElem?_getD, hj]; rfl)
    · cases hj
  · omega
theorem one_zero {l : List UInt8} {a k n : Nat} (h : ZeroAt l a k n) (hk : k ≤ l.length) : ((l.drop a).take (k - a)).contains 0 = true ∧ a + ((l.drop a).take (k - a)).idxOf 0 = n := by
  rcases h with ⟨e, h⟩ | ⟨m, e, h1, h2, h3, h4⟩
  · omega
  · obtain rfl : m = n := by omega
    have hat : ((l.drop a).take (k - a))[m - a]? = some 0 := by
      rw [List.getElem?_take, if_pos (by omega), List.getElem?_drop, show a + (m - a) = m by omega, List.getElem?_eq_getElem (show m < l.length by omega)]
      rw [List.getD_eq_getElem?_getD, List.getElem?_eq_getElem (show m < l.length by omega)] at h3
      simpa using h3
    have hlt := (List.getElem?_eq_some_iff.1 hat).1
    refine ⟨by simpa using List.mem_of_getElem? hat, ?_⟩
    have : ((l.drop a).take (k - a)).idxOf 0 = m - a := by
      refine P11.idx_at 0 _ (m - a) ?_ ?_
      · intro hc
        obtain ⟨j, hj⟩ := List.mem_iff_getElem?.1 hc
        rw [List.getElem?_take] at hj
        split at hj
        · rw [List.getElem?_take] at hj
          split at hj
          · rw [List.getElem?_drop] at hj
            exact h4 (a + j) (by omega) (by omega) (by rw [List.getD_eq_getElem?_getD, hj]; rfl)
          · cases hj
        · cases hj
      · rw [List.drop_eq_getElem_cons hlt]
        have := (List.getElem?_eq_some_iff.1 hat).2
        rw [this]
    omega
end Go.Proofs.YteipafoiogkdoaaDoor
