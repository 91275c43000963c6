/- Plain functions: what the value layer computes, and their laws. No program in sight. -/
import GoSem.Op.String
set_option linter.unusedSimpArgs false
set_option linter.unusedVariables false
namespace P6
open Go.Op (bytesLess)
def cmpInt (a b : Int) : Int := if a < b then -1 else if b < a then 1 else 0
def cmpStr (a b : List UInt8) : Int := if bytesLess a b then -1 else if a == b then 0 else 1
def isV (k i : Int) (s : List UInt8) : Bool :=
  if k = 0 then i == 0 && s == [] else if k = 1 then (i == 0 || i == 1) && s == [] else if k = 2 then s == []
  else if k = 3 then i == 0 && decide (s.length ≤ 40) && !s.contains 0 else false
theorem less_irrefl : ∀ a, bytesLess a a = false
  | [] => rfl
  | a :: l => by simp [bytesLess, less_irrefl l]
theorem less_asymm : ∀ a b, bytesLess a b = true → bytesLess b a = false
  | [], [], _ => rfl
  | [], _ :: _, _ => rfl
  | _ :: _, [], h => by simp [bytesLess] at h
  | a :: l, b :: m, h => by
    simp only [bytesLess, Bool.or_eq_true, Bool.and_eq_true, decide_eq_true_eq, beq_iff_eq, Bool.or_eq_false_iff, decide_eq_false_iff_not, Bool.and_eq_false_iff] at *
    rcases h with h | ⟨rfl, h⟩
    · refine ⟨?_, Or.inl ?_⟩
      · rw [UInt8.lt_iff_toNat_lt] at *; omega
      · simp only [beq_eq_false_iff_ne]; intro e; subst e; rw [UInt8.lt_iff_toNat_lt] at h; omega
    · exact ⟨by rw [UInt8.lt_iff_toNat_lt]; omega, Or.inr (less_asymm l m h)⟩
theorem less_conn : ∀ a b, bytesLess a b = false → bytesLess b a = false → a = b
  | [], [], _, _ => rfl
  | [], _ :: _, h, _ => by simp [bytesLess] at h
  | _ :: _, [], _, h => by simp [bytesLess] at h
  | a :: l, b :: m, h, g => by
    simp only [bytesLess, Bool.or_eq_false_iff, decide_eq_false_iff_not, Bool.and_eq_false_iff, beq_eq_false_iff_ne, UInt8.lt_iff_toNat_lt] at *
    have e : a = b := UInt8.toNat_inj.1 (by omega)
    subst e
    rw [less_conn l m (by simpa using h.2) (by simpa using g.2)]
theorem less_trans : ∀ a b c, bytesLess a b = true → bytesLess b c = true → bytesLess a c = true
  | _, [], _, h, _ => by cases ‹List UInt8› <;> simp [bytesLess] at h
  | _, _ :: _, [], _, g => by simp [bytesLess] at g
  | [], _ :: _, _ :: _, _, _ => rfl
  | a :: l, b :: m, c :: n, h, g => by
    simp only [bytesLess, Bool.or_eq_true, Bool.and_eq_true, decide_eq_true_eq, beq_iff_eq, UInt8.lt_iff_toNat_lt] at *
    rcases h with h | ⟨rfl, h⟩
    · rcases g with g | ⟨rfl, g⟩
      · exact Or.inl (by omega)
      · exact Or.inl h
    · rcases g with g | ⟨rfl, g⟩
      · exact Or.inl g
      · exact Or.inr ⟨rfl, less_trans l m n h g⟩
/-- The first number that isn't 0. -/
def orInt : List Int → Int
  | [] => 0
  | x :: l => if x = 0 then orInt l else x
theorem orInt_drop : ∀ (l : List Int) (k : Nat), (∀ j, j < k → l.getD j 0 = 0) → k ≤ l.length → orInt l = orInt (l.drop k)
  | _, 0, _, _ => rfl
  | [], k + 1, _, h => by simp at h
  | x :: l, k + 1, h, hl => by
    have h0 : x = 0 := by simpa using h 0 (by omega)
    rw [orInt, if_pos h0, List.drop_succ_cons]
    exact orInt_drop l k (fun j hj => by simpa using h (j + 1) (by omega)) (by simpa using hl)
theorem orInt_at (l : List Int) (k : Nat) (h : ∀ j, j < k → l.getD j 0 = 0) (hk : k < l.length) (hn : l.getD k 0 ≠ 0) : orInt l = l.getD k 0 := by
  rw [orInt_drop l k h (by omega), List.drop_eq_getElem_cons hk, orInt]
  have e : l.getD k 0 = l[k] := by simp [hk]
  rw [e] at hn ⊢
  rw [if_neg hn]
theorem orInt_end (l : List Int) (h : ∀ j, j < l.length → l.getD j 0 = 0) : orInt l = 0 := by
  rw [orInt_drop l l.length h (by omega), List.drop_length]; rfl
def holdsV (op c : Int) : Bool :=
  if op = 3 then decide (c = 0) else if op = 4 then !decide (c = 0) else if op = 5 then decide (c < 0) else if op = 6 then decide (c ≤ 0) else if op = 7 then decide (0 < c) else decide (0 ≤ c)
def truthI (b : Bool) : Int := if b then 1 else 0
def knownI (t : Int) : Int := if t < 0 ∨ 2 < t then 2 else t
end P6
