/- Plain functions: how a value is printed. No program in sight. -/
import Derived.Lib.Replace
import Derived.Lib.CountLaws
import Derived.Lib.ItoaNum
import Derived.Test.YtmoippbmnanajaaGreatDoorP6
set_option linter.unusedSimpArgs false
set_option linter.unusedVariables false
namespace P6
open Go.Lib
/-- Every quote twice. -/
def dbl : List UInt8 → List UInt8
  | [] => []
  | c :: l => if c = 39 then 39 :: 39 :: dbl l else c :: dbl l
theorem index_one_cons (b : UInt8) (l : List UInt8) : index (b :: l) [39] = if b = 39 then 0 else if index l [39] = -1 then -1 else index l [39] + 1 := by
  rw [index]
  by_cases h : b = 39
  · subst h; simp [List.isPrefixOf]
  · have : ([39] : List UInt8).isPrefixOf (b :: l) = false := by simp [List.isPrefixOf]; exact fun e => h e.symm
    simp [h, this]
theorem replace_dbl : ∀ s : List UInt8, replaceK [39] [39, 39] (count s [39]) s = dbl s
  | [] => rfl
  | b :: l => by
    have ih := replace_dbl l
    have hi := index_one_cons b l
    by_cases hb : b = 39
    · rw [if_pos hb] at hi
      have hi0 : index (b :: l) [39] = ((0 : Nat) : Int) := hi
      rw [count_hit (i := 0) (by simp) hi0, Nat.add_comm 1, replaceK_hit _ _ _ _ 0 hi0, dbl, if_pos hb]
      simpa using ih
    · rw [if_neg hb] at hi
      rw [dbl, if_neg hb]
      by_cases hm : index l [39] = -1
      · rw [if_pos hm] at hi
        rw [count_miss hi, replaceK, ← ih, count_miss hm, replaceK]
      · rw [if_neg hm] at hi
        have hge := index_ge l [39]
        obtain ⟨i, hl⟩ := Int.eq_ofNat_of_zero_le (show 0 ≤ index l [39] by omega)
        have hi' : index (b :: l) [39] = ((i + 1 : Nat) : Int) := by rw [hi, hl]; rfl
        rw [count_hit (i := i + 1) (by simp) hi', Nat.add_comm 1, replaceK_hit _ _ _ _ _ hi']
        rw [count_hit (i := i) (by simp) hl, Nat.add_comm 1, replaceK_hit _ _ _ _ _ hl] at ih
        rw [← ih]
        simp
theorem replaceAll_dbl (s : List UInt8) : replaceAll s [39] [39, 39] = dbl s := by
  unfold replaceAll replace replaceNum
  simp only [show (([39] : List UInt8) == [39, 39]) = false from rfl]
  simpa using replace_dbl s
def quote (s : List UInt8) : List UInt8 := 39 :: (dbl s ++ [39])
def printV (k i : Int) (s : List UInt8) : List UInt8 :=
  if isV k i s then (if k = 0 then [78, 85, 76, 76] else if k = 1 then (if i = 1 then [84, 82, 85, 69] else [70, 65, 76, 83, 69]) else if k = 2 then itoa i else quote s) else [63]
theorem dbl_append : ∀ a b, dbl (a ++ b) = dbl a ++ dbl b
  | [], _ => rfl
  | c :: a, b => by rw [List.cons_append, dbl, dbl, dbl_append a b]; split <;> rfl
theorem dbl_length : ∀ s, (dbl s).length ≤ 2 * s.length
  | [] => by simp [dbl]
  | c :: l => by have := dbl_length l; rw [dbl]; split <;> simp <;> omega
end P6
