/- What the claim's proof leans on, part 1: walks of functions and plain laws. -/
import GoSem.Op.String
import Derived.Lib.Replace
import Derived.Lib.CountLaws
import Derived.Lib.ItoaNum
import Derived.Lib.Strings
import Derived.Lib.Bytealg
import Derived.Lib.Case
import Derived.Lib.SlTrimSet
import Derived.KernelRfl
import Derived.Lib.Join
set_option linter.unusedSimpArgs false
set_option linter.unusedVariables false
set_option maxRecDepth 100000
set_option maxHeartbeats 8000000
namespace P6
open Go.Op (bytesLess)
def isV (k i : Int) (s : List UInt8) : Bool :=
 if k = 0 then i == 0 && s == [] else if k = 1 then (i == 0 || i == 1) && s == [] else if k = 2 then s == []
 else if k = 3 then i == 0 && decide (s.length ≤ 40) && !s.contains 0 else false
end P6
namespace P6
open Go.Lib
def dbl : List UInt8 → List UInt8
 | [] => []
 | c :: l => if c = 39 then 39 :: 39 :: dbl l else c :: dbl l
theorem index_one_cons (b : UInt8) (l : List UInt8) : index (b :: l) [39] = if b = 39 then 0 else if index l [39] = -1 then -1 else index l [39] + 1 := by
 rw [index]
 by_cases h : b = 39
 ·subst h; simp [List.isPrefixOf]
 ·have : ([39] : List UInt8).isPrefixOf (b :: l) = false := by simp [List.isPrefixOf]; exact fun e => h e.symm
  simp [h, this]
theorem replace_dbl : ∀ s : List UInt8, replaceK [39] [39, 39] (count s [39]) s = dbl s
 | [] => rfl
 | b :: l => by
  have ih := replace_dbl l
  have hi := index_one_cons b l
  by_cases hb : b = 39
  ·rw [if_pos hb] at hi
   have hi0 : index (b :: l) [39] = ((0 : Nat) : Int) := hi
   rw [count_hit (i := 0) (by simp) hi0, Nat.add_comm 1, replaceK_hit _ _ _ _ 0 hi0, dbl, if_pos hb]
   simpa using ih
  ·rw [if_neg hb] at hi
   rw [dbl, if_neg hb]
   by_cases hm : index l [39] = -1
   ·rw [if_pos hm] at hi
    rw [count_miss hi, replaceK, ← ih, count_miss hm, replaceK]
   ·rw [if_neg hm] at hi
    have hge := index_ge l [39]
    obtain ⟨i, hl⟩ := Int.eq_ofNat_of_zero_le (show 0 ≤ index l [39] by omega)
    have hi' : index (b :: l) [39] = ((i + 1 : Nat) : Int) := by rw [hi, hl]; rfl
    rw [count_hit (i := i + 1) (by simp) hi', Nat.add_comm 1, replaceK_hit _ _ _ _ _ hi']
    rw [count_hit (i := i) (by simp) hl, Nat.add_comm 1, replaceK_hit _ _ _ _ _ hl] at ih
    rw [← ih]
    simp
theorem replaceAll_dbl (s : List UInt8) : replaceAll s [39] [39, 39] = dbl s := by
 unfold replaceAll replace replaceNum
 simp only [show (([39] : List UInt8) == [39, 39]) = false from rfl]
 simpa using replace_dbl s
def quote (s : List UInt8) : List UInt8 := 39 :: (dbl s ++ [39])
def printV (k i : Int) (s : List UInt8) : List UInt8 :=
 if isV k i s then (if k = 0 then [78, 85, 76, 76] else if k = 1 then (if i = 1 then [84, 82, 85, 69] else [70, 65, 76, 83, 69]) else if k = 2 then itoa i else quote s) else [63]
theorem dbl_length : ∀ s, (dbl s).length ≤ 2 * s.length
 | [] => by simp [dbl]
 | c :: l => by have := dbl_length l; rw [dbl]; split <;> simp <;> omega
end P6
namespace P11
open Go.Lib (upperB lowerB)
structure Tok where
 kind : Int
 text : List UInt8
 pos : Nat
def letter (c : UInt8) : Bool := (97 ≤ c && c ≤ 122) || (65 ≤ c && c ≤ 90) || c == 95
def digit (c : UInt8) : Bool := 48 ≤ c && c ≤ 57
def alnum (c : UInt8) : Bool := letter c || digit c
def blank (c : UInt8) : Bool := c == 32 || c == 9 || c == 10 || c == 13
def words : List (List UInt8) := [[65, 78, 68], [65, 83], [65, 83, 67], [66, 69, 71, 73, 78], [66, 79, 79, 76], [66, 89], [67, 72, 69, 67, 75], [67, 79, 77, 77, 73, 84], [67, 79, 85, 78, 84], [67, 82, 69, 65, 84, 69], [68, 69, 76, 69, 84, 69], [68, 69, 83, 67], [68, 82, 79, 80], [70, 65, 76, 83, 69], [70, 82, 79, 77], [71, 82, 79, 85, 80], [73, 78, 68, 69, 88], [73, 78, 83, 69, 82, 84], [73, 78, 84], [73, 78, 84, 79], [73, 83], [74, 79, 73, 78], [75, 69, 89], [76, 73, 77, 73, 84], [77, 65, 88], [77, 73, 78], [78, 79, 84], [78, 85, 76, 76], [79, 78], [79, 82], [79, 82, 68, 69, 82], [80, 82, 73, 77, 65, 82, 89], [82, 79, 76, 76, 66, 65, 67, 75], [83, 69, 76, 69, 67, 84], [83, 69, 84], [83, 85, 77], [84, 65, 66, 76, 69], [84, 69, 88, 84], [84, 82, 85, 69], [85, 78, 73, 81, 85, 69], [85, 80, 68, 65, 84, 69], [86, 65, 76, 85, 69, 83], [87, 72, 69, 82, 69]]
def signs : List (List UInt8) := [[60, 62], [60, 61], [62, 61], [124, 124], [40], [41], [44], [46], [42], [61], [60], [62], [43], [45], [47], [37], [59]]
def signOf (r : List UInt8) : Option (List UInt8) := signs.find? fun x => x.isPrefixOf r
def numOf : List UInt8 → List UInt8
 | [] => []
 | [c] => [c]
 | c :: d :: l => if c = 48 then numOf (d :: l) else c :: d :: l
def textOf : List UInt8 → Option (List UInt8 × Nat)
 | [] => none
 | [c] => if c = 39 then some ([], 1) else none
 | c :: d :: l => if c = 39 then (if d = 39 then (textOf l).map fun x => (39 :: x.1, x.2 + 2) else some ([], 1)) else (textOf (d :: l)).map fun x => (c :: x.1, x.2 + 1)
def lineLen (r : List UInt8) : Nat := (r.takeWhile (· != 10)).length
def step : List UInt8 → (Nat × Option (Int × List UInt8)) ⊕ (Nat × Int)
 | [] => .inr (0, 0)
 | c :: t =>
  if blank c then .inl (1, none)
  else if [45, 45].isPrefixOf (c :: t) then .inl (lineLen (c :: t), none)
  else if c = 39 then
   match textOf t with
   | none => .inr (0, 112)
   | some x => if ((c :: t).take (x.2 + 1)).contains 0 then .inr (((c :: t).take (x.2 + 1)).idxOf 0, 111) else .inl (x.2 + 1, some (4, x.1))
  else if letter c then
   let w := (c :: t).takeWhile alnum
   .inl (w.length, some (if words.contains (w.map upperB) then (2, w.map upperB) else (1, w.map lowerB)))
  else if digit c then
   let w := (c :: t).takeWhile digit
   .inl (w.length, some (3, numOf w))
  else match signOf (c :: t) with
   | none => .inr (0, 111)
   | some x => .inl (x.length, some (5, x))
def withTok (t : Option (Int × List UInt8)) (p : Nat) (l : List Tok) : List Tok :=
 match t with
 | none => l
 | some x => ⟨x.1, x.2, p⟩ :: l
def toksF : Nat → List UInt8 → Nat → List Tok ⊕ (Nat × Int)
 | 0, _, _ => .inr (0, 0)
 | _ + 1, [], p => .inl [⟨0, [], p⟩]
 | f + 1, c :: t, p =>
  match step (c :: t) with
  | .inr x => .inr (p + x.1, x.2)
  | .inl x => match toksF f ((c :: t).drop x.1) (p + x.1) with
   | .inr y => .inr y
   | .inl l => .inl (withTok x.2 p l)
def toks (r : List UInt8) (p : Nat) : List Tok ⊕ (Nat × Int) := toksF (r.length + 1) r p
def lexed (s : List UInt8) : List Tok ⊕ (Nat × Int) := if 4096 < s.length then .inr (0, 110) else toks s 0
theorem textOf_pos : ∀ (n : Nat) (l : List UInt8), l.length ≤ n → ∀ x, textOf l = some x → 0 < x.2 ∧ x.2 ≤ l.length
 | _, [], _, x, h => by simp [textOf] at h
 | _, [c], _, x, h => by
  rw [textOf] at h
  split at h
  ·cases h; simp
  ·cases h
 | 0, _ :: _ :: _, hn, _, _ => by simp at hn
 | n + 1, c :: d :: l, hn, x, h => by
  rw [textOf] at h
  simp only [List.length_cons] at hn
  split at h
  ·split at h
   ·obtain ⟨y, hy, rfl⟩ := Option.map_eq_some_iff.1 h
    have := textOf_pos n l (by omega) y hy
    simp only [List.length_cons]; omega
   ·cases h; simp
  ·obtain ⟨y, hy, rfl⟩ := Option.map_eq_some_iff.1 h
   have := textOf_pos n (d :: l) (by simp; omega) y hy
   simp only [List.length_cons] at this ⊢; omega
theorem letter_alnum {c : UInt8} (h : letter c = true) : alnum c = true := by simp [alnum, h]
theorem signs_pos : ∀ x ∈ signs, 0 < x.length := by decide
theorem signOf_pre {r x : List UInt8} (h : signOf r = some x) : 0 < x.length ∧ x.isPrefixOf r = true :=
 ⟨signs_pos x (List.mem_of_find?_eq_some h), by simpa using List.find?_some h⟩
theorem step_pos {c : UInt8} {t : List UInt8} {x} (h : step (c :: t) = .inl x) : 0 < x.1 ∧ x.1 ≤ (c :: t).length := by
 rw [step] at h
 split at h
 ·cases h; simp
 split at h
 ·rename_i h1 h2
  cases h
  constructor
  ·unfold lineLen
   have hc : c = 45 := by simp [List.isPrefixOf] at h2; exact h2.1.symm
   subst hc
   simp [List.takeWhile]
  ·exact (List.takeWhile_prefix _).length_le
 split at h
 ·split at h
  ·cases h
  ·rename_i y hy
   split at h
   ·cases h
   ·cases h
    have := textOf_pos _ t (Nat.le_refl _) y hy
    simp only [List.length_cons]; omega
 split at h
 ·rename_i h4
  cases h
  refine ⟨?_, (List.takeWhile_prefix _).length_le⟩
  simp [List.takeWhile, letter_alnum h4]
 split at h
 ·rename_i h5
  cases h
  refine ⟨?_, (List.takeWhile_prefix _).length_le⟩
  simp [List.takeWhile, h5]
 split at h
 ·cases h
 ·rename_i x hx
  cases h
  obtain ⟨h1, h2⟩ := signOf_pre hx
  exact ⟨h1, (List.isPrefixOf_iff_prefix.1 h2).length_le⟩
theorem toksF_more : ∀ (f g : Nat) (r : List UInt8) (p : Nat), r.length < f → r.length < g → toksF f r p = toksF g r p
 | 0, _, _, _, h, _ => by omega
 | _ + 1, 0, _, _, _, h => by omega
 | f + 1, g + 1, [], p, _, _ => rfl
 | f + 1, g + 1, c :: t, p, hf, hg => by
  rw [toksF, toksF]
  cases hs : step (c :: t) with
  | inr x => rfl
  | inl x =>
   have := step_pos hs
   simp only [List.length_cons] at hf hg this
   have e := toksF_more f g ((c :: t).drop x.1) (p + x.1) (by simp only [List.length_drop, List.length_cons]; omega) (by simp only [List.length_drop, List.length_cons]; omega)
   simp only [e]
theorem toks_nil (p : Nat) : toks [] p = .inl [⟨0, [], p⟩] := rfl
theorem toks_err {c : UInt8} {t : List UInt8} {x} (p : Nat) (h : step (c :: t) = .inr x) : toks (c :: t) p = .inr (p + x.1, x.2) := by
 rw [toks, toksF, h]
theorem toks_step {c : UInt8} {t : List UInt8} {x} (p : Nat) (h : step (c :: t) = .inl x) : toks (c :: t) p = match toks ((c :: t).drop x.1) (p + x.1) with
  | .inr y => .inr y
  | .inl l => .inl (withTok x.2 p l) := by
 have := step_pos h
 simp only [List.length_cons] at this
 have e := toksF_more (c :: t).length (((c :: t).drop x.1).length + 1) ((c :: t).drop x.1) (p + x.1) (by simp only [List.length_drop, List.length_cons]; omega) (by omega)
 rw [toks, toksF, h]
 simp only [e]
 rfl
def after (acc : List Tok) : List Tok ⊕ (Nat × Int) → List Tok ⊕ (Nat × Int)
 | .inr y => .inr y
 | .inl l => .inl (acc ++ l)
theorem after_nil (x) : after [] x = x := by cases x <;> rfl
theorem after_none {c : UInt8} {t : List UInt8} {n : Nat} {p : Nat} {acc : List Tok} (h : step (c :: t) = .inl (n, none)) : after acc (toks (c :: t) p) = after acc (toks ((c :: t).drop n) (p + n)) := by
 rw [toks_step p h]; dsimp only; cases toks ((c :: t).drop n) (p + n) <;> rfl
theorem after_some {c : UInt8} {t : List UInt8} {n : Nat} {p : Nat} {k : Int} {u : List UInt8} {acc : List Tok} (h : step (c :: t) = .inl (n, some (k, u))) : after acc (toks (c :: t) p) = after (acc ++ [⟨k, u, p⟩]) (toks ((c :: t).drop n) (p + n)) := by
 rw [toks_step p h]; dsimp only; cases toks ((c :: t).drop n) (p + n) <;> simp [after, withTok]
theorem after_err {c : UInt8} {t : List UInt8} {n : Nat} {p : Nat} {e : Int} {acc : List Tok} (h : step (c :: t) = .inr (n, e)) : after acc (toks (c :: t) p) = .inr (p + n, e) := by
 rw [toks_err p h]; rfl
end P11
namespace P11
open Go.Lib (upperB lowerB)
open P6 (dbl)
theorem u8_all {p : UInt8 → Bool} (h : (List.range 256).all (fun n => p (UInt8.ofNat n)) = true) (c : UInt8) : p c = true := by
 have := List.all_eq_true.1 h c.toNat (List.mem_range.2 c.toNat_lt)
 simpa using this
theorem u8_imp {p q : UInt8 → Bool} (h : (List.range 256).all (fun n => !p (UInt8.ofNat n) || q (UInt8.ofNat n)) = true) (c : UInt8) (hp : p c = true) : q c = true := by
 have := u8_all (p := fun c => !p c || q c) h c
 simpa [hp] using this
theorem textOf_ne (c : UInt8) (x : List UInt8) (h : c ≠ 39) : textOf (c :: x) = (textOf x).map fun y => (c :: y.1, y.2 + 1) := by
 cases x with
 | nil => simp [textOf, h]
 | cons d l => rw [textOf, if_neg h]
theorem textOf_qq (x : List UInt8) : textOf (39 :: 39 :: x) = (textOf x).map fun y => (39 :: y.1, y.2 + 2) := by
 rw [textOf, if_pos rfl, if_pos rfl]
theorem textOf_q (r : List UInt8) (h : r.head? ≠ some 39) : textOf (39 :: r) = some ([], 1) := by
 cases r with
 | nil => rfl
 | cons d l => rw [textOf, if_pos rfl, if_neg (by simpa using h)]
theorem textOf_dbl (r : List UInt8) (h : r.head? ≠ some 39) : ∀ s : List UInt8, textOf (dbl s ++ 39 :: r) = some (s, (dbl s).length + 1)
 | [] => by simpa [dbl] using textOf_q r h
 | c :: s => by
  rw [dbl]
  have ih := textOf_dbl r h s
  split
  ·rename_i hc
   subst hc
   simp only [List.cons_append]
   rw [textOf_qq, ih]; simp
  ·rename_i hc
   simp only [List.cons_append]
   rw [textOf_ne _ _ hc, ih]; simp
theorem after_blank {c : UInt8} (h : blank c = true) (r : List UInt8) (p : Nat) (acc : List Tok) : after acc (toks (c :: r) p) = after acc (toks r (p + 1)) :=
 after_none (n := 1) (by rw [step, if_pos h])
def good (x : Int × List UInt8) : Prop :=
 (x.1 = 1 ∧ (∃ c l, x.2 = c :: l ∧ letter c = true) ∧ x.2.all alnum = true ∧ x.2.map lowerB = x.2 ∧ words.contains (x.2.map upperB) = false) ∨
 (x.1 = 2 ∧ (∃ c l, x.2 = c :: l ∧ letter c = true) ∧ x.2.all alnum = true ∧ x.2.map upperB = x.2 ∧ words.contains x.2 = true) ∨
 (x.1 = 3 ∧ x.2 ≠ [] ∧ x.2.all digit = true ∧ numOf x.2 = x.2) ∨ (x.1 = 4 ∧ x.2.contains 0 = false) ∨ (x.1 = 5 ∧ x.2 ∈ signs)
def pr (x : Int × List UInt8) : List UInt8 := if x.1 = 4 then P6.quote x.2 else x.2
theorem letter_up (c : UInt8) : letter (upperB c) = letter c := by simpa using u8_all (p := fun c => letter (upperB c) == letter c) (by decide +kernel) c
theorem letter_lo (c : UInt8) : letter (lowerB c) = letter c := by simpa using u8_all (p := fun c => letter (lowerB c) == letter c) (by decide +kernel) c
theorem alnum_up (c : UInt8) : alnum (upperB c) = alnum c := by simpa using u8_all (p := fun c => alnum (upperB c) == alnum c) (by decide +kernel) c
theorem alnum_lo (c : UInt8) : alnum (lowerB c) = alnum c := by simpa using u8_all (p := fun c => alnum (lowerB c) == alnum c) (by decide +kernel) c
theorem up_up (c : UInt8) : upperB (upperB c) = upperB c := by simpa using u8_all (p := fun c => upperB (upperB c) == upperB c) (by decide +kernel) c
theorem lo_lo (c : UInt8) : lowerB (lowerB c) = lowerB c := by simpa using u8_all (p := fun c => lowerB (lowerB c) == lowerB c) (by decide +kernel) c
theorem up_lo (c : UInt8) : upperB (lowerB c) = upperB c := by simpa using u8_all (p := fun c => upperB (lowerB c) == upperB c) (by decide +kernel) c
theorem takeWhile_all (p : UInt8 → Bool) : ∀ l : List UInt8, (l.takeWhile p).all p = true
 | [] => rfl
 | c :: l => by
  rw [List.takeWhile]
  split
  ·rename_i h; simp only [List.all_cons, h, Bool.true_and]; exact takeWhile_all p l
  ·rfl
theorem numOf_idem : ∀ l : List UInt8, numOf (numOf l) = numOf l
 | [] => rfl
 | [c] => rfl
 | c :: d :: l => by
  rw [numOf]
  split
  ·exact numOf_idem (d :: l)
  ·rename_i h; rw [numOf, if_neg h]
theorem numOf_ne : ∀ l : List UInt8, l ≠ [] → numOf l ≠ []
 | [], h => absurd rfl h
 | [c], _ => by simp [numOf]
 | c :: d :: l, _ => by
  rw [numOf]
  split
  ·exact numOf_ne (d :: l) (by simp)
  ·simp
theorem numOf_all (p : UInt8 → Bool) : ∀ l : List UInt8, l.all p = true → (numOf l).all p = true
 | [], _ => rfl
 | [c], h => h
 | c :: d :: l, h => by
  rw [numOf]
  split
  ·exact numOf_all p (d :: l) (by simp only [List.all_cons, Bool.and_eq_true] at h ⊢; exact h.2)
  ·exact h
theorem textOf_zero : ∀ (n : Nat) (l : List UInt8), l.length ≤ n → ∀ x, textOf l = some x → (l.take x.2).contains 0 = false → x.1.contains 0 = false
 | _, [], _, x, h, _ => by simp [textOf] at h
 | _, [c], _, x, h, _ => by
  rw [textOf] at h
  split at h
  ·cases h; rfl
  ·cases h
 | 0, _ :: _ :: _, hn, _, _, _ => by simp at hn
 | n + 1, c :: d :: l, hn, x, h, h0 => by
  rw [textOf] at h
  simp only [List.length_cons] at hn
  split at h
  ·split at h
   ·obtain ⟨y, hy, rfl⟩ := Option.map_eq_some_iff.1 h
    dsimp only at h0 ⊢
    rw [List.take_succ_cons, List.take_succ_cons] at h0
    have := textOf_zero n l (by omega) y hy (by simp_all)
    simp_all
   ·cases h; rfl
  ·obtain ⟨y, hy, rfl⟩ := Option.map_eq_some_iff.1 h
   dsimp only at h0 ⊢
   rw [List.take_succ_cons] at h0
   have := textOf_zero n (d :: l) (by simp; omega) y hy (by simp_all)
   simp_all
theorem map_all {f : UInt8 → UInt8} {p : UInt8 → Bool} (h : ∀ c, p (f c) = p c) (l : List UInt8) : (l.map f).all p = l.all p := by
 rw [List.all_map]; congr 1; funext c; exact h c
theorem step_good {c : UInt8} {t : List UInt8} {n : Nat} {x : Int × List UInt8} (h : step (c :: t) = .inl (n, some x)) : good x := by
 rw [step] at h
 split at h
 ·cases h
 split at h
 ·cases h
 split at h
 ·split at h
  ·cases h
  ·rename_i y hy
   split at h
   ·cases h
   ·rename_i h0
    cases h
    refine .inr (.inr (.inr (.inl ⟨rfl, ?_⟩)))
    rw [List.take_succ_cons] at h0
    exact textOf_zero _ t (Nat.le_refl _) y hy (by simp_all)
 split at h
 ·rename_i h4
  have ha := takeWhile_all alnum (c :: t)
  have hh : ∃ c' l, (c :: t).takeWhile alnum = c' :: l ∧ letter c' = true := ⟨c, t.takeWhile alnum, by rw [List.takeWhile, letter_alnum h4], h4⟩
  generalize (c :: t).takeWhile alnum = w at *
  obtain ⟨c', l, rfl, hl⟩ := hh
  dsimp only at h
  split at h
  ·rename_i hw
   cases h
   exact .inr (.inl ⟨rfl, ⟨_, _, rfl, by rw [letter_up]; exact hl⟩, by dsimp only; rw [map_all alnum_up]; exact ha, by simp [up_up], hw⟩)
  ·rename_i hw
   cases h
   refine .inl ⟨rfl, ⟨_, _, rfl, by rw [letter_lo]; exact hl⟩, by dsimp only; rw [map_all alnum_lo]; exact ha, by simp [lo_lo], ?_⟩
   dsimp only
   rw [List.map_map, show upperB ∘ lowerB = upperB from funext up_lo]
   simpa using hw
 split at h
 ·rename_i h5
  have ha := takeWhile_all digit (c :: t)
  have hh : (c :: t).takeWhile digit ≠ [] := by simp [List.takeWhile, h5]
  cases h
  exact .inr (.inr (.inl ⟨rfl, numOf_ne _ hh, numOf_all _ _ ha, numOf_idem _⟩))
 split at h
 ·cases h
 ·rename_i y hy
  cases h
  exact .inr (.inr (.inr (.inr ⟨rfl, List.mem_of_find?_eq_some hy⟩)))
theorem letter_first (c : UInt8) (h : letter c = true) : (!blank c && c != 45 && c != 39) = true := u8_imp (p := letter) (q := fun c => !blank c && c != 45 && c != 39) (by decide +kernel) c h
theorem digit_first (c : UInt8) (h : digit c = true) : (!blank c && c != 45 && c != 39 && !letter c) = true := u8_imp (p := digit) (q := fun c => !blank c && c != 45 && c != 39 && !letter c) (by decide +kernel) c h
def kt (t : Tok) : Int × List UInt8 := (t.kind, t.text)
theorem toks_form : ∀ (n : Nat) (r : List UInt8) (p : Nat) (l : List Tok), r.length ≤ n → toks r p = .inl l → ∃ l', l = l' ++ [⟨0, [], p + r.length⟩] ∧ ∀ t ∈ l', good (kt t)
 | _, [], p, l, _, h => by rw [toks_nil] at h; cases h; exact ⟨[], rfl, fun t ht => by cases ht⟩
 | 0, _ :: _, _, _, hn, _ => by simp at hn
 | n + 1, c :: t, p, l, hn, h => by
  cases hs : step (c :: t) with
  | inr x => rw [toks_err p hs] at h; cases h
  | inl x =>
   have hp := step_pos hs
   rw [toks_step p hs] at h
   cases hr : toks ((c :: t).drop x.1) (p + x.1) with
   | inr y => simp only [hr] at h; cases h
   | inl m =>
    simp only [hr, Sum.inl.injEq] at h
    obtain ⟨l', rfl, hg⟩ := toks_form n _ _ _ (by simp only [List.length_drop, List.length_cons] at hn hp ⊢; omega) hr
    have e : p + x.1 + ((c :: t).drop x.1).length = p + (c :: t).length := by rw [List.length_drop]; omega
    rw [e] at h
    obtain ⟨k, o⟩ := x
    cases o with
    | none => exact ⟨l', by rw [← h]; rfl, hg⟩
    | some y =>
     refine ⟨⟨y.1, y.2, p⟩ :: l', by rw [← h]; rfl, fun t' ht' => ?_⟩
     rcases List.mem_cons.1 ht' with rfl | h'
     ·exact step_good hs
     ·exact hg t' h'
def written (l : List (Int × List UInt8)) : List UInt8 := (l.map fun x => pr x ++ [32]).flatten
end P11
namespace P12
open P11 (Tok)
abbrev T := List UInt8
inductive E where
 | none
 | val (k i : Int) (s : T)
 | col (t n : T)
 | una (op : Int) (a : E)
 | bin (op : Int) (a b : E)
 | call (op : Int) (a : E)
 | all
structure R where
 l : List Tok
 deep : Nat
abbrev Er := Nat × Int
def nxt (r : R) : Tok := r.l.headD ⟨0, [], 0⟩
def fails {α : Type} (e : Int) (r : R) : Except Er α := .error ((nxt r).pos, e)
def takes (r : R) : R := if (nxt r).kind = 0 then r else ⟨r.l.tail, r.deep⟩
def isT (s : T) (r : R) : Bool := ((nxt r).kind == 2 || (nxt r).kind == 5) && (nxt r).text == s
def has (s : T) (r : R) : Bool × R := if isT s r then (true, takes r) else (false, r)
def must (s : T) (r : R) : Except Er R := if isT s r then .ok (takes r) else fails 120 r
def name (r : R) : Except Er (T × R) := if (nxt r).kind ≠ 1 then fails 120 r else if 24 < (nxt r).text.length then fails 124 r else .ok ((nxt r).text, takes r)
def maybe (r : R) : Except Er (T × R) := if (nxt r).kind ≠ 1 then .ok ([], r) else name r
def named (r : R) : Bool := (nxt r).kind == 1 && decide ((nxt r).text.length ≤ 24)
def opens (r : R) : Except Er R := if r.deep = 100 then fails 121 r else .ok ⟨r.l, r.deep + 1⟩
def closes (r : R) : R := ⟨r.l, r.deep - 1⟩
def dec (s : T) : Nat := s.foldl (fun a c => 10 * a + (c.toNat - 48)) 0
def int (most : Nat) (r : R) : Except Er (Nat × R) := if most < dec (nxt r).text then fails 123 r else .ok (dec (nxt r).text, takes r)
def rowF {α : Type} (most : Nat) (could : R → Bool) (read : R → Except Er (α × R)) : Nat → Nat → R → Except Er (List α × R)
 | 0, _, r => fails 120 r
 | f + 1, n, r =>
  if most < n + 1 && could r then fails 122 r else
  match read r with
  | .error e => .error e
  | .ok (x, r) =>
   if isT [44] r then
    match rowF most could read f (n + 1) (takes r) with
    | .error e => .error e
    | .ok (xs, r) => .ok (x :: xs, r)
   else .ok ([x], r)
def fnOf (s : T) : Option Int := if s = [67, 79, 85, 78, 84] then some 20 else if s = [83, 85, 77] then some 21 else if s = [77, 73, 78] then some 22 else if s = [77, 65, 88] then some 23 else none
def begins (r : R) : Bool :=
 let t := nxt r
 if t.kind = 1 then named r else if t.kind = 3 then decide (dec t.text ≤ 9223372036854775807) else if t.kind = 4 then true
 else if t.kind = 5 then t.text == [40] || t.text == [45]
 else if t.kind = 2 then (fnOf t.text).isSome || t.text == [78, 79, 84] || t.text == [78, 85, 76, 76] || t.text == [84, 82, 85, 69] || t.text == [70, 65, 76, 83, 69] else false
def within {α : Type} (read : R → Except Er (α × R)) (r : R) : Except Er (α × R) :=
 if isT [40] r = false then fails 120 r else
 match opens r with
 | .error e => .error e
 | .ok r =>
  match read (takes r) with
  | .error e => .error e
  | .ok (x, r) =>
   match must [41] r with
   | .error e => .error e
   | .ok r => .ok (x, closes r)
def column (r : R) : Except Er (E × R) :=
 match name r with
 | .error e => .error e
 | .ok (a, r) =>
  if isT [46] r then
   match name (takes r) with
   | .error e => .error e
   | .ok (b, r) => .ok (.col a b, r)
  else .ok (.col [] a, r)
def callArg (ex : R → Except Er (E × R)) (op : Int) (r : R) : Except Er ((Bool × E) × R) :=
 if op = 20 ∧ isT [42] r = true then .ok ((true, E.none), takes r) else
 match ex r with
 | .error e => .error e
 | .ok (a, r) => .ok ((false, a), r)
def call (ex : R → Except Er (E × R)) (op : Int) (r : R) : Except Er (E × R) :=
 match within (callArg ex op) r with
 | .error e => .error e
 | .ok ((all, a), r) => .ok (if all then .all else .call op a, r)
def primary (ex : R → Except Er (E × R)) (r : R) : Except Er (E × R) :=
 let t := nxt r
 if t.kind = 3 then
  match int 9223372036854775807 r with
  | .error e => .error e
  | .ok (n, r) => .ok (E.val 2 n [], r)
 else if t.kind = 4 then (if 40 < t.text.length then fails 122 r else .ok (E.val 3 0 t.text, takes r))
 else if t.kind = 1 then column r
 else if isT [40] r then within ex r
 else if t.kind = 2 then
  match fnOf t.text with
  | some op => call ex op (takes r)
  | none =>
   if t.text = [78, 85, 76, 76] then .ok (E.val 0 0 [], takes r)
   else if t.text = [84, 82, 85, 69] then .ok (E.val 1 1 [], takes r)
   else if t.text = [70, 65, 76, 83, 69] then .ok (E.val 1 0 [], takes r)
   else fails 120 r
 else fails 120 r
def factorF (ex : R → Except Er (E × R)) : Nat → R → Except Er (E × R)
 | 0, r => fails 120 r
 | f + 1, r =>
  if isT [45] r = false then primary ex r else
  if (nxt ⟨r.l.tail, r.deep⟩).kind = 3 then
   match int 9223372036854775808 (takes r) with
   | .error e => .error e
   | .ok (n, r) => .ok (E.val 2 (-(n : Int)) [], r)
  else
   match opens r with
   | .error e => .error e
   | .ok r =>
    match factorF ex f (takes r) with
    | .error e => .error e
    | .ok (a, r) => .ok (E.una 16 a, closes r)
def binF (part : R → Except Er (E × R)) (ops : List (T × Int)) : Nat → E → R → Except Er (E × R)
 | 0, _, r => fails 120 r
 | f + 1, e, r =>
  match ops.find? fun o => isT o.1 r with
  | none => .ok (e, r)
  | some o =>
   match part (takes r) with
   | .error x => .error x
   | .ok (b, r) => binF part ops f (E.bin o.2 e b) r
def binary (part : R → Except Er (E × R)) (ops : List (T × Int)) (r : R) : Except Er (E × R) :=
 match part r with
 | .error e => .error e
 | .ok (a, r) => binF part ops r.l.length a r
def mulOps : List (T × Int) := [([42], 11), ([47], 12), ([37], 13)]
def addOps : List (T × Int) := [([43], 9), ([45], 10), ([124, 124], 14)]
def cmpOps : List (T × Int) := [([61], 3), ([60, 62], 4), ([60], 5), ([60, 61], 6), ([62], 7), ([62, 61], 8)]
def test (sum : R → Except Er (E × R)) (r : R) : Except Er (E × R) :=
 match sum r with
 | .error e => .error e
 | .ok (a, r) =>
  match cmpOps.find? fun o => isT o.1 r with
  | some o =>
   match sum (takes r) with
   | .error e => .error e
   | .ok (b, r) => .ok (E.bin o.2 a b, r)
  | none =>
   if isT [73, 83] r = false then .ok (a, r) else
   let n := has [78, 79, 84] (takes r)
   match must [78, 85, 76, 76] n.2 with
   | .error e => .error e
   | .ok r => .ok (E.una (if n.1 then 18 else 17) a, r)
def notF (tst : R → Except Er (E × R)) : Nat → R → Except Er (E × R)
 | 0, r => fails 120 r
 | f + 1, r =>
  if isT [78, 79, 84] r = false then tst r else
  match opens r with
  | .error e => .error e
  | .ok r =>
   match notF tst f (takes r) with
   | .error e => .error e
   | .ok (a, r) => .ok (E.una 15 a, closes r)
def orOps : List (T × Int) := [([79, 82], 1)]
def andOps : List (T × Int) := [([65, 78, 68], 2)]
def productF (ex : R → Except Er (E × R)) (f : Nat) : R → Except Er (E × R) := binary (factorF ex f) mulOps
def sumF (ex : R → Except Er (E × R)) (f : Nat) : R → Except Er (E × R) := binary (productF ex f) addOps
def testF (ex : R → Except Er (E × R)) (f : Nat) : R → Except Er (E × R) := test (sumF ex f)
def andF (ex : R → Except Er (E × R)) (f : Nat) : R → Except Er (E × R) := binary (notF (testF ex f) f) andOps
def exprF : Nat → R → Except Er (E × R)
 | 0, r => fails 120 r
 | f + 1, r => binary (andF (exprF f) (f + 1)) orOps r
def expr (r : R) : Except Er (E × R) := exprF 101 r
structure Tb where
 name : T := []
 cols : List (T × Int × Bool) := []
 keys : List Bool := []
 checks : List E := []
structure St where
 kind : Int := 0
 tb : Tb := {}
 keyCols : List (List T) := []
 name : T := []
 on : T := []
 unique : Bool := false
 cols : List T := []
 rows : List (List E) := []
 sets : List (T × E) := []
 wher : E := E.none
 items : List (Bool × E × T) := []
 frm : List (T × T) := []
 join : E := E.none
 group : List E := []
 order : List (E × Bool) := []
 limit : Int := 0
def made (k : Int) : St := { kind := k, limit := if k = 8 then -1 else 0 }
def names (r : R) : Except Er (List T × R) := do
 let r ← must [40] r
 let (l, r) ← rowF 16 named name r.l.length 0 r
 let r ← must [41] r
 return (l, r)
def constrains (r : R) : Bool := isT [80, 82, 73, 77, 65, 82, 89] r || isT [85, 78, 73, 81, 85, 69] r || isT [67, 72, 69, 67, 75] r
abbrev Con := Sum E (Bool × List T)
def keyWord (r : R) : Except Er R := if (has [80, 82, 73, 77, 65, 82, 89] r).1 then must [75, 69, 89] (has [80, 82, 73, 77, 65, 82, 89] r).2 else must [85, 78, 73, 81, 85, 69] (has [80, 82, 73, 77, 65, 82, 89] r).2
def colsOf (c : T) (r : R) : Except Er (List T × R) := if c = [] then names r else .ok ([c], r)
def conOf (n : Nat) (c : T) (r : R) : Except Er (Con × R) :=
 if 16 < n + 1 && constrains r then fails 122 r else
 if isT [67, 72, 69, 67, 75] r then
  match within expr (takes r) with
  | .error e => .error e
  | .ok (e, r) => .ok (.inl e, r)
 else
  match keyWord r with
  | .error e => .error e
  | .ok r1 =>
   match colsOf c r1 with
   | .error e => .error e
   | .ok (l, r2) => .ok (.inr ((has [80, 82, 73, 77, 65, 82, 89] r).1, l), r2)
def addT (t : Tb) : Con → Tb
 | .inl e => { t with checks := t.checks ++ [e] }
 | .inr (p, _) => { t with keys := t.keys ++ [p] }
def addK (k : List (List T)) : Con → List (List T)
 | .inl _ => k
 | .inr (_, l) => k ++ [l]
def typeOf (r : R) : Except Er (Int × R) :=
 if isT [66, 79, 79, 76] r then .ok (1, takes r) else if isT [73, 78, 84] r then .ok (2, takes r) else if isT [84, 69, 88, 84] r then .ok (3, takes r) else fails 120 r
def tailF (c : T) : Nat → Tb → List (List T) → Nat → Bool → R → Except Er ((Tb × List (List T) × Nat × Bool) × R)
 | 0, _, _, _, _, r => fails 120 r
 | f + 1, t, k, n, nn, r =>
  if isT [78, 79, 84] r then
   match must [78, 85, 76, 76] (takes r) with
   | .error e => .error e
   | .ok r => tailF c f t k n true r
  else if constrains r then
   match conOf n c r with
   | .error e => .error e
   | .ok (o, r2) => tailF c f (addT t o) (addK k o) (n + 1) (nn || isT [80, 82, 73, 77, 65, 82, 89] r) r2
  else .ok ((t, k, n, nn), r)
def part (t : Tb) (k : List (List T)) (n : Nat) (r : R) : Except Er ((Tb × List (List T) × Nat) × R) :=
 if constrains r then
  match conOf n [] r with
  | .error e => .error e
  | .ok (o, r) => .ok ((addT t o, addK k o, n + 1), r)
 else if 16 < n + 1 && named r then fails 122 r else
  match name r with
  | .error e => .error e
  | .ok (c, r) =>
   match typeOf r with
   | .error e => .error e
   | .ok (ty, r) =>
    match tailF c r.l.length t k (n + 1) false r with
    | .error e => .error e
    | .ok ((t, k, n, nn), r) => .ok (({ t with cols := t.cols ++ [(c, ty, nn)] }, k, n), r)
def partsF : Nat → Tb → List (List T) → Nat → R → Except Er ((Tb × List (List T)) × R)
 | 0, _, _, _, r => fails 120 r
 | f + 1, t, k, n, r =>
  match part t k n r with
  | .error e => .error e
  | .ok ((t, k, n), r) => if isT [44] r then partsF f t k n (takes r) else .ok ((t, k), r)
def create (r : R) : Except Er (St × R) :=
 if isT [84, 65, 66, 76, 69] r then do
  let (t, r) ← name (takes r)
  let r ← must [40] r
  let ((t, k), r) ← partsF r.l.length { name := t } [] 0 r
  let r ← must [41] r
  return ({ made 1 with tb := t, keyCols := k }, r)
 else
  let u := has [85, 78, 73, 81, 85, 69] r
  if u.1 || isT [73, 78, 68, 69, 88] u.2 then do
   let r ← must [73, 78, 68, 69, 88] u.2
   let (a, r) ← name r
   let r ← must [79, 78] r
   let (b, r) ← name r
   let (l, r) ← names r
   return ({ made 3 with unique := u.1, name := a, on := b, cols := l }, r)
  else fails 120 r
def drop (r : R) : Except Er (St × R) := do
 let h := has [84, 65, 66, 76, 69] r
 let r ← if h.1 then .ok h.2 else must [73, 78, 68, 69, 88] h.2
 let (a, r) ← name r
 return ({ made (if h.1 then 2 else 4) with name := a }, r)
def exprs {α : Type} (read : R → Except Er (α × R)) (r : R) : Except Er (List α × R) := rowF 16 begins read r.l.length 0 r
def valuesRow (r : R) : Except Er (List E × R) := do
 let r ← must [40] r
 let (l, r) ← exprs expr r
 let r ← must [41] r
 return (l, r)
def wher (r : R) : Except Er (E × R) := if isT [87, 72, 69, 82, 69] r then expr (takes r) else .ok (E.none, r)
def insert (r : R) : Except Er (St × R) := do
 let r ← must [73, 78, 84, 79] r
 let (a, r) ← name r
 let (l, r) ← if isT [40] r then names r else .ok ([], r)
 let r ← must [86, 65, 76, 85, 69, 83] r
 let (rows, r) ← rowF 32 (isT [40]) valuesRow r.l.length 0 r
 return ({ made 5 with name := a, cols := l, rows := rows }, r)
def setOf (r : R) : Except Er ((T × E) × R) := do
 let (a, r) ← name r
 let r ← must [61] r
 let (e, r) ← expr r
 return ((a, e), r)
def update (r : R) : Except Er (St × R) := do
 let (a, r) ← name r
 let r ← must [83, 69, 84] r
 let (l, r) ← rowF 16 named setOf r.l.length 0 r
 let (e, r) ← wher r
 return ({ made 6 with name := a, sets := l, wher := e }, r)
def deletes (r : R) : Except Er (St × R) := do
 let r ← must [70, 82, 79, 77] r
 let (a, r) ← name r
 let (e, r) ← wher r
 return ({ made 7 with name := a, wher := e }, r)
def item (r : R) : Except Er ((Bool × E × T) × R) :=
 if isT [42] r then .ok ((true, E.none, []), takes r) else do
  let (e, r) ← expr r
  if isT [65, 83] r then do
   let (a, r) ← name (takes r)
   return ((false, e, a), r)
  else return ((false, e, []), r)
def source (r : R) : Except Er ((T × T) × R) := do
 let (a, r) ← name r
 let (b, r) ← maybe r
 return ((a, b), r)
def orderOf (r : R) : Except Er ((E × Bool) × R) := do
 let (e, r) ← expr r
 let d := has [68, 69, 83, 67] r
 return ((e, d.1), if d.1 then d.2 else (has [65, 83, 67] d.2).2)
def selects (r : R) : Except Er (St × R) := do
 let (items, r) ← rowF 16 (fun r => isT [42] r || begins r) item r.l.length 0 r
 let r ← must [70, 82, 79, 77] r
 let (s, r) ← source r
 let ((frm, join), r) ← if isT [74, 79, 73, 78] r then (do
   let (s2, r) ← source (takes r)
   let r ← must [79, 78] r
   let (e, r) ← expr r
   return (([s, s2], e), r)) else .ok (([s], E.none), r)
 let (w, r) ← wher r
 let (group, r) ← if isT [71, 82, 79, 85, 80] r then (do
   let r ← must [66, 89] (takes r)
   rowF 16 named column r.l.length 0 r) else .ok ([], r)
 let (order, r) ← if isT [79, 82, 68, 69, 82] r then (do
   let r ← must [66, 89] (takes r)
   exprs orderOf r) else .ok ([], r)
 let (limit, r) ← if isT [76, 73, 77, 73, 84] r then (if (nxt (takes r)).kind ≠ 3 then fails 120 (takes r) else do
   let (n, r) ← int 9223372036854775807 (takes r)
   return ((n : Int), r)) else .ok (-1, r)
 return ({ made 8 with items := items, frm := frm, join := join, wher := w, group := group, order := order, limit := limit }, r)
def statement (r : R) : Except Er (St × R) :=
 if isT [67, 82, 69, 65, 84, 69] r && (nxt r).kind == 2 then create (takes r)
 else if isT [68, 82, 79, 80] r && (nxt r).kind == 2 then drop (takes r)
 else if isT [73, 78, 83, 69, 82, 84] r && (nxt r).kind == 2 then insert (takes r)
 else if isT [85, 80, 68, 65, 84, 69] r && (nxt r).kind == 2 then update (takes r)
 else if isT [68, 69, 76, 69, 84, 69] r && (nxt r).kind == 2 then deletes (takes r)
 else if isT [83, 69, 76, 69, 67, 84] r && (nxt r).kind == 2 then selects (takes r)
 else if isT [66, 69, 71, 73, 78] r then .ok (made 9, takes r)
 else if isT [67, 79, 77, 77, 73, 84] r then .ok (made 10, takes r)
 else if isT [82, 79, 76, 76, 66, 65, 67, 75] r then .ok (made 11, takes r)
 else fails 120 r
def parseToks (l : List Tok) : Except Er St := do
 let (x, r) ← statement ⟨l, 0⟩
 let r := (has [59] r).2
 if (nxt r).kind ≠ 0 then fails 120 r else return x
def parse (s : T) : Except Er St := match P11.lexed s with
 | .inr (a, k) => .error (a, k)
 | .inl l => parseToks l
end P12
namespace P11
open P6 (dbl)
theorem textOf_len : ∀ (n : Nat) (l : List UInt8), l.length ≤ n → ∀ x, textOf l = some x → x.1.length ≤ x.2
 | _, [], _, x, h => by simp [textOf] at h
 | _, [c], _, x, h => by
  rw [textOf] at h
  split at h
  ·cases h; simp
  ·cases h
 | 0, _ :: _ :: _, hn, _, _ => by simp at hn
 | n + 1, c :: d :: l, hn, x, h => by
  rw [textOf] at h
  simp only [List.length_cons] at hn
  split at h
  ·split at h
   ·obtain ⟨y, hy, rfl⟩ := Option.map_eq_some_iff.1 h
    have := textOf_len n l (by omega) y hy
    simp only [List.length_cons]; omega
   ·cases h; simp
  ·obtain ⟨y, hy, rfl⟩ := Option.map_eq_some_iff.1 h
   have := textOf_len n (d :: l) (by simp; omega) y hy
   simp only [List.length_cons] at this ⊢; omega
theorem numOf_len : ∀ l : List UInt8, (numOf l).length ≤ l.length
 | [] => by simp [numOf]
 | [c] => by simp [numOf]
 | c :: d :: l => by
  rw [numOf]
  split
  ·have := numOf_len (d :: l)
   simp only [List.length_cons] at this ⊢; omega
  ·exact Nat.le_refl _
theorem step_len {c : UInt8} {t : List UInt8} {n : Nat} {x : Int × List UInt8} (h : step (c :: t) = .inl (n, some x)) : x.2.length ≤ n := by
 rw [step] at h
 split at h
 ·cases h
 split at h
 ·cases h
 split at h
 ·split at h
  ·cases h
  ·rename_i y hy
   split at h
   ·cases h
   ·cases h
    have := textOf_len _ t (Nat.le_refl _) y hy
    dsimp only; omega
 split at h
 ·cases h
  split
  ·simp
  ·simp
 split at h
 ·cases h
  exact numOf_len _
 split at h
 ·cases h
 ·cases h
  exact Nat.le_refl _
def bulk (l : List Tok) : Nat := (l.map fun t => t.text.length + 1).sum
theorem toks_bulk : ∀ (n : Nat) (r : List UInt8) (p : Nat) (l : List Tok), r.length ≤ n → toks r p = .inl l → bulk l ≤ 2 * r.length + 1
 | _, [], p, l, _, h => by rw [toks_nil] at h; cases h; simp [bulk]
 | 0, _ :: _, _, _, hn, _ => by simp at hn
 | n + 1, c :: t, p, l, hn, h => by
  cases hs : step (c :: t) with
  | inr x => rw [toks_err p hs] at h; cases h
  | inl x =>
   have hp := step_pos hs
   rw [toks_step p hs] at h
   cases hr : toks ((c :: t).drop x.1) (p + x.1) with
   | inr y => simp only [hr] at h; cases h
   | inl m =>
    simp only [hr, Sum.inl.injEq] at h
    have ih := toks_bulk n _ _ _ (by simp only [List.length_drop, List.length_cons] at hn hp ⊢; omega) hr
    rw [List.length_drop] at ih
    obtain ⟨k, o⟩ := x
    cases o with
    | none => subst h; dsimp only [withTok] at hp ih ⊢; omega
    | some y =>
     have := step_len hs
     subst h
     simp only [withTok, bulk, List.map_cons, List.sum_cons] at ih ⊢
     dsimp only at hp ih
     omega
theorem bulk_length (l : List Tok) : l.length ≤ bulk l := by
 induction l with
 | nil => simp
 | cons t l ih => simp only [bulk, List.map_cons, List.sum_cons, List.length_cons] at ih ⊢; omega
theorem bulk_at {l : List Tok} {t : Tok} (h : t ∈ l) : t.text.length < bulk l := by
 induction l with
 | nil => cases h
 | cons x l ih =>
  simp only [bulk, List.map_cons, List.sum_cons] at ih ⊢
  rcases List.mem_cons.1 h with rfl | h
  ·omega
  ·have := ih h; omega
theorem step_code {c : UInt8} {t : List UInt8} {x : Nat × Int} (h : step (c :: t) = .inr x) : x.2 = 111 ∨ x.2 = 112 := by
 rw [step] at h
 split at h
 ·cases h
 split at h
 ·cases h
 split at h
 ·split at h
  ·cases h; exact .inr rfl
  ·split at h
   ·cases h; exact .inl rfl
   ·cases h
 split at h
 ·cases h
 split at h
 ·cases h
 split at h
 ·cases h; exact .inl rfl
 ·cases h
theorem toks_code : ∀ (n : Nat) (r : List UInt8) (p : Nat) (x : Nat × Int), r.length ≤ n → toks r p = .inr x → x.2 = 111 ∨ x.2 = 112
 | _, [], p, x, _, h => by rw [toks_nil] at h; cases h
 | 0, _ :: _, _, _, hn, _ => by simp at hn
 | n + 1, c :: t, p, x, hn, h => by
  cases hs : step (c :: t) with
  | inr y => rw [toks_err p hs] at h; cases h; exact step_code (x := y) hs
  | inl y =>
   have hp := step_pos hs
   rw [toks_step p hs] at h
   cases hr : toks ((c :: t).drop y.1) (p + y.1) with
   | inr z =>
    simp only [hr, Sum.inr.injEq] at h
    subst h
    exact toks_code n _ _ _ (by simp only [List.length_drop, List.length_cons] at hn hp ⊢; omega) hr
   | inl m => simp only [hr] at h; cases h
theorem lexed_code {s : List UInt8} {x : Nat × Int} (h : lexed s = .inr x) : x.2 ≠ 0 := by
 unfold lexed at h
 split at h
 ·cases h; decide
 ·rcases toks_code _ s 0 x (Nat.le_refl _) h with e | e <;> rw [e] <;> decide
end P11
namespace P12
open P11 (Tok)
structure TokOk (t : Tok) : Prop where
 kind : 0 ≤ t.kind ∧ t.kind ≤ 5
 len : t.text.length ≤ 8193
 name : t.kind = 1 → t.text ≠ []
 digits : t.kind = 3 → t.text ≠ [] ∧ ∀ c ∈ t.text, 48 ≤ c.toNat ∧ c.toNat ≤ 57
structure Good (r : R) : Prop where
 ends : ∃ a e, r.l = a ++ [e] ∧ e.kind = 0
 toks : ∀ t ∈ r.l, TokOk t
 deep : r.deep ≤ 100
 len : r.l.length ≤ 8193
structure Keeps (r r' : R) : Prop where
 suf : r'.l <:+ r.l
 deep : r'.deep = r.deep
theorem Keeps.refl (r : R) : Keeps r r := ⟨List.suffix_refl _, rfl⟩
theorem Keeps.trans {a b c : R} (h : Keeps a b) (k : Keeps b c) : Keeps a c := ⟨k.suf.trans h.suf, k.deep.trans h.deep⟩
theorem Keeps.le {a b : R} (h : Keeps a b) : b.l.length ≤ a.l.length := h.suf.length_le
theorem Good.head {r : R} (h : Good r) : ∃ t l, r.l = t :: l ∧ nxt r = t := by
 obtain ⟨a, e, h1, -⟩ := h.ends
 cases hl : r.l with
 | nil => rw [hl] at h1; cases a <;> cases h1
 | cons t l => exact ⟨t, l, rfl, by simp [nxt, hl]⟩
theorem Good.pos {r : R} (h : Good r) : 0 < r.l.length := by
 obtain ⟨t, l, h1, -⟩ := h.head
 rw [h1]; simp
theorem Good.nxt_ok {r : R} (h : Good r) : TokOk (nxt r) := by
 obtain ⟨t, l, h1, h2⟩ := h.head
 rw [h2]; exact h.toks t (by rw [h1]; simp)
theorem nxt_get {r : R} (h : Good r) : r.l[0]? = some (nxt r) := by
 obtain ⟨t, l, h1, h2⟩ := h.head
 rw [h1, h2]; rfl
theorem takes_tail {r : R} (h : (nxt r).kind ≠ 0) : takes r = ⟨r.l.tail, r.deep⟩ := by rw [takes, if_neg h]
theorem takes_end {r : R} (h : (nxt r).kind = 0) : takes r = r := by rw [takes, if_pos h]
theorem keeps_takes (r : R) : Keeps r (takes r) := by
 unfold takes
 split
 ·exact Keeps.refl r
 ·exact ⟨List.tail_suffix _, rfl⟩
theorem tail_ends {r : R} (h : Good r) (hk : (nxt r).kind ≠ 0) : ∃ a e, r.l.tail = a ++ [e] ∧ e.kind = 0 := by
 obtain ⟨a, e, h1, h2⟩ := h.ends
 cases a with
 | nil =>
  exfalso; apply hk
  simp [nxt, h1, h2]
 | cons t a => exact ⟨a, e, by rw [h1]; rfl, h2⟩
theorem Good.takes {r : R} (h : Good r) : Good (takes r) := by
 by_cases hk : (nxt r).kind = 0
 ·rwa [takes_end hk]
 ·rw [takes_tail hk]
  exact ⟨tail_ends h hk, fun t ht => h.toks t (List.mem_of_mem_tail ht), h.deep, Nat.le_trans (by simp) h.len⟩
theorem Good.tail_pos {r : R} (h : Good r) (hk : (nxt r).kind ≠ 0) : 1 < r.l.length := by
 obtain ⟨a, e, h1, -⟩ := tail_ends h hk
 have : r.l.tail.length = r.l.length - 1 := by simp
 have h2 : 0 < r.l.tail.length := by rw [h1]; simp
 omega
theorem takes_lt {r : R} (h : Good r) (hk : (nxt r).kind ≠ 0) : (P12.takes r).l.length + 1 = r.l.length := by
 rw [takes_tail hk]
 have := h.pos
 simp; omega
theorem isT_kind {s : T} {r : R} (h : isT s r = true) : (nxt r).kind ≠ 0 := by
 intro hk
 simp [isT, hk] at h
theorem isT_text {s : T} {r : R} (h : isT s r = true) : (nxt r).text = s := by
 simp [isT] at h; exact h.2
theorem tokOk_good {t : Tok} (h : P11.good (P11.kt t)) (hl : t.text.length ≤ 8193) : TokOk t := by
 rcases h with ⟨h1, ⟨c, l, h2, -⟩, -⟩ | ⟨h1, -⟩ | ⟨h1, h2, h3, -⟩ | ⟨h1, -⟩ | ⟨h1, -⟩
 ·simp only [P11.kt] at h1 h2
  exact ⟨by omega, hl, fun _ => by rw [h2]; simp, fun h => by omega⟩
 ·simp only [P11.kt] at h1
  exact ⟨by omega, hl, fun h => by omega, fun h => by omega⟩
 ·simp only [P11.kt] at h1 h2 h3
  refine ⟨by omega, hl, fun h => by omega, fun _ => ⟨h2, fun c hc => ?_⟩⟩
  have := List.all_eq_true.1 h3 c hc
  simp only [P11.digit, Bool.and_eq_true, decide_eq_true_eq, UInt8.le_iff_toNat_le] at this
  exact this
 ·simp only [P11.kt] at h1
  exact ⟨by omega, hl, fun h => by omega, fun h => by omega⟩
 ·simp only [P11.kt] at h1
  exact ⟨by omega, hl, fun h => by omega, fun h => by omega⟩
theorem lexed_good {s : List UInt8} {l : List Tok} (h : P11.lexed s = .inl l) : Good ⟨l, 0⟩ := by
 unfold P11.lexed at h
 split at h
 ·cases h
 ·rename_i hs
  have hb := P11.toks_bulk _ s 0 l (Nat.le_refl _) h
  obtain ⟨l', rfl, hg⟩ := P11.toks_form _ s 0 l (Nat.le_refl _) h
  refine ⟨⟨l', _, rfl, rfl⟩, fun t ht => ?_, Nat.zero_le _, ?_⟩
  ·have hlt := P11.bulk_at ht
   rcases List.mem_append.1 ht with ht | ht
   ·exact tokOk_good (hg t ht) (by simp only [Nat.zero_add] at hb hlt ⊢; omega)
   ·simp only [List.mem_singleton] at ht
    subst ht
    exact ⟨⟨Int.le_refl 0, (by decide : (0 : Int) ≤ 5)⟩, by simp, fun h => absurd h (by simp), fun h => absurd h (by simp)⟩
  ·have := P11.bulk_length (l' ++ [⟨0, [], 0 + s.length⟩])
   show (l' ++ [_]).length ≤ 8193
   omega
end P12
namespace P12
open P11 (words)
def nameC (i : Nat) (c : UInt8) : Bool := c == 95 || (97 ≤ c && c ≤ 122) || (48 ≤ c && c ≤ 57 && i != 0)
def nameOk : Nat → T → Bool
 | _, [] => true
 | i, c :: l => nameC i c && nameOk (i + 1) l
def isName (s : T) : Bool := s != [] && decide (s.length ≤ 24) && !words.contains (s.map Go.Lib.upperB) && nameOk 0 s
def maybeName (s : T) : Bool := s == [] || isName s
def isE : E → Bool
 | .none => false
 | .val k i s => P6.isV k i s && decide (-9223372036854775808 ≤ i) && decide (i ≤ 9223372036854775807)
 | .col t n => isName n && maybeName t
 | .una op a => decide (15 ≤ op) && decide (op ≤ 18) && isE a
 | .bin op a b => decide (1 ≤ op) && decide (op ≤ 14) && isE a && isE b
 | .call op a => decide (20 ≤ op) && decide (op ≤ 23) && isE a
 | .all => true
def noE : E → Bool
 | .none => true
 | _ => false
def maybeE (e : E) : Bool := noE e || isE e
def some {α : Type} (l : List α) (most : Nat) (p : α → Bool) : Bool := decide (1 ≤ l.length) && decide (l.length ≤ most) && l.all p
def isCol : E → Bool
 | .col t n => isE (.col t n)
 | _ => false
def tabOk (t : Tb) (k : List (List T)) : Bool :=
 isName t.name && decide (1 ≤ t.cols.length + t.keys.length + t.checks.length) && decide (t.cols.length + t.keys.length + t.checks.length ≤ 16) && k.length == t.keys.length &&
  k.all (fun l => some l 16 isName) && t.checks.all isE && t.cols.all (fun c => isName c.1 && decide (1 ≤ c.2.1) && decide (c.2.1 ≤ 3))
def itemOk (x : Bool × E × T) : Bool := if x.1 then noE x.2.1 && x.2.2 == [] else isE x.2.1 && maybeName x.2.2
def selOk (x : St) : Bool :=
 some x.items 16 itemOk && some x.frm 2 (fun s => isName s.1 && maybeName s.2) && maybeE x.wher && (if x.frm.length = 2 then isE x.join else noE x.join) &&
  decide (x.group.length ≤ 16) && x.group.all isCol && decide (x.order.length ≤ 16) && x.order.all (fun o => isE o.1) && decide (-1 ≤ x.limit) && decide (x.limit ≤ 9223372036854775807)
def keptOf (x : St) : St :=
 if x.kind = 1 then { kind := 1, tb := x.tb, keyCols := x.keyCols }
 else if x.kind = 3 then { kind := 3, name := x.name, on := x.on, unique := x.unique, cols := x.cols }
 else if x.kind = 5 then { kind := 5, name := x.name, cols := x.cols, rows := x.rows }
 else if x.kind = 6 then { kind := 6, name := x.name, sets := x.sets, wher := x.wher }
 else if x.kind = 7 then { kind := 7, name := x.name, wher := x.wher }
 else if x.kind = 8 then { kind := 8, items := x.items, frm := x.frm, join := x.join, wher := x.wher, group := x.group, order := x.order, limit := x.limit }
 else if x.kind = 2 ∨ x.kind = 4 then { kind := x.kind, name := x.name }
 else { kind := x.kind }
def isS (x : St) : Prop :=
 x = keptOf x ∧ ((x.kind = 1 ∧ tabOk x.tb x.keyCols = true) ∨ (x.kind = 2 ∧ isName x.name = true) ∨ (x.kind = 4 ∧ isName x.name = true) ∨
  (x.kind = 3 ∧ isName x.name = true ∧ isName x.on = true ∧ some x.cols 16 isName = true) ∨
  (x.kind = 5 ∧ isName x.name = true ∧ (x.cols = [] ∨ some x.cols 16 isName = true) ∧ some x.rows 32 (fun l => some l 16 isE) = true) ∨
  (x.kind = 6 ∧ isName x.name = true ∧ some x.sets 16 (fun s => isName s.1 && isE s.2) = true ∧ maybeE x.wher = true) ∨
  (x.kind = 7 ∧ isName x.name = true ∧ maybeE x.wher = true) ∨ (x.kind = 8 ∧ selOk x = true) ∨ x.kind = 9 ∨ x.kind = 10 ∨ x.kind = 11)
def signOf (op : Int) : T :=
 if op = 1 then [79, 82] else if op = 2 then [65, 78, 68] else if op = 3 then [61] else if op = 4 then [60, 62] else if op = 5 then [60] else if op = 6 then [60, 61] else if op = 7 then [62] else if op = 8 then [62, 61]
 else if op = 9 then [43] else if op = 10 then [45] else if op = 11 then [42] else if op = 12 then [47] else if op = 13 then [37] else if op = 14 then [124, 124] else []
def closed (op : Int) : E → Bool
 | .una _ _ => true
 | .bin _ _ _ => true
 | .val k _ _ => op == 16 && k == 2
 | _ => false
def inBr (b : Bool) (t : T) : T := if b then [40] ++ t ++ [41] else t
def fnWord (op : Int) : T := if op = 20 then [67, 79, 85, 78, 84] else if op = 21 then [83, 85, 77] else if op = 22 then [77, 73, 78] else if op = 23 then [77, 65, 88] else []
def text : E → T
 | .none => []
 | .val k i s => P6.printV k i s
 | .col t n => if t = [] then n else t ++ [46] ++ n
 | .bin op a b => inBr (closed op a) (text a) ++ [32] ++ signOf op ++ [32] ++ inBr (closed op b) (text b)
 | .una op a =>
  if op = 15 then [78, 79, 84, 32] ++ inBr (closed op a) (text a) else if op = 16 then [45, 32] ++ inBr (closed op a) (text a)
  else if op = 17 then inBr (closed op a) (text a) ++ [32, 73, 83, 32, 78, 85, 76, 76] else inBr (closed op a) (text a) ++ [32, 73, 83, 32, 78, 79, 84, 32, 78, 85, 76, 76]
 | .all => [67, 79, 85, 78, 84, 40, 42, 41]
 | .call op a => fnWord op ++ [40] ++ text a ++ [41]
def join (l : List T) : T := Go.Lib.join l [44, 32]
def typeWord (ty : Int) : T := if ty = 1 then [66, 79, 79, 76] else if ty = 2 then [73, 78, 84] else if ty = 3 then [84, 69, 88, 84] else []
def colText (c : T × Int × Bool) : T := c.1 ++ [32] ++ typeWord c.2.1 ++ (if c.2.2 then [32, 78, 79, 84, 32, 78, 85, 76, 76] else [])
def keyText (p : Bool) (l : List T) : T := (if p then [80, 82, 73, 77, 65, 82, 89, 32, 75, 69, 89] else [85, 78, 73, 81, 85, 69]) ++ [32, 40] ++ join l ++ [41]
def tabText (t : Tb) (k : List (List T)) : T :=
 [67, 82, 69, 65, 84, 69, 32, 84, 65, 66, 76, 69, 32] ++ t.name ++ [32, 40] ++ join (t.cols.map colText ++ (List.zipWith keyText t.keys k) ++ t.checks.map (fun e => [67, 72, 69, 67, 75, 32, 40] ++ text e ++ [41])) ++ [41]
def whereText (e : E) : T := if noE e then [] else [32, 87, 72, 69, 82, 69, 32] ++ text e
def itemText (x : Bool × E × T) : T := if x.1 then [42] else if x.2.2 = [] then text x.2.1 else text x.2.1 ++ [32, 65, 83, 32] ++ x.2.2
def srcText (s : T × T) : T := if s.2 = [] then s.1 else s.1 ++ [32] ++ s.2
def ordText (o : E × Bool) : T := if o.2 then text o.1 ++ [32, 68, 69, 83, 67] else text o.1
def selText (x : St) : T :=
 [83, 69, 76, 69, 67, 84, 32] ++ join (x.items.map itemText) ++ [32, 70, 82, 79, 77, 32] ++ srcText (x.frm.headD ([], [])) ++
  (if x.frm.length ≤ 1 then [] else [32, 74, 79, 73, 78, 32] ++ srcText (x.frm.tail.headD ([], [])) ++ [32, 79, 78, 32] ++ text x.join) ++ whereText x.wher ++
  (if x.group = [] then [] else [32, 71, 82, 79, 85, 80, 32, 66, 89, 32] ++ join (x.group.map text)) ++ (if x.order = [] then [] else [32, 79, 82, 68, 69, 82, 32, 66, 89, 32] ++ join (x.order.map ordText)) ++
  (if x.limit < 0 then [] else [32, 76, 73, 77, 73, 84, 32] ++ Go.Lib.itoa x.limit)
def colsText (l : List T) : T := if l = [] then [] else [32, 40] ++ join l ++ [41]
def rowText (l : List E) : T := [40] ++ join (l.map text) ++ [41]
def setText (s : T × E) : T := s.1 ++ [32, 61, 32] ++ text s.2
def print (x : St) : T :=
 if x.kind = 1 then tabText x.tb x.keyCols
 else if x.kind = 2 then [68, 82, 79, 80, 32, 84, 65, 66, 76, 69, 32] ++ x.name
 else if x.kind = 3 then (if x.unique then [67, 82, 69, 65, 84, 69, 32, 85, 78, 73, 81, 85, 69, 32, 73, 78, 68, 69, 88, 32] else [67, 82, 69, 65, 84, 69, 32, 73, 78, 68, 69, 88, 32]) ++ x.name ++ [32, 79, 78, 32] ++ x.on ++ colsText x.cols
 else if x.kind = 4 then [68, 82, 79, 80, 32, 73, 78, 68, 69, 88, 32] ++ x.name
 else if x.kind = 5 then [73, 78, 83, 69, 82, 84, 32, 73, 78, 84, 79, 32] ++ x.name ++ colsText x.cols ++ [32, 86, 65, 76, 85, 69, 83, 32] ++ join (x.rows.map rowText)
 else if x.kind = 6 then [85, 80, 68, 65, 84, 69, 32] ++ x.name ++ [32, 83, 69, 84, 32] ++ join (x.sets.map setText) ++ whereText x.wher
 else if x.kind = 7 then [68, 69, 76, 69, 84, 69, 32, 70, 82, 79, 77, 32] ++ x.name ++ whereText x.wher
 else if x.kind = 8 then selText x
 else if x.kind = 9 then [66, 69, 71, 73, 78] else if x.kind = 10 then [67, 79, 77, 77, 73, 84] else [82, 79, 76, 76, 66, 65, 67, 75]
end P12
namespace P12
def knownT1 : T := [115, 101, 108, 101, 99, 116, 32, 97, 46, 120, 43, 49, 32, 97, 115, 32, 121, 32, 102, 114, 111, 109, 32, 116, 32, 97, 32, 119, 104, 101, 114, 101, 32, 110, 111, 116, 32, 120, 32, 61, 32, 39, 98, 39, 32, 108, 105, 109, 105, 116, 32, 51]
def knownT2 : T := [83, 69, 76, 69, 67, 84, 32, 97, 46, 120, 32, 43, 32, 49, 32, 65, 83, 32, 121, 32, 70, 82, 79, 77, 32, 116, 32, 97, 32, 87, 72, 69, 82, 69, 32, 78, 79, 84, 32, 40, 120, 32, 61, 32, 39, 98, 39, 41, 32, 76, 73, 77, 73, 84, 32, 51]
def knownT3 : T := [83, 69, 76, 69, 67, 84, 32, 49, 32, 61, 32, 50, 32, 61, 32, 51, 32, 70, 82, 79, 77, 32, 116]
def knownS : St := { kind := 8, items := [(false, .bin 9 (.col [97] [120]) (.val 2 1 []), [121])], frm := [([116], [97])], wher := .una 15 (.bin 3 (.col [] [120]) (.val 3 0 [98])), limit := 3 }
theorem known1 : parse knownT1 = .ok knownS := by rfl
theorem itoa_small (n : Int) (h : 0 ≤ n) (h2 : n < 10) : Go.Lib.itoa n = [48 + UInt8.ofNat n.toNat] := by
 have : n = 0 ∨ n = 1 ∨ n = 2 ∨ n = 3 ∨ n = 4 ∨ n = 5 ∨ n = 6 ∨ n = 7 ∨ n = 8 ∨ n = 9 := by omega
 rcases this with rfl | rfl | rfl | rfl | rfl | rfl | rfl | rfl | rfl | rfl <;> (unfold Go.Lib.itoa Go.Lib.decDigits; rfl)
theorem known2 : print knownS = knownT2 := by
 have h1 : text (.val 2 1 []) = [49] := by unfold text P6.printV; rw [if_pos (by rfl)]; simp [itoa_small]
 have h2 : text (.val 3 0 [98]) = [39, 98, 39] := by rfl
 have h3 : Go.Lib.itoa 3 = [51] := itoa_small 3 (by decide) (by decide)
 have e1 : text (.bin 9 (.col [97] [120]) (.val 2 1 [])) = [97, 46, 120, 32, 43, 32, 49] := by
  rw [text, h1]; rfl
 have e2 : text (.una 15 (.bin 3 (.col [] [120]) (.val 3 0 [98]))) = [78, 79, 84, 32, 40, 120, 32, 61, 32, 39, 98, 39, 41] := by
  rw [text, text, h2]; rfl
 simp [print, knownS, selText, itemText, join, Go.Lib.join, srcText, whereText, noE, e1, e2, h3, knownT2, List.intercalate]
theorem known3 : parse knownT3 = .error (13, 120) := by rfl
end P12
namespace P12
open P11 (Tok toks after)
end P12
namespace P12
open P11 (Tok toks after digit numOf)
open Go.Lib (itoa decDigits)
theorem digit_ten {c : UInt8} (h : digit c = true) : c = 48 ∨ c = 49 ∨ c = 50 ∨ c = 51 ∨ c = 52 ∨ c = 53 ∨ c = 54 ∨ c = 55 ∨ c = 56 ∨ c = 57 := by
 simp only [digit, Bool.and_eq_true, decide_eq_true_eq, UInt8.le_iff_toNat_le] at h
 have h2 : 48 ≤ c.toNat ∧ c.toNat ≤ 57 := h
 have : c.toNat = 48 ∨ c.toNat = 49 ∨ c.toNat = 50 ∨ c.toNat = 51 ∨ c.toNat = 52 ∨ c.toNat = 53 ∨ c.toNat = 54 ∨ c.toNat = 55 ∨ c.toNat = 56 ∨ c.toNat = 57 := by omega
 have hb : ∀ n : UInt8, c.toNat = n.toNat → c = n := fun n h => UInt8.toNat_inj.1 h
 rcases this with e | e | e | e | e | e | e | e | e | e
 ·exact .inl (hb 48 e)
 ·exact .inr (.inl (hb 49 e))
 ·exact .inr (.inr (.inl (hb 50 e)))
 ·exact .inr (.inr (.inr (.inl (hb 51 e))))
 ·exact .inr (.inr (.inr (.inr (.inl (hb 52 e)))))
 ·exact .inr (.inr (.inr (.inr (.inr (.inl (hb 53 e))))))
 ·exact .inr (.inr (.inr (.inr (.inr (.inr (.inl (hb 54 e)))))))
 ·exact .inr (.inr (.inr (.inr (.inr (.inr (.inr (.inl (hb 55 e))))))))
 ·exact .inr (.inr (.inr (.inr (.inr (.inr (.inr (.inr (.inl (hb 56 e)))))))))
 ·exact .inr (.inr (.inr (.inr (.inr (.inr (.inr (.inr (.inr (hb 57 e)))))))))
theorem takeWhile_all {α : Type} (p : α → Bool) : ∀ l : List α, (∀ c ∈ l, p c = true) → l.takeWhile p = l
 | [], _ => rfl
 | c :: l, h => by rw [List.takeWhile_cons, if_pos (h c (by simp)), takeWhile_all p l fun c hc => h c (by simp [hc])]
theorem dec_snoc (l : T) (c : UInt8) : dec (l ++ [c]) = 10 * dec l + (c.toNat - 48) := by simp [dec]
theorem digit_byte {k : Nat} (h : k < 10) : (UInt8.ofNat (48 + k)).toNat = 48 + k := by simp; omega
theorem dec_decDigits : ∀ (n u : Nat), u ≤ n → dec (decDigits u) = u ∧ (∀ c ∈ decDigits u, digit c = true) ∧ (∃ c l, decDigits u = c :: l ∧ (0 < u → c ≠ 48) ∧ (l ≠ [] → c ≠ 48))
 | n, u, hn => by
  by_cases h : u < 10
  ·rw [decDigits, dif_pos h]
   have hb := digit_byte h
   refine ⟨by simp [dec, hb]; omega, fun c hc => ?_, _, [], rfl, fun h0 e => ?_, fun h => absurd rfl h⟩
   ·simp only [List.mem_singleton] at hc
    subst hc
    simp only [digit, Bool.and_eq_true, decide_eq_true_eq, UInt8.le_iff_toNat_le, hb]
    exact ⟨by show 48 ≤ _; omega, by show _ ≤ 57; omega⟩
   ·rw [e] at hb
    have : (48 : UInt8).toNat = 48 := rfl
    omega
  ·match n, hn with
   | 0, hn => omega
   | n + 1, hn =>
    obtain ⟨h1, h2, c, l, h3, h4, h5⟩ := dec_decDigits n (u / 10) (by omega)
    have hb := digit_byte (show u % 10 < 10 by omega)
    rw [decDigits, dif_neg h]
    refine ⟨by rw [dec_snoc, h1, hb]; omega, fun x hx => ?_, c, l ++ [UInt8.ofNat (48 + u % 10)], by rw [h3]; rfl, fun _ => h4 (by omega), fun _ => h4 (by omega)⟩
    rcases List.mem_append.1 hx with hx | hx
    ·exact h2 x hx
    ·simp only [List.mem_singleton] at hx
     subst hx
     simp only [digit, Bool.and_eq_true, decide_eq_true_eq, UInt8.le_iff_toNat_le, hb]
     exact ⟨by show 48 ≤ _; omega, by show _ ≤ 57; omega⟩
theorem foldl_big : ∀ (l : T) (a : Nat), a * 10 ^ l.length ≤ l.foldl (fun a c => 10 * a + (c.toNat - 48)) a
 | [], a => by simp
 | c :: l, a => by
  have h := foldl_big l (10 * a + (c.toNat - 48))
  rw [List.foldl_cons]
  refine Nat.le_trans ?_ h
  rw [List.length_cons, Nat.pow_succ]
  have : a * (10 ^ l.length * 10) = (10 * a) * 10 ^ l.length := by rw [Nat.mul_comm 10 a, Nat.mul_assoc, Nat.mul_comm 10]
  rw [this]
  exact Nat.mul_le_mul_right _ (by omega)
theorem decDigits_len {u : Nat} (h : u ≤ 9223372036854775808) : (decDigits u).length ≤ 40 := by
 by_cases hl : (decDigits u).length ≤ 40
 ·exact hl
 ·exfalso
  obtain ⟨h1, h2, c, l, h3, h4, h5⟩ := dec_decDigits u u (Nat.le_refl _)
  rw [h3] at hl h1
  simp only [List.length_cons] at hl
  have hc := h2 c (by rw [h3]; simp)
  have hne : c ≠ 48 := h5 fun e => by rw [e] at hl; simp at hl
  have : 48 ≤ c.toNat := by
   simp only [digit, Bool.and_eq_true, decide_eq_true_eq, UInt8.le_iff_toNat_le] at hc
   exact hc.1
  have hn : c.toNat ≠ 48 := fun e => hne (UInt8.toNat_inj.1 e)
  have h40 := foldl_big l (10 * 0 + (c.toNat - 48))
  have h6 : (10 : Nat) ^ 20 ≤ 10 ^ l.length := Nat.pow_le_pow_right (by omega) (by omega)
  have h7 : 1 * 10 ^ l.length ≤ (10 * 0 + (c.toNat - 48)) * 10 ^ l.length := Nat.mul_le_mul_right _ (by omega)
  have h8 : dec (c :: l) = l.foldl (fun a c => 10 * a + (c.toNat - 48)) (10 * 0 + (c.toNat - 48)) := rfl
  have : (10 : Nat) ^ 20 = 100000000000000000000 := rfl
  omega
end P12
namespace P12
end P12
namespace P11
theorem takeWhile_app (p : UInt8 → Bool) {c : UInt8} (u : List UInt8) (h : p c = false) : ∀ l : List UInt8, (l ++ c :: u).takeWhile p = l.takeWhile p
 | [] => by simp [List.takeWhile, h]
 | a :: l => by rw [List.cons_append, List.takeWhile, List.takeWhile, takeWhile_app p u h l]
theorem textOf_app : ∀ (n : Nat) (l : List UInt8), l.length ≤ n → ∀ x, textOf l = some x → ∀ (c : UInt8) u, c ≠ 39 → textOf (l ++ c :: u) = some x
 | _, [], _, x, h, _, _, _ => by simp [textOf] at h
 | _, [a], _, x, h, c, u, hc => by
  rw [textOf] at h
  rw [List.singleton_append, textOf]
  split at h
  ·rename_i ha
   rw [if_pos ha, if_neg hc]; exact h
  ·cases h
 | 0, _ :: _ :: _, hn, _, _, _, _, _ => by simp at hn
 | n + 1, a :: b :: l, hn, x, h, c, u, hc => by
  rw [textOf] at h
  rw [List.cons_append, List.cons_append, textOf]
  simp only [List.length_cons] at hn
  split at h
  ·rename_i ha
   rw [if_pos ha]
   split at h
   ·rename_i hb
    obtain ⟨y, hy, rfl⟩ := Option.map_eq_some_iff.1 h
    rw [if_pos hb, textOf_app n l (by omega) y hy c u hc]; rfl
   ·rename_i hb
    rw [if_neg hb]; exact h
  ·rename_i ha
   obtain ⟨y, hy, rfl⟩ := Option.map_eq_some_iff.1 h
   have := textOf_app n (b :: l) (by simp only [List.length_cons]; omega) y hy c u hc
   rw [List.cons_append] at this
   rw [if_neg ha, this]; rfl
theorem find_congr {p q : List UInt8 → Bool} : ∀ l : List (List UInt8), (∀ x ∈ l, p x = q x) → l.find? p = l.find? q
 | [], _ => rfl
 | a :: l, h => by
  rw [List.find?, List.find?, h a (by simp), find_congr l fun x hx => h x (by simp [hx])]
theorem signOf_app (c : UInt8) (t : List UInt8) {b : UInt8} (u : List UInt8) (hb : b = 59 ∨ b = 32) : signOf (c :: (t ++ b :: u)) = signOf (c :: t) := by
 unfold signOf
 refine find_congr _ ?_
 cases t with
 | nil => rcases hb with rfl | rfl <;> simp [signs, List.isPrefixOf]
 | cons d t => simp [signs, List.isPrefixOf]
def ND (r : List UInt8) : Prop := ∀ i : Nat, ¬ (r[i]? = some 45 ∧ r[i + 1]? = some 45)
theorem ND.drop {r : List UInt8} (h : ND r) (n : Nat) : ND (r.drop n) := fun i => by
 rw [List.getElem?_drop, List.getElem?_drop]; exact h (n + i)
theorem ND.no {c : UInt8} {t : List UInt8} (h : ND (c :: t)) : [45, 45].isPrefixOf (c :: t) = false := by
 have := h 0
 cases t with
 | nil => simp [List.isPrefixOf]
 | cons d t =>
  simp only [List.getElem?_cons_zero, List.getElem?_cons_succ, Option.some.injEq] at this
  simp only [List.isPrefixOf, Bool.and_true, Bool.and_eq_false_iff, beq_eq_false_iff_ne]
  by_cases hc : (45 : UInt8) = c
  ·exact .inr fun e => this ⟨hc.symm, e.symm⟩
  ·exact .inl hc
theorem step_app {c : UInt8} {t : List UInt8} {x} (hd : ND (c :: t)) (h : step (c :: t) = .inl x) {b : UInt8} (u : List UInt8) (hb : b = 59 ∨ b = 32) : step (c :: (t ++ b :: u)) = .inl x := by
 have hb39 : b ≠ 39 := by rcases hb with rfl | rfl <;> decide
 have hba : alnum b = false := by rcases hb with rfl | rfl <;> decide
 have hbd : digit b = false := by rcases hb with rfl | rfl <;> decide
 have hno : [45, 45].isPrefixOf (c :: (t ++ b :: u)) = false := by
  cases t with
  | nil => rcases hb with rfl | rfl <;> simp [List.isPrefixOf]
  | cons d t => have := hd.no; simpa [List.isPrefixOf] using this
 have e1 := takeWhile_app alnum u hba (c :: t)
 have e2 := takeWhile_app digit u hbd (c :: t)
 have e3 := signOf_app c t u hb
 rw [List.cons_append] at e1 e2
 rw [step, hd.no] at h
 rw [step, hno, e1, e2, e3]
 split at h
 ·rename_i hc; rw [if_pos hc]; exact h
 rename_i hc
 rw [if_neg hc]
 simp only [Bool.false_eq_true, if_false] at h ⊢
 split at h
 ·rename_i hq
  rw [if_pos hq]
  cases ht : textOf t with
  | none => rw [ht] at h; cases h
  | some y =>
   have hy := textOf_pos _ t (Nat.le_refl _) y ht
   rw [ht] at h
   rw [textOf_app _ t (Nat.le_refl _) y ht b u hb39]
   have e4 : (c :: (t ++ b :: u)).take (y.2 + 1) = (c :: t).take (y.2 + 1) := by
    rw [List.take_succ_cons, List.take_succ_cons, List.take_append_of_le_length (by omega)]
   simp only [e4]
   exact h
 ·rename_i hq
  rw [if_neg hq]
  exact h
theorem toks_app : ∀ (n : Nat) (r : List UInt8), r.length ≤ n → ND r → ∀ (p : Nat) (l : List Tok), toks r p = .inl l →
  ∃ ts, l = ts ++ [⟨0, [], p + r.length⟩] ∧ ∀ (b : UInt8) (u : List UInt8), (b = 59 ∨ b = 32) → toks (r ++ b :: u) p = after ts (toks (b :: u) (p + r.length))
 | _, [], _, _, p, l, h => by
  rw [toks_nil] at h; cases h
  exact ⟨[], rfl, fun b u _ => (after_nil _).symm⟩
 | 0, _ :: _, hn, _, _, _, _ => by simp at hn
 | n + 1, c :: t, hn, hd, p, l, h => by
  cases hs : step (c :: t) with
  | inr x => rw [toks_err p hs] at h; cases h
  | inl x =>
   have hp := step_pos hs
   rw [toks_step p hs] at h
   cases hr : toks ((c :: t).drop x.1) (p + x.1) with
   | inr y => simp only [hr] at h; cases h
   | inl m =>
    simp only [hr, Sum.inl.injEq] at h
    obtain ⟨ts, h1, h2⟩ := toks_app n _ (by simp only [List.length_drop, List.length_cons] at hn hp ⊢; omega) (hd.drop x.1) _ _ hr
    have hlen : p + x.1 + ((c :: t).drop x.1).length = p + (c :: t).length := by rw [List.length_drop]; omega
    rw [hlen] at h1 h2
    subst h1
    refine ⟨withTok x.2 p ts, ?_, fun b u hb => ?_⟩
    ·rw [← h]; cases x.2 <;> rfl
    ·have hdr : (c :: (t ++ b :: u)).drop x.1 = (c :: t).drop x.1 ++ b :: u := by
      rw [← List.cons_append, List.drop_append_of_le_length hp.2]
     rw [List.cons_append, toks_step p (step_app hd hs u hb), hdr, h2 b u hb]
     cases toks (b :: u) (p + (c :: t).length) with
     | inr y => rfl
     | inl m => cases x.2 <;> rfl
theorem toks_blanks (u : List UInt8) : ∀ (k p : Nat), toks (List.replicate k 32 ++ u) p = toks u (p + k)
 | 0, _ => rfl
 | k + 1, p => by
  have := after_none (c := 32) (t := List.replicate k 32 ++ u) (n := 1) (p := p) (acc := []) rfl
  rw [after_nil, after_nil] at this
  rw [List.replicate_succ, List.cons_append, this]
  show toks (List.replicate k 32 ++ u) (p + 1) = _
  rw [toks_blanks u k, Nat.add_assoc, Nat.add_comm 1 k]
theorem lexed_ends {s : List UInt8} {l : List Tok} (hd : ND s) (hl : s.length ≤ 1500) (k : Nat) (hk : k < 20) (h : lexed s = .inl l) :
  ∃ ts, l = ts ++ [⟨0, [], s.length⟩] ∧ (∀ t ∈ ts, good (kt t)) ∧ lexed (s ++ List.replicate k 32 ++ [59]) = .inl (ts ++ [⟨5, [59], s.length + k⟩, ⟨0, [], s.length + k + 1⟩]) ∧
   lexed (s ++ List.replicate k 32 ++ [59, 32, 59]) = .inl (ts ++ [⟨5, [59], s.length + k⟩, ⟨5, [59], s.length + k + 2⟩, ⟨0, [], s.length + k + 3⟩]) := by
 unfold lexed at h ⊢
 rw [if_neg (by omega)] at h
 rw [if_neg (by simp; omega), if_neg (by simp; omega)]
 obtain ⟨ts, h1, h2⟩ := toks_app _ s (Nat.le_refl _) hd 0 l h
 obtain ⟨l', h3, hg⟩ := toks_form _ s 0 l (Nat.le_refl _) h
 rw [h1] at h3
 obtain rfl := List.append_cancel_right h3
 have e : ∀ (b : UInt8) u, b = 59 → toks (s ++ List.replicate k 32 ++ b :: u) 0 = after ts (toks (b :: u) (s.length + k)) := fun b u hb => by
  rw [List.append_assoc]
  cases k with
  | zero => simpa using h2 b u (.inl hb)
  | succ k =>
   have := h2 32 (List.replicate k 32 ++ b :: u) (.inr rfl)
   rw [List.replicate_succ, List.cons_append, this, Nat.zero_add]
   have := toks_blanks (b :: u) (k + 1) s.length
   rw [List.replicate_succ, List.cons_append] at this
   rw [this]
 refine ⟨ts, by rw [h1, Nat.zero_add], hg, ?_, ?_⟩
 ·rw [e 59 [] rfl]; rfl
 ·rw [e 59 [32, 59] rfl]; rfl
end P11
namespace P12
open P11 (Tok)
structure Ends (e : Tok) (x : List Tok) : Prop where
 k0 : e.kind = 0
 hx : ∃ s l, x = s :: l ∧ s.kind = 5 ∧ s.text = [59]
abbrev Gs (ts : List Tok) : Prop := ∀ t ∈ ts, P11.good (P11.kt t)
def Lw (e : Tok) (x : List Tok) {α : Type} (F F' : R → Except Er (α × R)) (p : α → Prop) : Prop :=
 ∀ (ts : List Tok) (d : Nat) (y : α) (r' : R), Gs ts → F ⟨ts ++ [e], d⟩ = .ok (y, r') → p y ∧ ∃ ts', ts' <:+ ts ∧ r'.l = ts' ++ [e] ∧ F' ⟨ts ++ x, d⟩ = .ok (y, ⟨ts' ++ x, r'.deep⟩)
def LwN (e : Tok) (x : List Tok) (g : Tok → Prop) {α : Type} (F F' : R → Except Er (α × R)) (p : α → Prop) : Prop :=
 ∀ (t : Tok) (ts : List Tok) (d : Nat) (y : α) (r' : R), g t → Gs (t :: ts) → F ⟨t :: (ts ++ [e]), d⟩ = .ok (y, r') → p y ∧ ∃ ts', ts' <:+ t :: ts ∧ r'.l = ts' ++ [e] ∧ F' ⟨t :: (ts ++ x), d⟩ = .ok (y, ⟨ts' ++ x, r'.deep⟩)
def LwR (e : Tok) (x : List Tok) (F : R → Except Er R) : Prop :=
 ∀ (ts : List Tok) (d : Nat) (r' : R), Gs ts → F ⟨ts ++ [e], d⟩ = .ok r' → ∃ ts', ts' <:+ ts ∧ r'.l = ts' ++ [e] ∧ F ⟨ts ++ x, d⟩ = .ok ⟨ts' ++ x, r'.deep⟩
section
variable {e : Tok} {x : List Tok} {α β : Type} {F F' : R → Except Er (α × R)} {p : α → Prop} {q : β → Prop} {g : Tok → Prop}
theorem Gs.suf {a b : List Tok} (h : Gs b) (hs : a <:+ b) : Gs a := fun t ht => h t (hs.subset ht)
theorem Lw.N (h : Lw e x F F' p) : LwN e x g F F' p := fun t ts d y r' _ hg hf => h (t :: ts) d y r' hg hf
theorem LwN.takes (hg : ∀ t, g t → t.kind ≠ 0) (h : Lw e x F F' p) : LwN e x g (fun r => F (takes r)) (fun r => F' (takes r)) p := fun t ts d y r' ht hG hf => by
 have e1 : ∀ u, P12.takes ⟨t :: u, d⟩ = ⟨u, d⟩ := fun u => by rw [takes_tail (by exact hg t ht)]; rfl
 simp only [e1] at hf ⊢
 obtain ⟨h1, ts', h2, h3⟩ := h ts d y r' (fun a ha => hG a (by simp [ha])) hf
 exact ⟨h1, ts', h2.trans (List.suffix_cons ..), h3⟩
theorem Lw.fails {c : Int} : Lw e x (fun r => fails c r) F' p := fun ts d y r' _ h => by cases h
theorem Lw.ret {a : α} (h : p a) : Lw e x (fun r => .ok (a, r)) (fun r => .ok (a, r)) p := fun ts d y r' _ hf => by
 cases hf; exact ⟨h, ts, List.suffix_refl _, rfl, rfl⟩
theorem Lw.closes {a : α} (h : p a) : Lw e x (fun r => .ok (a, closes r)) (fun r => .ok (a, closes r)) p := fun ts d y r' _ hf => by
 cases hf; exact ⟨h, ts, List.suffix_refl _, rfl, rfl⟩
theorem LwN.retT {a : α} (hg : ∀ t, g t → t.kind ≠ 0) (h : p a) : LwN e x g (fun r => .ok (a, P12.takes r)) (fun r => .ok (a, P12.takes r)) p := LwN.takes (F := fun r => .ok (a, r)) (F' := fun r => .ok (a, r)) hg (Lw.ret h)
theorem Lw.bind {K K' : α × R → Except Er (β × R)} (hF : Lw e x F F' p) (hK : ∀ a, p a → Lw e x (fun r => K (a, r)) (fun r => K' (a, r)) q) : Lw e x (fun r => F r >>= K) (fun r => F' r >>= K') q := fun ts d y r' hG hf => by
 cases hF1 : F ⟨ts ++ [e], d⟩ with
 | error er => simp only [hF1] at hf; cases hf
 | ok z =>
  obtain ⟨a, l1, d1⟩ := z
  simp only [hF1] at hf
  obtain ⟨h1, ts1, h2, rfl, h4⟩ := hF ts d a _ hG hF1
  obtain ⟨g1, ts2, g2, g3, g4⟩ := hK a h1 ts1 d1 y r' (hG.suf h2) hf
  refine ⟨g1, ts2, g2.trans h2, g3, ?_⟩
  simp only [h4]; exact g4
theorem LwN.bind {K K' : α × R → Except Er (β × R)} (hF : LwN e x g F F' p) (hK : ∀ a, p a → Lw e x (fun r => K (a, r)) (fun r => K' (a, r)) q) : LwN e x g (fun r => F r >>= K) (fun r => F' r >>= K') q := fun t ts d y r' hg hG hf => by
 cases hF1 : F ⟨t :: (ts ++ [e]), d⟩ with
 | error er => simp only [hF1] at hf; cases hf
 | ok z =>
  obtain ⟨a, l1, d1⟩ := z
  simp only [hF1] at hf
  obtain ⟨h1, ts1, h2, rfl, h4⟩ := hF t ts d a _ hg hG hF1
  obtain ⟨g1, ts2, g2, g3, g4⟩ := hK a h1 ts1 d1 y r' (hG.suf h2) hf
  refine ⟨g1, ts2, g2.trans h2, g3, ?_⟩
  simp only [h4]; exact g4
theorem Lw.bindR {H : R → Except Er R} {G G' : R → Except Er (β × R)} (hF : LwR e x H) (hG2 : Lw e x G G' q) : Lw e x (fun r => H r >>= G) (fun r => H r >>= G') q := fun ts d y r' hG hf => by
 cases hF1 : H ⟨ts ++ [e], d⟩ with
 | error er => simp only [hF1] at hf; cases hf
 | ok z =>
  obtain ⟨l1, d1⟩ := z
  simp only [hF1] at hf
  obtain ⟨ts1, h2, rfl, h4⟩ := hF ts d _ hG hF1
  obtain ⟨g1, ts2, g2, g3, g4⟩ := hG2 ts1 d1 y r' (hG.suf h2) hf
  refine ⟨g1, ts2, g2.trans h2, g3, ?_⟩
  simp only [h4]; exact g4
theorem LwN.opens {G G' : R → Except Er (β × R)} (h : LwN e x g G G' q) : LwN e x g (fun r => opens r >>= G) (fun r => P12.opens r >>= G') q := fun t ts d y r' hg hG hf => by
 by_cases hd : d = 100
 ·subst hd; cases hf
 ·have e1 : ∀ u, P12.opens ⟨u, d⟩ = .ok ⟨u, d + 1⟩ := fun u => by unfold P12.opens; rw [if_neg (show ¬ d = 100 from hd)]
  simp only [e1] at hf ⊢
  exact h t ts (d + 1) y r' hg hG hf
theorem isT_end (hE : Ends e x) {s : T} (hs : s ≠ [59]) (d : Nat) : isT s ⟨[e], d⟩ = false ∧ isT s ⟨x, d⟩ = false := by
 obtain ⟨k0, a, l, rfl, h1, h2⟩ := hE
 refine ⟨by simp [isT, nxt, k0], ?_⟩
 simp only [isT, nxt, List.headD_cons, h1, h2, Bool.and_eq_false_iff, beq_eq_false_iff_ne]
 exact .inr fun e => hs e.symm
abbrev isW (s : T) (t : Tok) : Prop := (t.kind = 2 ∨ t.kind = 5) ∧ t.text = s
theorem isW.k {s : T} (t : Tok) (h : isW s t) : t.kind ≠ 0 := by rcases h.1 with h | h <;> rw [h] <;> decide
theorem isT_cons (s : T) (t : Tok) (l : List Tok) (d : Nat) : isT s ⟨t :: l, d⟩ = true ↔ isW s t := by simp [isT, nxt]
def One (e : Tok) (x : List Tok) (c : R → Bool) (g g' : Tok → Prop) : Prop :=
 (∀ d, c ⟨[e], d⟩ = false ∧ c ⟨x, d⟩ = false) ∧ ∀ t l d, (c ⟨t :: l, d⟩ = true → g t) ∧ (c ⟨t :: l, d⟩ = false → g' t) ∧ ∀ l', c ⟨t :: l', d⟩ = c ⟨t :: l, d⟩
theorem Lw.cond {A A' B B' : R → Except Er (α × R)} {c : R → Bool} {g g' : Tok → Prop} (hc : One e x c g g') (hA : LwN e x g A A' p) (hB0 : Lw e x B B' p) : Lw e x (fun r => if c r = true then A r else B r) (fun r => if c r = true then A' r else B' r) p := fun ts d y r' hG hf => by
 cases ts with
 | nil =>
  simp only [List.nil_append, (hc.1 d).1, (hc.1 d).2] at hf ⊢
  exact hB0 [] d y r' hG hf
 | cons t ts =>
  obtain ⟨h1, h2, h3⟩ := hc.2 t (ts ++ [e]) d
  simp only [List.cons_append, h3 (ts ++ x)] at hf ⊢
  cases hb : c ⟨t :: (ts ++ [e]), d⟩ with
  | true => simp only [hb, if_true] at hf ⊢; exact hA t ts d y r' (h1 hb) hG hf
  | false => simp only [hb] at hf ⊢; exact hB0 (t :: ts) d y r' hG hf
theorem one_is (hE : Ends e x) {s : T} (hs : s ≠ [59]) : One e x (isT s) (isW s) (fun _ => True) :=
 ⟨fun d => isT_end hE hs d, fun t l d => ⟨(isT_cons s t l d).1, fun _ => trivial, fun _ => rfl⟩⟩
theorem one_kind (hE : Ends e x) (k : Int) (h0 : k ≠ 0) (h5 : k ≠ 5) : One e x (fun r => decide ((nxt r).kind = k)) (fun t => t.kind = k) (fun _ => True) := by
 obtain ⟨k0, a, l, rfl, h1, h2⟩ := hE
 refine ⟨fun d => ⟨?_, ?_⟩, fun t l d => ⟨fun h => of_decide_eq_true h, fun _ => trivial, fun _ => rfl⟩⟩
 ·simp only [nxt, List.headD_cons, k0, decide_eq_false_iff_not]; exact fun e => h0 e.symm
 ·simp only [nxt, List.headD_cons, h1, decide_eq_false_iff_not]; exact fun e => h5 e.symm
theorem Lw.isT (hE : Ends e x) {s : T} {A A' B B' : R → Except Er (α × R)} (hs : s ≠ [59]) (hA : LwN e x (isW s) A A' p) (hB : Lw e x B B' p) : Lw e x (fun r => if isT s r = true then A r else B r) (fun r => if P12.isT s r = true then A' r else B' r) p := Lw.cond (one_is hE hs) hA hB
theorem Lw.isF (hE : Ends e x) {s : T} {A A' B B' : R → Except Er (α × R)} (hs : s ≠ [59]) (hB : Lw e x B B' p) (hA : LwN e x (isW s) A A' p) : Lw e x (fun r => if P12.isT s r = false then B r else A r) (fun r => if P12.isT s r = false then B' r else A' r) p := by
 have e1 : ∀ A B : R → Except Er (α × R), (fun r => if P12.isT s r = false then B r else A r) = (fun r => if P12.isT s r = true then A r else B r) := fun A B => by funext r; cases P12.isT s r <;> rfl
 rw [e1, e1]; exact Lw.isT hE hs hA hB
theorem Lw.kind (hE : Ends e x) {k : Int} {A A' B B' : R → Except Er (α × R)} (h0 : k ≠ 0) (h5 : k ≠ 5) (hA : LwN e x (fun t => t.kind = k) A A' p) (hB : Lw e x B B' p) : Lw e x (fun r => if (nxt r).kind = k then A r else B r) (fun r => if (nxt r).kind = k then A' r else B' r) p := by
 have := Lw.cond (one_kind hE k h0 h5) hA hB
 simp only [decide_eq_true_eq] at this
 exact this
theorem LwR.must (hE : Ends e x) {s : T} (hs : s ≠ [59]) : LwR e x (must s) := fun ts d r' hG hf => by
 cases ts with
 | nil => rw [P12.must, List.nil_append, (isT_end hE hs d).1] at hf; cases hf
 | cons t ts =>
  unfold P12.must at hf ⊢
  have e1 : ∀ u, P12.isT s ⟨t :: u, d⟩ = P12.isT s ⟨[t], d⟩ := fun _ => rfl
  simp only [List.cons_append, e1 (ts ++ _)] at hf ⊢
  cases hb : P12.isT s ⟨[t], d⟩ with
  | false => simp only [hb] at hf; cases hf
  | true =>
   have hk := isW.k t ((isT_cons s t [] d).1 hb)
   have e2 : ∀ u, P12.takes ⟨t :: u, d⟩ = ⟨u, d⟩ := fun u => by rw [takes_tail (by exact hk)]; rfl
   simp only [hb, if_true, e2] at hf ⊢
   cases hf
   exact ⟨ts, List.suffix_cons .., rfl, rfl⟩
theorem Lw.must (hE : Ends e x) {s : T} (hs : s ≠ [59]) {G G' : R → Except Er (β × R)} (h : Lw e x G G' q) : Lw e x (fun r => must s r >>= G) (fun r => P12.must s r >>= G') q := Lw.bindR (LwR.must hE hs) h
theorem Lw.has (hE : Ends e x) {s : T} (hs : s ≠ [59]) {K K' : Bool × R → Except Er (β × R)} (h1 : Lw e x (fun r => K (true, r)) (fun r => K' (true, r)) q) (h2 : Lw e x (fun r => K (false, r)) (fun r => K' (false, r)) q) : Lw e x (fun r => K (has s r)) (fun r => K' (P12.has s r)) q := by
 have e1 : ∀ K : Bool × R → Except Er (β × R), (fun r => K (P12.has s r)) = fun r => if P12.isT s r = true then K (true, P12.takes r) else K (false, r) := fun K => by funext r; unfold P12.has; cases P12.isT s r <;> rfl
 rw [e1, e1]
 exact Lw.isT hE hs (LwN.takes isW.k h1) h2
end
theorem name_chars {s : T} (h : s.all P11.alnum = true) (hl : s.map Go.Lib.lowerB = s) : ∀ i, (i = 0 → ∀ c l, s = c :: l → P11.letter c = true) → nameOk i s = true := by
 induction s with
 | nil => intro _ _; rfl
 | cons c l ih =>
  intro i hi
  simp only [List.all_cons, Bool.and_eq_true] at h
  simp only [List.map_cons, List.cons.injEq] at hl
  rw [nameOk, ih h.2 hl.2 (i + 1) (fun h => by omega), Bool.and_true]
  have key := P11.u8_all (p := fun c => !(P11.alnum c && Go.Lib.lowerB c == c) || (nameC 1 c && (!P11.letter c || nameC 0 c))) (by decide +kernel) c
  simp only [h.1, hl.1, beq_self_eq_true, Bool.and_self, Bool.not_true, Bool.false_or, Bool.and_eq_true, Bool.or_eq_true, Bool.not_eq_true'] at key
  cases i with
  | zero =>
   have := hi rfl c l rfl
   rcases key.2 with k | k
   ·rw [this] at k; cases k
   ·exact k
  | succ i => have := key.1; simpa [nameC] using this
theorem good_name {t : Tok} (h : P11.good (P11.kt t)) (hk : t.kind = 1) (hl : t.text.length ≤ 24) : isName t.text = true := by
 rcases h with ⟨-, ⟨c, l, h2, h3⟩, h4, h5, h6⟩ | ⟨h1, -⟩ | ⟨h1, -⟩ | ⟨h1, -⟩ | ⟨h1, -⟩
 ·simp only [P11.kt] at h2 h4 h5 h6
  have := name_chars h4 h5 0 (fun _ c' l' e => by rw [h2] at e; cases e; exact h3)
  unfold isName
  rw [this, h6, decide_eq_true hl, h2]; rfl
 all_goals (simp only [P11.kt] at h1; omega)
section
variable {e : Tok} {x : List Tok} {α β : Type}
theorem name_lw (hE : Ends e x) : Lw e x name name (fun s => isName s = true) := fun ts d y r' hG hf => by
 cases ts with
 | nil =>
  rw [List.nil_append, name, if_pos (show (nxt ⟨[e], d⟩).kind ≠ 1 by show ¬ e.kind = 1; rw [hE.k0]; decide)] at hf; cases hf
 | cons t ts =>
  unfold name at hf ⊢
  have e1 : ∀ u, nxt ⟨t :: u, d⟩ = t := fun _ => rfl
  simp only [List.cons_append, e1] at hf ⊢
  split at hf
  ·cases hf
  rename_i h1
  have h1 : t.kind = 1 := Classical.not_not.1 h1
  split at hf
  ·cases hf
  rename_i h2
  have h0 : t.kind ≠ 0 := by rw [h1]; decide
  have e2 : ∀ u, takes ⟨t :: u, d⟩ = ⟨u, d⟩ := fun u => by rw [takes_tail (by exact h0)]; rfl
  rw [e2] at hf
  cases hf
  rw [if_neg (by simp [h1]), if_neg h2, e2]
  exact ⟨good_name (hG t (by simp)) h1 (by omega), ts, List.suffix_cons .., rfl, rfl⟩
theorem maybe_lw (hE : Ends e x) : Lw e x maybe maybe (fun s => maybeName s = true) := by
 have e1 : maybe = fun r => if (nxt r).kind = 1 then name r else .ok ([], r) := by
  funext r; unfold maybe; by_cases h : (nxt r).kind = 1 <;> simp [h]
 rw [e1]
 refine Lw.kind hE (by decide) (by decide) (Lw.N fun ts d y r' hG hf => ?_) (Lw.ret rfl)
 obtain ⟨h1, h2⟩ := name_lw hE ts d y r' hG hf
 exact ⟨by unfold maybeName; rw [h1, Bool.or_true], h2⟩
theorem int_lw (most : Nat) {g : Tok → Prop} (hg : ∀ t, g t → t.kind ≠ 0) : LwN e x g (int most) (int most) (fun n => n ≤ most) := fun t ts d y r' ht hG hf => by
 unfold int at hf ⊢
 have e1 : ∀ u, nxt ⟨t :: u, d⟩ = t := fun _ => rfl
 have e2 : ∀ u, takes ⟨t :: u, d⟩ = ⟨u, d⟩ := fun u => by rw [takes_tail (by exact hg t ht)]; rfl
 simp only [e1, e2] at hf ⊢
 split at hf
 ·cases hf
 ·rename_i h1
  cases hf
  rw [if_neg h1]
  exact ⟨by omega, ts, List.suffix_cons .., rfl, rfl⟩
theorem rowF_succ (most : Nat) (could : R → Bool) (read : R → Except Er (α × R)) (f n : Nat) : rowF most could read (f + 1) n = fun r => if (decide (most < n + 1) && could r) = true then fails 122 r else
  (read r >>= fun z => if isT [44] z.2 = true then (rowF most could read f (n + 1) (takes z.2) >>= fun w => .ok (z.1 :: w.1, w.2)) else .ok ([z.1], z.2)) := by kernel_rfl
theorem rowF_lw (hE : Ends e x) {most : Nat} {could : R → Bool} {read : R → Except Er (α × R)} {p : α → Prop} (hr : Lw e x read read p) (hc : ∀ ts d, could ⟨ts ++ [e], d⟩ = could ⟨ts ++ x, d⟩)
  (hcr : ∀ ts d z, Gs ts → read ⟨ts ++ [e], d⟩ = .ok z → could ⟨ts ++ [e], d⟩ = true) : ∀ (f h n : Nat), f ≤ h → Lw e x (rowF most could read f n) (rowF most could read h n) (fun l => (∀ a ∈ l, p a) ∧ 1 ≤ l.length ∧ n + l.length ≤ most)
 | 0, _, _, _ => fun ts d y r' _ hf => by cases hf
 | f + 1, 0, _, h => by omega
 | f + 1, h + 1, n, hfh => fun ts d y r' hG hf => by
  rw [rowF_succ] at hf ⊢
  dsimp only at hf ⊢
  rw [← hc ts d]
  by_cases hb : (decide (most < n + 1) && could ⟨ts ++ [e], d⟩) = true
  ·rw [if_pos hb] at hf; cases hf
  rw [if_neg hb] at hf ⊢
  have key : Lw e x (fun r => read r >>= fun z => if isT [44] z.2 = true then (rowF most could read f (n + 1) (takes z.2) >>= fun w => .ok (z.1 :: w.1, w.2)) else .ok ([z.1], z.2))
    (fun r => read r >>= fun z => if isT [44] z.2 = true then (rowF most could read h (n + 1) (takes z.2) >>= fun w => .ok (z.1 :: w.1, w.2)) else .ok ([z.1], z.2)) (fun l => (∀ a ∈ l, p a) ∧ 1 ≤ l.length ∧ (n + 1 ≤ most → n + l.length ≤ most)) :=
   Lw.bind hr fun a ha => by
    refine Lw.isT hE (by decide) (LwN.takes (F := fun r => rowF most could read f (n + 1) r >>= fun w => .ok (a :: w.1, w.2)) (F' := fun r => rowF most could read h (n + 1) r >>= fun w => .ok (a :: w.1, w.2)) isW.k ?_) ?_
    ·refine Lw.bind (rowF_lw hE hr hc hcr f h (n + 1) (by omega)) fun l hl => Lw.ret (a := a :: l) ?_
     exact ⟨fun b hb => by rcases List.mem_cons.1 hb with rfl | hb; exact ha; exact hl.1 b hb, by simp, fun _ => by have := hl.2.2; simp only [List.length_cons]; omega⟩
    ·refine Lw.ret (a := [a]) ?_
     exact ⟨fun b hb => by rw [List.mem_singleton.1 hb]; exact ha, by simp, fun h => by simpa using h⟩
  obtain ⟨⟨h1, h2, h3⟩, h4⟩ := key ts d y r' hG hf
  refine ⟨⟨h1, h2, h3 ?_⟩, h4⟩
  have : ∃ z, read ⟨ts ++ [e], d⟩ = .ok z := by
   cases hz : read ⟨ts ++ [e], d⟩ with
   | error er => rw [hz] at hf; cases hf
   | ok z => exact ⟨z, rfl⟩
  obtain ⟨z, hz⟩ := this
  rw [hcr ts d z hG hz] at hb
  simp at hb; omega
theorem row_lw (hE : Ends e x) {most : Nat} {could : R → Bool} {read : R → Except Er (α × R)} {p : α → Prop} (hr : Lw e x read read p) (hc : ∀ ts d, could ⟨ts ++ [e], d⟩ = could ⟨ts ++ x, d⟩)
  (hcr : ∀ ts d z, Gs ts → read ⟨ts ++ [e], d⟩ = .ok z → could ⟨ts ++ [e], d⟩ = true) : Lw e x (fun r => rowF most could read r.l.length 0 r) (fun r => rowF most could read r.l.length 0 r) (fun l => (∀ a ∈ l, p a) ∧ 1 ≤ l.length ∧ l.length ≤ most) := fun ts d y r' hG hf => by
 obtain ⟨⟨h1, h2, h3⟩, h4⟩ := rowF_lw hE hr hc hcr (ts ++ [e]).length (ts ++ x).length 0 (by obtain ⟨-, s, l, rfl, -⟩ := hE; simp) ts d y r' hG hf
 exact ⟨⟨h1, h2, by omega⟩, h4⟩
theorem within_eq (read : R → Except Er (α × R)) : within read = fun r => if isT [40] r = false then fails 120 r else opens r >>= fun r => read (takes r) >>= fun z => must [41] z.2 >>= fun r => .ok (z.1, closes r) := by kernel_rfl
theorem within_lw (hE : Ends e x) {read : R → Except Er (α × R)} {p : α → Prop} (hr : Lw e x read read p) : Lw e x (within read) (within read) p := by
 rw [within_eq]
 refine Lw.isF hE (by decide) Lw.fails (LwN.opens ?_)
 refine LwN.takes (F := fun r => read r >>= fun z => must [41] z.2 >>= fun r => .ok (z.1, closes r)) (F' := fun r => read r >>= fun z => must [41] z.2 >>= fun r => .ok (z.1, closes r)) isW.k ?_
 exact Lw.bind hr fun a ha => Lw.must hE (by decide) (Lw.closes ha)
end
end P12
namespace P12
open P11 (Tok)
section
variable {e : Tok} {x : List Tok} {α β : Type} {p : α → Prop} {g : Tok → Prop}
theorem lwN_next (hE : Ends e x) (hg : ∀ t, g t → t.kind ≠ 0) {A A' B B' : R → Except Er (α × R)} (hA : LwN e x (fun t => t.kind = 3) A A' p) (hB : LwN e x g B B' p) :
  LwN e x g (fun r => if (nxt ⟨r.l.tail, r.deep⟩).kind = 3 then A (takes r) else B r) (fun r => if (nxt ⟨r.l.tail, r.deep⟩).kind = 3 then A' (takes r) else B' r) p := fun t ts d y r' ht hG hf => by
 have e1 : ∀ u, P12.takes ⟨t :: u, d⟩ = ⟨u, d⟩ := fun u => by rw [takes_tail (by exact hg t ht)]; rfl
 simp only [e1, List.tail_cons] at hf ⊢
 cases ts with
 | nil =>
  obtain ⟨k0, s, l, rfl, h1, h2⟩ := hE
  have c1 : ¬ (nxt ⟨[] ++ [e], d⟩).kind = 3 := by show ¬ e.kind = 3; rw [k0]; decide
  have c2 : ¬ (nxt ⟨[] ++ (s :: l), d⟩).kind = 3 := by show ¬ s.kind = 3; rw [h1]; decide
  rw [if_neg c1] at hf
  rw [if_neg c2]
  exact hB t [] d y r' ht hG hf
 | cons u ts =>
  by_cases h3 : u.kind = 3
  ·have c1 : ∀ v, (nxt ⟨u :: ts ++ v, d⟩).kind = 3 := fun v => h3
   simp only [c1, if_true] at hf ⊢
   obtain ⟨h1, ts', h2, h4⟩ := hA u ts d y r' h3 (fun a ha => hG a (by simp at ha ⊢; exact .inr ha)) hf
   exact ⟨h1, ts', h2.trans (List.suffix_cons ..), h4⟩
  ·have c1 : ∀ v, (nxt ⟨u :: ts ++ v, d⟩).kind = 3 ↔ False := fun v => ⟨fun h => h3 h, False.elim⟩
   simp only [c1, if_false] at hf ⊢
   exact hB t (u :: ts) d y r' ht hG hf
theorem lw_find (hE : Ends e x) {ops : List (T × Int)} (ho : ∀ o ∈ ops, o.1 ≠ [59]) {A A' : R → Except Er (α × R)} {S S' : R → T × Int → Except Er (α × R)} (hA : Lw e x A A' p) (hS : ∀ o ∈ ops, LwN e x (fun t => t.kind ≠ 0) (fun r => S r o) (fun r => S' r o) p) :
  Lw e x (fun r => (ops.find? fun o => isT o.1 r).elim (A r) (S r)) (fun r => (ops.find? fun o => isT o.1 r).elim (A' r) (S' r)) p := fun ts d y r' hG hf => by
 cases ts with
 | nil =>
  have c1 : (ops.find? fun o => isT o.1 ⟨[e], d⟩) = none := List.find?_eq_none.2 fun o h => by rw [(isT_end hE (ho o h) d).1]; simp
  have c2 : (ops.find? fun o => isT o.1 ⟨x, d⟩) = none := List.find?_eq_none.2 fun o h => by rw [(isT_end hE (ho o h) d).2]; simp
  simp only [List.nil_append, c1, c2] at hf ⊢
  exact hA [] d y r' hG hf
 | cons t ts =>
  have c1 : ∀ u, (fun o : T × Int => isT o.1 ⟨t :: u, d⟩) = fun o => isT o.1 ⟨[t], d⟩ := fun _ => rfl
  simp only [List.cons_append, c1 (ts ++ _)] at hf ⊢
  cases hfd : ops.find? (fun o => isT o.1 ⟨[t], d⟩) with
  | none => simp only [hfd] at hf ⊢; exact hA (t :: ts) d y r' hG hf
  | some o =>
   simp only [hfd] at hf ⊢
   exact hS o (List.mem_of_find?_eq_some hfd) t ts d y r' (isW.k t ((isT_cons o.1 t [] d).1 (by simpa using List.find?_some hfd))) hG hf
end
abbrev okE (a : E) : Prop := isE a = true
section
variable {e : Tok} {x : List Tok}
theorem column_eq : column = fun r => name r >>= fun z => if isT [46] z.2 = true then name (takes z.2) >>= fun w => .ok (.col z.1 w.1, w.2) else .ok (.col [] z.1, z.2) := by kernel_rfl
theorem column_lw (hE : Ends e x) : Lw e x column column (fun a => isCol a = true) := by
 rw [column_eq]
 refine Lw.bind (name_lw hE) fun a ha => ?_
 refine Lw.isT hE (by decide) (LwN.takes (F := fun r => name r >>= fun w => .ok (E.col a w.1, w.2)) (F' := fun r => name r >>= fun w => .ok (E.col a w.1, w.2)) isW.k ?_) ?_
 ·refine Lw.bind (name_lw hE) fun b hb => Lw.ret (a := E.col a b) ?_
  show (isName b && maybeName a) = true
  rw [hb, maybeName, ha, Bool.or_true]; rfl
 ·refine Lw.ret (a := E.col [] a) ?_
  show (isName a && maybeName []) = true
  rw [ha]; rfl
theorem isCol_ok {a : E} (h : isCol a = true) : okE a := by cases a <;> first | exact h | cases h
theorem callArg_lw (hE : Ends e x) {ex : R → Except Er (E × R)} (h : Lw e x ex ex okE) (op : Int) : Lw e x (callArg ex op) (callArg ex op) (fun z => z.1 = true ∨ okE z.2) := by
 have h2 : Lw e x (fun r => ex r >>= fun z => .ok ((false, z.1), z.2)) (fun r => ex r >>= fun z => .ok ((false, z.1), z.2)) (fun z => z.1 = true ∨ okE z.2) := Lw.bind h fun a ha => Lw.ret (a := (false, a)) (.inr ha)
 by_cases h20 : op = 20
 ·have e1 : callArg ex op = fun r => if isT [42] r = true then .ok ((true, E.none), takes r) else (ex r >>= fun z => .ok ((false, z.1), z.2)) := by
   funext r; unfold callArg; simp only [h20, true_and]; split
   ·rfl
   ·cases ex r <;> rfl
  rw [e1]
  exact Lw.isT hE (by decide) (LwN.retT isW.k (.inl rfl)) h2
 ·have e1 : callArg ex op = fun r => (ex r >>= fun z => .ok ((false, z.1), z.2)) := by
   funext r; unfold callArg; simp only [h20, false_and, if_false]; cases ex r <;> rfl
  rw [e1]; exact h2
theorem call_eq (ex : R → Except Er (E × R)) (op : Int) : call ex op = fun r => within (callArg ex op) r >>= fun z => .ok (if z.1.1 then E.all else E.call op z.1.2, z.2) := by kernel_rfl
theorem call_lw (hE : Ends e x) {ex : R → Except Er (E × R)} (h : Lw e x ex ex okE) {op : Int} (h1 : 20 ≤ op) (h2 : op ≤ 23) : Lw e x (call ex op) (call ex op) okE := by
 rw [call_eq]
 refine Lw.bind (within_lw hE (callArg_lw hE h op)) fun z hz => Lw.ret (a := if z.1 then E.all else E.call op z.2) ?_
 obtain ⟨b, a⟩ := z
 cases b with
 | true => rfl
 | false =>
  rcases hz with hz | hz
  ·cases hz
  ·show isE (E.call op a) = true
   simp [isE, h1, h2]; exact hz
theorem fnOf_op {s : T} {op : Int} (h : fnOf s = .some op) : 20 ≤ op ∧ op ≤ 23 := by
 unfold fnOf at h
 repeat' split at h
 all_goals (cases h <;> decide)
theorem primary_eq (ex : R → Except Er (E × R)) : primary ex = fun r => if (nxt r).kind = 3 then (int 9223372036854775807 r >>= fun z => .ok (E.val 2 z.1 [], z.2)) else if (nxt r).kind = 4 then (if 40 < (nxt r).text.length then fails 122 r else .ok (E.val 3 0 (nxt r).text, takes r)) else if (nxt r).kind = 1 then column r
  else if isT [40] r then within ex r else if (nxt r).kind = 2 then ((fnOf (nxt r).text).elim (if (nxt r).text = [78, 85, 76, 76] then .ok (E.val 0 0 [], takes r) else if (nxt r).text = [84, 82, 85, 69] then .ok (E.val 1 1 [], takes r) else if (nxt r).text = [70, 65, 76, 83, 69] then .ok (E.val 1 0 [], takes r) else fails 120 r)
   (fun op => call ex op (takes r))) else fails 120 r := by kernel_rfl
theorem primary_lw (hE : Ends e x) {ex : R → Except Er (E × R)} (h : Lw e x ex ex okE) : Lw e x (primary ex) (primary ex) okE := by
 rw [primary_eq]
 refine Lw.kind hE (by decide) (by decide) ?_ (Lw.kind hE (by decide) (by decide) ?_ (Lw.kind hE (by decide) (by decide) ?_ (Lw.isT hE (by decide) ?_ (Lw.kind hE (by decide) (by decide) ?_ Lw.fails))))
 ·refine LwN.bind (int_lw _ (fun t ht => by rw [ht]; decide)) fun n hn => Lw.ret (a := E.val 2 n []) ?_
  have : (n : Int) ≤ 9223372036854775807 := by omega
  have h2 : (-9223372036854775808 : Int) ≤ n := by omega
  simp [okE, isE, P6.isV, this, h2]
 ·intro t ts d y r' ht hG hf
  have e1 : ∀ u, nxt ⟨t :: u, d⟩ = t := fun _ => rfl
  have h0 : t.kind ≠ 0 := by rw [ht]; decide
  have e2 : ∀ u, takes ⟨t :: u, d⟩ = ⟨u, d⟩ := fun u => by rw [takes_tail (by exact h0)]; rfl
  simp only [e1, e2] at hf ⊢
  split at hf
  ·cases hf
  ·rename_i h40
   rw [if_neg h40]
   cases hf
   refine ⟨?_, ts, List.suffix_cons .., rfl, rfl⟩
   rcases hG t (by simp) with ⟨h1, -⟩ | ⟨h1, -⟩ | ⟨h1, -⟩ | ⟨h1, h2⟩ | ⟨h1, -⟩
   case inr.inr.inr.inl =>
    simp only [P11.kt] at h2
    have : t.text.length ≤ 40 := by omega
    simp [okE, isE, P6.isV, this, h2] at h2 ⊢
    exact h2
   all_goals (simp only [P11.kt] at h1; omega)
 ·exact Lw.N fun ts d y r' hG hf => by
   obtain ⟨h1, h2⟩ := column_lw hE ts d y r' hG hf
   exact ⟨isCol_ok h1, h2⟩
 ·exact Lw.N (within_lw hE h)
 ·intro t ts d y r' ht hG hf
  have e1 : ∀ u, nxt ⟨t :: u, d⟩ = t := fun _ => rfl
  have h0 : t.kind ≠ 0 := by rw [ht]; decide
  have e2 : ∀ u, takes ⟨t :: u, d⟩ = ⟨u, d⟩ := fun u => by rw [takes_tail (by exact h0)]; rfl
  simp only [e1] at hf ⊢
  cases hfn : fnOf t.text with
  | some op =>
   obtain ⟨o1, o2⟩ := fnOf_op hfn
   simp only [hfn] at hf ⊢
   exact LwN.takes (g := fun t => t.kind ≠ 0) (fun _ h => h) (call_lw hE h o1 o2) t ts d y r' h0 hG hf
  | none =>
   simp only [hfn, Option.elim, e2] at hf ⊢
   repeat' split at hf
   all_goals first
    | (cases hf; done)
    | (cases hf; simp only [*, if_true, if_false]; exact ⟨by decide, ts, List.suffix_cons .., rfl, by first | rfl | simp_all⟩)
theorem factorF_succ (ex : R → Except Er (E × R)) (f : Nat) : factorF ex (f + 1) = fun r => if isT [45] r = false then primary ex r else if (nxt ⟨r.l.tail, r.deep⟩).kind = 3 then (int 9223372036854775808 (takes r) >>= fun z => .ok (E.val 2 (-(z.1 : Int)) [], z.2))
  else (opens r >>= fun r => factorF ex f (takes r) >>= fun z => .ok (E.una 16 z.1, closes z.2)) := by kernel_rfl
theorem factorF_lw (hE : Ends e x) {ex : R → Except Er (E × R)} (h : Lw e x ex ex okE) : ∀ f, Lw e x (factorF ex f) (factorF ex f) okE
 | 0 => fun ts d y r' _ hf => by cases hf
 | f + 1 => by
  rw [factorF_succ]
  refine Lw.isF hE (by decide) (primary_lw hE h) (lwN_next hE isW.k (A := fun r => int 9223372036854775808 r >>= fun z => .ok (E.val 2 (-(z.1 : Int)) [], z.2)) (A' := fun r => int 9223372036854775808 r >>= fun z => .ok (E.val 2 (-(z.1 : Int)) [], z.2)) ?_ (LwN.opens ?_))
  ·refine LwN.bind (int_lw _ (fun t ht => by rw [ht]; decide)) fun n hn => Lw.ret (a := E.val 2 (-(n : Int)) []) ?_
   have h1 : (-9223372036854775808 : Int) ≤ -(n : Int) := by omega
   have h2 : -(n : Int) ≤ 9223372036854775807 := by omega
   simp [okE, isE, P6.isV, h1, h2]
  ·refine LwN.takes (F := fun r => factorF ex f r >>= fun z => .ok (E.una 16 z.1, closes z.2)) (F' := fun r => factorF ex f r >>= fun z => .ok (E.una 16 z.1, closes z.2)) isW.k ?_
   refine Lw.bind (factorF_lw hE h f) fun a ha => Lw.closes (a := E.una 16 a) ?_
   simpa [okE, isE] using ha
theorem binF_succ (part : R → Except Er (E × R)) (ops : List (T × Int)) (f : Nat) (a : E) : binF part ops (f + 1) a = fun r => (ops.find? fun o => isT o.1 r).elim (.ok (a, r)) (fun o => part (takes r) >>= fun z => binF part ops f (E.bin o.2 a z.1) z.2) := by kernel_rfl
theorem binF_lw (hE : Ends e x) {part : R → Except Er (E × R)} (h : Lw e x part part okE) {ops : List (T × Int)} (ho : ∀ o ∈ ops, o.1 ≠ [59] ∧ 1 ≤ o.2 ∧ o.2 ≤ 14) : ∀ (f m : Nat) (a : E), f ≤ m → okE a → Lw e x (binF part ops f a) (binF part ops m a) okE
 | 0, _, _, _, _ => fun ts d y r' _ hf => by cases hf
 | f + 1, 0, _, h, _ => by omega
 | f + 1, m + 1, a, hfm, ha => by
  rw [binF_succ, binF_succ]
  refine lw_find hE (fun o h => (ho o h).1) (S := fun r o => part (takes r) >>= fun z => binF part ops f (E.bin o.2 a z.1) z.2) (S' := fun r o => part (takes r) >>= fun z => binF part ops m (E.bin o.2 a z.1) z.2) (Lw.ret ha) fun o hm => ?_
  refine LwN.takes (F := fun r => part r >>= fun z => binF part ops f (E.bin o.2 a z.1) z.2) (F' := fun r => part r >>= fun z => binF part ops m (E.bin o.2 a z.1) z.2) (fun _ h => h) ?_
  refine Lw.bind h fun b hb => binF_lw hE h ho f m (E.bin o.2 a b) (by omega) ?_
  obtain ⟨-, o1, o2⟩ := ho o hm
  simp [okE, isE, o1, o2]; exact ⟨ha, hb⟩
theorem binary_eq (part : R → Except Er (E × R)) (ops : List (T × Int)) : binary part ops = fun r => part r >>= fun z => binF part ops z.2.l.length z.1 z.2 := by kernel_rfl
theorem binary_lw (hE : Ends e x) {part : R → Except Er (E × R)} (h : Lw e x part part okE) {ops : List (T × Int)} (ho : ∀ o ∈ ops, o.1 ≠ [59] ∧ 1 ≤ o.2 ∧ o.2 ≤ 14) : Lw e x (binary part ops) (binary part ops) okE := by
 rw [binary_eq]
 refine Lw.bind h fun a ha => fun ts d y r' hG hf => ?_
 exact binF_lw hE h ho (ts ++ [e]).length (ts ++ x).length a (by obtain ⟨-, s, l, rfl, -⟩ := hE; simp) ha ts d y r' hG hf
theorem test_eq (sum : R → Except Er (E × R)) : test sum = fun r => sum r >>= fun z => (cmpOps.find? fun o => isT o.1 z.2).elim
  (if isT [73, 83] z.2 = false then .ok (z.1, z.2) else (must [78, 85, 76, 76] (has [78, 79, 84] (takes z.2)).2 >>= fun r => .ok (E.una (if (has [78, 79, 84] (takes z.2)).1 then 18 else 17) z.1, r)))
  (fun o => sum (takes z.2) >>= fun w => .ok (E.bin o.2 z.1 w.1, w.2)) := by kernel_rfl
theorem test_lw (hE : Ends e x) {sum : R → Except Er (E × R)} (h : Lw e x sum sum okE) : Lw e x (test sum) (test sum) okE := by
 rw [test_eq]
 refine Lw.bind h fun a ha => ?_
 refine lw_find hE (by decide) (A := fun r => if isT [73, 83] r = false then .ok (a, r) else (must [78, 85, 76, 76] (has [78, 79, 84] (takes r)).2 >>= fun r' => .ok (E.una (if (has [78, 79, 84] (takes r)).1 then 18 else 17) a, r')))
  (A' := fun r => if isT [73, 83] r = false then .ok (a, r) else (must [78, 85, 76, 76] (has [78, 79, 84] (takes r)).2 >>= fun r' => .ok (E.una (if (has [78, 79, 84] (takes r)).1 then 18 else 17) a, r')))
  (S := fun r o => sum (takes r) >>= fun w => .ok (E.bin o.2 a w.1, w.2)) (S' := fun r o => sum (takes r) >>= fun w => .ok (E.bin o.2 a w.1, w.2)) ?_ fun o hm => ?_
 ·refine Lw.isF hE (by decide) (Lw.ret ha) ?_
  refine LwN.takes (F := fun r => must [78, 85, 76, 76] (has [78, 79, 84] r).2 >>= fun r' => .ok (E.una (if (has [78, 79, 84] r).1 then 18 else 17) a, r')) (F' := fun r => must [78, 85, 76, 76] (has [78, 79, 84] r).2 >>= fun r' => .ok (E.una (if (has [78, 79, 84] r).1 then 18 else 17) a, r')) isW.k ?_
  refine Lw.has hE (by decide) (K := fun h => must [78, 85, 76, 76] h.2 >>= fun r' => .ok (E.una (if h.1 then 18 else 17) a, r')) (K' := fun h => must [78, 85, 76, 76] h.2 >>= fun r' => .ok (E.una (if h.1 then 18 else 17) a, r')) ?_ ?_
  ·exact Lw.must hE (by decide) (Lw.ret (a := E.una 18 a) (by simpa [okE, isE] using ha))
  ·exact Lw.must hE (by decide) (Lw.ret (a := E.una 17 a) (by simpa [okE, isE] using ha))
 ·refine LwN.takes (F := fun r => sum r >>= fun w => .ok (E.bin o.2 a w.1, w.2)) (F' := fun r => sum r >>= fun w => .ok (E.bin o.2 a w.1, w.2)) (fun _ h => h) ?_
  refine Lw.bind h fun b hb => Lw.ret (a := E.bin o.2 a b) ?_
  have : 1 ≤ o.2 ∧ o.2 ≤ 14 := by revert o; decide
  simp [okE, isE, this]; exact ⟨ha, hb⟩
theorem notF_succ (tst : R → Except Er (E × R)) (f : Nat) : notF tst (f + 1) = fun r => if isT [78, 79, 84] r = false then tst r else (opens r >>= fun r => notF tst f (takes r) >>= fun z => .ok (E.una 15 z.1, closes z.2)) := by kernel_rfl
theorem notF_lw (hE : Ends e x) {tst : R → Except Er (E × R)} (h : Lw e x tst tst okE) : ∀ f, Lw e x (notF tst f) (notF tst f) okE
 | 0 => fun ts d y r' _ hf => by cases hf
 | f + 1 => by
  rw [notF_succ]
  refine Lw.isF hE (by decide) h (LwN.opens ?_)
  refine LwN.takes (F := fun r => notF tst f r >>= fun z => .ok (E.una 15 z.1, closes z.2)) (F' := fun r => notF tst f r >>= fun z => .ok (E.una 15 z.1, closes z.2)) isW.k ?_
  refine Lw.bind (notF_lw hE h f) fun a ha => Lw.closes (a := E.una 15 a) ?_
  simpa [okE, isE] using ha
theorem exprF_lw (hE : Ends e x) : ∀ f, Lw e x (exprF f) (exprF f) okE
 | 0 => fun ts d y r' _ hf => by cases hf
 | f + 1 => binary_lw hE (binary_lw hE (notF_lw hE (test_lw hE (binary_lw hE (binary_lw hE (factorF_lw hE (exprF_lw hE f) _) (by decide)) (by decide))) _) (by decide)) (by decide)
theorem expr_lw (hE : Ends e x) : Lw e x expr expr okE := exprF_lw hE 101
end
abbrev Hd (r : R) : Prop := P11.good (P11.kt (nxt r)) ∨ (nxt r).kind = 0
theorem Hd.of {ts : List Tok} {e : Tok} {d : Nat} (hG : Gs ts) (h0 : e.kind = 0) : Hd ⟨ts ++ [e], d⟩ := by
 cases ts with
 | nil => exact .inr h0
 | cons t ts => exact .inl (hG t (by simp))
theorem isT_sign {s : T} {r : R} (hg : Hd r) (h : isT s r = true) (hs : ∀ c l, s = c :: l → P11.letter c = false) : (nxt r).kind = 5 := by
 have hw : isW s (nxt r) := by simpa [isT] using h
 rcases hw.1 with h2 | h2
 ·rcases hg with hg | hg
  ·rcases hg with ⟨h1, -⟩ | ⟨h1, ⟨c, l, h3, h4⟩, -⟩ | ⟨h1, -⟩ | ⟨h1, -⟩ | ⟨h1, -⟩
   case inr.inl => simp only [P11.kt] at h3; rw [hs c l (hw.2.symm.trans h3)] at h4; cases h4
   all_goals (simp only [P11.kt] at h1; omega)
  ·omega
 ·exact h2
theorem isT_word {s : T} {r : R} (hg : Hd r) (h : isT s r = true) (hs : s ∉ P11.signs) : (nxt r).kind = 2 := by
 have hw : isW s (nxt r) := by simpa [isT] using h
 rcases hw.1 with h2 | h2
 ·exact h2
 ·rcases hg with hg | hg
  ·rcases hg with ⟨h1, -⟩ | ⟨h1, -⟩ | ⟨h1, -⟩ | ⟨h1, -⟩ | ⟨h1, h3⟩
   case inr.inr.inr.inr => simp only [P11.kt] at h3; rw [hw.2] at h3; exact absurd h3 hs
   all_goals (simp only [P11.kt] at h1; omega)
  ·omega
theorem nameOkN {r : R} {z} (h : name r = .ok z) : named r = true := by
 unfold name at h
 split at h
 ·cases h
 rename_i h1
 split at h
 ·cases h
 ·unfold named; simp [Classical.not_not.1 h1]; omega
theorem ok_of_bind {α β : Type} {F : Except Er α} {K : α → Except Er β} {z : β} (h : (F >>= K) = .ok z) : ∃ a, F = .ok a := by
 cases F with
 | error er => cases h
 | ok a => exact ⟨a, rfl⟩
theorem beg_primary {ex : R → Except Er (E × R)} {r : R} {z} (hg : Hd r) (h : primary ex r = .ok z) : begins r = true := by
 rw [primary_eq] at h
 unfold begins
 dsimp only at h ⊢
 split at h
 ·rename_i h3
  rw [if_neg (by rw [h3]; decide), if_pos h3]
  obtain ⟨a, ha⟩ := ok_of_bind h
  unfold int at ha
  split at ha
  ·cases ha
  ·exact decide_eq_true (by omega)
 rename_i h3
 split at h
 ·rename_i h4; rw [if_neg (by rw [h4]; decide), if_neg h3, if_pos h4]
 rename_i h4
 split at h
 ·rename_i h1
  rw [if_pos h1]
  rw [column_eq] at h
  obtain ⟨a, ha⟩ := ok_of_bind h
  exact nameOkN ha
 rename_i h1
 rw [if_neg h1, if_neg h3, if_neg h4]
 split at h
 ·rename_i h40
  rw [if_pos (isT_sign hg h40 (fun c l e => by cases e; rfl)), isT_text h40]; rfl
 split at h
 ·rename_i h2
  rw [if_neg (by rw [h2]; decide), if_pos h2]
  cases hfn : fnOf (nxt r).text with
  | some op => simp
  | none =>
   simp only [hfn, Option.elim] at h
   repeat' split at h
   all_goals first | (cases h; done) | simp [*]
 ·cases h
theorem beg_factor {ex : R → Except Er (E × R)} {r : R} {z} (hg : Hd r) : ∀ f, factorF ex f r = .ok z → begins r = true
 | 0, h => by cases h
 | f + 1, h => by
  rw [factorF_succ] at h
  dsimp only at h
  split at h
  ·exact beg_primary hg h
  ·rename_i h45
   have h45 : isT [45] r = true := by simpa using h45
   have hk := isT_sign hg h45 (fun c l e => by cases e; rfl)
   unfold begins
   rw [if_neg (by rw [hk]; decide), if_neg (by rw [hk]; decide), if_neg (by rw [hk]; decide), if_pos hk, isT_text h45]; rfl
theorem beg_binary {part : R → Except Er (E × R)} {ops} {r : R} {z} (hp : ∀ z, part r = .ok z → begins r = true) (h : binary part ops r = .ok z) : begins r = true := by
 rw [binary_eq] at h
 obtain ⟨a, ha⟩ := ok_of_bind h
 exact hp a ha
theorem beg_not {tst : R → Except Er (E × R)} {r : R} (hg : Hd r) (hp : ∀ z, tst r = .ok z → begins r = true) : ∀ f z, notF tst f r = .ok z → begins r = true
 | 0, _, h => by cases h
 | f + 1, z, h => by
  rw [notF_succ] at h
  dsimp only at h
  split at h
  ·exact hp z h
  ·rename_i h78
   have h78 : isT [78, 79, 84] r = true := by simpa using h78
   have hk := isT_word hg h78 (by decide)
   unfold begins
   rw [if_neg (by rw [hk]; decide), if_neg (by rw [hk]; decide), if_neg (by rw [hk]; decide), if_neg (by rw [hk]; decide), if_pos hk, isT_text h78]; rfl
theorem beg_expr {r : R} {z} (hg : Hd r) (h : expr r = .ok z) : begins r = true := by
 refine beg_binary (fun z h => ?_) (show binary (andF (exprF 100) 101) orOps r = .ok z from h)
 refine beg_binary (fun z h => ?_) h
 refine beg_not hg (fun z h => ?_) _ z h
 rw [testF, test_eq] at h
 obtain ⟨a, ha⟩ := ok_of_bind h
 refine beg_binary (fun z h => ?_) ha
 exact beg_binary (fun z h => beg_factor hg _ h) h
end P12
namespace P12
open P11 (Tok)
section
variable {e : Tok} {x : List Tok}
theorem named_same (hE : Ends e x) (ts : List Tok) (d : Nat) : named ⟨ts ++ [e], d⟩ = named ⟨ts ++ x, d⟩ := by
 cases ts with
 | nil =>
  obtain ⟨k0, s, l, rfl, h1, h2⟩ := hE
  simp [named, nxt, k0, h1]
 | cons t ts => rfl
theorem begins_same (hE : Ends e x) (ts : List Tok) (d : Nat) : begins ⟨ts ++ [e], d⟩ = begins ⟨ts ++ x, d⟩ := by
 cases ts with
 | nil =>
  obtain ⟨k0, s, l, rfl, h1, h2⟩ := hE
  simp [begins, nxt, k0, h1, h2]
 | cons t ts => rfl
theorem is_same (hE : Ends e x) {s : T} (hs : s ≠ [59]) (ts : List Tok) (d : Nat) : isT s ⟨ts ++ [e], d⟩ = isT s ⟨ts ++ x, d⟩ := by
 cases ts with
 | nil => rw [List.nil_append, List.nil_append, (isT_end hE hs d).1, (isT_end hE hs d).2]
 | cons t ts => rfl
theorem some_of {α : Type} {l : List α} {m : Nat} {p : α → Bool} (h : (∀ a ∈ l, p a = true) ∧ 1 ≤ l.length ∧ l.length ≤ m) : some l m p = true := by
 unfold some
 rw [decide_eq_true h.2.1, decide_eq_true h.2.2, List.all_eq_true.2 h.1]; rfl
theorem names_eq : names = fun r => must [40] r >>= fun r => (fun r => rowF 16 named name r.l.length 0 r) r >>= fun z => must [41] z.2 >>= fun r => .ok (z.1, r) := by kernel_rfl
theorem names_lw (hE : Ends e x) : Lw e x names names (fun l => some l 16 isName = true) := by
 rw [names_eq]
 exact Lw.must hE (by decide) (Lw.bind (row_lw hE (name_lw hE) (named_same hE) fun ts d z _ h => nameOkN h) fun l hl => Lw.must hE (by decide) (Lw.ret (a := l) (some_of hl)))
def conOk : Con → Prop
 | .inl a => okE a
 | .inr (_, l) => some l 16 isName = true
theorem colsOf_lw (hE : Ends e x) {c : T} (hc : c = [] ∨ isName c = true) : Lw e x (colsOf c) (colsOf c) (fun l => some l 16 isName = true) := by
 by_cases h : c = []
 ·have : colsOf c = names := by funext r; unfold colsOf; rw [if_pos h]
  rw [this]; exact names_lw hE
 ·have : colsOf c = fun r => .ok ([c], r) := by funext r; unfold colsOf; rw [if_neg h]
  rw [this]
  exact Lw.ret (by rcases hc with hc | hc; exact absurd hc h; simp [some, hc])
theorem conOf_eq (n : Nat) (c : T) (r : R) : conOf n c r = if (decide (16 < n + 1) && constrains r) = true then fails 122 r else (fun r => if isT [67, 72, 69, 67, 75] r = true then (within expr (takes r) >>= fun z => .ok ((.inl z.1 : Con), z.2)) else
  if isT [80, 82, 73, 77, 65, 82, 89] r = true then (must [75, 69, 89] (takes r) >>= fun r => colsOf c r >>= fun z => .ok ((.inr (true, z.1) : Con), z.2)) else (must [85, 78, 73, 81, 85, 69] r >>= fun r => colsOf c r >>= fun z => .ok ((.inr (false, z.1) : Con), z.2))) r := by
 unfold conOf keyWord has
 split
 ·rfl
 dsimp only
 split
 ·cases within expr (takes r) <;> rfl
 ·cases hp : isT [80, 82, 73, 77, 65, 82, 89] r with
  | true => simp only [if_true]; cases must [75, 69, 89] (takes r) with
   | error er => rfl
   | ok r1 => show (match colsOf c r1 with | .error e => .error e | .ok (l, r2) => .ok ((.inr (true, l) : Con), r2)) = (colsOf c r1 >>= _); cases colsOf c r1 <;> rfl
  | false => simp only [Bool.false_eq_true, if_false]; cases must [85, 78, 73, 81, 85, 69] r with
   | error er => rfl
   | ok r1 => show (match colsOf c r1 with | .error e => .error e | .ok (l, r2) => .ok ((.inr (false, l) : Con), r2)) = (colsOf c r1 >>= _); cases colsOf c r1 <;> rfl
abbrev isC (t : Tok) : Prop := constrains ⟨[t], 0⟩ = true
theorem conOf_lw (hE : Ends e x) (n : Nat) {c : T} (hc : c = [] ∨ isName c = true) : LwN e x isC (conOf n c) (conOf n c) (fun o => n + 1 ≤ 16 ∧ conOk o) := fun t ts d y r' ht hG hf => by
 have h0 : ∀ l, constrains ⟨t :: l, d⟩ = true := fun l => ht
 rw [conOf_eq, h0, Bool.and_true] at hf
 rw [conOf_eq, h0, Bool.and_true]
 by_cases hn : 16 < n + 1
 ·rw [if_pos (decide_eq_true hn)] at hf; cases hf
 rw [if_neg (by simpa using hn)] at hf ⊢
 have key : Lw e x (fun r => if isT [67, 72, 69, 67, 75] r = true then (within expr (takes r) >>= fun z => .ok ((.inl z.1 : Con), z.2)) else
  if isT [80, 82, 73, 77, 65, 82, 89] r = true then (must [75, 69, 89] (takes r) >>= fun r => colsOf c r >>= fun z => .ok ((.inr (true, z.1) : Con), z.2)) else (must [85, 78, 73, 81, 85, 69] r >>= fun r => colsOf c r >>= fun z => .ok ((.inr (false, z.1) : Con), z.2)))
  (fun r => if isT [67, 72, 69, 67, 75] r = true then (within expr (takes r) >>= fun z => .ok ((.inl z.1 : Con), z.2)) else
  if isT [80, 82, 73, 77, 65, 82, 89] r = true then (must [75, 69, 89] (takes r) >>= fun r => colsOf c r >>= fun z => .ok ((.inr (true, z.1) : Con), z.2)) else (must [85, 78, 73, 81, 85, 69] r >>= fun r => colsOf c r >>= fun z => .ok ((.inr (false, z.1) : Con), z.2))) conOk := by
  refine Lw.isT hE (by decide) ?_ (Lw.isT hE (by decide) ?_ ?_)
  ·refine LwN.takes (F := fun r => within expr r >>= fun z => .ok ((.inl z.1 : Con), z.2)) (F' := fun r => within expr r >>= fun z => .ok ((.inl z.1 : Con), z.2)) isW.k ?_
   exact Lw.bind (within_lw hE (expr_lw hE)) fun a ha => Lw.ret (a := (.inl a : Con)) ha
  ·refine LwN.takes (F := fun r => must [75, 69, 89] r >>= fun r => colsOf c r >>= fun z => .ok ((.inr (true, z.1) : Con), z.2)) (F' := fun r => must [75, 69, 89] r >>= fun r => colsOf c r >>= fun z => .ok ((.inr (true, z.1) : Con), z.2)) isW.k ?_
   exact Lw.must hE (by decide) (Lw.bind (colsOf_lw hE hc) fun a ha => Lw.ret (a := (.inr (true, a) : Con)) ha)
  ·exact Lw.must hE (by decide) (Lw.bind (colsOf_lw hE hc) fun a ha => Lw.ret (a := (.inr (false, a) : Con)) ha)
 obtain ⟨h1, h2⟩ := key (t :: ts) d y r' hG hf
 exact ⟨⟨by omega, h1⟩, h2⟩
theorem typeOf_lw (hE : Ends e x) : Lw e x typeOf typeOf (fun ty => 1 ≤ ty ∧ ty ≤ 3) :=
 Lw.isT hE (by decide) (LwN.retT isW.k (by decide)) (Lw.isT hE (by decide) (LwN.retT isW.k (by decide)) (Lw.isT hE (by decide) (LwN.retT isW.k (by decide)) Lw.fails))
theorem one_con (hE : Ends e x) : One e x constrains isC (fun _ => True) := by
 refine ⟨fun d => ⟨?_, ?_⟩, fun t l d => ⟨fun h => h, fun _ => trivial, fun _ => rfl⟩⟩
 ·unfold constrains; rw [(isT_end hE (by decide) d).1, (isT_end hE (by decide) d).1, (isT_end hE (by decide) d).1]; rfl
 ·unfold constrains; rw [(isT_end hE (by decide) d).2, (isT_end hE (by decide) d).2, (isT_end hE (by decide) d).2]; rfl
structure J (t : Tb) (k : List (List T)) (n c : Nat) : Prop where
 nm : isName t.name = true
 cnt : t.cols.length + t.keys.length + t.checks.length + c = n
 most : n ≤ 16
 kl : k.length = t.keys.length
 ks : ∀ l ∈ k, some l 16 isName = true
 cs : ∀ a ∈ t.checks, okE a
 col : ∀ a ∈ t.cols, isName a.1 = true ∧ 1 ≤ a.2.1 ∧ a.2.1 ≤ 3
theorem J.add {t : Tb} {k : List (List T)} {n c : Nat} (h : J t k n c) {o : Con} (hn : n + 1 ≤ 16) (ho : conOk o) : J (addT t o) (addK k o) (n + 1) c := by
 obtain ⟨h1, h2, h3, h4, h5, h6, h7⟩ := h
 cases o with
 | inl a =>
  refine ⟨h1, ?_, hn, h4, h5, ?_, h7⟩
  ·show t.cols.length + t.keys.length + (t.checks ++ [a]).length + c = _; simp; omega
  ·intro b hb
   rcases List.mem_append.1 (show b ∈ t.checks ++ [a] from hb) with hb | hb
   ·exact h6 b hb
   ·rw [List.mem_singleton.1 hb]; exact ho
 | inr z =>
  obtain ⟨pr, l⟩ := z
  refine ⟨h1, ?_, hn, ?_, ?_, h6, h7⟩
  ·show t.cols.length + (t.keys ++ [pr]).length + t.checks.length + c = _; simp; omega
  ·show (k ++ [l]).length = (t.keys ++ [pr]).length; simp [h4]
  ·intro b hb
   rcases List.mem_append.1 (show b ∈ k ++ [l] from hb) with hb | hb
   ·exact h5 b hb
   ·rw [List.mem_singleton.1 hb]; exact ho
theorem tailF_succ (c : T) (f : Nat) (t : Tb) (k : List (List T)) (n : Nat) (nn : Bool) : tailF c (f + 1) t k n nn = fun r => if isT [78, 79, 84] r = true then (must [78, 85, 76, 76] (takes r) >>= fun r => tailF c f t k n true r) else
  if constrains r = true then (conOf n c r >>= fun z => tailF c f (addT t z.1) (addK k z.1) (n + 1) (nn || isT [80, 82, 73, 77, 65, 82, 89] r) z.2) else .ok ((t, k, n, nn), r) := by kernel_rfl
theorem tailF_lw (hE : Ends e x) {c : T} (hc : isName c = true) : ∀ (f m : Nat) (t : Tb) (k : List (List T)) (n : Nat) (nn : Bool), f ≤ m → J t k n 1 → Lw e x (tailF c f t k n nn) (tailF c m t k n nn) (fun z => J z.1 z.2.1 z.2.2.1 1)
 | 0, _, _, _, _, _, _, _ => fun ts d y r' _ hf => by cases hf
 | f + 1, 0, _, _, _, _, h, _ => by omega
 | f + 1, m + 1, t, k, n, nn, hfm, hJ => by
  rw [tailF_succ, tailF_succ]
  refine Lw.isT hE (by decide) ?_ (Lw.cond (one_con hE) ?_ (Lw.ret hJ))
  ·refine LwN.takes (F := fun r => must [78, 85, 76, 76] r >>= fun r => tailF c f t k n true r) (F' := fun r => must [78, 85, 76, 76] r >>= fun r => tailF c m t k n true r) isW.k ?_
   exact Lw.must hE (by decide) (tailF_lw hE hc f m t k n true (by omega) hJ)
  ·intro u us d y r' hu hG hf
   have e1 : ∀ l, isT [80, 82, 73, 77, 65, 82, 89] ⟨u :: l, d⟩ = isT [80, 82, 73, 77, 65, 82, 89] ⟨[u], d⟩ := fun _ => rfl
   simp only [e1 (us ++ _)] at hf ⊢
   exact LwN.bind (K := fun z => tailF c f (addT t z.1) (addK k z.1) (n + 1) (nn || isT [80, 82, 73, 77, 65, 82, 89] ⟨[u], d⟩) z.2) (K' := fun z => tailF c m (addT t z.1) (addK k z.1) (n + 1) (nn || isT [80, 82, 73, 77, 65, 82, 89] ⟨[u], d⟩) z.2)
    (conOf_lw hE n (.inr hc)) (fun o ho => tailF_lw hE hc f m (addT t o) (addK k o) (n + 1) _ (by omega) (hJ.add ho.1 ho.2)) u us d y r' hu hG hf
theorem part_eq (t : Tb) (k : List (List T)) (n : Nat) : part t k n = fun r => if constrains r = true then (conOf n [] r >>= fun z => .ok ((addT t z.1, addK k z.1, n + 1), z.2)) else
  if (decide (16 < n + 1) && named r) = true then fails 122 r else (name r >>= fun z => typeOf z.2 >>= fun y => (fun r => tailF z.1 r.l.length t k (n + 1) false r) y.2 >>= fun w => .ok (({ w.1.1 with cols := w.1.1.cols ++ [(z.1, y.1, w.1.2.2.2)] }, w.1.2.1, w.1.2.2.1), w.2)) := by kernel_rfl
theorem part_lw (hE : Ends e x) {t : Tb} {k : List (List T)} {n : Nat} (hJ : J t k n 0) : Lw e x (part t k n) (part t k n) (fun z => 1 ≤ z.2.2 ∧ J z.1 z.2.1 z.2.2 0) := by
 rw [part_eq]
 refine Lw.cond (one_con hE) ?_ ?_
 ·exact LwN.bind (conOf_lw hE n (.inl rfl)) fun o ho => Lw.ret (a := (addT t o, addK k o, n + 1)) ⟨Nat.le_add_left .., hJ.add ho.1 ho.2⟩
 ·intro ts d y r' hG hf
  dsimp only at hf ⊢
  rw [← named_same hE]
  by_cases hb : (decide (16 < n + 1) && named ⟨ts ++ [e], d⟩) = true
  ·rw [if_pos hb] at hf; cases hf
  rw [if_neg hb] at hf ⊢
  obtain ⟨z, hz⟩ := ok_of_bind hf
  rw [nameOkN hz] at hb
  have hn : n + 1 ≤ 16 := by simp at hb; omega
  refine Lw.bind (q := fun z => 1 ≤ z.2.2 ∧ J z.1 z.2.1 z.2.2 0) (name_lw hE) (fun c hc => ?_) ts d y r' hG hf
  dsimp only
  refine Lw.bind (typeOf_lw hE) fun ty hty => ?_
  dsimp only
  refine Lw.bind (F := fun r => tailF c r.l.length t k (n + 1) false r) (F' := fun r => tailF c r.l.length t k (n + 1) false r) (p := fun z => J z.1 z.2.1 z.2.2.1 1) ?_ fun w hw => Lw.ret (a := ({ w.1 with cols := w.1.cols ++ [(c, ty, w.2.2.2)] }, w.2.1, w.2.2.1)) ?_
  ·intro ts d y r' hG hf
   exact tailF_lw hE hc (ts ++ [e]).length (ts ++ x).length t k (n + 1) false (by obtain ⟨-, s, l, rfl, -⟩ := hE; simp) ⟨hJ.nm, by have := hJ.cnt; omega, hn, hJ.kl, hJ.ks, hJ.cs, hJ.col⟩ ts d y r' hG hf
  ·have h2 := hw.cnt
   refine ⟨by show 1 ≤ w.2.2.1; omega, hw.nm, ?_, hw.most, hw.kl, hw.ks, hw.cs, fun a ha => ?_⟩
   ·show (w.1.cols ++ [_]).length + w.1.keys.length + w.1.checks.length + 0 = w.2.2.1; simp; omega
   ·rcases List.mem_append.1 (show a ∈ w.1.cols ++ [_] from ha) with ha | ha
    ·exact hw.col a ha
    ·rw [List.mem_singleton.1 ha]; exact ⟨hc, hty⟩
theorem partsF_succ (f : Nat) (t : Tb) (k : List (List T)) (n : Nat) : partsF (f + 1) t k n = fun r => part t k n r >>= fun z => if isT [44] z.2 = true then partsF f z.1.1 z.1.2.1 z.1.2.2 (takes z.2) else .ok ((z.1.1, z.1.2.1), z.2) := by kernel_rfl
theorem partsF_lw (hE : Ends e x) : ∀ (f m : Nat) (t : Tb) (k : List (List T)) (n : Nat), f ≤ m → J t k n 0 → Lw e x (partsF f t k n) (partsF m t k n) (fun z => ∃ n, 1 ≤ n ∧ J z.1 z.2 n 0)
 | 0, _, _, _, _, _, _ => fun ts d y r' _ hf => by cases hf
 | f + 1, 0, _, _, _, h, _ => by omega
 | f + 1, m + 1, t, k, n, hfm, hJ => by
  rw [partsF_succ, partsF_succ]
  refine Lw.bind (part_lw hE hJ) fun z hz => ?_
  refine Lw.isT hE (by decide) (LwN.takes (F := fun r => partsF f z.1 z.2.1 z.2.2 r) (F' := fun r => partsF m z.1 z.2.1 z.2.2 r) isW.k ?_) (Lw.ret (a := (z.1, z.2.1)) ⟨z.2.2, hz.1, hz.2⟩)
  exact partsF_lw hE f m _ _ _ (by omega) hz.2
theorem J.tabOk {t : Tb} {k : List (List T)} {n : Nat} (hn : 1 ≤ n) (h : J t k n 0) : tabOk t k = true := by
 obtain ⟨h1, h2, h3, h4, h5, h6, h7⟩ := h
 unfold P12.tabOk
 simp only [Bool.and_eq_true, decide_eq_true_eq, beq_iff_eq, List.all_eq_true]
 exact ⟨⟨⟨⟨⟨⟨h1, by omega⟩, by omega⟩, h4⟩, h5⟩, h6⟩, fun a ha => ⟨⟨(h7 a ha).1, (h7 a ha).2.1⟩, (h7 a ha).2.2⟩⟩
abbrev SelF := R → Except Er (St × R)
def mkIdx (u : Bool) : SelF := fun r => must [73, 78, 68, 69, 88] r >>= fun r => name r >>= fun z => must [79, 78] z.2 >>= fun r => name r >>= fun w => names w.2 >>= fun l => .ok ({ made 3 with unique := u, name := z.1, on := w.1, cols := l.1 }, l.2)
theorem mkIdx_lw (hE : Ends e x) (u : Bool) : Lw e x (mkIdx u) (mkIdx u) isS := by
 unfold mkIdx
 refine Lw.must hE (by decide) (Lw.bind (name_lw hE) fun a ha => ?_)
 dsimp only
 refine Lw.must hE (by decide) (Lw.bind (name_lw hE) fun b hb => ?_)
 dsimp only
 refine Lw.bind (names_lw hE) fun l hl => Lw.ret (a := { made 3 with unique := u, name := a, on := b, cols := l }) ?_
 exact ⟨rfl, .inr (.inr (.inr (.inl ⟨rfl, ha, hb, hl⟩)))⟩
def mkTab : SelF := fun r => name r >>= fun z => must [40] z.2 >>= fun r => (fun r => partsF r.l.length { name := z.1 } [] 0 r) r >>= fun w => must [41] w.2 >>= fun r => .ok ({ made 1 with tb := w.1.1, keyCols := w.1.2 }, r)
theorem create_eq : create = fun r => if isT [84, 65, 66, 76, 69] r = true then mkTab (takes r)
  else (fun u : Bool × R => if (u.1 || isT [73, 78, 68, 69, 88] u.2) = true then mkIdx u.1 u.2 else fails 120 r) (has [85, 78, 73, 81, 85, 69] r) := by kernel_rfl
theorem create_lw (hE : Ends e x) : Lw e x create create isS := by
 have e1 : create = fun r => if isT [84, 65, 66, 76, 69] r = true then mkTab (takes r)
  else if isT [85, 78, 73, 81, 85, 69] r = true then mkIdx true (takes r) else if isT [73, 78, 68, 69, 88] r = true then mkIdx false r else fails 120 r := by
  rw [create_eq]; funext r; dsimp only; split
  ·rfl
  ·unfold has; split
   ·rfl
   ·simp only [Bool.false_or]
 rw [e1]
 refine Lw.isT hE (by decide) ?_ (Lw.isT hE (by decide) (LwN.takes isW.k (mkIdx_lw hE true)) (Lw.isT hE (by decide) (Lw.N (mkIdx_lw hE false)) Lw.fails))
 refine LwN.takes (F := mkTab) (F' := mkTab) isW.k ?_
 unfold mkTab
 refine Lw.bind (name_lw hE) fun a ha => ?_
 dsimp only
 refine Lw.must hE (by decide) (Lw.bind (F := fun r => partsF r.l.length { name := a } [] 0 r) (F' := fun r => partsF r.l.length { name := a } [] 0 r) (p := fun z => ∃ n, 1 ≤ n ∧ J z.1 z.2 n 0) (fun ts d y r' hG hf => ?_) fun w hw => ?_)
 ·exact partsF_lw hE (ts ++ [e]).length (ts ++ x).length _ [] 0 (by obtain ⟨-, s, l, rfl, -⟩ := hE; simp) ⟨ha, rfl, by omega, rfl, by simp, by simp, by simp⟩ ts d y r' hG hf
 ·dsimp only
  refine Lw.must hE (by decide) (Lw.ret (a := { made 1 with tb := w.1, keyCols := w.2 }) ?_)
  obtain ⟨n, hn, hJ⟩ := hw
  exact ⟨rfl, .inl ⟨rfl, hJ.tabOk hn⟩⟩
theorem drop_eq : drop = fun r => if isT [84, 65, 66, 76, 69] r = true then (name (takes r) >>= fun z => .ok ({ made 2 with name := z.1 }, z.2)) else (must [73, 78, 68, 69, 88] r >>= fun r => name r >>= fun z => .ok ({ made 4 with name := z.1 }, z.2)) := by
 funext r; unfold drop has; dsimp only; split <;> rfl
theorem drop_lw (hE : Ends e x) : Lw e x drop drop isS := by
 rw [drop_eq]
 refine Lw.isT hE (by decide) (LwN.takes (F := fun r => name r >>= fun z => .ok ({ made 2 with name := z.1 }, z.2)) (F' := fun r => name r >>= fun z => .ok ({ made 2 with name := z.1 }, z.2)) isW.k ?_) ?_
 ·exact Lw.bind (name_lw hE) fun a ha => Lw.ret (a := { made 2 with name := a }) ⟨rfl, .inr (.inl ⟨rfl, ha⟩)⟩
 ·exact Lw.must hE (by decide) (Lw.bind (name_lw hE) fun a ha => Lw.ret (a := { made 4 with name := a }) ⟨rfl, .inr (.inr (.inl ⟨rfl, ha⟩))⟩)
theorem exprs_lw (hE : Ends e x) {α : Type} {read : R → Except Er (α × R)} {p : α → Prop} (hr : Lw e x read read p) (hb : ∀ r z, read r = .ok z → ∃ w, expr r = .ok w) : Lw e x (exprs read) (exprs read) (fun l => (∀ a ∈ l, p a) ∧ 1 ≤ l.length ∧ l.length ≤ 16) :=
 row_lw hE hr (begins_same hE) fun ts d z hG h => by
  obtain ⟨w, hw⟩ := hb _ z h
  exact beg_expr (Hd.of hG hE.k0) hw
theorem valuesRow_eq : valuesRow = fun r => must [40] r >>= fun r => exprs expr r >>= fun z => must [41] z.2 >>= fun r => .ok (z.1, r) := by kernel_rfl
theorem valuesRow_lw (hE : Ends e x) : Lw e x valuesRow valuesRow (fun l => some l 16 isE = true) := by
 rw [valuesRow_eq]
 exact Lw.must hE (by decide) (Lw.bind (exprs_lw hE (expr_lw hE) fun r z h => ⟨z, h⟩) fun l hl => Lw.must hE (by decide) (Lw.ret (a := l) (some_of hl)))
theorem wher_lw (hE : Ends e x) : Lw e x wher wher (fun a => maybeE a = true) :=
 Lw.isT hE (by decide) (LwN.takes isW.k fun ts d y r' hG hf => by
  obtain ⟨h1, h2⟩ := expr_lw hE ts d y r' hG hf
  exact ⟨by unfold maybeE; rw [h1, Bool.or_true], h2⟩) (Lw.ret rfl)
theorem bind_ite {α β : Type} (c : Prop) [Decidable c] (a b : Except Er α) (K : α → Except Er β) : ((if c then a else b) >>= K) = if c then a >>= K else b >>= K := by split <;> rfl
theorem insert_eq : insert = fun r => must [73, 78, 84, 79] r >>= fun r => name r >>= fun z => (fun r => if isT [40] r = true then names r else .ok ([], r)) z.2 >>= fun l => must [86, 65, 76, 85, 69, 83] l.2 >>= fun r => (fun r => rowF 32 (isT [40]) valuesRow r.l.length 0 r) r >>= fun w => .ok ({ made 5 with name := z.1, cols := l.1, rows := w.1 }, w.2) := by
 simp only [bind_ite]
 kernel_rfl
theorem must_isT {s : T} {r : R} {z} (h : must s r = .ok z) : isT s r = true := by
 unfold must at h
 split at h
 ·assumption
 ·cases h
theorem insert_lw (hE : Ends e x) : Lw e x insert insert isS := by
 rw [insert_eq]
 refine Lw.must hE (by decide) (Lw.bind (name_lw hE) fun a ha => ?_)
 dsimp only
 refine Lw.bind (F := fun r => if isT [40] r = true then names r else .ok ([], r)) (F' := fun r => if isT [40] r = true then names r else .ok ([], r)) (p := fun l => l = [] ∨ some l 16 isName = true) (Lw.isT hE (by decide) (Lw.N fun ts d y r' hG hf => ?_) (Lw.ret (.inl rfl))) fun l hl => ?_
 rotate_left
 ·dsimp only
  refine Lw.must hE (by decide) (Lw.bind (row_lw hE (valuesRow_lw hE) (is_same hE (by decide)) fun ts d z _ h => ?_) fun w hw => Lw.ret (a := { made 5 with name := a, cols := l, rows := w }) ?_)
  ·rw [valuesRow_eq] at h
   obtain ⟨q, hq⟩ := ok_of_bind h
   exact must_isT hq
  ·exact ⟨rfl, .inr (.inr (.inr (.inr (.inl ⟨rfl, ha, hl, some_of hw⟩))))⟩
 ·obtain ⟨h1, h2⟩ := names_lw hE ts d y r' hG hf
  exact ⟨.inr h1, h2⟩
theorem setOf_eq : setOf = fun r => name r >>= fun z => must [61] z.2 >>= fun r => expr r >>= fun w => .ok ((z.1, w.1), w.2) := by kernel_rfl
theorem update_eq : update = fun r => name r >>= fun z => must [83, 69, 84] z.2 >>= fun r => (fun r => rowF 16 named setOf r.l.length 0 r) r >>= fun l => wher l.2 >>= fun w => .ok ({ made 6 with name := z.1, sets := l.1, wher := w.1 }, w.2) := by kernel_rfl
theorem update_lw (hE : Ends e x) : Lw e x update update isS := by
 rw [update_eq]
 have hs : Lw e x setOf setOf (fun s => (isName s.1 && isE s.2) = true) := by
  rw [setOf_eq]
  refine Lw.bind (name_lw hE) fun a ha => ?_
  dsimp only
  exact Lw.must hE (by decide) (Lw.bind (expr_lw hE) fun b hb => Lw.ret (a := (a, b)) (by rw [ha, hb]; rfl))
 refine Lw.bind (name_lw hE) fun a ha => ?_
 dsimp only
 refine Lw.must hE (by decide) (Lw.bind (row_lw hE hs (named_same hE) fun ts d z _ h => ?_) fun l hl => ?_)
 rotate_left
 dsimp only
 refine Lw.bind (wher_lw hE) fun w hw => Lw.ret (a := { made 6 with name := a, sets := l, wher := w }) ?_
 rotate_left
 ·rw [setOf_eq] at h
  obtain ⟨q, hq⟩ := ok_of_bind h
  exact nameOkN hq
 ·exact ⟨rfl, .inr (.inr (.inr (.inr (.inr (.inl ⟨rfl, ha, some_of hl, hw⟩)))))⟩
theorem deletes_eq : deletes = fun r => must [70, 82, 79, 77] r >>= fun r => name r >>= fun z => wher z.2 >>= fun w => .ok ({ made 7 with name := z.1, wher := w.1 }, w.2) := by kernel_rfl
theorem deletes_lw (hE : Ends e x) : Lw e x deletes deletes isS := by
 rw [deletes_eq]
 refine Lw.must hE (by decide) (Lw.bind (name_lw hE) fun a ha => ?_)
 dsimp only
 refine Lw.bind (wher_lw hE) fun w hw => Lw.ret (a := { made 7 with name := a, wher := w }) ?_
 exact ⟨rfl, .inr (.inr (.inr (.inr (.inr (.inr (.inl ⟨rfl, ha, hw⟩))))))⟩
theorem item_eq : item = fun r => if isT [42] r = true then .ok ((true, E.none, []), takes r) else (expr r >>= fun z => if isT [65, 83] z.2 = true then (name (takes z.2) >>= fun w => .ok ((false, z.1, w.1), w.2)) else .ok ((false, z.1, []), z.2)) := by kernel_rfl
theorem item_lw (hE : Ends e x) : Lw e x item item (fun i => itemOk i = true) := by
 rw [item_eq]
 refine Lw.isT hE (by decide) (LwN.retT isW.k rfl) (Lw.bind (expr_lw hE) fun a ha => ?_)
 dsimp only
 refine (Lw.isT hE (by decide) (LwN.takes (F := fun r => name r >>= fun w => .ok ((false, a, w.1), w.2)) (F' := fun r => name r >>= fun w => .ok ((false, a, w.1), w.2)) isW.k ?_) (Lw.ret (a := (false, a, [])) ?_))
 ·refine Lw.bind (name_lw hE) fun b hb => Lw.ret (a := (false, a, b)) ?_
  show (isE a && maybeName b) = true
  rw [ha, maybeName, hb, Bool.or_true]; rfl
 ·show (isE a && maybeName []) = true
  rw [ha]; rfl
theorem item_begins {r : R} {z} (hg : Hd r) (h : item r = .ok z) : (isT [42] r || begins r) = true := by
 rw [item_eq] at h
 dsimp only at h
 split at h
 ·rename_i h42; rw [h42]; rfl
 ·obtain ⟨w, hw⟩ := ok_of_bind h
  rw [beg_expr hg hw, Bool.or_true]
theorem source_eq : source = fun r => name r >>= fun z => maybe z.2 >>= fun w => .ok ((z.1, w.1), w.2) := by kernel_rfl
abbrev srcOk (s : T × T) : Prop := (isName s.1 && maybeName s.2) = true
theorem source_lw (hE : Ends e x) : Lw e x source source srcOk := by
 rw [source_eq]
 refine Lw.bind (name_lw hE) fun a ha => ?_
 dsimp only
 exact Lw.bind (maybe_lw hE) fun b hb => Lw.ret (a := (a, b)) (by show (isName a && maybeName b) = true; rw [ha, hb]; rfl)
theorem orderOf_eq : orderOf = fun r => expr r >>= fun z => (fun h : Bool × R => .ok ((z.1, h.1), if h.1 then h.2 else (has [65, 83, 67] h.2).2)) (has [68, 69, 83, 67] z.2) := by kernel_rfl
theorem orderOf_lw (hE : Ends e x) : Lw e x orderOf orderOf (fun o => okE o.1) := by
 have e1 : orderOf = fun r => expr r >>= fun z => if isT [68, 69, 83, 67] z.2 = true then .ok ((z.1, true), takes z.2) else if isT [65, 83, 67] z.2 = true then .ok ((z.1, false), takes z.2) else .ok ((z.1, false), z.2) := by
  rw [orderOf_eq]; funext r; dsimp only; congr 1; funext z
  unfold has
  by_cases h1 : isT [68, 69, 83, 67] z.2 = true
  ·simp only [h1, if_true]
  ·by_cases h2 : isT [65, 83, 67] z.2 = true <;> simp [h1, h2]
 rw [e1]
 refine Lw.bind (expr_lw hE) fun a ha => ?_
 dsimp only
 exact Lw.isT hE (by decide) (LwN.retT (a := (a, true)) isW.k ha) (Lw.isT hE (by decide) (LwN.retT (a := (a, false)) isW.k ha) (Lw.ret (a := (a, false)) ha))
def selJoin (s : T × T) (r : R) : Except Er ((List (T × T) × E) × R) := if isT [74, 79, 73, 78] r = true then (source (takes r) >>= fun z => must [79, 78] z.2 >>= fun r => expr r >>= fun w => .ok (([s, z.1], w.1), w.2)) else .ok (([s], E.none), r)
def selGroup (r : R) : Except Er (List E × R) := if isT [71, 82, 79, 85, 80] r = true then (must [66, 89] (takes r) >>= fun r => (fun r => rowF 16 named column r.l.length 0 r) r) else .ok ([], r)
def selOrder (r : R) : Except Er (List (E × Bool) × R) := if isT [79, 82, 68, 69, 82] r = true then (must [66, 89] (takes r) >>= fun r => exprs orderOf r) else .ok ([], r)
def selLimit (r : R) : Except Er (Int × R) := if isT [76, 73, 77, 73, 84] r = true then (if (nxt (takes r)).kind ≠ 3 then fails 120 (takes r) else (int 9223372036854775807 (takes r) >>= fun z => .ok ((z.1 : Int), z.2))) else .ok (-1, r)
theorem selects_bnd : selects = fun r => (fun r => rowF 16 (fun r => isT [42] r || begins r) item r.l.length 0 r) r >>= fun z => must [70, 82, 79, 77] z.2 >>= fun r => source r >>= fun s => selJoin s.1 s.2 >>= fun j => wher j.2 >>= fun w => selGroup w.2 >>= fun g => selOrder g.2 >>= fun o => selLimit o.2 >>= fun l =>
  .ok ({ made 8 with items := z.1, frm := j.1.1, join := j.1.2, wher := w.1, group := g.1, order := o.1, limit := l.1 }, l.2) := by
 funext r
 simp only [selects, selJoin, selGroup, selOrder, selLimit, bind_ite]
 kernel_rfl
theorem selJoin_lw (hE : Ends e x) {s : T × T} (hs : srcOk s) : Lw e x (selJoin s) (selJoin s) (fun j => some j.1 2 (fun s => isName s.1 && maybeName s.2) = true ∧ (if j.1.length = 2 then isE j.2 else noE j.2) = true ∧ j.1.length ≤ 2) := by
 refine Lw.isT hE (by decide) (LwN.takes (F := fun r => source r >>= fun z => must [79, 78] z.2 >>= fun r => expr r >>= fun w => .ok (([s, z.1], w.1), w.2)) (F' := fun r => source r >>= fun z => must [79, 78] z.2 >>= fun r => expr r >>= fun w => .ok (([s, z.1], w.1), w.2)) isW.k ?_) (Lw.ret (a := ([s], E.none)) ⟨?_, rfl, by simp⟩)
 ·refine Lw.bind (source_lw hE) fun a ha => ?_
  dsimp only
  refine Lw.must hE (by decide) (Lw.bind (expr_lw hE) fun b hb => Lw.ret (a := ([s, a], b)) ⟨?_, hb, by simp⟩)
  exact some_of ⟨fun c hc => by
   rcases List.mem_cons.1 hc with rfl | hc
   ·exact hs
   ·rw [List.mem_singleton.1 hc]; exact ha, by simp, by simp⟩
 ·exact some_of ⟨fun c hc => by rw [List.mem_singleton.1 hc]; exact hs, by simp, by simp⟩
theorem selGroup_lw (hE : Ends e x) : Lw e x selGroup selGroup (fun l => (∀ a ∈ l, isCol a = true) ∧ l.length ≤ 16) := by
 refine Lw.isT hE (by decide) (LwN.takes (F := fun r => must [66, 89] r >>= fun r => (fun r => rowF 16 named column r.l.length 0 r) r) (F' := fun r => must [66, 89] r >>= fun r => (fun r => rowF 16 named column r.l.length 0 r) r) isW.k (Lw.must hE (by decide) fun ts d y r' hG hf => ?_)) (Lw.ret (by simp))
 obtain ⟨h1, h2⟩ := row_lw hE (column_lw hE) (named_same hE) (fun ts d z _ h => by
  rw [column_eq] at h
  obtain ⟨q, hq⟩ := ok_of_bind h
  exact nameOkN hq) ts d y r' hG hf
 exact ⟨⟨h1.1, h1.2.2⟩, h2⟩
theorem selOrder_lw (hE : Ends e x) : Lw e x selOrder selOrder (fun l => (∀ a ∈ l, okE a.1) ∧ l.length ≤ 16) := by
 refine Lw.isT hE (by decide) (LwN.takes (F := fun r => must [66, 89] r >>= fun r => exprs orderOf r) (F' := fun r => must [66, 89] r >>= fun r => exprs orderOf r) isW.k (Lw.must hE (by decide) fun ts d y r' hG hf => ?_)) (Lw.ret (by simp))
 obtain ⟨h1, h2⟩ := exprs_lw hE (orderOf_lw hE) (fun r z h => by
  rw [orderOf_eq] at h
  exact ok_of_bind h) ts d y r' hG hf
 exact ⟨⟨h1.1, h1.2.2⟩, h2⟩
theorem selLimit_lw (hE : Ends e x) : Lw e x selLimit selLimit (fun l => -1 ≤ l ∧ l ≤ 9223372036854775807) := by
 refine Lw.isT hE (by decide) (LwN.takes (F := fun r => if (nxt r).kind ≠ 3 then fails 120 r else (int 9223372036854775807 r >>= fun z => .ok ((z.1 : Int), z.2))) (F' := fun r => if (nxt r).kind ≠ 3 then fails 120 r else (int 9223372036854775807 r >>= fun z => .ok ((z.1 : Int), z.2))) isW.k ?_) (Lw.ret (by decide))
 have e1 : (fun r : R => if (nxt r).kind ≠ 3 then fails 120 r else (int 9223372036854775807 r >>= fun z => .ok ((z.1 : Int), z.2))) = fun r => if (nxt r).kind = 3 then (int 9223372036854775807 r >>= fun z => .ok ((z.1 : Int), z.2)) else fails 120 r := by
  funext r; by_cases h : (nxt r).kind = 3 <;> simp [h]
 rw [e1]
 exact Lw.kind hE (by decide) (by decide) (LwN.bind (int_lw _ (fun t ht => by rw [ht]; decide)) fun n hn => Lw.ret (a := (n : Int)) ⟨by omega, by omega⟩) Lw.fails
theorem selects_lw (hE : Ends e x) : Lw e x selects selects isS := by
 rw [selects_bnd]
 refine Lw.bind (row_lw hE (item_lw hE) (fun ts d => by rw [is_same hE (by decide), begins_same hE]) fun ts d z hG h => item_begins (Hd.of hG hE.k0) h) fun z hz => ?_
 dsimp only
 refine Lw.must hE (by decide) (Lw.bind (source_lw hE) fun s hs => ?_)
 dsimp only
 refine Lw.bind (selJoin_lw hE hs) fun j hj => ?_
 dsimp only
 refine Lw.bind (wher_lw hE) fun w hw => ?_
 dsimp only
 refine Lw.bind (selGroup_lw hE) fun g hg => ?_
 dsimp only
 refine Lw.bind (selOrder_lw hE) fun o ho => ?_
 dsimp only
 refine Lw.bind (selLimit_lw hE) fun l hl => Lw.ret (a := { made 8 with items := z, frm := j.1, join := j.2, wher := w, group := g, order := o, limit := l }) ?_
 refine ⟨rfl, .inr (.inr (.inr (.inr (.inr (.inr (.inr (.inl ⟨rfl, ?_⟩)))))))⟩
 show selOk _ = true
 unfold selOk
 simp only [Bool.and_eq_true, decide_eq_true_eq, List.all_eq_true]
 exact ⟨⟨⟨⟨⟨⟨⟨⟨⟨some_of hz, hj.1⟩, hw⟩, hj.2.1⟩, hg.2⟩, hg.1⟩, ho.2⟩, ho.1⟩, hl.1⟩, hl.2⟩
theorem one_word (hE : Ends e x) {s : T} (hs : s ≠ [59]) : One e x (fun r => isT s r && (nxt r).kind == 2) (isW s) (fun _ => True) := by
 refine ⟨fun d => ⟨?_, ?_⟩, fun t l d => ⟨fun h => ?_, fun _ => trivial, fun _ => rfl⟩⟩
 ·dsimp only; rw [(isT_end hE hs d).1]; rfl
 ·dsimp only; rw [(isT_end hE hs d).2]; rfl
 ·simp only [Bool.and_eq_true] at h
  exact (isT_cons s t l d).1 h.1
theorem statement_lw (hE : Ends e x) : Lw e x statement statement isS :=
 Lw.cond (one_word hE (by decide)) (LwN.takes isW.k (create_lw hE)) (Lw.cond (one_word hE (by decide)) (LwN.takes isW.k (drop_lw hE)) (Lw.cond (one_word hE (by decide)) (LwN.takes isW.k (insert_lw hE)) (Lw.cond (one_word hE (by decide)) (LwN.takes isW.k (update_lw hE))
  (Lw.cond (one_word hE (by decide)) (LwN.takes isW.k (deletes_lw hE)) (Lw.cond (one_word hE (by decide)) (LwN.takes isW.k (selects_lw hE)) (Lw.isT hE (by decide) (LwN.retT isW.k ⟨rfl, by simp [made]⟩) (Lw.isT hE (by decide) (LwN.retT isW.k ⟨rfl, by simp [made]⟩)
   (Lw.isT hE (by decide) (LwN.retT isW.k ⟨rfl, by simp [made]⟩) Lw.fails))))))))
end
theorem goodK {t : Tok} (h : P11.good (P11.kt t)) : t.kind ≠ 0 := by
 rcases h with ⟨h1, -⟩ | ⟨h1, -⟩ | ⟨h1, -⟩ | ⟨h1, -⟩ | ⟨h1, -⟩ <;> (simp only [P11.kt] at h1; omega)
theorem parse_isS {s : T} {st : St} (h : parse s = .ok st) : isS st := by
 unfold parse at h
 cases hl : P11.lexed s with
 | inr a => rw [hl] at h; cases h
 | inl l =>
  rw [hl] at h
  unfold P11.lexed at hl
  split at hl
  ·cases hl
  obtain ⟨ts, rfl, hG⟩ := P11.toks_form _ s 0 l (Nat.le_refl _) hl
  unfold parseToks at h
  dsimp only at h
  cases hs : statement ⟨ts ++ [⟨0, [], 0 + s.length⟩], 0⟩ with
  | error er => rw [hs] at h; cases h
  | ok z =>
   obtain ⟨y, r⟩ := z
   have := (statement_lw (x := [⟨5, [59], 0⟩]) ⟨rfl, _, _, rfl, rfl, rfl⟩ ts 0 y r hG hs).1
   rw [hs] at h
   have h' : (if (nxt (has [59] r).2).kind ≠ 0 then fails 120 (has [59] r).2 else .ok y : Except Er St) = .ok st := h
   split at h'
   ·cases h'
   ·cases h'; exact this
theorem parse_ends {s : T} {st : St} (h : parse s = .ok st) (hd : P11.ND s) (hl : s.length ≤ 1500) (k : Nat) (hk : k < 20) :
  (parse (s ++ List.replicate k 32 ++ [59]) = .ok st ∧ parse (s ++ List.replicate k 32 ++ [59, 32, 59]) = .error (s.length + k + 2, 120)) ∨ ∃ a, parse (s ++ List.replicate k 32 ++ [59]) = .error (a, 120) := by
 unfold parse at h
 cases hx : P11.lexed s with
 | inr a => rw [hx] at h; cases h
 | inl l =>
  rw [hx] at h
  obtain ⟨ts, rfl, hG, h1, h2⟩ := P11.lexed_ends hd hl k hk hx
  unfold parseToks at h
  dsimp only at h
  cases hs : statement ⟨ts ++ [⟨0, [], s.length⟩], 0⟩ with
  | error er => rw [hs] at h; cases h
  | ok z =>
   obtain ⟨y, r1, d1⟩ := z
   obtain ⟨-, ts1, g1, g2, g3⟩ := statement_lw (x := [⟨5, [59], s.length + k⟩, ⟨0, [], s.length + k + 1⟩]) ⟨rfl, _, _, rfl, rfl, rfl⟩ ts 0 y _ hG hs
   obtain ⟨-, ts2, f1, f2, f3⟩ := statement_lw (x := [⟨5, [59], s.length + k⟩, ⟨5, [59], s.length + k + 2⟩, ⟨0, [], s.length + k + 3⟩]) ⟨rfl, _, _, rfl, rfl, rfl⟩ ts 0 y _ hG hs
   have hG1 := Gs.suf hG g1
   dsimp only at g2 f2
   rw [g2] at f2
   obtain rfl := List.append_cancel_right f2
   subst g2
   rw [hs] at h
   have h' : (if (nxt (has [59] ⟨ts1 ++ [⟨0, [], s.length⟩], d1⟩).2).kind ≠ 0 then fails 120 (has [59] ⟨ts1 ++ [⟨0, [], s.length⟩], d1⟩).2 else .ok y : Except Er St) = .ok st := h
   unfold parse
   rw [h1, h2]
   dsimp only
   unfold parseToks
   rw [g3, f3]
   cases ts1 with
   | nil =>
    cases h'
    exact .inl ⟨rfl, rfl⟩
   | cons t ts1 =>
    have ht := goodK (hG1 t (by simp))
    have hb : isT [59] ⟨[t], d1⟩ = true := by
     cases hb : isT [59] ⟨[t], d1⟩ with
     | true => rfl
     | false =>
      have e1 : (has [59] ⟨t :: ts1 ++ [⟨0, [], s.length⟩], d1⟩).2 = ⟨t :: ts1 ++ [⟨0, [], s.length⟩], d1⟩ := by
       unfold has; rw [show isT [59] ⟨t :: ts1 ++ [⟨0, [], s.length⟩], d1⟩ = false from hb]; rfl
      rw [e1, if_pos (show (nxt ⟨t :: ts1 ++ [⟨0, [], s.length⟩], d1⟩).kind ≠ 0 from ht)] at h'
      cases h'
    have e1 : ∀ l, (has [59] ⟨t :: ts1 ++ l, d1⟩).2 = ⟨ts1 ++ l, d1⟩ := fun l => by
     unfold has
     rw [if_pos (show isT [59] ⟨t :: ts1 ++ l, d1⟩ = true from hb), takes_tail (by exact ht)]; rfl
    rw [e1] at h'
    cases ts1 with
    | cons u ts1 =>
     rw [if_pos (show (nxt ⟨u :: ts1 ++ [⟨0, [], s.length⟩], d1⟩).kind ≠ 0 from goodK (hG1 u (by simp)))] at h'
     cases h'
    | nil =>
     refine .inr ⟨s.length + k, ?_⟩
     show (if (nxt (has [59] ⟨t :: [] ++ _, d1⟩).2).kind ≠ 0 then fails 120 (has [59] ⟨t :: [] ++ _, d1⟩).2 else .ok y : Except Er St) = _
     rw [e1]; rfl
theorem parse_nil {st : St} (h : parse [] = .ok st) : False := by cases h
end P12
namespace P11
theorem step_err {c : UInt8} {t : List UInt8} {x} (h : step (c :: t) = .inr x) : x.2 ≠ 0 ∧ x.1 ≤ (c :: t).length := by
 rw [step] at h
 split at h
 ·cases h
 split at h
 ·cases h
 split at h
 ·split at h
  ·cases h; exact ⟨by decide, Nat.zero_le _⟩
  ·split at h
   ·cases h
    refine ⟨show (111 : Int) ≠ 0 by decide, Nat.le_trans List.idxOf_le_length ?_⟩
    exact List.length_take_le' _ _
   ·cases h
 split at h
 ·cases h
 split at h
 ·cases h
 split at h
 ·cases h; exact ⟨by decide, Nat.zero_le _⟩
 ·cases h
theorem toks_bad : ∀ (n : Nat) (r : List UInt8), r.length ≤ n → ∀ (p : Nat) x, toks r p = .inr x → x.2 ≠ 0 ∧ x.1 ≤ p + r.length
 | _, [], _, p, x, h => by rw [toks_nil] at h; cases h
 | 0, _ :: _, hn, _, _, _ => by simp at hn
 | n + 1, c :: t, hn, p, x, h => by
  cases hs : step (c :: t) with
  | inr y =>
   rw [toks_err p hs] at h; cases h
   have := step_err hs
   exact ⟨this.1, by show p + y.1 ≤ _; omega⟩
  | inl y =>
   have hp := step_pos hs
   rw [toks_step p hs] at h
   cases hr : toks ((c :: t).drop y.1) (p + y.1) with
   | inl m => rw [hr] at h; cases h
   | inr z =>
    rw [hr] at h; cases h
    have := toks_bad n _ (by simp only [List.length_drop, List.length_cons] at hn hp ⊢; omega) _ _ hr
    rw [List.length_drop] at this
    exact ⟨this.1, by omega⟩
theorem toks_at : ∀ (n : Nat) (r : List UInt8), r.length ≤ n → ∀ (p : Nat) l, toks r p = .inl l → ∀ t ∈ l, t.pos ≤ p + r.length
 | _, [], _, p, l, h => by rw [toks_nil] at h; cases h; intro t ht; rw [List.mem_singleton.1 ht]; exact Nat.le_refl _
 | 0, _ :: _, hn, _, _, _ => by simp at hn
 | n + 1, c :: t, hn, p, l, h => by
  cases hs : step (c :: t) with
  | inr y => rw [toks_err p hs] at h; cases h
  | inl y =>
   have hp := step_pos hs
   rw [toks_step p hs] at h
   cases hr : toks ((c :: t).drop y.1) (p + y.1) with
   | inr m => rw [hr] at h; cases h
   | inl m =>
    rw [hr] at h
    have ih := toks_at n _ (by simp only [List.length_drop, List.length_cons] at hn hp ⊢; omega) _ _ hr
    rw [List.length_drop] at ih
    intro u hu
    obtain ⟨k, o⟩ := y
    cases o with
    | none => cases h; have := ih u hu; dsimp only at this hp ⊢; omega
    | some w =>
     cases h
     rcases List.mem_cons.1 hu with rfl | hu
     ·exact Nat.le_add_right _ _
     ·have := ih u hu; dsimp only at this hp ⊢; omega
end P11
namespace P12
open P11 (Tok)
def B (m : Nat) (r : R) : Prop := ∀ t ∈ r.l, t.pos ≤ m
def Pd (m : Nat) {α : Type} (v : Except Er (α × R)) : Prop := match v with | .error er => er.2 ≠ 0 ∧ er.1 ≤ m | .ok z => B m z.2
def PdR (m : Nat) (v : Except Er R) : Prop := match v with | .error er => er.2 ≠ 0 ∧ er.1 ≤ m | .ok r => B m r
section
variable {m : Nat} {α β : Type}
theorem B.nxt {r : R} (h : B m r) : (nxt r).pos ≤ m := by
 unfold P12.nxt
 cases hl : r.l with
 | nil => exact Nat.zero_le _
 | cons t l => exact h t (by rw [hl]; simp)
theorem B.takes {r : R} (h : B m r) : B m (takes r) := fun t ht => h t ((keeps_takes r).suf.subset ht)
theorem B.has {s : T} {r : R} (h : B m r) : B m (has s r).2 := by unfold P12.has; split; exact h.takes; exact h
theorem Pd.fails {c : Int} {r : R} (h : B m r) (hc : c ≠ 0) : Pd m (fails c r : Except Er (α × R)) := ⟨hc, h.nxt⟩
theorem Pd.bind {v : Except Er (α × R)} {K : α × R → Except Er (β × R)} (h : Pd m v) (hK : ∀ a r, B m r → Pd m (K (a, r))) : Pd m (v >>= K) := by
 cases v with
 | error er => exact h
 | ok z => exact hK z.1 z.2 h
theorem Pd.bindR {v : Except Er R} {K : R → Except Er (β × R)} (h : PdR m v) (hK : ∀ r, B m r → Pd m (K r)) : Pd m (v >>= K) := by
 cases v with
 | error er => exact h
 | ok z => exact hK z h
theorem Pd.elim {γ : Type} {o : Option γ} {a : Except Er (α × R)} {f : γ → Except Er (α × R)} (h1 : Pd m a) (h2 : ∀ c, Pd m (f c)) : Pd m (o.elim a f) := by cases o; exact h1; exact h2 _
theorem Pd.ite {c : Prop} [Decidable c] {a b : Except Er (α × R)} (h1 : Pd m a) (h2 : Pd m b) : Pd m (if c then a else b) := by split; exact h1; exact h2
theorem PdR.must {s : T} {r : R} (h : B m r) : PdR m (must s r) := by unfold P12.must; split; exact h.takes; exact ⟨show (120 : Int) ≠ 0 by decide, h.nxt⟩
theorem PdR.opens {r : R} (h : B m r) : PdR m (opens r) := by unfold P12.opens; split; exact ⟨show (121 : Int) ≠ 0 by decide, h.nxt⟩; exact h
theorem Pd.int {n : Nat} {r : R} (h : B m r) : Pd m (int n r) := by unfold P12.int; split; exact ⟨show (123 : Int) ≠ 0 by decide, h.nxt⟩; exact h.takes
theorem Pd.name {r : R} (h : B m r) : Pd m (name r) := by unfold P12.name; exact Pd.ite (Pd.fails h (by decide)) (Pd.ite (Pd.fails h (by decide)) h.takes)
theorem rowF_e {most : Nat} {could : R → Bool} {read : R → Except Er (α × R)} (hr : ∀ r, B m r → Pd m (read r)) : ∀ (f n : Nat) (r : R), B m r → Pd m (rowF most could read f n r)
 | 0, _, r, h => Pd.fails h (by decide)
 | f + 1, n, r, h => by
  rw [rowF_succ]
  refine Pd.ite (Pd.fails h (by decide)) (Pd.bind (hr r h) fun a r h => Pd.ite (Pd.bind (rowF_e hr f _ _ h.takes) fun b r h => h) h)
theorem within_e {read : R → Except Er (α × R)} (hr : ∀ r, B m r → Pd m (read r)) (r : R) (h : B m r) : Pd m (within read r) := by
 rw [within_eq]
 exact Pd.ite (Pd.fails h (by decide)) (Pd.bindR (PdR.opens h) fun r h => Pd.bind (hr _ h.takes) fun a r h => Pd.bindR (PdR.must h) fun r h => h)
theorem column_e (r : R) (h : B m r) : Pd m (column r) := by
 rw [column_eq]
 exact Pd.bind (Pd.name h) fun a r h => Pd.ite (Pd.bind (Pd.name h.takes) fun b r h => h) h
theorem callArg_e {ex : R → Except Er (E × R)} (hr : ∀ r, B m r → Pd m (ex r)) (op : Int) (r : R) (h : B m r) : Pd m (callArg ex op r) := by
 unfold callArg
 refine Pd.ite h.takes ?_
 have := hr r h
 cases hx : ex r with
 | error er => rw [hx] at this; exact this
 | ok z => rw [hx] at this; exact this
theorem call_e {ex : R → Except Er (E × R)} (hr : ∀ r, B m r → Pd m (ex r)) (op : Int) (r : R) (h : B m r) : Pd m (call ex op r) := by
 rw [call_eq]
 exact Pd.bind (within_e (callArg_e hr op) r h) fun a r h => h
theorem primary_e {ex : R → Except Er (E × R)} (hr : ∀ r, B m r → Pd m (ex r)) (r : R) (h : B m r) : Pd m (primary ex r) := by
 rw [primary_eq]
 refine Pd.ite (Pd.bind (Pd.int h) fun a r h => h) (Pd.ite (Pd.ite (Pd.fails h (by decide)) h.takes) (Pd.ite (column_e r h) (Pd.ite (within_e hr r h) (Pd.ite (Pd.elim ?_ fun op => call_e hr op _ h.takes) (Pd.fails h (by decide))))))
 exact Pd.ite h.takes (Pd.ite h.takes (Pd.ite h.takes (Pd.fails h (by decide))))
theorem factorF_e {ex : R → Except Er (E × R)} (hr : ∀ r, B m r → Pd m (ex r)) : ∀ (f : Nat) (r : R), B m r → Pd m (factorF ex f r)
 | 0, r, h => Pd.fails h (by decide)
 | f + 1, r, h => by
  rw [factorF_succ]
  exact Pd.ite (primary_e hr r h) (Pd.ite (Pd.bind (Pd.int h.takes) fun a r h => h) (Pd.bindR (PdR.opens h) fun r h => Pd.bind (factorF_e hr f _ h.takes) fun a r h => h))
theorem binF_e {part : R → Except Er (E × R)} (hr : ∀ r, B m r → Pd m (part r)) (ops : List (T × Int)) : ∀ (f : Nat) (a : E) (r : R), B m r → Pd m (binF part ops f a r)
 | 0, a, r, h => Pd.fails h (by decide)
 | f + 1, a, r, h => by
  rw [binF_succ]
  exact Pd.elim h fun o => Pd.bind (hr _ h.takes) fun b r h => binF_e hr ops f _ r h
theorem binary_e {part : R → Except Er (E × R)} (hr : ∀ r, B m r → Pd m (part r)) (ops : List (T × Int)) (r : R) (h : B m r) : Pd m (binary part ops r) := by
 rw [binary_eq]
 exact Pd.bind (hr r h) fun a r h => binF_e hr ops _ a r h
theorem test_e {sum : R → Except Er (E × R)} (hr : ∀ r, B m r → Pd m (sum r)) (r : R) (h : B m r) : Pd m (test sum r) := by
 rw [test_eq]
 exact Pd.bind (hr r h) fun a r h => Pd.elim (Pd.ite h (Pd.bindR (PdR.must h.takes.has) fun r h => h)) fun o => Pd.bind (hr _ h.takes) fun b r h => h
theorem notF_e {tst : R → Except Er (E × R)} (hr : ∀ r, B m r → Pd m (tst r)) : ∀ (f : Nat) (r : R), B m r → Pd m (notF tst f r)
 | 0, r, h => Pd.fails h (by decide)
 | f + 1, r, h => by
  rw [notF_succ]
  exact Pd.ite (hr r h) (Pd.bindR (PdR.opens h) fun r h => Pd.bind (notF_e hr f _ h.takes) fun a r h => h)
theorem exprF_e : ∀ (f : Nat) (r : R), B m r → Pd m (exprF f r)
 | 0, r, h => Pd.fails h (by decide)
 | f + 1, r, h => binary_e (binary_e (notF_e (test_e (binary_e (binary_e (factorF_e (exprF_e f) _) _) _)) _) _) _ r h
theorem expr_e (r : R) (h : B m r) : Pd m (expr r) := exprF_e 101 r h
theorem names_e (r : R) (h : B m r) : Pd m (names r) := by
 rw [names_eq]
 exact Pd.bindR (PdR.must h) fun r h => Pd.bind (rowF_e (fun r h => Pd.name h) _ _ _ h) fun a r h => Pd.bindR (PdR.must h) fun r h => h
theorem colsOf_e (c : T) (r : R) (h : B m r) : Pd m (colsOf c r) := Pd.ite (names_e r h) h
theorem conOf_e (n : Nat) (c : T) (r : R) (h : B m r) : Pd m (conOf n c r) := by
 rw [conOf_eq]
 exact Pd.ite (Pd.fails h (by decide)) (Pd.ite (Pd.bind (within_e expr_e _ h.takes) fun a r h => h) (Pd.ite (Pd.bindR (PdR.must h.takes) fun r h => Pd.bind (colsOf_e c r h) fun a r h => h) (Pd.bindR (PdR.must h) fun r h => Pd.bind (colsOf_e c r h) fun a r h => h)))
theorem tailF_e (c : T) : ∀ (f : Nat) (t : Tb) (k : List (List T)) (n : Nat) (nn : Bool) (r : R), B m r → Pd m (tailF c f t k n nn r)
 | 0, _, _, _, _, r, h => Pd.fails h (by decide)
 | f + 1, t, k, n, nn, r, h => by
  rw [tailF_succ]
  exact Pd.ite (Pd.bindR (PdR.must h.takes) fun r h => tailF_e c f _ _ _ _ r h) (Pd.ite (Pd.bind (conOf_e n c r h) fun a r h => tailF_e c f _ _ _ _ r h) h)
theorem typeOf_e (r : R) (h : B m r) : Pd m (typeOf r) := Pd.ite h.takes (Pd.ite h.takes (Pd.ite h.takes (Pd.fails h (by decide))))
theorem part_e (t : Tb) (k : List (List T)) (n : Nat) (r : R) (h : B m r) : Pd m (part t k n r) := by
 rw [part_eq]
 exact Pd.ite (Pd.bind (conOf_e _ _ r h) fun a r h => h) (Pd.ite (Pd.fails h (by decide)) (Pd.bind (Pd.name h) fun a r h => Pd.bind (typeOf_e r h) fun b r h => Pd.bind (tailF_e _ _ _ _ _ _ r h) fun c r h => h))
theorem partsF_e : ∀ (f : Nat) (t : Tb) (k : List (List T)) (n : Nat) (r : R), B m r → Pd m (partsF f t k n r)
 | 0, _, _, _, r, h => Pd.fails h (by decide)
 | f + 1, t, k, n, r, h => by
  rw [partsF_succ]
  exact Pd.bind (part_e t k n r h) fun a r h => Pd.ite (partsF_e f _ _ _ _ h.takes) h
theorem mkIdx_e (u : Bool) (r : R) (h : B m r) : Pd m (mkIdx u r) := by
 unfold mkIdx
 refine Pd.bindR (PdR.must h) fun r h => ?_
 refine Pd.bind (Pd.name h) fun a r h => ?_
 refine Pd.bindR (PdR.must h) fun r h => ?_
 refine Pd.bind (Pd.name h) fun b r h => ?_
 exact Pd.bind (names_e r h) fun l r h => h
theorem create_e (r : R) (h : B m r) : Pd m (create r) := by
 rw [create_eq]
 exact Pd.ite (Pd.bind (Pd.name h.takes) fun a r h => Pd.bindR (PdR.must h) fun r h => Pd.bind (partsF_e _ _ _ _ r h) fun b r h => Pd.bindR (PdR.must h) fun r h => h) (Pd.ite (mkIdx_e _ _ h.has) (Pd.fails h (by decide)))
theorem drop_e (r : R) (h : B m r) : Pd m (drop r) := by
 rw [drop_eq]
 exact Pd.ite (Pd.bind (Pd.name h.takes) fun a r h => h) (Pd.bindR (PdR.must h) fun r h => Pd.bind (Pd.name h) fun a r h => h)
theorem exprs_e {read : R → Except Er (α × R)} (hr : ∀ r, B m r → Pd m (read r)) (r : R) (h : B m r) : Pd m (exprs read r) := rowF_e hr _ _ r h
theorem valuesRow_e (r : R) (h : B m r) : Pd m (valuesRow r) := by
 rw [valuesRow_eq]
 exact Pd.bindR (PdR.must h) fun r h => Pd.bind (exprs_e expr_e r h) fun a r h => Pd.bindR (PdR.must h) fun r h => h
theorem wher_e (r : R) (h : B m r) : Pd m (wher r) := Pd.ite (expr_e _ h.takes) h
theorem insert_e (r : R) (h : B m r) : Pd m (insert r) := by
 rw [insert_eq]
 exact Pd.bindR (PdR.must h) fun r h => Pd.bind (Pd.name h) fun a r h => Pd.bind (Pd.ite (names_e r h) h) fun l r h => Pd.bindR (PdR.must h) fun r h => Pd.bind (rowF_e valuesRow_e _ _ r h) fun b r h => h
theorem setOf_e (r : R) (h : B m r) : Pd m (setOf r) := by
 rw [setOf_eq]
 exact Pd.bind (Pd.name h) fun a r h => Pd.bindR (PdR.must h) fun r h => Pd.bind (expr_e r h) fun b r h => h
theorem update_e (r : R) (h : B m r) : Pd m (update r) := by
 rw [update_eq]
 exact Pd.bind (Pd.name h) fun a r h => Pd.bindR (PdR.must h) fun r h => Pd.bind (rowF_e setOf_e _ _ r h) fun b r h => Pd.bind (wher_e r h) fun c r h => h
theorem deletes_e (r : R) (h : B m r) : Pd m (deletes r) := by
 rw [deletes_eq]
 exact Pd.bindR (PdR.must h) fun r h => Pd.bind (Pd.name h) fun a r h => Pd.bind (wher_e r h) fun c r h => h
theorem item_e (r : R) (h : B m r) : Pd m (item r) := by
 rw [item_eq]
 exact Pd.ite h.takes (Pd.bind (expr_e r h) fun a r h => Pd.ite (Pd.bind (Pd.name h.takes) fun b r h => h) h)
theorem source_e (r : R) (h : B m r) : Pd m (source r) := by
 rw [source_eq]
 exact Pd.bind (Pd.name h) fun a r h => Pd.bind (Pd.ite h (Pd.name h)) fun b r h => h
theorem orderOf_e (r : R) (h : B m r) : Pd m (orderOf r) := by
 rw [orderOf_eq]
 refine Pd.bind (expr_e r h) fun a r h => ?_
 show B m (if (has [68, 69, 83, 67] r).1 = true then (has [68, 69, 83, 67] r).2 else (has [65, 83, 67] (has [68, 69, 83, 67] r).2).2)
 split
 ·exact h.has
 ·exact h.has.has
theorem selects_e (r : R) (h : B m r) : Pd m (selects r) := by
 rw [selects_bnd]
 exact Pd.bind (rowF_e item_e _ _ r h) fun a r h => Pd.bindR (PdR.must h) fun r h => Pd.bind (source_e r h) fun s r h =>
  Pd.bind (Pd.ite (Pd.bind (source_e _ h.takes) fun a r h => Pd.bindR (PdR.must h) fun r h => Pd.bind (expr_e r h) fun b r h => h) h) fun j r h => Pd.bind (wher_e r h) fun w r h =>
  Pd.bind (Pd.ite (Pd.bindR (PdR.must h.takes) fun r h => rowF_e column_e _ _ r h) h) fun g r h => Pd.bind (Pd.ite (Pd.bindR (PdR.must h.takes) fun r h => exprs_e orderOf_e r h) h) fun o r h =>
  Pd.bind (Pd.ite (Pd.ite (Pd.fails h.takes (by decide)) (Pd.bind (Pd.int h.takes) fun n r h => h)) h) fun l r h => h
theorem statement_e (r : R) (h : B m r) : Pd m (statement r) :=
 Pd.ite (create_e _ h.takes) (Pd.ite (drop_e _ h.takes) (Pd.ite (insert_e _ h.takes) (Pd.ite (update_e _ h.takes) (Pd.ite (deletes_e _ h.takes) (Pd.ite (selects_e _ h.takes) (Pd.ite h.takes (Pd.ite h.takes (Pd.ite h.takes (Pd.fails h (by decide))))))))))
end
theorem parse_bad {s : T} {er : Er} (h : parse s = .error er) : er.2 ≠ 0 ∧ er.1 ≤ s.length := by
 unfold parse at h
 cases hl : P11.lexed s with
 | inr a =>
  rw [hl] at h
  cases h
  unfold P11.lexed at hl
  split at hl
  ·cases hl; exact ⟨by decide, Nat.zero_le _⟩
  ·have := P11.toks_bad _ s (Nat.le_refl _) 0 a hl
   exact ⟨this.1, by have := this.2; show a.1 ≤ _; omega⟩
 | inl l =>
  rw [hl] at h
  unfold P11.lexed at hl
  split at hl
  ·cases hl
  have hB : B s.length ⟨l, 0⟩ := fun t ht => by have := P11.toks_at _ s (Nat.le_refl _) 0 l hl t ht; omega
  unfold parseToks at h
  dsimp only at h
  have hst := statement_e _ hB
  cases hs : statement ⟨l, 0⟩ with
  | error e2 =>
   rw [hs] at h hst
   cases h; exact hst
  | ok z =>
   rw [hs] at h hst
   obtain ⟨y, r⟩ := z
   have h' : (if (nxt (has [59] r).2).kind ≠ 0 then fails 120 (has [59] r).2 else .ok y : Except Er St) = .error er := h
   split at h'
   ·cases h'
    exact ⟨show (120 : Int) ≠ 0 by decide, B.nxt (B.has (show B s.length r from hst))⟩
   ·cases h'
end P12
