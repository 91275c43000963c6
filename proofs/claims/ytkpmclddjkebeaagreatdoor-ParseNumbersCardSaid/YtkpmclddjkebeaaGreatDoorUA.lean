/- What the claim's proof leans on, part 1: walks of functions and plain laws. -/
import GoSem.Op.String
import Derived.Lib.Replace
import Derived.Lib.CountLaws
import Derived.Lib.ItoaNum
import Derived.Lib.Strings
import Derived.Lib.Bytealg
import Derived.Lib.Case
import Derived.Lib.SlTrimSet
import Derived.KernelRfl
import Derived.Lib.Join
set_option linter.unusedSimpArgs false
set_option linter.unusedVariables false
set_option maxRecDepth 100000
set_option maxHeartbeats 8000000
namespace P6
open Go.Op (bytesLess)
def isV (k i : Int) (s : List UInt8) : Bool :=
 if k = 0 then i == 0 && s == [] else if k = 1 then (i == 0 || i == 1) && s == [] else if k = 2 then s == []
 else if k = 3 then i == 0 && decide (s.length ≤ 40) && !s.contains 0 else false
end P6
namespace P6
open Go.Lib
def dbl : List UInt8 → List UInt8
 | [] => []
 | c :: l => if c = 39 then 39 :: 39 :: dbl l else c :: dbl l
theorem index_one_cons (b : UInt8) (l : List UInt8) : index (b :: l) [39] = if b = 39 then 0 else if index l [39] = -1 then -1 else index l [39] + 1 := by
 rw [index]
 by_cases h : b = 39
 ·subst h; simp [List.isPrefixOf]
 ·have : ([39] : List UInt8).isPrefixOf (b :: l) = false := by simp [List.isPrefixOf]; exact fun e => h e.symm
  simp [h, this]
theorem replace_dbl : ∀ s : List UInt8, replaceK [39] [39, 39] (count s [39]) s = dbl s
 | [] => rfl
 | b :: l => by
  have ih := replace_dbl l
  have hi := index_one_cons b l
  by_cases hb : b = 39
  ·rw [if_pos hb] at hi
   have hi0 : index (b :: l) [39] = ((0 : Nat) : Int) := hi
   rw [count_hit (i := 0) (by simp) hi0, Nat.add_comm 1, replaceK_hit _ _ _ _ 0 hi0, dbl, if_pos hb]
   simpa using ih
  ·rw [if_neg hb] at hi
   rw [dbl, if_neg hb]
   by_cases hm : index l [39] = -1
   ·rw [if_pos hm] at hi
    rw [count_miss hi, replaceK, ← ih, count_miss hm, replaceK]
   ·rw [if_neg hm] at hi
    have hge := index_ge l [39]
    obtain ⟨i, hl⟩ := Int.eq_ofNat_of_zero_le (show 0 ≤ index l [39] by omega)
    have hi' : index (b :: l) [39] = ((i + 1 : Nat) : Int) := by rw [hi, hl]; rfl
    rw [count_hit (i := i + 1) (by simp) hi', Nat.add_comm 1, replaceK_hit _ _ _ _ _ hi']
    rw [count_hit (i := i) (by simp) hl, Nat.add_comm 1, replaceK_hit _ _ _ _ _ hl] at ih
    rw [← ih]
    simp
theorem replaceAll_dbl (s : List UInt8) : replaceAll s [39] [39, 39] = dbl s := by
 unfold replaceAll replace replaceNum
 simp only [show (([39] : List UInt8) == [39, 39]) = false from rfl]
 simpa using replace_dbl s
def quote (s : List UInt8) : List UInt8 := 39 :: (dbl s ++ [39])
def printV (k i : Int) (s : List UInt8) : List UInt8 :=
 if isV k i s then (if k = 0 then [78, 85, 76, 76] else if k = 1 then (if i = 1 then [84, 82, 85, 69] else [70, 65, 76, 83, 69]) else if k = 2 then itoa i else quote s) else [63]
theorem dbl_length : ∀ s, (dbl s).length ≤ 2 * s.length
 | [] => by simp [dbl]
 | c :: l => by have := dbl_length l; rw [dbl]; split <;> simp <;> omega
end P6
namespace P11
open Go.Lib (upperB lowerB)
structure Tok where
 kind : Int
 text : List UInt8
 pos : Nat
def letter (c : UInt8) : Bool := (97 ≤ c && c ≤ 122) || (65 ≤ c && c ≤ 90) || c == 95
def digit (c : UInt8) : Bool := 48 ≤ c && c ≤ 57
def alnum (c : UInt8) : Bool := letter c || digit c
def blank (c : UInt8) : Bool := c == 32 || c == 9 || c == 10 || c == 13
def words : List (List UInt8) := [[65, 78, 68], [65, 83], [65, 83, 67], [66, 69, 71, 73, 78], [66, 79, 79, 76], [66, 89], [67, 72, 69, 67, 75], [67, 79, 77, 77, 73, 84], [67, 79, 85, 78, 84], [67, 82, 69, 65, 84, 69], [68, 69, 76, 69, 84, 69], [68, 69, 83, 67], [68, 82, 79, 80], [70, 65, 76, 83, 69], [70, 82, 79, 77], [71, 82, 79, 85, 80], [73, 78, 68, 69, 88], [73, 78, 83, 69, 82, 84], [73, 78, 84], [73, 78, 84, 79], [73, 83], [74, 79, 73, 78], [75, 69, 89], [76, 73, 77, 73, 84], [77, 65, 88], [77, 73, 78], [78, 79, 84], [78, 85, 76, 76], [79, 78], [79, 82], [79, 82, 68, 69, 82], [80, 82, 73, 77, 65, 82, 89], [82, 79, 76, 76, 66, 65, 67, 75], [83, 69, 76, 69, 67, 84], [83, 69, 84], [83, 85, 77], [84, 65, 66, 76, 69], [84, 69, 88, 84], [84, 82, 85, 69], [85, 78, 73, 81, 85, 69], [85, 80, 68, 65, 84, 69], [86, 65, 76, 85, 69, 83], [87, 72, 69, 82, 69]]
def signs : List (List UInt8) := [[60, 62], [60, 61], [62, 61], [124, 124], [40], [41], [44], [46], [42], [61], [60], [62], [43], [45], [47], [37], [59]]
def signOf (r : List UInt8) : Option (List UInt8) := signs.find? fun x => x.isPrefixOf r
def numOf : List UInt8 → List UInt8
 | [] => []
 | [c] => [c]
 | c :: d :: l => if c = 48 then numOf (d :: l) else c :: d :: l
def textOf : List UInt8 → Option (List UInt8 × Nat)
 | [] => none
 | [c] => if c = 39 then some ([], 1) else none
 | c :: d :: l => if c = 39 then (if d = 39 then (textOf l).map fun x => (39 :: x.1, x.2 + 2) else some ([], 1)) else (textOf (d :: l)).map fun x => (c :: x.1, x.2 + 1)
def lineLen (r : List UInt8) : Nat := (r.takeWhile (· != 10)).length
def step : List UInt8 → (Nat × Option (Int × List UInt8)) ⊕ (Nat × Int)
 | [] => .inr (0, 0)
 | c :: t =>
  if blank c then .inl (1, none)
  else if [45, 45].isPrefixOf (c :: t) then .inl (lineLen (c :: t), none)
  else if c = 39 then
   match textOf t with
   | none => .inr (0, 112)
   | some x => if ((c :: t).take (x.2 + 1)).contains 0 then .inr (((c :: t).take (x.2 + 1)).idxOf 0, 111) else .inl (x.2 + 1, some (4, x.1))
  else if letter c then
   let w := (c :: t).takeWhile alnum
   .inl (w.length, some (if words.contains (w.map upperB) then (2, w.map upperB) else (1, w.map lowerB)))
  else if digit c then
   let w := (c :: t).takeWhile digit
   .inl (w.length, some (3, numOf w))
  else match signOf (c :: t) with
   | none => .inr (0, 111)
   | some x => .inl (x.length, some (5, x))
def withTok (t : Option (Int × List UInt8)) (p : Nat) (l : List Tok) : List Tok :=
 match t with
 | none => l
 | some x => ⟨x.1, x.2, p⟩ :: l
def toksF : Nat → List UInt8 → Nat → List Tok ⊕ (Nat × Int)
 | 0, _, _ => .inr (0, 0)
 | _ + 1, [], p => .inl [⟨0, [], p⟩]
 | f + 1, c :: t, p =>
  match step (c :: t) with
  | .inr x => .inr (p + x.1, x.2)
  | .inl x => match toksF f ((c :: t).drop x.1) (p + x.1) with
   | .inr y => .inr y
   | .inl l => .inl (withTok x.2 p l)
def toks (r : List UInt8) (p : Nat) : List Tok ⊕ (Nat × Int) := toksF (r.length + 1) r p
def lexed (s : List UInt8) : List Tok ⊕ (Nat × Int) := if 4096 < s.length then .inr (0, 110) else toks s 0
theorem textOf_pos : ∀ (n : Nat) (l : List UInt8), l.length ≤ n → ∀ x, textOf l = some x → 0 < x.2 ∧ x.2 ≤ l.length
 | _, [], _, x, h => by simp [textOf] at h
 | _, [c], _, x, h => by
  rw [textOf] at h
  split at h
  ·cases h; simp
  ·cases h
 | 0, _ :: _ :: _, hn, _, _ => by simp at hn
 | n + 1, c :: d :: l, hn, x, h => by
  rw [textOf] at h
  simp only [List.length_cons] at hn
  split at h
  ·split at h
   ·obtain ⟨y, hy, rfl⟩ := Option.map_eq_some_iff.1 h
    have := textOf_pos n l (by omega) y hy
    simp only [List.length_cons]; omega
   ·cases h; simp
  ·obtain ⟨y, hy, rfl⟩ := Option.map_eq_some_iff.1 h
   have := textOf_pos n (d :: l) (by simp; omega) y hy
   simp only [List.length_cons] at this ⊢; omega
theorem letter_alnum {c : UInt8} (h : letter c = true) : alnum c = true := by simp [alnum, h]
theorem signs_pos : ∀ x ∈ signs, 0 < x.length := by decide
theorem signOf_pre {r x : List UInt8} (h : signOf r = some x) : 0 < x.length ∧ x.isPrefixOf r = true :=
 ⟨signs_pos x (List.mem_of_find?_eq_some h), by simpa using List.find?_some h⟩
theorem step_pos {c : UInt8} {t : List UInt8} {x} (h : step (c :: t) = .inl x) : 0 < x.1 ∧ x.1 ≤ (c :: t).length := by
 rw [step] at h
 split at h
 ·cases h; simp
 split at h
 ·rename_i h1 h2
  cases h
  constructor
  ·unfold lineLen
   have hc : c = 45 := by simp [List.isPrefixOf] at h2; exact h2.1.symm
   subst hc
   simp [List.takeWhile]
  ·exact (List.takeWhile_prefix _).length_le
 split at h
 ·split at h
  ·cases h
  ·rename_i y hy
   split at h
   ·cases h
   ·cases h
    have := textOf_pos _ t (Nat.le_refl _) y hy
    simp only [List.length_cons]; omega
 split at h
 ·rename_i h4
  cases h
  refine ⟨?_, (List.takeWhile_prefix _).length_le⟩
  simp [List.takeWhile, letter_alnum h4]
 split at h
 ·rename_i h5
  cases h
  refine ⟨?_, (List.takeWhile_prefix _).length_le⟩
  simp [List.takeWhile, h5]
 split at h
 ·cases h
 ·rename_i x hx
  cases h
  obtain ⟨h1, h2⟩ := signOf_pre hx
  exact ⟨h1, (List.isPrefixOf_iff_prefix.1 h2).length_le⟩
theorem toksF_more : ∀ (f g : Nat) (r : List UInt8) (p : Nat), r.length < f → r.length < g → toksF f r p = toksF g r p
 | 0, _, _, _, h, _ => by omega
 | _ + 1, 0, _, _, _, h => by omega
 | f + 1, g + 1, [], p, _, _ => rfl
 | f + 1, g + 1, c :: t, p, hf, hg => by
  rw [toksF, toksF]
  cases hs : step (c :: t) with
  | inr x => rfl
  | inl x =>
   have := step_pos hs
   simp only [List.length_cons] at hf hg this
   have e := toksF_more f g ((c :: t).drop x.1) (p + x.1) (by simp only [List.length_drop, List.length_cons]; omega) (by simp only [List.length_drop, List.length_cons]; omega)
   simp only [e]
theorem toks_nil (p : Nat) : toks [] p = .inl [⟨0, [], p⟩] := rfl
theorem toks_err {c : UInt8} {t : List UInt8} {x} (p : Nat) (h : step (c :: t) = .inr x) : toks (c :: t) p = .inr (p + x.1, x.2) := by
 rw [toks, toksF, h]
theorem toks_step {c : UInt8} {t : List UInt8} {x} (p : Nat) (h : step (c :: t) = .inl x) : toks (c :: t) p = match toks ((c :: t).drop x.1) (p + x.1) with
  | .inr y => .inr y
  | .inl l => .inl (withTok x.2 p l) := by
 have := step_pos h
 simp only [List.length_cons] at this
 have e := toksF_more (c :: t).length (((c :: t).drop x.1).length + 1) ((c :: t).drop x.1) (p + x.1) (by simp only [List.length_drop, List.length_cons]; omega) (by omega)
 rw [toks, toksF, h]
 simp only [e]
 rfl
def after (acc : List Tok) : List Tok ⊕ (Nat × Int) → List Tok ⊕ (Nat × Int)
 | .inr y => .inr y
 | .inl l => .inl (acc ++ l)
theorem after_nil (x) : after [] x = x := by cases x <;> rfl
theorem after_none {c : UInt8} {t : List UInt8} {n : Nat} {p : Nat} {acc : List Tok} (h : step (c :: t) = .inl (n, none)) : after acc (toks (c :: t) p) = after acc (toks ((c :: t).drop n) (p + n)) := by
 rw [toks_step p h]; dsimp only; cases toks ((c :: t).drop n) (p + n) <;> rfl
theorem after_some {c : UInt8} {t : List UInt8} {n : Nat} {p : Nat} {k : Int} {u : List UInt8} {acc : List Tok} (h : step (c :: t) = .inl (n, some (k, u))) : after acc (toks (c :: t) p) = after (acc ++ [⟨k, u, p⟩]) (toks ((c :: t).drop n) (p + n)) := by
 rw [toks_step p h]; dsimp only; cases toks ((c :: t).drop n) (p + n) <;> simp [after, withTok]
theorem after_err {c : UInt8} {t : List UInt8} {n : Nat} {p : Nat} {e : Int} {acc : List Tok} (h : step (c :: t) = .inr (n, e)) : after acc (toks (c :: t) p) = .inr (p + n, e) := by
 rw [toks_err p h]; rfl
end P11
namespace P11
open Go.Lib (upperB lowerB)
open P6 (dbl)
theorem u8_all {p : UInt8 → Bool} (h : (List.range 256).all (fun n => p (UInt8.ofNat n)) = true) (c : UInt8) : p c = true := by
 have := List.all_eq_true.1 h c.toNat (List.mem_range.2 c.toNat_lt)
 simpa using this
theorem u8_imp {p q : UInt8 → Bool} (h : (List.range 256).all (fun n => !p (UInt8.ofNat n) || q (UInt8.ofNat n)) = true) (c : UInt8) (hp : p c = true) : q c = true := by
 have := u8_all (p := fun c => !p c || q c) h c
 simpa [hp] using this
theorem textOf_ne (c : UInt8) (x : List UInt8) (h : c ≠ 39) : textOf (c :: x) = (textOf x).map fun y => (c :: y.1, y.2 + 1) := by
 cases x with
 | nil => simp [textOf, h]
 | cons d l => rw [textOf, if_neg h]
theorem textOf_qq (x : List UInt8) : textOf (39 :: 39 :: x) = (textOf x).map fun y => (39 :: y.1, y.2 + 2) := by
 rw [textOf, if_pos rfl, if_pos rfl]
theorem textOf_q (r : List UInt8) (h : r.head? ≠ some 39) : textOf (39 :: r) = some ([], 1) := by
 cases r with
 | nil => rfl
 | cons d l => rw [textOf, if_pos rfl, if_neg (by simpa using h)]
theorem textOf_dbl (r : List UInt8) (h : r.head? ≠ some 39) : ∀ s : List UInt8, textOf (dbl s ++ 39 :: r) = some (s, (dbl s).length + 1)
 | [] => by simpa [dbl] using textOf_q r h
 | c :: s => by
  rw [dbl]
  have ih := textOf_dbl r h s
  split
  ·rename_i hc
   subst hc
   simp only [List.cons_append]
   rw [textOf_qq, ih]; simp
  ·rename_i hc
   simp only [List.cons_append]
   rw [textOf_ne _ _ hc, ih]; simp
theorem after_blank {c : UInt8} (h : blank c = true) (r : List UInt8) (p : Nat) (acc : List Tok) : after acc (toks (c :: r) p) = after acc (toks r (p + 1)) :=
 after_none (n := 1) (by rw [step, if_pos h])
def good (x : Int × List UInt8) : Prop :=
 (x.1 = 1 ∧ (∃ c l, x.2 = c :: l ∧ letter c = true) ∧ x.2.all alnum = true ∧ x.2.map lowerB = x.2 ∧ words.contains (x.2.map upperB) = false) ∨
 (x.1 = 2 ∧ (∃ c l, x.2 = c :: l ∧ letter c = true) ∧ x.2.all alnum = true ∧ x.2.map upperB = x.2 ∧ words.contains x.2 = true) ∨
 (x.1 = 3 ∧ x.2 ≠ [] ∧ x.2.all digit = true ∧ numOf x.2 = x.2) ∨ (x.1 = 4 ∧ x.2.contains 0 = false) ∨ (x.1 = 5 ∧ x.2 ∈ signs)
def pr (x : Int × List UInt8) : List UInt8 := if x.1 = 4 then P6.quote x.2 else x.2
theorem letter_up (c : UInt8) : letter (upperB c) = letter c := by simpa using u8_all (p := fun c => letter (upperB c) == letter c) (by decide +kernel) c
theorem letter_lo (c : UInt8) : letter (lowerB c) = letter c := by simpa using u8_all (p := fun c => letter (lowerB c) == letter c) (by decide +kernel) c
theorem alnum_up (c : UInt8) : alnum (upperB c) = alnum c := by simpa using u8_all (p := fun c => alnum (upperB c) == alnum c) (by decide +kernel) c
theorem alnum_lo (c : UInt8) : alnum (lowerB c) = alnum c := by simpa using u8_all (p := fun c => alnum (lowerB c) == alnum c) (by decide +kernel) c
theorem up_up (c : UInt8) : upperB (upperB c) = upperB c := by simpa using u8_all (p := fun c => upperB (upperB c) == upperB c) (by decide +kernel) c
theorem lo_lo (c : UInt8) : lowerB (lowerB c) = lowerB c := by simpa using u8_all (p := fun c => lowerB (lowerB c) == lowerB c) (by decide +kernel) c
theorem up_lo (c : UInt8) : upperB (lowerB c) = upperB c := by simpa using u8_all (p := fun c => upperB (lowerB c) == upperB c) (by decide +kernel) c
theorem takeWhile_all (p : UInt8 → Bool) : ∀ l : List UInt8, (l.takeWhile p).all p = true
 | [] => rfl
 | c :: l => by
  rw [List.takeWhile]
  split
  ·rename_i h; simp only [List.all_cons, h, Bool.true_and]; exact takeWhile_all p l
  ·rfl
theorem numOf_idem : ∀ l : List UInt8, numOf (numOf l) = numOf l
 | [] => rfl
 | [c] => rfl
 | c :: d :: l => by
  rw [numOf]
  split
  ·exact numOf_idem (d :: l)
  ·rename_i h; rw [numOf, if_neg h]
theorem numOf_ne : ∀ l : List UInt8, l ≠ [] → numOf l ≠ []
 | [], h => absurd rfl h
 | [c], _ => by simp [numOf]
 | c :: d :: l, _ => by
  rw [numOf]
  split
  ·exact numOf_ne (d :: l) (by simp)
  ·simp
theorem numOf_all (p : UInt8 → Bool) : ∀ l : List UInt8, l.all p = true → (numOf l).all p = true
 | [], _ => rfl
 | [c], h => h
 | c :: d :: l, h => by
  rw [numOf]
  split
  ·exact numOf_all p (d :: l) (by simp only [List.all_cons, Bool.and_eq_true] at h ⊢; exact h.2)
  ·exact h
theorem textOf_zero : ∀ (n : Nat) (l : List UInt8), l.length ≤ n → ∀ x, textOf l = some x → (l.take x.2).contains 0 = false → x.1.contains 0 = false
 | _, [], _, x, h, _ => by simp [textOf] at h
 | _, [c], _, x, h, _ => by
  rw [textOf] at h
  split at h
  ·cases h; rfl
  ·cases h
 | 0, _ :: _ :: _, hn, _, _, _ => by simp at hn
 | n + 1, c :: d :: l, hn, x, h, h0 => by
  rw [textOf] at h
  simp only [List.length_cons] at hn
  split at h
  ·split at h
   ·obtain ⟨y, hy, rfl⟩ := Option.map_eq_some_iff.1 h
    dsimp only at h0 ⊢
    rw [List.take_succ_cons, List.take_succ_cons] at h0
    have := textOf_zero n l (by omega) y hy (by simp_all)
    simp_all
   ·cases h; rfl
  ·obtain ⟨y, hy, rfl⟩ := Option.map_eq_some_iff.1 h
   dsimp only at h0 ⊢
   rw [List.take_succ_cons] at h0
   have := textOf_zero n (d :: l) (by simp; omega) y hy (by simp_all)
   simp_all
theorem map_all {f : UInt8 → UInt8} {p : UInt8 → Bool} (h : ∀ c, p (f c) = p c) (l : List UInt8) : (l.map f).all p = l.all p := by
 rw [List.all_map]; congr 1; funext c; exact h c
theorem step_good {c : UInt8} {t : List UInt8} {n : Nat} {x : Int × List UInt8} (h : step (c :: t) = .inl (n, some x)) : good x := by
 rw [step] at h
 split at h
 ·cases h
 split at h
 ·cases h
 split at h
 ·split at h
  ·cases h
  ·rename_i y hy
   split at h
   ·cases h
   ·rename_i h0
    cases h
    refine .inr (.inr (.inr (.inl ⟨rfl, ?_⟩)))
    rw [List.take_succ_cons] at h0
    exact textOf_zero _ t (Nat.le_refl _) y hy (by simp_all)
 split at h
 ·rename_i h4
  have ha := takeWhile_all alnum (c :: t)
  have hh : ∃ c' l, (c :: t).takeWhile alnum = c' :: l ∧ letter c' = true := ⟨c, t.takeWhile alnum, by rw [List.takeWhile, letter_alnum h4], h4⟩
  generalize (c :: t).takeWhile alnum = w at *
  obtain ⟨c', l, rfl, hl⟩ := hh
  dsimp only at h
  split at h
  ·rename_i hw
   cases h
   exact .inr (.inl ⟨rfl, ⟨_, _, rfl, by rw [letter_up]; exact hl⟩, by dsimp only; rw [map_all alnum_up]; exact ha, by simp [up_up], hw⟩)
  ·rename_i hw
   cases h
   refine .inl ⟨rfl, ⟨_, _, rfl, by rw [letter_lo]; exact hl⟩, by dsimp only; rw [map_all alnum_lo]; exact ha, by simp [lo_lo], ?_⟩
   dsimp only
   rw [List.map_map, show upperB ∘ lowerB = upperB from funext up_lo]
   simpa using hw
 split at h
 ·rename_i h5
  have ha := takeWhile_all digit (c :: t)
  have hh : (c :: t).takeWhile digit ≠ [] := by simp [List.takeWhile, h5]
  cases h
  exact .inr (.inr (.inl ⟨rfl, numOf_ne _ hh, numOf_all _ _ ha, numOf_idem _⟩))
 split at h
 ·cases h
 ·rename_i y hy
  cases h
  exact .inr (.inr (.inr (.inr ⟨rfl, List.mem_of_find?_eq_some hy⟩)))
theorem letter_first (c : UInt8) (h : letter c = true) : (!blank c && c != 45 && c != 39) = true := u8_imp (p := letter) (q := fun c => !blank c && c != 45 && c != 39) (by decide +kernel) c h
theorem digit_first (c : UInt8) (h : digit c = true) : (!blank c && c != 45 && c != 39 && !letter c) = true := u8_imp (p := digit) (q := fun c => !blank c && c != 45 && c != 39 && !letter c) (by decide +kernel) c h
def kt (t : Tok) : Int × List UInt8 := (t.kind, t.text)
theorem toks_form : ∀ (n : Nat) (r : List UInt8) (p : Nat) (l : List Tok), r.length ≤ n → toks r p = .inl l → ∃ l', l = l' ++ [⟨0, [], p + r.length⟩] ∧ ∀ t ∈ l', good (kt t)
 | _, [], p, l, _, h => by rw [toks_nil] at h; cases h; exact ⟨[], rfl, fun t ht => by cases ht⟩
 | 0, _ :: _, _, _, hn, _ => by simp at hn
 | n + 1, c :: t, p, l, hn, h => by
  cases hs : step (c :: t) with
  | inr x => rw [toks_err p hs] at h; cases h
  | inl x =>
   have hp := step_pos hs
   rw [toks_step p hs] at h
   cases hr : toks ((c :: t).drop x.1) (p + x.1) with
   | inr y => simp only [hr] at h; cases h
   | inl m =>
    simp only [hr, Sum.inl.injEq] at h
    obtain ⟨l', rfl, hg⟩ := toks_form n _ _ _ (by simp only [List.length_drop, List.length_cons] at hn hp ⊢; omega) hr
    have e : p + x.1 + ((c :: t).drop x.1).length = p + (c :: t).length := by rw [List.length_drop]; omega
    rw [e] at h
    obtain ⟨k, o⟩ := x
    cases o with
    | none => exact ⟨l', by rw [← h]; rfl, hg⟩
    | some y =>
     refine ⟨⟨y.1, y.2, p⟩ :: l', by rw [← h]; rfl, fun t' ht' => ?_⟩
     rcases List.mem_cons.1 ht' with rfl | h'
     ·exact step_good hs
     ·exact hg t' h'
def written (l : List (Int × List UInt8)) : List UInt8 := (l.map fun x => pr x ++ [32]).flatten
end P11
namespace P12
open P11 (Tok)
abbrev T := List UInt8
inductive E where
 | none
 | val (k i : Int) (s : T)
 | col (t n : T)
 | una (op : Int) (a : E)
 | bin (op : Int) (a b : E)
 | call (op : Int) (a : E)
 | all
structure R where
 l : List Tok
 deep : Nat
abbrev Er := Nat × Int
def nxt (r : R) : Tok := r.l.headD ⟨0, [], 0⟩
def fails {α : Type} (e : Int) (r : R) : Except Er α := .error ((nxt r).pos, e)
def takes (r : R) : R := if (nxt r).kind = 0 then r else ⟨r.l.tail, r.deep⟩
def isT (s : T) (r : R) : Bool := ((nxt r).kind == 2 || (nxt r).kind == 5) && (nxt r).text == s
def has (s : T) (r : R) : Bool × R := if isT s r then (true, takes r) else (false, r)
def must (s : T) (r : R) : Except Er R := if isT s r then .ok (takes r) else fails 120 r
def name (r : R) : Except Er (T × R) := if (nxt r).kind ≠ 1 then fails 120 r else if 24 < (nxt r).text.length then fails 124 r else .ok ((nxt r).text, takes r)
def maybe (r : R) : Except Er (T × R) := if (nxt r).kind ≠ 1 then .ok ([], r) else name r
def named (r : R) : Bool := (nxt r).kind == 1 && decide ((nxt r).text.length ≤ 24)
def opens (r : R) : Except Er R := if r.deep = 100 then fails 121 r else .ok ⟨r.l, r.deep + 1⟩
def closes (r : R) : R := ⟨r.l, r.deep - 1⟩
def dec (s : T) : Nat := s.foldl (fun a c => 10 * a + (c.toNat - 48)) 0
def int (most : Nat) (r : R) : Except Er (Nat × R) := if most < dec (nxt r).text then fails 123 r else .ok (dec (nxt r).text, takes r)
def rowF {α : Type} (most : Nat) (could : R → Bool) (read : R → Except Er (α × R)) : Nat → Nat → R → Except Er (List α × R)
 | 0, _, r => fails 120 r
 | f + 1, n, r =>
  if most < n + 1 && could r then fails 122 r else
  match read r with
  | .error e => .error e
  | .ok (x, r) =>
   if isT [44] r then
    match rowF most could read f (n + 1) (takes r) with
    | .error e => .error e
    | .ok (xs, r) => .ok (x :: xs, r)
   else .ok ([x], r)
def fnOf (s : T) : Option Int := if s = [67, 79, 85, 78, 84] then some 20 else if s = [83, 85, 77] then some 21 else if s = [77, 73, 78] then some 22 else if s = [77, 65, 88] then some 23 else none
def begins (r : R) : Bool :=
 let t := nxt r
 if t.kind = 1 then named r else if t.kind = 3 then decide (dec t.text ≤ 9223372036854775807) else if t.kind = 4 then true
 else if t.kind = 5 then t.text == [40] || t.text == [45]
 else if t.kind = 2 then (fnOf t.text).isSome || t.text == [78, 79, 84] || t.text == [78, 85, 76, 76] || t.text == [84, 82, 85, 69] || t.text == [70, 65, 76, 83, 69] else false
def within {α : Type} (read : R → Except Er (α × R)) (r : R) : Except Er (α × R) :=
 if isT [40] r = false then fails 120 r else
 match opens r with
 | .error e => .error e
 | .ok r =>
  match read (takes r) with
  | .error e => .error e
  | .ok (x, r) =>
   match must [41] r with
   | .error e => .error e
   | .ok r => .ok (x, closes r)
def column (r : R) : Except Er (E × R) :=
 match name r with
 | .error e => .error e
 | .ok (a, r) =>
  if isT [46] r then
   match name (takes r) with
   | .error e => .error e
   | .ok (b, r) => .ok (.col a b, r)
  else .ok (.col [] a, r)
def callArg (ex : R → Except Er (E × R)) (op : Int) (r : R) : Except Er ((Bool × E) × R) :=
 if op = 20 ∧ isT [42] r = true then .ok ((true, E.none), takes r) else
 match ex r with
 | .error e => .error e
 | .ok (a, r) => .ok ((false, a), r)
def call (ex : R → Except Er (E × R)) (op : Int) (r : R) : Except Er (E × R) :=
 match within (callArg ex op) r with
 | .error e => .error e
 | .ok ((all, a), r) => .ok (if all then .all else .call op a, r)
def primary (ex : R → Except Er (E × R)) (r : R) : Except Er (E × R) :=
 let t := nxt r
 if t.kind = 3 then
  match int 9223372036854775807 r with
  | .error e => .error e
  | .ok (n, r) => .ok (E.val 2 n [], r)
 else if t.kind = 4 then (if 40 < t.text.length then fails 122 r else .ok (E.val 3 0 t.text, takes r))
 else if t.kind = 1 then column r
 else if isT [40] r then within ex r
 else if t.kind = 2 then
  match fnOf t.text with
  | some op => call ex op (takes r)
  | none =>
   if t.text = [78, 85, 76, 76] then .ok (E.val 0 0 [], takes r)
   else if t.text = [84, 82, 85, 69] then .ok (E.val 1 1 [], takes r)
   else if t.text = [70, 65, 76, 83, 69] then .ok (E.val 1 0 [], takes r)
   else fails 120 r
 else fails 120 r
def factorF (ex : R → Except Er (E × R)) : Nat → R → Except Er (E × R)
 | 0, r => fails 120 r
 | f + 1, r =>
  if isT [45] r = false then primary ex r else
  if (nxt ⟨r.l.tail, r.deep⟩).kind = 3 then
   match int 9223372036854775808 (takes r) with
   | .error e => .error e
   | .ok (n, r) => .ok (E.val 2 (-(n : Int)) [], r)
  else
   match opens r with
   | .error e => .error e
   | .ok r =>
    match factorF ex f (takes r) with
    | .error e => .error e
    | .ok (a, r) => .ok (E.una 16 a, closes r)
def binF (part : R → Except Er (E × R)) (ops : List (T × Int)) : Nat → E → R → Except Er (E × R)
 | 0, _, r => fails 120 r
 | f + 1, e, r =>
  match ops.find? fun o => isT o.1 r with
  | none => .ok (e, r)
  | some o =>
   match part (takes r) with
   | .error x => .error x
   | .ok (b, r) => binF part ops f (E.bin o.2 e b) r
def binary (part : R → Except Er (E × R)) (ops : List (T × Int)) (r : R) : Except Er (E × R) :=
 match part r with
 | .error e => .error e
 | .ok (a, r) => binF part ops r.l.length a r
def mulOps : List (T × Int) := [([42], 11), ([47], 12), ([37], 13)]
def addOps : List (T × Int) := [([43], 9), ([45], 10), ([124, 124], 14)]
def cmpOps : List (T × Int) := [([61], 3), ([60, 62], 4), ([60], 5), ([60, 61], 6), ([62], 7), ([62, 61], 8)]
def test (sum : R → Except Er (E × R)) (r : R) : Except Er (E × R) :=
 match sum r with
 | .error e => .error e
 | .ok (a, r) =>
  match cmpOps.find? fun o => isT o.1 r with
  | some o =>
   match sum (takes r) with
   | .error e => .error e
   | .ok (b, r) => .ok (E.bin o.2 a b, r)
  | none =>
   if isT [73, 83] r = false then .ok (a, r) else
   let n := has [78, 79, 84] (takes r)
   match must [78, 85, 76, 76] n.2 with
   | .error e => .error e
   | .ok r => .ok (E.una (if n.1 then 18 else 17) a, r)
def notF (tst : R → Except Er (E × R)) : Nat → R → Except Er (E × R)
 | 0, r => fails 120 r
 | f + 1, r =>
  if isT [78, 79, 84] r = false then tst r else
  match opens r with
  | .error e => .error e
  | .ok r =>
   match notF tst f (takes r) with
   | .error e => .error e
   | .ok (a, r) => .ok (E.una 15 a, closes r)
def orOps : List (T × Int) := [([79, 82], 1)]
def andOps : List (T × Int) := [([65, 78, 68], 2)]
def productF (ex : R → Except Er (E × R)) (f : Nat) : R → Except Er (E × R) := binary (factorF ex f) mulOps
def sumF (ex : R → Except Er (E × R)) (f : Nat) : R → Except Er (E × R) := binary (productF ex f) addOps
def testF (ex : R → Except Er (E × R)) (f : Nat) : R → Except Er (E × R) := test (sumF ex f)
def andF (ex : R → Except Er (E × R)) (f : Nat) : R → Except Er (E × R) := binary (notF (testF ex f) f) andOps
def exprF : Nat → R → Except Er (E × R)
 | 0, r => fails 120 r
 | f + 1, r => binary (andF (exprF f) (f + 1)) orOps r
def expr (r : R) : Except Er (E × R) := exprF 101 r
structure Tb where
 name : T := []
 cols : List (T × Int × Bool) := []
 keys : List Bool := []
 checks : List E := []
structure St where
 kind : Int := 0
 tb : Tb := {}
 keyCols : List (List T) := []
 name : T := []
 on : T := []
 unique : Bool := false
 cols : List T := []
 rows : List (List E) := []
 sets : List (T × E) := []
 wher : E := E.none
 items : List (Bool × E × T) := []
 frm : List (T × T) := []
 join : E := E.none
 group : List E := []
 order : List (E × Bool) := []
 limit : Int := 0
def made (k : Int) : St := { kind := k, limit := if k = 8 then -1 else 0 }
def names (r : R) : Except Er (List T × R) := do
 let r ← must [40] r
 let (l, r) ← rowF 16 named name r.l.length 0 r
 let r ← must [41] r
 return (l, r)
def constrains (r : R) : Bool := isT [80, 82, 73, 77, 65, 82, 89] r || isT [85, 78, 73, 81, 85, 69] r || isT [67, 72, 69, 67, 75] r
abbrev Con := Sum E (Bool × List T)
def keyWord (r : R) : Except Er R := if (has [80, 82, 73, 77, 65, 82, 89] r).1 then must [75, 69, 89] (has [80, 82, 73, 77, 65, 82, 89] r).2 else must [85, 78, 73, 81, 85, 69] (has [80, 82, 73, 77, 65, 82, 89] r).2
def colsOf (c : T) (r : R) : Except Er (List T × R) := if c = [] then names r else .ok ([c], r)
def conOf (n : Nat) (c : T) (r : R) : Except Er (Con × R) :=
 if 16 < n + 1 && constrains r then fails 122 r else
 if isT [67, 72, 69, 67, 75] r then
  match within expr (takes r) with
  | .error e => .error e
  | .ok (e, r) => .ok (.inl e, r)
 else
  match keyWord r with
  | .error e => .error e
  | .ok r1 =>
   match colsOf c r1 with
   | .error e => .error e
   | .ok (l, r2) => .ok (.inr ((has [80, 82, 73, 77, 65, 82, 89] r).1, l), r2)
def addT (t : Tb) : Con → Tb
 | .inl e => { t with checks := t.checks ++ [e] }
 | .inr (p, _) => { t with keys := t.keys ++ [p] }
def addK (k : List (List T)) : Con → List (List T)
 | .inl _ => k
 | .inr (_, l) => k ++ [l]
def typeOf (r : R) : Except Er (Int × R) :=
 if isT [66, 79, 79, 76] r then .ok (1, takes r) else if isT [73, 78, 84] r then .ok (2, takes r) else if isT [84, 69, 88, 84] r then .ok (3, takes r) else fails 120 r
def tailF (c : T) : Nat → Tb → List (List T) → Nat → Bool → R → Except Er ((Tb × List (List T) × Nat × Bool) × R)
 | 0, _, _, _, _, r => fails 120 r
 | f + 1, t, k, n, nn, r =>
  if isT [78, 79, 84] r then
   match must [78, 85, 76, 76] (takes r) with
   | .error e => .error e
   | .ok r => tailF c f t k n true r
  else if constrains r then
   match conOf n c r with
   | .error e => .error e
   | .ok (o, r2) => tailF c f (addT t o) (addK k o) (n + 1) (nn || isT [80, 82, 73, 77, 65, 82, 89] r) r2
  else .ok ((t, k, n, nn), r)
def part (t : Tb) (k : List (List T)) (n : Nat) (r : R) : Except Er ((Tb × List (List T) × Nat) × R) :=
 if constrains r then
  match conOf n [] r with
  | .error e => .error e
  | .ok (o, r) => .ok ((addT t o, addK k o, n + 1), r)
 else if 16 < n + 1 && named r then fails 122 r else
  match name r with
  | .error e => .error e
  | .ok (c, r) =>
   match typeOf r with
   | .error e => .error e
   | .ok (ty, r) =>
    match tailF c r.l.length t k (n + 1) false r with
    | .error e => .error e
    | .ok ((t, k, n, nn), r) => .ok (({ t with cols := t.cols ++ [(c, ty, nn)] }, k, n), r)
def partsF : Nat → Tb → List (List T) → Nat → R → Except Er ((Tb × List (List T)) × R)
 | 0, _, _, _, r => fails 120 r
 | f + 1, t, k, n, r =>
  match part t k n r with
  | .error e => .error e
  | .ok ((t, k, n), r) => if isT [44] r then partsF f t k n (takes r) else .ok ((t, k), r)
def create (r : R) : Except Er (St × R) :=
 if isT [84, 65, 66, 76, 69] r then do
  let (t, r) ← name (takes r)
  let r ← must [40] r
  let ((t, k), r) ← partsF r.l.length { name := t } [] 0 r
  let r ← must [41] r
  return ({ made 1 with tb := t, keyCols := k }, r)
 else
  let u := has [85, 78, 73, 81, 85, 69] r
  if u.1 || isT [73, 78, 68, 69, 88] u.2 then do
   let r ← must [73, 78, 68, 69, 88] u.2
   let (a, r) ← name r
   let r ← must [79, 78] r
   let (b, r) ← name r
   let (l, r) ← names r
   return ({ made 3 with unique := u.1, name := a, on := b, cols := l }, r)
  else fails 120 r
def drop (r : R) : Except Er (St × R) := do
 let h := has [84, 65, 66, 76, 69] r
 let r ← if h.1 then .ok h.2 else must [73, 78, 68, 69, 88] h.2
 let (a, r) ← name r
 return ({ made (if h.1 then 2 else 4) with name := a }, r)
def exprs {α : Type} (read : R → Except Er (α × R)) (r : R) : Except Er (List α × R) := rowF 16 begins read r.l.length 0 r
def valuesRow (r : R) : Except Er (List E × R) := do
 let r ← must [40] r
 let (l, r) ← exprs expr r
 let r ← must [41] r
 return (l, r)
def wher (r : R) : Except Er (E × R) := if isT [87, 72, 69, 82, 69] r then expr (takes r) else .ok (E.none, r)
def insert (r : R) : Except Er (St × R) := do
 let r ← must [73, 78, 84, 79] r
 let (a, r) ← name r
 let (l, r) ← if isT [40] r then names r else .ok ([], r)
 let r ← must [86, 65, 76, 85, 69, 83] r
 let (rows, r) ← rowF 32 (isT [40]) valuesRow r.l.length 0 r
 return ({ made 5 with name := a, cols := l, rows := rows }, r)
def setOf (r : R) : Except Er ((T × E) × R) := do
 let (a, r) ← name r
 let r ← must [61] r
 let (e, r) ← expr r
 return ((a, e), r)
def update (r : R) : Except Er (St × R) := do
 let (a, r) ← name r
 let r ← must [83, 69, 84] r
 let (l, r) ← rowF 16 named setOf r.l.length 0 r
 let (e, r) ← wher r
 return ({ made 6 with name := a, sets := l, wher := e }, r)
def deletes (r : R) : Except Er (St × R) := do
 let r ← must [70, 82, 79, 77] r
 let (a, r) ← name r
 let (e, r) ← wher r
 return ({ made 7 with name := a, wher := e }, r)
def item (r : R) : Except Er ((Bool × E × T) × R) :=
 if isT [42] r then .ok ((true, E.none, []), takes r) else do
  let (e, r) ← expr r
  if isT [65, 83] r then do
   let (a, r) ← name (takes r)
   return ((false, e, a), r)
  else return ((false, e, []), r)
def source (r : R) : Except Er ((T × T) × R) := do
 let (a, r) ← name r
 let (b, r) ← maybe r
 return ((a, b), r)
def orderOf (r : R) : Except Er ((E × Bool) × R) := do
 let (e, r) ← expr r
 let d := has [68, 69, 83, 67] r
 return ((e, d.1), if d.1 then d.2 else (has [65, 83, 67] d.2).2)
def selects (r : R) : Except Er (St × R) := do
 let (items, r) ← rowF 16 (fun r => isT [42] r || begins r) item r.l.length 0 r
 let r ← must [70, 82, 79, 77] r
 let (s, r) ← source r
 let ((frm, join), r) ← if isT [74, 79, 73, 78] r then (do
   let (s2, r) ← source (takes r)
   let r ← must [79, 78] r
   let (e, r) ← expr r
   return (([s, s2], e), r)) else .ok (([s], E.none), r)
 let (w, r) ← wher r
 let (group, r) ← if isT [71, 82, 79, 85, 80] r then (do
   let r ← must [66, 89] (takes r)
   rowF 16 named column r.l.length 0 r) else .ok ([], r)
 let (order, r) ← if isT [79, 82, 68, 69, 82] r then (do
   let r ← must [66, 89] (takes r)
   exprs orderOf r) else .ok ([], r)
 let (limit, r) ← if isT [76, 73, 77, 73, 84] r then (if (nxt (takes r)).kind ≠ 3 then fails 120 (takes r) else do
   let (n, r) ← int 9223372036854775807 (takes r)
   return ((n : Int), r)) else .ok (-1, r)
 return ({ made 8 with items := items, frm := frm, join := join, wher := w, group := group, order := order, limit := limit }, r)
def statement (r : R) : Except Er (St × R) :=
 if isT [67, 82, 69, 65, 84, 69] r && (nxt r).kind == 2 then create (takes r)
 else if isT [68, 82, 79, 80] r && (nxt r).kind == 2 then drop (takes r)
 else if isT [73, 78, 83, 69, 82, 84] r && (nxt r).kind == 2 then insert (takes r)
 else if isT [85, 80, 68, 65, 84, 69] r && (nxt r).kind == 2 then update (takes r)
 else if isT [68, 69, 76, 69, 84, 69] r && (nxt r).kind == 2 then deletes (takes r)
 else if isT [83, 69, 76, 69, 67, 84] r && (nxt r).kind == 2 then selects (takes r)
 else if isT [66, 69, 71, 73, 78] r then .ok (made 9, takes r)
 else if isT [67, 79, 77, 77, 73, 84] r then .ok (made 10, takes r)
 else if isT [82, 79, 76, 76, 66, 65, 67, 75] r then .ok (made 11, takes r)
 else fails 120 r
def parseToks (l : List Tok) : Except Er St := do
 let (x, r) ← statement ⟨l, 0⟩
 let r := (has [59] r).2
 if (nxt r).kind ≠ 0 then fails 120 r else return x
def parse (s : T) : Except Er St := match P11.lexed s with
 | .inr (a, k) => .error (a, k)
 | .inl l => parseToks l
end P12
namespace P11
open P6 (dbl)
theorem textOf_len : ∀ (n : Nat) (l : List UInt8), l.length ≤ n → ∀ x, textOf l = some x → x.1.length ≤ x.2
 | _, [], _, x, h => by simp [textOf] at h
 | _, [c], _, x, h => by
  rw [textOf] at h
  split at h
  ·cases h; simp
  ·cases h
 | 0, _ :: _ :: _, hn, _, _ => by simp at hn
 | n + 1, c :: d :: l, hn, x, h => by
  rw [textOf] at h
  simp only [List.length_cons] at hn
  split at h
  ·split at h
   ·obtain ⟨y, hy, rfl⟩ := Option.map_eq_some_iff.1 h
    have := textOf_len n l (by omega) y hy
    simp only [List.length_cons]; omega
   ·cases h; simp
  ·obtain ⟨y, hy, rfl⟩ := Option.map_eq_some_iff.1 h
   have := textOf_len n (d :: l) (by simp; omega) y hy
   simp only [List.length_cons] at this ⊢; omega
theorem numOf_len : ∀ l : List UInt8, (numOf l).length ≤ l.length
 | [] => by simp [numOf]
 | [c] => by simp [numOf]
 | c :: d :: l => by
  rw [numOf]
  split
  ·have := numOf_len (d :: l)
   simp only [List.length_cons] at this ⊢; omega
  ·exact Nat.le_refl _
theorem step_len {c : UInt8} {t : List UInt8} {n : Nat} {x : Int × List UInt8} (h : step (c :: t) = .inl (n, some x)) : x.2.length ≤ n := by
 rw [step] at h
 split at h
 ·cases h
 split at h
 ·cases h
 split at h
 ·split at h
  ·cases h
  ·rename_i y hy
   split at h
   ·cases h
   ·cases h
    have := textOf_len _ t (Nat.le_refl _) y hy
    dsimp only; omega
 split at h
 ·cases h
  split
  ·simp
  ·simp
 split at h
 ·cases h
  exact numOf_len _
 split at h
 ·cases h
 ·cases h
  exact Nat.le_refl _
def bulk (l : List Tok) : Nat := (l.map fun t => t.text.length + 1).sum
theorem toks_bulk : ∀ (n : Nat) (r : List UInt8) (p : Nat) (l : List Tok), r.length ≤ n → toks r p = .inl l → bulk l ≤ 2 * r.length + 1
 | _, [], p, l, _, h => by rw [toks_nil] at h; cases h; simp [bulk]
 | 0, _ :: _, _, _, hn, _ => by simp at hn
 | n + 1, c :: t, p, l, hn, h => by
  cases hs : step (c :: t) with
  | inr x => rw [toks_err p hs] at h; cases h
  | inl x =>
   have hp := step_pos hs
   rw [toks_step p hs] at h
   cases hr : toks ((c :: t).drop x.1) (p + x.1) with
   | inr y => simp only [hr] at h; cases h
   | inl m =>
    simp only [hr, Sum.inl.injEq] at h
    have ih := toks_bulk n _ _ _ (by simp only [List.length_drop, List.length_cons] at hn hp ⊢; omega) hr
    rw [List.length_drop] at ih
    obtain ⟨k, o⟩ := x
    cases o with
    | none => subst h; dsimp only [withTok] at hp ih ⊢; omega
    | some y =>
     have := step_len hs
     subst h
     simp only [withTok, bulk, List.map_cons, List.sum_cons] at ih ⊢
     dsimp only at hp ih
     omega
theorem bulk_length (l : List Tok) : l.length ≤ bulk l := by
 induction l with
 | nil => simp
 | cons t l ih => simp only [bulk, List.map_cons, List.sum_cons, List.length_cons] at ih ⊢; omega
theorem bulk_at {l : List Tok} {t : Tok} (h : t ∈ l) : t.text.length < bulk l := by
 induction l with
 | nil => cases h
 | cons x l ih =>
  simp only [bulk, List.map_cons, List.sum_cons] at ih ⊢
  rcases List.mem_cons.1 h with rfl | h
  ·omega
  ·have := ih h; omega
theorem step_code {c : UInt8} {t : List UInt8} {x : Nat × Int} (h : step (c :: t) = .inr x) : x.2 = 111 ∨ x.2 = 112 := by
 rw [step] at h
 split at h
 ·cases h
 split at h
 ·cases h
 split at h
 ·split at h
  ·cases h; exact .inr rfl
  ·split at h
   ·cases h; exact .inl rfl
   ·cases h
 split at h
 ·cases h
 split at h
 ·cases h
 split at h
 ·cases h; exact .inl rfl
 ·cases h
theorem toks_code : ∀ (n : Nat) (r : List UInt8) (p : Nat) (x : Nat × Int), r.length ≤ n → toks r p = .inr x → x.2 = 111 ∨ x.2 = 112
 | _, [], p, x, _, h => by rw [toks_nil] at h; cases h
 | 0, _ :: _, _, _, hn, _ => by simp at hn
 | n + 1, c :: t, p, x, hn, h => by
  cases hs : step (c :: t) with
  | inr y => rw [toks_err p hs] at h; cases h; exact step_code (x := y) hs
  | inl y =>
   have hp := step_pos hs
   rw [toks_step p hs] at h
   cases hr : toks ((c :: t).drop y.1) (p + y.1) with
   | inr z =>
    simp only [hr, Sum.inr.injEq] at h
    subst h
    exact toks_code n _ _ _ (by simp only [List.length_drop, List.length_cons] at hn hp ⊢; omega) hr
   | inl m => simp only [hr] at h; cases h
theorem lexed_code {s : List UInt8} {x : Nat × Int} (h : lexed s = .inr x) : x.2 ≠ 0 := by
 unfold lexed at h
 split at h
 ·cases h; decide
 ·rcases toks_code _ s 0 x (Nat.le_refl _) h with e | e <;> rw [e] <;> decide
end P11
namespace P12
open P11 (Tok)
structure TokOk (t : Tok) : Prop where
 kind : 0 ≤ t.kind ∧ t.kind ≤ 5
 len : t.text.length ≤ 8193
 name : t.kind = 1 → t.text ≠ []
 digits : t.kind = 3 → t.text ≠ [] ∧ ∀ c ∈ t.text, 48 ≤ c.toNat ∧ c.toNat ≤ 57
structure Good (r : R) : Prop where
 ends : ∃ a e, r.l = a ++ [e] ∧ e.kind = 0
 toks : ∀ t ∈ r.l, TokOk t
 deep : r.deep ≤ 100
 len : r.l.length ≤ 8193
structure Keeps (r r' : R) : Prop where
 suf : r'.l <:+ r.l
 deep : r'.deep = r.deep
theorem Keeps.refl (r : R) : Keeps r r := ⟨List.suffix_refl _, rfl⟩
theorem Keeps.trans {a b c : R} (h : Keeps a b) (k : Keeps b c) : Keeps a c := ⟨k.suf.trans h.suf, k.deep.trans h.deep⟩
theorem Keeps.le {a b : R} (h : Keeps a b) : b.l.length ≤ a.l.length := h.suf.length_le
theorem Good.head {r : R} (h : Good r) : ∃ t l, r.l = t :: l ∧ nxt r = t := by
 obtain ⟨a, e, h1, -⟩ := h.ends
 cases hl : r.l with
 | nil => rw [hl] at h1; cases a <;> cases h1
 | cons t l => exact ⟨t, l, rfl, by simp [nxt, hl]⟩
theorem Good.pos {r : R} (h : Good r) : 0 < r.l.length := by
 obtain ⟨t, l, h1, -⟩ := h.head
 rw [h1]; simp
theorem Good.nxt_ok {r : R} (h : Good r) : TokOk (nxt r) := by
 obtain ⟨t, l, h1, h2⟩ := h.head
 rw [h2]; exact h.toks t (by rw [h1]; simp)
theorem nxt_get {r : R} (h : Good r) : r.l[0]? = some (nxt r) := by
 obtain ⟨t, l, h1, h2⟩ := h.head
 rw [h1, h2]; rfl
theorem takes_tail {r : R} (h : (nxt r).kind ≠ 0) : takes r = ⟨r.l.tail, r.deep⟩ := by rw [takes, if_neg h]
theorem takes_end {r : R} (h : (nxt r).kind = 0) : takes r = r := by rw [takes, if_pos h]
theorem keeps_takes (r : R) : Keeps r (takes r) := by
 unfold takes
 split
 ·exact Keeps.refl r
 ·exact ⟨List.tail_suffix _, rfl⟩
theorem tail_ends {r : R} (h : Good r) (hk : (nxt r).kind ≠ 0) : ∃ a e, r.l.tail = a ++ [e] ∧ e.kind = 0 := by
 obtain ⟨a, e, h1, h2⟩ := h.ends
 cases a with
 | nil =>
  exfalso; apply hk
  simp [nxt, h1, h2]
 | cons t a => exact ⟨a, e, by rw [h1]; rfl, h2⟩
theorem Good.takes {r : R} (h : Good r) : Good (takes r) := by
 by_cases hk : (nxt r).kind = 0
 ·rwa [takes_end hk]
 ·rw [takes_tail hk]
  exact ⟨tail_ends h hk, fun t ht => h.toks t (List.mem_of_mem_tail ht), h.deep, Nat.le_trans (by simp) h.len⟩
theorem Good.tail_pos {r : R} (h : Good r) (hk : (nxt r).kind ≠ 0) : 1 < r.l.length := by
 obtain ⟨a, e, h1, -⟩ := tail_ends h hk
 have : r.l.tail.length = r.l.length - 1 := by simp
 have h2 : 0 < r.l.tail.length := by rw [h1]; simp
 omega
theorem takes_lt {r : R} (h : Good r) (hk : (nxt r).kind ≠ 0) : (P12.takes r).l.length + 1 = r.l.length := by
 rw [takes_tail hk]
 have := h.pos
 simp; omega
theorem isT_kind {s : T} {r : R} (h : isT s r = true) : (nxt r).kind ≠ 0 := by
 intro hk
 simp [isT, hk] at h
theorem isT_text {s : T} {r : R} (h : isT s r = true) : (nxt r).text = s := by
 simp [isT] at h; exact h.2
theorem tokOk_good {t : Tok} (h : P11.good (P11.kt t)) (hl : t.text.length ≤ 8193) : TokOk t := by
 rcases h with ⟨h1, ⟨c, l, h2, -⟩, -⟩ | ⟨h1, -⟩ | ⟨h1, h2, h3, -⟩ | ⟨h1, -⟩ | ⟨h1, -⟩
 ·simp only [P11.kt] at h1 h2
  exact ⟨by omega, hl, fun _ => by rw [h2]; simp, fun h => by omega⟩
 ·simp only [P11.kt] at h1
  exact ⟨by omega, hl, fun h => by omega, fun h => by omega⟩
 ·simp only [P11.kt] at h1 h2 h3
  refine ⟨by omega, hl, fun h => by omega, fun _ => ⟨h2, fun c hc => ?_⟩⟩
  have := List.all_eq_true.1 h3 c hc
  simp only [P11.digit, Bool.and_eq_true, decide_eq_true_eq, UInt8.le_iff_toNat_le] at this
  exact this
 ·simp only [P11.kt] at h1
  exact ⟨by omega, hl, fun h => by omega, fun h => by omega⟩
 ·simp only [P11.kt] at h1
  exact ⟨by omega, hl, fun h => by omega, fun h => by omega⟩
theorem lexed_good {s : List UInt8} {l : List Tok} (h : P11.lexed s = .inl l) : Good ⟨l, 0⟩ := by
 unfold P11.lexed at h
 split at h
 ·cases h
 ·rename_i hs
  have hb := P11.toks_bulk _ s 0 l (Nat.le_refl _) h
  obtain ⟨l', rfl, hg⟩ := P11.toks_form _ s 0 l (Nat.le_refl _) h
  refine ⟨⟨l', _, rfl, rfl⟩, fun t ht => ?_, Nat.zero_le _, ?_⟩
  ·have hlt := P11.bulk_at ht
   rcases List.mem_append.1 ht with ht | ht
   ·exact tokOk_good (hg t ht) (by simp only [Nat.zero_add] at hb hlt ⊢; omega)
   ·simp only [List.mem_singleton] at ht
    subst ht
    exact ⟨⟨Int.le_refl 0, (by decide : (0 : Int) ≤ 5)⟩, by simp, fun h => absurd h (by simp), fun h => absurd h (by simp)⟩
  ·have := P11.bulk_length (l' ++ [⟨0, [], 0 + s.length⟩])
   show (l' ++ [_]).length ≤ 8193
   omega
end P12
namespace P12
open P11 (words)
def nameC (i : Nat) (c : UInt8) : Bool := c == 95 || (97 ≤ c && c ≤ 122) || (48 ≤ c && c ≤ 57 && i != 0)
def nameOk : Nat → T → Bool
 | _, [] => true
 | i, c :: l => nameC i c && nameOk (i + 1) l
def isName (s : T) : Bool := s != [] && decide (s.length ≤ 24) && !words.contains (s.map Go.Lib.upperB) && nameOk 0 s
def maybeName (s : T) : Bool := s == [] || isName s
def isE : E → Bool
 | .none => false
 | .val k i s => P6.isV k i s && decide (-9223372036854775808 ≤ i) && decide (i ≤ 9223372036854775807)
 | .col t n => isName n && maybeName t
 | .una op a => decide (15 ≤ op) && decide (op ≤ 18) && isE a
 | .bin op a b => decide (1 ≤ op) && decide (op ≤ 14) && isE a && isE b
 | .call op a => decide (20 ≤ op) && decide (op ≤ 23) && isE a
 | .all => true
def noE : E → Bool
 | .none => true
 | _ => false
def maybeE (e : E) : Bool := noE e || isE e
def some {α : Type} (l : List α) (most : Nat) (p : α → Bool) : Bool := decide (1 ≤ l.length) && decide (l.length ≤ most) && l.all p
def isCol : E → Bool
 | .col t n => isE (.col t n)
 | _ => false
def tabOk (t : Tb) (k : List (List T)) : Bool :=
 isName t.name && decide (1 ≤ t.cols.length + t.keys.length + t.checks.length) && decide (t.cols.length + t.keys.length + t.checks.length ≤ 16) && k.length == t.keys.length &&
  k.all (fun l => some l 16 isName) && t.checks.all isE && t.cols.all (fun c => isName c.1 && decide (1 ≤ c.2.1) && decide (c.2.1 ≤ 3))
def itemOk (x : Bool × E × T) : Bool := if x.1 then noE x.2.1 && x.2.2 == [] else isE x.2.1 && maybeName x.2.2
def selOk (x : St) : Bool :=
 some x.items 16 itemOk && some x.frm 2 (fun s => isName s.1 && maybeName s.2) && maybeE x.wher && (if x.frm.length = 2 then isE x.join else noE x.join) &&
  decide (x.group.length ≤ 16) && x.group.all isCol && decide (x.order.length ≤ 16) && x.order.all (fun o => isE o.1) && decide (-1 ≤ x.limit) && decide (x.limit ≤ 9223372036854775807)
def keptOf (x : St) : St :=
 if x.kind = 1 then { kind := 1, tb := x.tb, keyCols := x.keyCols }
 else if x.kind = 3 then { kind := 3, name := x.name, on := x.on, unique := x.unique, cols := x.cols }
 else if x.kind = 5 then { kind := 5, name := x.name, cols := x.cols, rows := x.rows }
 else if x.kind = 6 then { kind := 6, name := x.name, sets := x.sets, wher := x.wher }
 else if x.kind = 7 then { kind := 7, name := x.name, wher := x.wher }
 else if x.kind = 8 then { kind := 8, items := x.items, frm := x.frm, join := x.join, wher := x.wher, group := x.group, order := x.order, limit := x.limit }
 else if x.kind = 2 ∨ x.kind = 4 then { kind := x.kind, name := x.name }
 else { kind := x.kind }
def isS (x : St) : Prop :=
 x = keptOf x ∧ ((x.kind = 1 ∧ tabOk x.tb x.keyCols = true) ∨ (x.kind = 2 ∧ isName x.name = true) ∨ (x.kind = 4 ∧ isName x.name = true) ∨
  (x.kind = 3 ∧ isName x.name = true ∧ isName x.on = true ∧ some x.cols 16 isName = true) ∨
  (x.kind = 5 ∧ isName x.name = true ∧ (x.cols = [] ∨ some x.cols 16 isName = true) ∧ some x.rows 32 (fun l => some l 16 isE) = true) ∨
  (x.kind = 6 ∧ isName x.name = true ∧ some x.sets 16 (fun s => isName s.1 && isE s.2) = true ∧ maybeE x.wher = true) ∨
  (x.kind = 7 ∧ isName x.name = true ∧ maybeE x.wher = true) ∨ (x.kind = 8 ∧ selOk x = true) ∨ x.kind = 9 ∨ x.kind = 10 ∨ x.kind = 11)
def signOf (op : Int) : T :=
 if op = 1 then [79, 82] else if op = 2 then [65, 78, 68] else if op = 3 then [61] else if op = 4 then [60, 62] else if op = 5 then [60] else if op = 6 then [60, 61] else if op = 7 then [62] else if op = 8 then [62, 61]
 else if op = 9 then [43] else if op = 10 then [45] else if op = 11 then [42] else if op = 12 then [47] else if op = 13 then [37] else if op = 14 then [124, 124] else []
def closed (op : Int) : E → Bool
 | .una _ _ => true
 | .bin _ _ _ => true
 | .val k _ _ => op == 16 && k == 2
 | _ => false
def inBr (b : Bool) (t : T) : T := if b then [40] ++ t ++ [41] else t
def fnWord (op : Int) : T := if op = 20 then [67, 79, 85, 78, 84] else if op = 21 then [83, 85, 77] else if op = 22 then [77, 73, 78] else if op = 23 then [77, 65, 88] else []
def text : E → T
 | .none => []
 | .val k i s => P6.printV k i s
 | .col t n => if t = [] then n else t ++ [46] ++ n
 | .bin op a b => inBr (closed op a) (text a) ++ [32] ++ signOf op ++ [32] ++ inBr (closed op b) (text b)
 | .una op a =>
  if op = 15 then [78, 79, 84, 32] ++ inBr (closed op a) (text a) else if op = 16 then [45, 32] ++ inBr (closed op a) (text a)
  else if op = 17 then inBr (closed op a) (text a) ++ [32, 73, 83, 32, 78, 85, 76, 76] else inBr (closed op a) (text a) ++ [32, 73, 83, 32, 78, 79, 84, 32, 78, 85, 76, 76]
 | .all => [67, 79, 85, 78, 84, 40, 42, 41]
 | .call op a => fnWord op ++ [40] ++ text a ++ [41]
def join (l : List T) : T := Go.Lib.join l [44, 32]
def typeWord (ty : Int) : T := if ty = 1 then [66, 79, 79, 76] else if ty = 2 then [73, 78, 84] else if ty = 3 then [84, 69, 88, 84] else []
def colText (c : T × Int × Bool) : T := c.1 ++ [32] ++ typeWord c.2.1 ++ (if c.2.2 then [32, 78, 79, 84, 32, 78, 85, 76, 76] else [])
def keyText (p : Bool) (l : List T) : T := (if p then [80, 82, 73, 77, 65, 82, 89, 32, 75, 69, 89] else [85, 78, 73, 81, 85, 69]) ++ [32, 40] ++ join l ++ [41]
def tabText (t : Tb) (k : List (List T)) : T :=
 [67, 82, 69, 65, 84, 69, 32, 84, 65, 66, 76, 69, 32] ++ t.name ++ [32, 40] ++ join (t.cols.map colText ++ (List.zipWith keyText t.keys k) ++ t.checks.map (fun e => [67, 72, 69, 67, 75, 32, 40] ++ text e ++ [41])) ++ [41]
def whereText (e : E) : T := if noE e then [] else [32, 87, 72, 69, 82, 69, 32] ++ text e
def itemText (x : Bool × E × T) : T := if x.1 then [42] else if x.2.2 = [] then text x.2.1 else text x.2.1 ++ [32, 65, 83, 32] ++ x.2.2
def srcText (s : T × T) : T := if s.2 = [] then s.1 else s.1 ++ [32] ++ s.2
def ordText (o : E × Bool) : T := if o.2 then text o.1 ++ [32, 68, 69, 83, 67] else text o.1
def selText (x : St) : T :=
 [83, 69, 76, 69, 67, 84, 32] ++ join (x.items.map itemText) ++ [32, 70, 82, 79, 77, 32] ++ srcText (x.frm.headD ([], [])) ++
  (if x.frm.length ≤ 1 then [] else [32, 74, 79, 73, 78, 32] ++ srcText (x.frm.tail.headD ([], [])) ++ [32, 79, 78, 32] ++ text x.join) ++ whereText x.wher ++
  (if x.group = [] then [] else [32, 71, 82, 79, 85, 80, 32, 66, 89, 32] ++ join (x.group.map text)) ++ (if x.order = [] then [] else [32, 79, 82, 68, 69, 82, 32, 66, 89, 32] ++ join (x.order.map ordText)) ++
  (if x.limit < 0 then [] else [32, 76, 73, 77, 73, 84, 32] ++ Go.Lib.itoa x.limit)
def colsText (l : List T) : T := if l = [] then [] else [32, 40] ++ join l ++ [41]
def rowText (l : List E) : T := [40] ++ join (l.map text) ++ [41]
def setText (s : T × E) : T := s.1 ++ [32, 61, 32] ++ text s.2
def print (x : St) : T :=
 if x.kind = 1 then tabText x.tb x.keyCols
 else if x.kind = 2 then [68, 82, 79, 80, 32, 84, 65, 66, 76, 69, 32] ++ x.name
 else if x.kind = 3 then (if x.unique then [67, 82, 69, 65, 84, 69, 32, 85, 78, 73, 81, 85, 69, 32, 73, 78, 68, 69, 88, 32] else [67, 82, 69, 65, 84, 69, 32, 73, 78, 68, 69, 88, 32]) ++ x.name ++ [32, 79, 78, 32] ++ x.on ++ colsText x.cols
 else if x.kind = 4 then [68, 82, 79, 80, 32, 73, 78, 68, 69, 88, 32] ++ x.name
 else if x.kind = 5 then [73, 78, 83, 69, 82, 84, 32, 73, 78, 84, 79, 32] ++ x.name ++ colsText x.cols ++ [32, 86, 65, 76, 85, 69, 83, 32] ++ join (x.rows.map rowText)
 else if x.kind = 6 then [85, 80, 68, 65, 84, 69, 32] ++ x.name ++ [32, 83, 69, 84, 32] ++ join (x.sets.map setText) ++ whereText x.wher
 else if x.kind = 7 then [68, 69, 76, 69, 84, 69, 32, 70, 82, 79, 77, 32] ++ x.name ++ whereText x.wher
 else if x.kind = 8 then selText x
 else if x.kind = 9 then [66, 69, 71, 73, 78] else if x.kind = 10 then [67, 79, 77, 77, 73, 84] else [82, 79, 76, 76, 66, 65, 67, 75]
end P12
namespace P12
def knownT1 : T := [115, 101, 108, 101, 99, 116, 32, 97, 46, 120, 43, 49, 32, 97, 115, 32, 121, 32, 102, 114, 111, 109, 32, 116, 32, 97, 32, 119, 104, 101, 114, 101, 32, 110, 111, 116, 32, 120, 32, 61, 32, 39, 98, 39, 32, 108, 105, 109, 105, 116, 32, 51]
def knownT2 : T := [83, 69, 76, 69, 67, 84, 32, 97, 46, 120, 32, 43, 32, 49, 32, 65, 83, 32, 121, 32, 70, 82, 79, 77, 32, 116, 32, 97, 32, 87, 72, 69, 82, 69, 32, 78, 79, 84, 32, 40, 120, 32, 61, 32, 39, 98, 39, 41, 32, 76, 73, 77, 73, 84, 32, 51]
def knownT3 : T := [83, 69, 76, 69, 67, 84, 32, 49, 32, 61, 32, 50, 32, 61, 32, 51, 32, 70, 82, 79, 77, 32, 116]
def knownS : St := { kind := 8, items := [(false, .bin 9 (.col [97] [120]) (.val 2 1 []), [121])], frm := [([116], [97])], wher := .una 15 (.bin 3 (.col [] [120]) (.val 3 0 [98])), limit := 3 }
theorem known1 : parse knownT1 = .ok knownS := by rfl
theorem itoa_small (n : Int) (h : 0 ≤ n) (h2 : n < 10) : Go.Lib.itoa n = [48 + UInt8.ofNat n.toNat] := by
 have : n = 0 ∨ n = 1 ∨ n = 2 ∨ n = 3 ∨ n = 4 ∨ n = 5 ∨ n = 6 ∨ n = 7 ∨ n = 8 ∨ n = 9 := by omega
 rcases this with rfl | rfl | rfl | rfl | rfl | rfl | rfl | rfl | rfl | rfl <;> (unfold Go.Lib.itoa Go.Lib.decDigits; rfl)
theorem known2 : print knownS = knownT2 := by
 have h1 : text (.val 2 1 []) = [49] := by unfold text P6.printV; rw [if_pos (by rfl)]; simp [itoa_small]
 have h2 : text (.val 3 0 [98]) = [39, 98, 39] := by rfl
 have h3 : Go.Lib.itoa 3 = [51] := itoa_small 3 (by decide) (by decide)
 have e1 : text (.bin 9 (.col [97] [120]) (.val 2 1 [])) = [97, 46, 120, 32, 43, 32, 49] := by
  rw [text, h1]; rfl
 have e2 : text (.una 15 (.bin 3 (.col [] [120]) (.val 3 0 [98]))) = [78, 79, 84, 32, 40, 120, 32, 61, 32, 39, 98, 39, 41] := by
  rw [text, text, h2]; rfl
 simp [print, knownS, selText, itemText, join, Go.Lib.join, srcText, whereText, noE, e1, e2, h3, knownT2, List.intercalate]
theorem known3 : parse knownT3 = .error (13, 120) := by rfl
end P12
namespace P12
open P11 (Tok toks after)
def Stops (l : List Tok) : Prop := ∃ t r, l = t :: r ∧ (t.kind = 0 ∨ t.text = [41] ∨ t.text = [70, 82, 79, 77])
theorem Stops.no {l : List Tok} (h : Stops l) (d : Nat) (s : T) (hs : (s == [41] || s == [70, 82, 79, 77]) = false) : isT s ⟨l, d⟩ = false := by
 obtain ⟨t, r, rfl, h0 | ht⟩ := h
 ·unfold isT nxt
  simp [h0]
 have h2 : (t.text == s) = false := by
  simp only [Bool.or_eq_false_iff, beq_eq_false_iff_ne, ne_eq] at hs ⊢
  rcases ht with ht | ht
  ·rw [ht]; exact fun e => hs.1 e.symm
  ·rw [ht]; exact fun e => hs.2 e.symm
 unfold isT nxt
 simp [h2]
theorem Stops.pos {l : List Tok} (h : Stops l) : ∃ n, l.length = n + 1 := by
 obtain ⟨t, r, rfl, -⟩ := h
 exact ⟨_, rfl⟩
theorem binary_stop {part : R → Except Er (E × R)} {ops : List (T × Int)} {r : R} {e : E} {l : List Tok} {d : Nat} (h : part r = .ok (e, ⟨l, d⟩)) (hl : Stops l) (ho : ∀ o ∈ ops, (o.1 == [41] || o.1 == [70, 82, 79, 77]) = false) : binary part ops r = .ok (e, ⟨l, d⟩) := by
 unfold binary
 rw [h]
 obtain ⟨n, hn⟩ := hl.pos
 show binF part ops l.length e ⟨l, d⟩ = _
 rw [hn, binF]
 have : (ops.find? fun o => isT o.1 ⟨l, d⟩) = none := List.find?_eq_none.2 fun o h => by rw [hl.no d o.1 (ho o h)]; simp
 rw [this]
theorem binary_err {part : R → Except Er (E × R)} {ops : List (T × Int)} {r : R} {x : Er} (h : part r = .error x) : binary part ops r = .error x := by
 unfold binary; rw [h]
theorem expr_stop {f : Nat} {r : R} {e : E} {l : List Tok} {d : Nat} (hr : isT [78, 79, 84] r = false) (h : factorF (exprF f) (f + 1) r = .ok (e, ⟨l, d⟩)) (hl : Stops l) : exprF (f + 1) r = .ok (e, ⟨l, d⟩) := by
 have h1 : productF (exprF f) (f + 1) r = .ok (e, ⟨l, d⟩) := binary_stop h hl (by decide)
 have h2 : sumF (exprF f) (f + 1) r = .ok (e, ⟨l, d⟩) := binary_stop h1 hl (by decide)
 have h3 : testF (exprF f) (f + 1) r = .ok (e, ⟨l, d⟩) := by
  unfold testF test
  rw [h2]
  have : (cmpOps.find? fun o => isT o.1 ⟨l, d⟩) = none := List.find?_eq_none.2 fun o h => by
   rw [hl.no d o.1 (by revert o; decide)]; simp
  simp only [this, hl.no d [73, 83] (by decide)]
  rfl
 have h4 : notF (testF (exprF f) (f + 1)) (f + 1) r = .ok (e, ⟨l, d⟩) := by
  rw [notF, if_pos hr]
  exact h3
 have h5 : andF (exprF f) (f + 1) r = .ok (e, ⟨l, d⟩) := binary_stop h4 hl (by decide)
 rw [exprF]
 exact binary_stop h5 hl (by decide)
theorem expr_err {f : Nat} {r : R} {x : Er} (hr : isT [78, 79, 84] r = false) (h : factorF (exprF f) (f + 1) r = .error x) : exprF (f + 1) r = .error x := by
 have h1 : productF (exprF f) (f + 1) r = .error x := binary_err h
 have h2 : sumF (exprF f) (f + 1) r = .error x := binary_err h1
 have h3 : testF (exprF f) (f + 1) r = .error x := by unfold testF test; rw [h2]
 have h4 : notF (testF (exprF f) (f + 1)) (f + 1) r = .error x := by
  rw [notF, if_pos hr]
  exact h3
 have h5 : andF (exprF f) (f + 1) r = .error x := binary_err h4
 rw [exprF]
 exact binary_err h5
end P12
namespace P12
open P11 (Tok toks after digit numOf)
open Go.Lib (itoa decDigits)
theorem digit_ten {c : UInt8} (h : digit c = true) : c = 48 ∨ c = 49 ∨ c = 50 ∨ c = 51 ∨ c = 52 ∨ c = 53 ∨ c = 54 ∨ c = 55 ∨ c = 56 ∨ c = 57 := by
 simp only [digit, Bool.and_eq_true, decide_eq_true_eq, UInt8.le_iff_toNat_le] at h
 have h2 : 48 ≤ c.toNat ∧ c.toNat ≤ 57 := h
 have : c.toNat = 48 ∨ c.toNat = 49 ∨ c.toNat = 50 ∨ c.toNat = 51 ∨ c.toNat = 52 ∨ c.toNat = 53 ∨ c.toNat = 54 ∨ c.toNat = 55 ∨ c.toNat = 56 ∨ c.toNat = 57 := by omega
 have hb : ∀ n : UInt8, c.toNat = n.toNat → c = n := fun n h => UInt8.toNat_inj.1 h
 rcases this with e | e | e | e | e | e | e | e | e | e
 ·exact .inl (hb 48 e)
 ·exact .inr (.inl (hb 49 e))
 ·exact .inr (.inr (.inl (hb 50 e)))
 ·exact .inr (.inr (.inr (.inl (hb 51 e))))
 ·exact .inr (.inr (.inr (.inr (.inl (hb 52 e)))))
 ·exact .inr (.inr (.inr (.inr (.inr (.inl (hb 53 e))))))
 ·exact .inr (.inr (.inr (.inr (.inr (.inr (.inl (hb 54 e)))))))
 ·exact .inr (.inr (.inr (.inr (.inr (.inr (.inr (.inl (hb 55 e))))))))
 ·exact .inr (.inr (.inr (.inr (.inr (.inr (.inr (.inr (.inl (hb 56 e)))))))))
 ·exact .inr (.inr (.inr (.inr (.inr (.inr (.inr (.inr (.inr (hb 57 e)))))))))
theorem takeWhile_all {α : Type} (p : α → Bool) : ∀ l : List α, (∀ c ∈ l, p c = true) → l.takeWhile p = l
 | [], _ => rfl
 | c :: l, h => by rw [List.takeWhile_cons, if_pos (h c (by simp)), takeWhile_all p l fun c hc => h c (by simp [hc])]
theorem toks_num (c : UInt8) (l : T) (h : ∀ x ∈ c :: l, digit x = true) (p : Nat) : ∃ q, toks (c :: l) p = .inl [⟨3, numOf (c :: l), p⟩, ⟨0, [], q⟩] := by
 have hs : P11.step (c :: l) = .inl ((c :: l).length, .some (3, numOf (c :: l))) := by
  have ht := takeWhile_all digit (c :: l) h
  have h1 : ∀ x : (Nat × Option (Int × List UInt8)) ⊕ (Nat × Int), (if digit c then (.inl (((c :: l).takeWhile digit).length, .some (3, numOf ((c :: l).takeWhile digit)))) else x) = .inl ((c :: l).length, .some (3, numOf (c :: l))) := fun x => by
   rw [if_pos (h c (by simp)), ht]
  rcases digit_ten (h c (by simp)) with rfl | rfl | rfl | rfl | rfl | rfl | rfl | rfl | rfl | rfl <;> exact h1 (.inr (0, 111))
 refine ⟨p + (c :: l).length, ?_⟩
 have := P11.after_some (p := p) (acc := []) hs
 rw [P11.after_nil] at this
 rw [this, List.drop_length, P11.toks_nil]
 rfl
theorem toks_minus (c : UInt8) (l : T) (h : ∀ x ∈ c :: l, digit x = true) (p : Nat) : ∃ q, toks (45 :: c :: l) p = .inl [⟨5, [45], p⟩, ⟨3, numOf (c :: l), p + 1⟩, ⟨0, [], q⟩] := by
 have hs : P11.step (45 :: c :: l) = .inl (1, .some (5, [45])) := by
  rcases digit_ten (h c (by simp)) with rfl | rfl | rfl | rfl | rfl | rfl | rfl | rfl | rfl | rfl <;> rfl
 obtain ⟨q, hq⟩ := toks_num c l h (p + 1)
 refine ⟨q, ?_⟩
 have := P11.after_some (p := p) (acc := []) hs
 rw [P11.after_nil] at this
 rw [this]
 show after _ (toks (c :: l) (p + 1)) = _
 rw [hq]; rfl
def numHead : T := [68, 69, 76, 69, 84, 69, 32, 70, 82, 79, 77, 32, 116, 32, 87, 72, 69, 82, 69, 32]
theorem toks_head (r : T) : toks (numHead ++ r) 0 = after [⟨2, [68, 69, 76, 69, 84, 69], 0⟩, ⟨2, [70, 82, 79, 77], 7⟩, ⟨1, [116], 12⟩, ⟨2, [87, 72, 69, 82, 69], 14⟩] (toks r 20) := by
 have h1 := P11.after_some (c := 68) (t := 69 :: 76 :: 69 :: 84 :: 69 :: 32 :: 70 :: 82 :: 79 :: 77 :: 32 :: 116 :: 32 :: 87 :: 72 :: 69 :: 82 :: 69 :: 32 :: r) (n := 6) (k := 2) (u := [68, 69, 76, 69, 84, 69]) (p := 0) (acc := []) rfl
 rw [P11.after_nil] at h1
 show toks (68 :: 69 :: 76 :: 69 :: 84 :: 69 :: 32 :: 70 :: 82 :: 79 :: 77 :: 32 :: 116 :: 32 :: 87 :: 72 :: 69 :: 82 :: 69 :: 32 :: r) 0 = _
 rw [h1]
 show after _ (toks (32 :: 70 :: 82 :: 79 :: 77 :: 32 :: 116 :: 32 :: 87 :: 72 :: 69 :: 82 :: 69 :: 32 :: r) 6) = _
 rw [P11.after_none (c := 32) (n := 1) rfl]
 show after _ (toks (70 :: 82 :: 79 :: 77 :: 32 :: 116 :: 32 :: 87 :: 72 :: 69 :: 82 :: 69 :: 32 :: r) 7) = _
 rw [P11.after_some (c := 70) (n := 4) (k := 2) (u := [70, 82, 79, 77]) rfl]
 show after _ (toks (32 :: 116 :: 32 :: 87 :: 72 :: 69 :: 82 :: 69 :: 32 :: r) 11) = _
 rw [P11.after_none (c := 32) (n := 1) rfl]
 show after _ (toks (116 :: 32 :: 87 :: 72 :: 69 :: 82 :: 69 :: 32 :: r) 12) = _
 rw [P11.after_some (c := 116) (n := 1) (k := 1) (u := [116]) rfl]
 show after _ (toks (32 :: 87 :: 72 :: 69 :: 82 :: 69 :: 32 :: r) 13) = _
 rw [P11.after_none (c := 32) (n := 1) rfl]
 show after _ (toks (87 :: 72 :: 69 :: 82 :: 69 :: 32 :: r) 14) = _
 rw [P11.after_some (c := 87) (n := 5) (k := 2) (u := [87, 72, 69, 82, 69]) rfl]
 show after _ (toks (32 :: r) 19) = _
 rw [P11.after_none (c := 32) (n := 1) rfl]
 rfl
theorem num_parse {r : T} (hr : r.length ≤ 200) {L : List Tok} {e : E} {q : Nat} (hL : toks r 20 = .inl (L ++ [⟨0, [], q⟩])) (hn : isT [78, 79, 84] ⟨L ++ [⟨0, [], q⟩], 0⟩ = false) (hf : factorF (exprF 100) 101 ⟨L ++ [⟨0, [], q⟩], 0⟩ = .ok (e, ⟨[⟨0, [], q⟩], 0⟩)) : parse (numHead ++ r) = .ok { kind := 7, name := [116], wher := e } := by
 have hex := expr_stop hn hf ⟨_, _, rfl, .inl rfl⟩
 unfold parse P11.lexed
 rw [if_neg (by simp only [List.length_append]; show ¬ 4096 < 20 + r.length; omega), toks_head, hL]
 generalize L ++ [⟨0, [], q⟩] = M at *
 have hw : wher ⟨⟨2, [87, 72, 69, 82, 69], 14⟩ :: M, 0⟩ = .ok (e, ⟨[⟨0, [], q⟩], 0⟩) := hex
 have hd : deletes ⟨⟨2, [70, 82, 79, 77], 7⟩ :: ⟨1, [116], 12⟩ :: ⟨2, [87, 72, 69, 82, 69], 14⟩ :: M, 0⟩ = .ok ({ kind := 7, name := [116], wher := e }, ⟨[⟨0, [], q⟩], 0⟩) := by
  show (do let (e, r) ← wher ⟨⟨2, [87, 72, 69, 82, 69], 14⟩ :: M, 0⟩; _) = _
  rw [hw]; rfl
 show parseToks (⟨2, [68, 69, 76, 69, 84, 69], 0⟩ :: ⟨2, [70, 82, 79, 77], 7⟩ :: ⟨1, [116], 12⟩ :: ⟨2, [87, 72, 69, 82, 69], 14⟩ :: M) = _
 unfold parseToks
 show (do let (x, r) ← deletes ⟨⟨2, [70, 82, 79, 77], 7⟩ :: ⟨1, [116], 12⟩ :: ⟨2, [87, 72, 69, 82, 69], 14⟩ :: M, 0⟩; _) = _
 rw [hd]; rfl
theorem num_parse_err {r : T} (hr : r.length ≤ 200) {L : List Tok} {x : Er} (hL : toks r 20 = .inl L) (hn : isT [78, 79, 84] ⟨L, 0⟩ = false) (hf : factorF (exprF 100) 101 ⟨L, 0⟩ = .error x) : parse (numHead ++ r) = .error x := by
 have hex := expr_err hn hf
 unfold parse P11.lexed
 rw [if_neg (by simp only [List.length_append]; show ¬ 4096 < 20 + r.length; omega), toks_head, hL]
 have hw : wher ⟨⟨2, [87, 72, 69, 82, 69], 14⟩ :: L, 0⟩ = .error x := hex
 have hd : deletes ⟨⟨2, [70, 82, 79, 77], 7⟩ :: ⟨1, [116], 12⟩ :: ⟨2, [87, 72, 69, 82, 69], 14⟩ :: L, 0⟩ = .error x := by
  show (do let (e, r) ← wher ⟨⟨2, [87, 72, 69, 82, 69], 14⟩ :: L, 0⟩; _) = _
  rw [hw]; rfl
 show parseToks (⟨2, [68, 69, 76, 69, 84, 69], 0⟩ :: ⟨2, [70, 82, 79, 77], 7⟩ :: ⟨1, [116], 12⟩ :: ⟨2, [87, 72, 69, 82, 69], 14⟩ :: L) = _
 unfold parseToks
 show (do let (x, r) ← deletes ⟨⟨2, [70, 82, 79, 77], 7⟩ :: ⟨1, [116], 12⟩ :: ⟨2, [87, 72, 69, 82, 69], 14⟩ :: L, 0⟩; _) = _
 rw [hd]; rfl
theorem dec_snoc (l : T) (c : UInt8) : dec (l ++ [c]) = 10 * dec l + (c.toNat - 48) := by simp [dec]
theorem digit_byte {k : Nat} (h : k < 10) : (UInt8.ofNat (48 + k)).toNat = 48 + k := by simp; omega
theorem dec_decDigits : ∀ (n u : Nat), u ≤ n → dec (decDigits u) = u ∧ (∀ c ∈ decDigits u, digit c = true) ∧ (∃ c l, decDigits u = c :: l ∧ (0 < u → c ≠ 48) ∧ (l ≠ [] → c ≠ 48))
 | n, u, hn => by
  by_cases h : u < 10
  ·rw [decDigits, dif_pos h]
   have hb := digit_byte h
   refine ⟨by simp [dec, hb]; omega, fun c hc => ?_, _, [], rfl, fun h0 e => ?_, fun h => absurd rfl h⟩
   ·simp only [List.mem_singleton] at hc
    subst hc
    simp only [digit, Bool.and_eq_true, decide_eq_true_eq, UInt8.le_iff_toNat_le, hb]
    exact ⟨by show 48 ≤ _; omega, by show _ ≤ 57; omega⟩
   ·rw [e] at hb
    have : (48 : UInt8).toNat = 48 := rfl
    omega
  ·match n, hn with
   | 0, hn => omega
   | n + 1, hn =>
    obtain ⟨h1, h2, c, l, h3, h4, h5⟩ := dec_decDigits n (u / 10) (by omega)
    have hb := digit_byte (show u % 10 < 10 by omega)
    rw [decDigits, dif_neg h]
    refine ⟨by rw [dec_snoc, h1, hb]; omega, fun x hx => ?_, c, l ++ [UInt8.ofNat (48 + u % 10)], by rw [h3]; rfl, fun _ => h4 (by omega), fun _ => h4 (by omega)⟩
    rcases List.mem_append.1 hx with hx | hx
    ·exact h2 x hx
    ·simp only [List.mem_singleton] at hx
     subst hx
     simp only [digit, Bool.and_eq_true, decide_eq_true_eq, UInt8.le_iff_toNat_le, hb]
     exact ⟨by show 48 ≤ _; omega, by show _ ≤ 57; omega⟩
theorem numOf_same {c : UInt8} {l : T} (h : l ≠ [] → c ≠ 48) : numOf (c :: l) = c :: l := by
 cases l with
 | nil => rfl
 | cons d l => rw [numOf, if_neg (h (by simp))]
theorem numOf_zeros (c : UInt8) (l : T) (hc : c ≠ 48) : ∀ k, numOf (List.replicate k 48 ++ c :: l) = c :: l
 | 0 => numOf_same fun _ => hc
 | k + 1 => by
  rw [List.replicate_succ, List.cons_append]
  have ih := numOf_zeros c l hc k
  cases hk : List.replicate k 48 ++ c :: l with
  | nil => simp at hk
  | cons d m => rw [numOf, if_pos rfl, ← hk, ih]
theorem foldl_big : ∀ (l : T) (a : Nat), a * 10 ^ l.length ≤ l.foldl (fun a c => 10 * a + (c.toNat - 48)) a
 | [], a => by simp
 | c :: l, a => by
  have h := foldl_big l (10 * a + (c.toNat - 48))
  rw [List.foldl_cons]
  refine Nat.le_trans ?_ h
  rw [List.length_cons, Nat.pow_succ]
  have : a * (10 ^ l.length * 10) = (10 * a) * 10 ^ l.length := by rw [Nat.mul_comm 10 a, Nat.mul_assoc, Nat.mul_comm 10]
  rw [this]
  exact Nat.mul_le_mul_right _ (by omega)
theorem dec_big (c : UInt8) (l : T) (hc : 49 ≤ c.toNat) (hl : 19 ≤ l.length) : 9223372036854775807 < dec (c :: l) := by
 have h := foldl_big l (10 * 0 + (c.toNat - 48))
 have h2 : (10 : Nat) ^ 19 ≤ 10 ^ l.length := Nat.pow_le_pow_right (by omega) hl
 have h3 : 1 * 10 ^ l.length ≤ (10 * 0 + (c.toNat - 48)) * 10 ^ l.length := Nat.mul_le_mul_right _ (by omega)
 have h4 : dec (c :: l) = l.foldl (fun a c => 10 * a + (c.toNat - 48)) (10 * 0 + (c.toNat - 48)) := rfl
 rw [h4]
 have : (10 : Nat) ^ 19 = 10000000000000000000 := rfl
 omega
theorem factor_int {s : T} {p q : Nat} {f g : Nat} {rest : List Tok} (h : dec s ≤ 9223372036854775807) : factorF (exprF f) (g + 1) ⟨⟨3, s, p⟩ :: rest, 0⟩ = .ok (.val 2 (dec s) [], ⟨rest, 0⟩) := by
 have hi : int 9223372036854775807 ⟨⟨3, s, p⟩ :: rest, 0⟩ = .ok (dec s, ⟨rest, 0⟩) := by
  unfold int
  rw [if_neg (show ¬ 9223372036854775807 < dec (nxt ⟨⟨3, s, p⟩ :: rest, 0⟩).text from (show ¬ 9223372036854775807 < dec s by omega))]; rfl
 rw [factorF, if_pos (show isT [45] ⟨⟨3, s, p⟩ :: rest, 0⟩ = false from rfl)]
 unfold primary
 show (match int 9223372036854775807 ⟨⟨3, s, p⟩ :: rest, 0⟩ with | .error e => Except.error e | .ok (n, r) => .ok (E.val 2 n [], r)) = _
 rw [hi]
theorem factor_big {s : T} {p : Nat} {f g : Nat} {rest : List Tok} (h : 9223372036854775807 < dec s) : factorF (exprF f) (g + 1) ⟨⟨3, s, p⟩ :: rest, 0⟩ = .error (p, 123) := by
 have hi : int 9223372036854775807 ⟨⟨3, s, p⟩ :: rest, 0⟩ = .error (p, 123) := by
  unfold int
  rw [if_pos (show 9223372036854775807 < dec (nxt ⟨⟨3, s, p⟩ :: rest, 0⟩).text from h)]; rfl
 rw [factorF, if_pos (show isT [45] ⟨⟨3, s, p⟩ :: rest, 0⟩ = false from rfl)]
 unfold primary
 show (match int 9223372036854775807 ⟨⟨3, s, p⟩ :: rest, 0⟩ with | .error e => Except.error e | .ok (n, r) => .ok (E.val 2 n [], r)) = _
 rw [hi]
theorem factor_minus {s : T} {p p2 : Nat} {f g : Nat} {rest : List Tok} (h : dec s ≤ 9223372036854775808) : factorF (exprF f) (g + 1) ⟨⟨5, [45], p⟩ :: ⟨3, s, p2⟩ :: rest, 0⟩ = .ok (.val 2 (-(dec s : Int)) [], ⟨rest, 0⟩) := by
 have hi : int 9223372036854775808 (takes ⟨⟨5, [45], p⟩ :: ⟨3, s, p2⟩ :: rest, 0⟩) = .ok (dec s, ⟨rest, 0⟩) := by
  unfold int
  rw [if_neg (show ¬ 9223372036854775808 < dec (nxt (takes ⟨⟨5, [45], p⟩ :: ⟨3, s, p2⟩ :: rest, 0⟩)).text from (show ¬ 9223372036854775808 < dec s by omega))]; rfl
 rw [factorF, if_neg (show ¬ isT [45] ⟨⟨5, [45], p⟩ :: ⟨3, s, p2⟩ :: rest, 0⟩ = false by simp [isT, nxt]), if_pos (show (nxt ⟨(R.mk (⟨5, [45], p⟩ :: ⟨3, s, p2⟩ :: rest) 0).l.tail, (R.mk (⟨5, [45], p⟩ :: ⟨3, s, p2⟩ :: rest) 0).deep⟩).kind = 3 from rfl)]
 rw [hi]
def numS (n : Int) : St := { kind := 7, name := [116], wher := .val 2 n [] }
theorem decDigits_len {u : Nat} (h : u ≤ 9223372036854775808) : (decDigits u).length ≤ 40 := by
 by_cases hl : (decDigits u).length ≤ 40
 ·exact hl
 ·exfalso
  obtain ⟨h1, h2, c, l, h3, h4, h5⟩ := dec_decDigits u u (Nat.le_refl _)
  rw [h3] at hl h1
  simp only [List.length_cons] at hl
  have hc := h2 c (by rw [h3]; simp)
  have hne : c ≠ 48 := h5 fun e => by rw [e] at hl; simp at hl
  have : 48 ≤ c.toNat := by
   simp only [digit, Bool.and_eq_true, decide_eq_true_eq, UInt8.le_iff_toNat_le] at hc
   exact hc.1
  have hn : c.toNat ≠ 48 := fun e => hne (UInt8.toNat_inj.1 e)
  have h40 := foldl_big l (10 * 0 + (c.toNat - 48))
  have h6 : (10 : Nat) ^ 20 ≤ 10 ^ l.length := Nat.pow_le_pow_right (by omega) (by omega)
  have h7 : 1 * 10 ^ l.length ≤ (10 * 0 + (c.toNat - 48)) * 10 ^ l.length := Nat.mul_le_mul_right _ (by omega)
  have h8 : dec (c :: l) = l.foldl (fun a c => 10 * a + (c.toNat - 48)) (10 * 0 + (c.toNat - 48)) := rfl
  have : (10 : Nat) ^ 20 = 100000000000000000000 := rfl
  omega
theorem num_print (n : Int) (h0 : -9223372036854775808 ≤ n) (h1 : n ≤ 9223372036854775807) : print (numS n) = numHead ++ itoa n ∧ isS (numS n) ∧ (numHead ++ itoa n).length ≤ 100 := by
 have hv : P6.isV 2 n [] = true := by simp [P6.isV]
 have ht : text (.val 2 n []) = itoa n := by
  rw [text]; unfold P6.printV; rw [if_pos hv]; rfl
 refine ⟨?_, ⟨rfl, ?_⟩, ?_⟩
 ·show [68, 69, 76, 69, 84, 69, 32, 70, 82, 79, 77, 32] ++ [116] ++ ([32, 87, 72, 69, 82, 69, 32] ++ text (.val 2 n [])) = _
  rw [ht]
  simp [numHead]
 ·refine .inr (.inr (.inr (.inr (.inr (.inr (.inl ⟨rfl, rfl, ?_⟩))))))
  show (false || (P6.isV 2 n [] && decide (-9223372036854775808 ≤ n) && decide (n ≤ 9223372036854775807))) = true
  rw [hv]; simp [h0, h1]
 ·rw [List.length_append]
  show 20 + _ ≤ 100
  unfold itoa
  split
  ·have := decDigits_len (u := n.natAbs) (by omega)
   simp only [List.length_cons]; omega
  ·have := decDigits_len (u := n.toNat) (by omega)
   omega
theorem num_back (n : Int) (h0 : -9223372036854775808 ≤ n) (h1 : n ≤ 9223372036854775807) : parse (numHead ++ itoa n) = .ok (numS n) := by
 unfold itoa
 by_cases hn : n < 0
 ·rw [if_pos hn]
  obtain ⟨h2, h3, c, l, h4, h5, h6⟩ := dec_decDigits n.natAbs n.natAbs (Nat.le_refl _)
  have hl := decDigits_len (u := n.natAbs) (by omega)
  rw [h4] at h2 h3 hl ⊢
  obtain ⟨q, hq⟩ := toks_minus c l h3 20
  rw [numOf_same h6] at hq
  have := num_parse (r := 45 :: c :: l) (L := [⟨5, [45], 20⟩, ⟨3, c :: l, 21⟩]) (e := .val 2 (-(dec (c :: l) : Int)) []) (q := q) (by simp only [List.length_cons] at hl ⊢; omega) hq rfl (factor_minus (by omega))
  rw [this, h2, show -((n.natAbs : Nat) : Int) = n by omega]
  rfl
 ·rw [if_neg hn]
  obtain ⟨h2, h3, c, l, h4, h5, h6⟩ := dec_decDigits n.toNat n.toNat (Nat.le_refl _)
  have hl := decDigits_len (u := n.toNat) (by omega)
  rw [h4] at h2 h3 hl ⊢
  obtain ⟨q, hq⟩ := toks_num c l h3 20
  rw [numOf_same h6] at hq
  have := num_parse (r := c :: l) (L := [⟨3, c :: l, 20⟩]) (e := .val 2 (dec (c :: l) : Int) []) (q := q) (by simp only [List.length_cons] at hl ⊢; omega) hq rfl (factor_int (q := 0) (by omega))
  rw [this, h2, show ((n.toNat : Nat) : Int) = n by omega]
  rfl
theorem num_great (k : Nat) (ds : T) (hk : k < 20) (h1 : 20 ≤ ds.length) (h2 : ds.length ≤ 100) (hd : ∀ c ∈ ds, 49 ≤ c.toNat ∧ c.toNat ≤ 57) : parse (numHead ++ (List.replicate k 48 ++ ds)) = .error (20, 123) := by
 match ds, h1, h2, hd with
 | c :: l, h1, h2, hd =>
  have hc := hd c (by simp)
  have hne : c ≠ 48 := fun e => by rw [e] at hc; exact absurd hc.1 (by decide)
  have hall : ∀ x ∈ List.replicate k 48 ++ c :: l, digit x = true := fun x hx => by
   simp only [digit, Bool.and_eq_true, decide_eq_true_eq, UInt8.le_iff_toNat_le]
   rcases List.mem_append.1 hx with hx | hx
   ·have := (List.mem_replicate.1 hx).2
    subst this
    decide
   ·have := hd x hx
    exact ⟨by show 48 ≤ _; omega, this.2⟩
  cases hr : List.replicate k 48 ++ c :: l with
  | nil => simp at hr
  | cons d m =>
   rw [hr] at hall
   obtain ⟨q, hq⟩ := toks_num d m hall 20
   rw [← hr, numOf_zeros c l hne] at hq
   rw [← hr]
   simp only [List.length_cons] at h1 h2
   exact num_parse_err (by simp only [List.length_append, List.length_replicate, List.length_cons]; omega) hq rfl (factor_big (dec_big c l hc.1 (by omega)))
end P12
namespace P12
end P12
