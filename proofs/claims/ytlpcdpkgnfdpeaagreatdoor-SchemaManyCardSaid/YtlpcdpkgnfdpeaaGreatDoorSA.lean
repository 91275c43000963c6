/- What the claim's proof leans on, part 1: walks of functions and plain laws. -/
import GoSem.Op.String
import Derived.Lib.Replace
import Derived.Lib.CountLaws
import Derived.Lib.ItoaNum
import Derived.Lib.Strings
import Derived.Lib.Bytealg
import Derived.Lib.Case
import Derived.Lib.SlTrimSet
import Derived.KernelRfl
import Derived.Lib.Join
set_option linter.unusedSimpArgs false
set_option linter.unusedVariables false
set_option maxRecDepth 100000
set_option maxHeartbeats 80000000
namespace P6
open Go.Op (bytesLess)
def isV (k i : Int) (s : List UInt8) : Bool :=
 if k = 0 then i == 0 && s == [] else if k = 1 then (i == 0 || i == 1) && s == [] else if k = 2 then s == []
 else if k = 3 then i == 0 && decide (s.length ≤ 40) && !s.contains 0 else false
end P6
namespace P6
open Go.Lib
def dbl : List UInt8 → List UInt8
 | [] => []
 | c :: l => if c = 39 then 39 :: 39 :: dbl l else c :: dbl l
def quote (s : List UInt8) : List UInt8 := 39 :: (dbl s ++ [39])
def printV (k i : Int) (s : List UInt8) : List UInt8 :=
 if isV k i s then (if k = 0 then [78, 85, 76, 76] else if k = 1 then (if i = 1 then [84, 82, 85, 69] else [70, 65, 76, 83, 69]) else if k = 2 then itoa i else quote s) else [63]
end P6
namespace P11
open Go.Lib (upperB lowerB)
structure Tok where
 kind : Int
 text : List UInt8
 pos : Nat
def letter (c : UInt8) : Bool := (97 ≤ c && c ≤ 122) || (65 ≤ c && c ≤ 90) || c == 95
def digit (c : UInt8) : Bool := 48 ≤ c && c ≤ 57
def alnum (c : UInt8) : Bool := letter c || digit c
def blank (c : UInt8) : Bool := c == 32 || c == 9 || c == 10 || c == 13
def words : List (List UInt8) := [[65, 78, 68], [65, 83], [65, 83, 67], [66, 69, 71, 73, 78], [66, 79, 79, 76], [66, 89], [67, 72, 69, 67, 75], [67, 79, 77, 77, 73, 84], [67, 79, 85, 78, 84], [67, 82, 69, 65, 84, 69], [68, 69, 76, 69, 84, 69], [68, 69, 83, 67], [68, 82, 79, 80], [70, 65, 76, 83, 69], [70, 82, 79, 77], [71, 82, 79, 85, 80], [73, 78, 68, 69, 88], [73, 78, 83, 69, 82, 84], [73, 78, 84], [73, 78, 84, 79], [73, 83], [74, 79, 73, 78], [75, 69, 89], [76, 73, 77, 73, 84], [77, 65, 88], [77, 73, 78], [78, 79, 84], [78, 85, 76, 76], [79, 78], [79, 82], [79, 82, 68, 69, 82], [80, 82, 73, 77, 65, 82, 89], [82, 79, 76, 76, 66, 65, 67, 75], [83, 69, 76, 69, 67, 84], [83, 69, 84], [83, 85, 77], [84, 65, 66, 76, 69], [84, 69, 88, 84], [84, 82, 85, 69], [85, 78, 73, 81, 85, 69], [85, 80, 68, 65, 84, 69], [86, 65, 76, 85, 69, 83], [87, 72, 69, 82, 69]]
def signs : List (List UInt8) := [[60, 62], [60, 61], [62, 61], [124, 124], [40], [41], [44], [46], [42], [61], [60], [62], [43], [45], [47], [37], [59]]
def signOf (r : List UInt8) : Option (List UInt8) := signs.find? fun x => x.isPrefixOf r
def numOf : List UInt8 → List UInt8
 | [] => []
 | [c] => [c]
 | c :: d :: l => if c = 48 then numOf (d :: l) else c :: d :: l
def textOf : List UInt8 → Option (List UInt8 × Nat)
 | [] => none
 | [c] => if c = 39 then some ([], 1) else none
 | c :: d :: l => if c = 39 then (if d = 39 then (textOf l).map fun x => (39 :: x.1, x.2 + 2) else some ([], 1)) else (textOf (d :: l)).map fun x => (c :: x.1, x.2 + 1)
def lineLen (r : List UInt8) : Nat := (r.takeWhile (· != 10)).length
def step : List UInt8 → (Nat × Option (Int × List UInt8)) ⊕ (Nat × Int)
 | [] => .inr (0, 0)
 | c :: t =>
  if blank c then .inl (1, none)
  else if [45, 45].isPrefixOf (c :: t) then .inl (lineLen (c :: t), none)
  else if c = 39 then
   match textOf t with
   | none => .inr (0, 112)
   | some x => if ((c :: t).take (x.2 + 1)).contains 0 then .inr (((c :: t).take (x.2 + 1)).idxOf 0, 111) else .inl (x.2 + 1, some (4, x.1))
  else if letter c then
   let w := (c :: t).takeWhile alnum
   .inl (w.length, some (if words.contains (w.map upperB) then (2, w.map upperB) else (1, w.map lowerB)))
  else if digit c then
   let w := (c :: t).takeWhile digit
   .inl (w.length, some (3, numOf w))
  else match signOf (c :: t) with
   | none => .inr (0, 111)
   | some x => .inl (x.length, some (5, x))
def withTok (t : Option (Int × List UInt8)) (p : Nat) (l : List Tok) : List Tok :=
 match t with
 | none => l
 | some x => ⟨x.1, x.2, p⟩ :: l
def toksF : Nat → List UInt8 → Nat → List Tok ⊕ (Nat × Int)
 | 0, _, _ => .inr (0, 0)
 | _ + 1, [], p => .inl [⟨0, [], p⟩]
 | f + 1, c :: t, p =>
  match step (c :: t) with
  | .inr x => .inr (p + x.1, x.2)
  | .inl x => match toksF f ((c :: t).drop x.1) (p + x.1) with
   | .inr y => .inr y
   | .inl l => .inl (withTok x.2 p l)
def toks (r : List UInt8) (p : Nat) : List Tok ⊕ (Nat × Int) := toksF (r.length + 1) r p
def lexed (s : List UInt8) : List Tok ⊕ (Nat × Int) := if 4096 < s.length then .inr (0, 110) else toks s 0
theorem textOf_pos : ∀ (n : Nat) (l : List UInt8), l.length ≤ n → ∀ x, textOf l = some x → 0 < x.2 ∧ x.2 ≤ l.length
 | _, [], _, x, h => by simp [textOf] at h
 | _, [c], _, x, h => by
  rw [textOf] at h
  split at h
  ·cases h; simp
  ·cases h
 | 0, _ :: _ :: _, hn, _, _ => by simp at hn
 | n + 1, c :: d :: l, hn, x, h => by
  rw [textOf] at h
  simp only [List.length_cons] at hn
  split at h
  ·split at h
   ·obtain ⟨y, hy, rfl⟩ := Option.map_eq_some_iff.1 h
    have := textOf_pos n l (by omega) y hy
    simp only [List.length_cons]; omega
   ·cases h; simp
  ·obtain ⟨y, hy, rfl⟩ := Option.map_eq_some_iff.1 h
   have := textOf_pos n (d :: l) (by simp; omega) y hy
   simp only [List.length_cons] at this ⊢; omega
theorem letter_alnum {c : UInt8} (h : letter c = true) : alnum c = true := by simp [alnum, h]
theorem signs_pos : ∀ x ∈ signs, 0 < x.length := by decide
theorem signOf_pre {r x : List UInt8} (h : signOf r = some x) : 0 < x.length ∧ x.isPrefixOf r = true :=
 ⟨signs_pos x (List.mem_of_find?_eq_some h), by simpa using List.find?_some h⟩
theorem step_pos {c : UInt8} {t : List UInt8} {x} (h : step (c :: t) = .inl x) : 0 < x.1 ∧ x.1 ≤ (c :: t).length := by
 rw [step] at h
 split at h
 ·cases h; simp
 split at h
 ·rename_i h1 h2
  cases h
  constructor
  ·unfold lineLen
   have hc : c = 45 := by simp [List.isPrefixOf] at h2; exact h2.1.symm
   subst hc
   simp [List.takeWhile]
  ·exact (List.takeWhile_prefix _).length_le
 split at h
 ·split at h
  ·cases h
  ·rename_i y hy
   split at h
   ·cases h
   ·cases h
    have := textOf_pos _ t (Nat.le_refl _) y hy
    simp only [List.length_cons]; omega
 split at h
 ·rename_i h4
  cases h
  refine ⟨?_, (List.takeWhile_prefix _).length_le⟩
  simp [List.takeWhile, letter_alnum h4]
 split at h
 ·rename_i h5
  cases h
  refine ⟨?_, (List.takeWhile_prefix _).length_le⟩
  simp [List.takeWhile, h5]
 split at h
 ·cases h
 ·rename_i x hx
  cases h
  obtain ⟨h1, h2⟩ := signOf_pre hx
  exact ⟨h1, (List.isPrefixOf_iff_prefix.1 h2).length_le⟩
theorem toksF_more : ∀ (f g : Nat) (r : List UInt8) (p : Nat), r.length < f → r.length < g → toksF f r p = toksF g r p
 | 0, _, _, _, h, _ => by omega
 | _ + 1, 0, _, _, _, h => by omega
 | f + 1, g + 1, [], p, _, _ => rfl
 | f + 1, g + 1, c :: t, p, hf, hg => by
  rw [toksF, toksF]
  cases hs : step (c :: t) with
  | inr x => rfl
  | inl x =>
   have := step_pos hs
   simp only [List.length_cons] at hf hg this
   have e := toksF_more f g ((c :: t).drop x.1) (p + x.1) (by simp only [List.length_drop, List.length_cons]; omega) (by simp only [List.length_drop, List.length_cons]; omega)
   simp only [e]
theorem toks_nil (p : Nat) : toks [] p = .inl [⟨0, [], p⟩] := rfl
theorem toks_err {c : UInt8} {t : List UInt8} {x} (p : Nat) (h : step (c :: t) = .inr x) : toks (c :: t) p = .inr (p + x.1, x.2) := by
 rw [toks, toksF, h]
theorem toks_step {c : UInt8} {t : List UInt8} {x} (p : Nat) (h : step (c :: t) = .inl x) : toks (c :: t) p = match toks ((c :: t).drop x.1) (p + x.1) with
  | .inr y => .inr y
  | .inl l => .inl (withTok x.2 p l) := by
 have := step_pos h
 simp only [List.length_cons] at this
 have e := toksF_more (c :: t).length (((c :: t).drop x.1).length + 1) ((c :: t).drop x.1) (p + x.1) (by simp only [List.length_drop, List.length_cons]; omega) (by omega)
 rw [toks, toksF, h]
 simp only [e]
 rfl
def after (acc : List Tok) : List Tok ⊕ (Nat × Int) → List Tok ⊕ (Nat × Int)
 | .inr y => .inr y
 | .inl l => .inl (acc ++ l)
theorem after_nil (x) : after [] x = x := by cases x <;> rfl
theorem after_none {c : UInt8} {t : List UInt8} {n : Nat} {p : Nat} {acc : List Tok} (h : step (c :: t) = .inl (n, none)) : after acc (toks (c :: t) p) = after acc (toks ((c :: t).drop n) (p + n)) := by
 rw [toks_step p h]; dsimp only; cases toks ((c :: t).drop n) (p + n) <;> rfl
theorem after_some {c : UInt8} {t : List UInt8} {n : Nat} {p : Nat} {k : Int} {u : List UInt8} {acc : List Tok} (h : step (c :: t) = .inl (n, some (k, u))) : after acc (toks (c :: t) p) = after (acc ++ [⟨k, u, p⟩]) (toks ((c :: t).drop n) (p + n)) := by
 rw [toks_step p h]; dsimp only; cases toks ((c :: t).drop n) (p + n) <;> simp [after, withTok]
theorem after_err {c : UInt8} {t : List UInt8} {n : Nat} {p : Nat} {e : Int} {acc : List Tok} (h : step (c :: t) = .inr (n, e)) : after acc (toks (c :: t) p) = .inr (p + n, e) := by
 rw [toks_err p h]; rfl
end P11
namespace P11
open Go.Lib (upperB lowerB)
open P6 (dbl)
theorem u8_all {p : UInt8 → Bool} (h : (List.range 256).all (fun n => p (UInt8.ofNat n)) = true) (c : UInt8) : p c = true := by
 have := List.all_eq_true.1 h c.toNat (List.mem_range.2 c.toNat_lt)
 simpa using this
theorem u8_imp {p q : UInt8 → Bool} (h : (List.range 256).all (fun n => !p (UInt8.ofNat n) || q (UInt8.ofNat n)) = true) (c : UInt8) (hp : p c = true) : q c = true := by
 have := u8_all (p := fun c => !p c || q c) h c
 simpa [hp] using this
theorem textOf_ne (c : UInt8) (x : List UInt8) (h : c ≠ 39) : textOf (c :: x) = (textOf x).map fun y => (c :: y.1, y.2 + 1) := by
 cases x with
 | nil => simp [textOf, h]
 | cons d l => rw [textOf, if_neg h]
theorem textOf_qq (x : List UInt8) : textOf (39 :: 39 :: x) = (textOf x).map fun y => (39 :: y.1, y.2 + 2) := by
 rw [textOf, if_pos rfl, if_pos rfl]
theorem textOf_q (r : List UInt8) (h : r.head? ≠ some 39) : textOf (39 :: r) = some ([], 1) := by
 cases r with
 | nil => rfl
 | cons d l => rw [textOf, if_pos rfl, if_neg (by simpa using h)]
theorem textOf_dbl (r : List UInt8) (h : r.head? ≠ some 39) : ∀ s : List UInt8, textOf (dbl s ++ 39 :: r) = some (s, (dbl s).length + 1)
 | [] => by simpa [dbl] using textOf_q r h
 | c :: s => by
  rw [dbl]
  have ih := textOf_dbl r h s
  split
  ·rename_i hc
   subst hc
   simp only [List.cons_append]
   rw [textOf_qq, ih]; simp
  ·rename_i hc
   simp only [List.cons_append]
   rw [textOf_ne _ _ hc, ih]; simp
theorem after_blank {c : UInt8} (h : blank c = true) (r : List UInt8) (p : Nat) (acc : List Tok) : after acc (toks (c :: r) p) = after acc (toks r (p + 1)) :=
 after_none (n := 1) (by rw [step, if_pos h])
def good (x : Int × List UInt8) : Prop :=
 (x.1 = 1 ∧ (∃ c l, x.2 = c :: l ∧ letter c = true) ∧ x.2.all alnum = true ∧ x.2.map lowerB = x.2 ∧ words.contains (x.2.map upperB) = false) ∨
 (x.1 = 2 ∧ (∃ c l, x.2 = c :: l ∧ letter c = true) ∧ x.2.all alnum = true ∧ x.2.map upperB = x.2 ∧ words.contains x.2 = true) ∨
 (x.1 = 3 ∧ x.2 ≠ [] ∧ x.2.all digit = true ∧ numOf x.2 = x.2) ∨ (x.1 = 4 ∧ x.2.contains 0 = false) ∨ (x.1 = 5 ∧ x.2 ∈ signs)
def pr (x : Int × List UInt8) : List UInt8 := if x.1 = 4 then P6.quote x.2 else x.2
theorem letter_up (c : UInt8) : letter (upperB c) = letter c := by simpa using u8_all (p := fun c => letter (upperB c) == letter c) (by decide +kernel) c
theorem letter_lo (c : UInt8) : letter (lowerB c) = letter c := by simpa using u8_all (p := fun c => letter (lowerB c) == letter c) (by decide +kernel) c
theorem alnum_up (c : UInt8) : alnum (upperB c) = alnum c := by simpa using u8_all (p := fun c => alnum (upperB c) == alnum c) (by decide +kernel) c
theorem alnum_lo (c : UInt8) : alnum (lowerB c) = alnum c := by simpa using u8_all (p := fun c => alnum (lowerB c) == alnum c) (by decide +kernel) c
theorem up_up (c : UInt8) : upperB (upperB c) = upperB c := by simpa using u8_all (p := fun c => upperB (upperB c) == upperB c) (by decide +kernel) c
theorem lo_lo (c : UInt8) : lowerB (lowerB c) = lowerB c := by simpa using u8_all (p := fun c => lowerB (lowerB c) == lowerB c) (by decide +kernel) c
theorem up_lo (c : UInt8) : upperB (lowerB c) = upperB c := by simpa using u8_all (p := fun c => upperB (lowerB c) == upperB c) (by decide +kernel) c
theorem takeWhile_all (p : UInt8 → Bool) : ∀ l : List UInt8, (l.takeWhile p).all p = true
 | [] => rfl
 | c :: l => by
  rw [List.takeWhile]
  split
  ·rename_i h; simp only [List.all_cons, h, Bool.true_and]; exact takeWhile_all p l
  ·rfl
theorem numOf_idem : ∀ l : List UInt8, numOf (numOf l) = numOf l
 | [] => rfl
 | [c] => rfl
 | c :: d :: l => by
  rw [numOf]
  split
  ·exact numOf_idem (d :: l)
  ·rename_i h; rw [numOf, if_neg h]
theorem numOf_ne : ∀ l : List UInt8, l ≠ [] → numOf l ≠ []
 | [], h => absurd rfl h
 | [c], _ => by simp [numOf]
 | c :: d :: l, _ => by
  rw [numOf]
  split
  ·exact numOf_ne (d :: l) (by simp)
  ·simp
theorem numOf_all (p : UInt8 → Bool) : ∀ l : List UInt8, l.all p = true → (numOf l).all p = true
 | [], _ => rfl
 | [c], h => h
 | c :: d :: l, h => by
  rw [numOf]
  split
  ·exact numOf_all p (d :: l) (by simp only [List.all_cons, Bool.and_eq_true] at h ⊢; exact h.2)
  ·exact h
theorem textOf_zero : ∀ (n : Nat) (l : List UInt8), l.length ≤ n → ∀ x, textOf l = some x → (l.take x.2).contains 0 = false → x.1.contains 0 = false
 | _, [], _, x, h, _ => by simp [textOf] at h
 | _, [c], _, x, h, _ => by
  rw [textOf] at h
  split at h
  ·cases h; rfl
  ·cases h
 | 0, _ :: _ :: _, hn, _, _, _ => by simp at hn
 | n + 1, c :: d :: l, hn, x, h, h0 => by
  rw [textOf] at h
  simp only [List.length_cons] at hn
  split at h
  ·split at h
   ·obtain ⟨y, hy, rfl⟩ := Option.map_eq_some_iff.1 h
    dsimp only at h0 ⊢
    rw [List.take_succ_cons, List.take_succ_cons] at h0
    have := textOf_zero n l (by omega) y hy (by simp_all)
    simp_all
   ·cases h; rfl
  ·obtain ⟨y, hy, rfl⟩ := Option.map_eq_some_iff.1 h
   dsimp only at h0 ⊢
   rw [List.take_succ_cons] at h0
   have := textOf_zero n (d :: l) (by simp; omega) y hy (by simp_all)
   simp_all
theorem map_all {f : UInt8 → UInt8} {p : UInt8 → Bool} (h : ∀ c, p (f c) = p c) (l : List UInt8) : (l.map f).all p = l.all p := by
 rw [List.all_map]; congr 1; funext c; exact h c
theorem step_good {c : UInt8} {t : List UInt8} {n : Nat} {x : Int × List UInt8} (h : step (c :: t) = .inl (n, some x)) : good x := by
 rw [step] at h
 split at h
 ·cases h
 split at h
 ·cases h
 split at h
 ·split at h
  ·cases h
  ·rename_i y hy
   split at h
   ·cases h
   ·rename_i h0
    cases h
    refine .inr (.inr (.inr (.inl ⟨rfl, ?_⟩)))
    rw [List.take_succ_cons] at h0
    exact textOf_zero _ t (Nat.le_refl _) y hy (by simp_all)
 split at h
 ·rename_i h4
  have ha := takeWhile_all alnum (c :: t)
  have hh : ∃ c' l, (c :: t).takeWhile alnum = c' :: l ∧ letter c' = true := ⟨c, t.takeWhile alnum, by rw [List.takeWhile, letter_alnum h4], h4⟩
  generalize (c :: t).takeWhile alnum = w at *
  obtain ⟨c', l, rfl, hl⟩ := hh
  dsimp only at h
  split at h
  ·rename_i hw
   cases h
   exact .inr (.inl ⟨rfl, ⟨_, _, rfl, by rw [letter_up]; exact hl⟩, by dsimp only; rw [map_all alnum_up]; exact ha, by simp [up_up], hw⟩)
  ·rename_i hw
   cases h
   refine .inl ⟨rfl, ⟨_, _, rfl, by rw [letter_lo]; exact hl⟩, by dsimp only; rw [map_all alnum_lo]; exact ha, by simp [lo_lo], ?_⟩
   dsimp only
   rw [List.map_map, show upperB ∘ lowerB = upperB from funext up_lo]
   simpa using hw
 split at h
 ·rename_i h5
  have ha := takeWhile_all digit (c :: t)
  have hh : (c :: t).takeWhile digit ≠ [] := by simp [List.takeWhile, h5]
  cases h
  exact .inr (.inr (.inl ⟨rfl, numOf_ne _ hh, numOf_all _ _ ha, numOf_idem _⟩))
 split at h
 ·cases h
 ·rename_i y hy
  cases h
  exact .inr (.inr (.inr (.inr ⟨rfl, List.mem_of_find?_eq_some hy⟩)))
theorem letter_first (c : UInt8) (h : letter c = true) : (!blank c && c != 45 && c != 39) = true := u8_imp (p := letter) (q := fun c => !blank c && c != 45 && c != 39) (by decide +kernel) c h
theorem digit_first (c : UInt8) (h : digit c = true) : (!blank c && c != 45 && c != 39 && !letter c) = true := u8_imp (p := digit) (q := fun c => !blank c && c != 45 && c != 39 && !letter c) (by decide +kernel) c h
def kt (t : Tok) : Int × List UInt8 := (t.kind, t.text)
theorem toks_form : ∀ (n : Nat) (r : List UInt8) (p : Nat) (l : List Tok), r.length ≤ n → toks r p = .inl l → ∃ l', l = l' ++ [⟨0, [], p + r.length⟩] ∧ ∀ t ∈ l', good (kt t)
 | _, [], p, l, _, h => by rw [toks_nil] at h; cases h; exact ⟨[], rfl, fun t ht => by cases ht⟩
 | 0, _ :: _, _, _, hn, _ => by simp at hn
 | n + 1, c :: t, p, l, hn, h => by
  cases hs : step (c :: t) with
  | inr x => rw [toks_err p hs] at h; cases h
  | inl x =>
   have hp := step_pos hs
   rw [toks_step p hs] at h
   cases hr : toks ((c :: t).drop x.1) (p + x.1) with
   | inr y => simp only [hr] at h; cases h
   | inl m =>
    simp only [hr, Sum.inl.injEq] at h
    obtain ⟨l', rfl, hg⟩ := toks_form n _ _ _ (by simp only [List.length_drop, List.length_cons] at hn hp ⊢; omega) hr
    have e : p + x.1 + ((c :: t).drop x.1).length = p + (c :: t).length := by rw [List.length_drop]; omega
    rw [e] at h
    obtain ⟨k, o⟩ := x
    cases o with
    | none => exact ⟨l', by rw [← h]; rfl, hg⟩
    | some y =>
     refine ⟨⟨y.1, y.2, p⟩ :: l', by rw [← h]; rfl, fun t' ht' => ?_⟩
     rcases List.mem_cons.1 ht' with rfl | h'
     ·exact step_good hs
     ·exact hg t' h'
def written (l : List (Int × List UInt8)) : List UInt8 := (l.map fun x => pr x ++ [32]).flatten
end P11
namespace P12
open P11 (Tok)
abbrev T := List UInt8
inductive E where
 | none
 | val (k i : Int) (s : T)
 | col (t n : T)
 | una (op : Int) (a : E)
 | bin (op : Int) (a b : E)
 | call (op : Int) (a : E)
 | all
structure R where
 l : List Tok
 deep : Nat
abbrev Er := Nat × Int
def nxt (r : R) : Tok := r.l.headD ⟨0, [], 0⟩
def fails {α : Type} (e : Int) (r : R) : Except Er α := .error ((nxt r).pos, e)
def takes (r : R) : R := if (nxt r).kind = 0 then r else ⟨r.l.tail, r.deep⟩
def isT (s : T) (r : R) : Bool := ((nxt r).kind == 2 || (nxt r).kind == 5) && (nxt r).text == s
def has (s : T) (r : R) : Bool × R := if isT s r then (true, takes r) else (false, r)
def must (s : T) (r : R) : Except Er R := if isT s r then .ok (takes r) else fails 120 r
def name (r : R) : Except Er (T × R) := if (nxt r).kind ≠ 1 then fails 120 r else if 24 < (nxt r).text.length then fails 124 r else .ok ((nxt r).text, takes r)
def maybe (r : R) : Except Er (T × R) := if (nxt r).kind ≠ 1 then .ok ([], r) else name r
def named (r : R) : Bool := (nxt r).kind == 1 && decide ((nxt r).text.length ≤ 24)
def opens (r : R) : Except Er R := if r.deep = 100 then fails 121 r else .ok ⟨r.l, r.deep + 1⟩
def closes (r : R) : R := ⟨r.l, r.deep - 1⟩
def dec (s : T) : Nat := s.foldl (fun a c => 10 * a + (c.toNat - 48)) 0
def int (most : Nat) (r : R) : Except Er (Nat × R) := if most < dec (nxt r).text then fails 123 r else .ok (dec (nxt r).text, takes r)
def rowF {α : Type} (most : Nat) (could : R → Bool) (read : R → Except Er (α × R)) : Nat → Nat → R → Except Er (List α × R)
 | 0, _, r => fails 120 r
 | f + 1, n, r =>
  if most < n + 1 && could r then fails 122 r else
  match read r with
  | .error e => .error e
  | .ok (x, r) =>
   if isT [44] r then
    match rowF most could read f (n + 1) (takes r) with
    | .error e => .error e
    | .ok (xs, r) => .ok (x :: xs, r)
   else .ok ([x], r)
def fnOf (s : T) : Option Int := if s = [67, 79, 85, 78, 84] then some 20 else if s = [83, 85, 77] then some 21 else if s = [77, 73, 78] then some 22 else if s = [77, 65, 88] then some 23 else none
def begins (r : R) : Bool :=
 let t := nxt r
 if t.kind = 1 then named r else if t.kind = 3 then decide (dec t.text ≤ 9223372036854775807) else if t.kind = 4 then true
 else if t.kind = 5 then t.text == [40] || t.text == [45]
 else if t.kind = 2 then (fnOf t.text).isSome || t.text == [78, 79, 84] || t.text == [78, 85, 76, 76] || t.text == [84, 82, 85, 69] || t.text == [70, 65, 76, 83, 69] else false
def within {α : Type} (read : R → Except Er (α × R)) (r : R) : Except Er (α × R) :=
 if isT [40] r = false then fails 120 r else
 match opens r with
 | .error e => .error e
 | .ok r =>
  match read (takes r) with
  | .error e => .error e
  | .ok (x, r) =>
   match must [41] r with
   | .error e => .error e
   | .ok r => .ok (x, closes r)
def column (r : R) : Except Er (E × R) :=
 match name r with
 | .error e => .error e
 | .ok (a, r) =>
  if isT [46] r then
   match name (takes r) with
   | .error e => .error e
   | .ok (b, r) => .ok (.col a b, r)
  else .ok (.col [] a, r)
def callArg (ex : R → Except Er (E × R)) (op : Int) (r : R) : Except Er ((Bool × E) × R) :=
 if op = 20 ∧ isT [42] r = true then .ok ((true, E.none), takes r) else
 match ex r with
 | .error e => .error e
 | .ok (a, r) => .ok ((false, a), r)
def call (ex : R → Except Er (E × R)) (op : Int) (r : R) : Except Er (E × R) :=
 match within (callArg ex op) r with
 | .error e => .error e
 | .ok ((all, a), r) => .ok (if all then .all else .call op a, r)
def primary (ex : R → Except Er (E × R)) (r : R) : Except Er (E × R) :=
 let t := nxt r
 if t.kind = 3 then
  match int 9223372036854775807 r with
  | .error e => .error e
  | .ok (n, r) => .ok (E.val 2 n [], r)
 else if t.kind = 4 then (if 40 < t.text.length then fails 122 r else .ok (E.val 3 0 t.text, takes r))
 else if t.kind = 1 then column r
 else if isT [40] r then within ex r
 else if t.kind = 2 then
  match fnOf t.text with
  | some op => call ex op (takes r)
  | none =>
   if t.text = [78, 85, 76, 76] then .ok (E.val 0 0 [], takes r)
   else if t.text = [84, 82, 85, 69] then .ok (E.val 1 1 [], takes r)
   else if t.text = [70, 65, 76, 83, 69] then .ok (E.val 1 0 [], takes r)
   else fails 120 r
 else fails 120 r
def factorF (ex : R → Except Er (E × R)) : Nat → R → Except Er (E × R)
 | 0, r => fails 120 r
 | f + 1, r =>
  if isT [45] r = false then primary ex r else
  if (nxt ⟨r.l.tail, r.deep⟩).kind = 3 then
   match int 9223372036854775808 (takes r) with
   | .error e => .error e
   | .ok (n, r) => .ok (E.val 2 (-(n : Int)) [], r)
  else
   match opens r with
   | .error e => .error e
   | .ok r =>
    match factorF ex f (takes r) with
    | .error e => .error e
    | .ok (a, r) => .ok (E.una 16 a, closes r)
def binF (part : R → Except Er (E × R)) (ops : List (T × Int)) : Nat → E → R → Except Er (E × R)
 | 0, _, r => fails 120 r
 | f + 1, e, r =>
  match ops.find? fun o => isT o.1 r with
  | none => .ok (e, r)
  | some o =>
   match part (takes r) with
   | .error x => .error x
   | .ok (b, r) => binF part ops f (E.bin o.2 e b) r
def binary (part : R → Except Er (E × R)) (ops : List (T × Int)) (r : R) : Except Er (E × R) :=
 match part r with
 | .error e => .error e
 | .ok (a, r) => binF part ops r.l.length a r
def mulOps : List (T × Int) := [([42], 11), ([47], 12), ([37], 13)]
def addOps : List (T × Int) := [([43], 9), ([45], 10), ([124, 124], 14)]
def cmpOps : List (T × Int) := [([61], 3), ([60, 62], 4), ([60], 5), ([60, 61], 6), ([62], 7), ([62, 61], 8)]
def test (sum : R → Except Er (E × R)) (r : R) : Except Er (E × R) :=
 match sum r with
 | .error e => .error e
 | .ok (a, r) =>
  match cmpOps.find? fun o => isT o.1 r with
  | some o =>
   match sum (takes r) with
   | .error e => .error e
   | .ok (b, r) => .ok (E.bin o.2 a b, r)
  | none =>
   if isT [73, 83] r = false then .ok (a, r) else
   let n := has [78, 79, 84] (takes r)
   match must [78, 85, 76, 76] n.2 with
   | .error e => .error e
   | .ok r => .ok (E.una (if n.1 then 18 else 17) a, r)
def notF (tst : R → Except Er (E × R)) : Nat → R → Except Er (E × R)
 | 0, r => fails 120 r
 | f + 1, r =>
  if isT [78, 79, 84] r = false then tst r else
  match opens r with
  | .error e => .error e
  | .ok r =>
   match notF tst f (takes r) with
   | .error e => .error e
   | .ok (a, r) => .ok (E.una 15 a, closes r)
def orOps : List (T × Int) := [([79, 82], 1)]
def andOps : List (T × Int) := [([65, 78, 68], 2)]
def productF (ex : R → Except Er (E × R)) (f : Nat) : R → Except Er (E × R) := binary (factorF ex f) mulOps
def sumF (ex : R → Except Er (E × R)) (f : Nat) : R → Except Er (E × R) := binary (productF ex f) addOps
def testF (ex : R → Except Er (E × R)) (f : Nat) : R → Except Er (E × R) := test (sumF ex f)
def andF (ex : R → Except Er (E × R)) (f : Nat) : R → Except Er (E × R) := binary (notF (testF ex f) f) andOps
def exprF : Nat → R → Except Er (E × R)
 | 0, r => fails 120 r
 | f + 1, r => binary (andF (exprF f) (f + 1)) orOps r
def expr (r : R) : Except Er (E × R) := exprF 101 r
structure Tb where
 name : T := []
 cols : List (T × Int × Bool) := []
 keys : List Bool := []
 checks : List E := []
structure St where
 kind : Int := 0
 tb : Tb := {}
 keyCols : List (List T) := []
 name : T := []
 on : T := []
 unique : Bool := false
 cols : List T := []
 rows : List (List E) := []
 sets : List (T × E) := []
 wher : E := E.none
 items : List (Bool × E × T) := []
 frm : List (T × T) := []
 join : E := E.none
 group : List E := []
 order : List (E × Bool) := []
 limit : Int := 0
def made (k : Int) : St := { kind := k, limit := if k = 8 then -1 else 0 }
def names (r : R) : Except Er (List T × R) := do
 let r ← must [40] r
 let (l, r) ← rowF 16 named name r.l.length 0 r
 let r ← must [41] r
 return (l, r)
def constrains (r : R) : Bool := isT [80, 82, 73, 77, 65, 82, 89] r || isT [85, 78, 73, 81, 85, 69] r || isT [67, 72, 69, 67, 75] r
abbrev Con := Sum E (Bool × List T)
def keyWord (r : R) : Except Er R := if (has [80, 82, 73, 77, 65, 82, 89] r).1 then must [75, 69, 89] (has [80, 82, 73, 77, 65, 82, 89] r).2 else must [85, 78, 73, 81, 85, 69] (has [80, 82, 73, 77, 65, 82, 89] r).2
def colsOf (c : T) (r : R) : Except Er (List T × R) := if c = [] then names r else .ok ([c], r)
def conOf (n : Nat) (c : T) (r : R) : Except Er (Con × R) :=
 if 16 < n + 1 && constrains r then fails 122 r else
 if isT [67, 72, 69, 67, 75] r then
  match within expr (takes r) with
  | .error e => .error e
  | .ok (e, r) => .ok (.inl e, r)
 else
  match keyWord r with
  | .error e => .error e
  | .ok r1 =>
   match colsOf c r1 with
   | .error e => .error e
   | .ok (l, r2) => .ok (.inr ((has [80, 82, 73, 77, 65, 82, 89] r).1, l), r2)
def addT (t : Tb) : Con → Tb
 | .inl e => { t with checks := t.checks ++ [e] }
 | .inr (p, _) => { t with keys := t.keys ++ [p] }
def addK (k : List (List T)) : Con → List (List T)
 | .inl _ => k
 | .inr (_, l) => k ++ [l]
def typeOf (r : R) : Except Er (Int × R) :=
 if isT [66, 79, 79, 76] r then .ok (1, takes r) else if isT [73, 78, 84] r then .ok (2, takes r) else if isT [84, 69, 88, 84] r then .ok (3, takes r) else fails 120 r
def tailF (c : T) : Nat → Tb → List (List T) → Nat → Bool → R → Except Er ((Tb × List (List T) × Nat × Bool) × R)
 | 0, _, _, _, _, r => fails 120 r
 | f + 1, t, k, n, nn, r =>
  if isT [78, 79, 84] r then
   match must [78, 85, 76, 76] (takes r) with
   | .error e => .error e
   | .ok r => tailF c f t k n true r
  else if constrains r then
   match conOf n c r with
   | .error e => .error e
   | .ok (o, r2) => tailF c f (addT t o) (addK k o) (n + 1) (nn || isT [80, 82, 73, 77, 65, 82, 89] r) r2
  else .ok ((t, k, n, nn), r)
def part (t : Tb) (k : List (List T)) (n : Nat) (r : R) : Except Er ((Tb × List (List T) × Nat) × R) :=
 if constrains r then
  match conOf n [] r with
  | .error e => .error e
  | .ok (o, r) => .ok ((addT t o, addK k o, n + 1), r)
 else if 16 < n + 1 && named r then fails 122 r else
  match name r with
  | .error e => .error e
  | .ok (c, r) =>
   match typeOf r with
   | .error e => .error e
   | .ok (ty, r) =>
    match tailF c r.l.length t k (n + 1) false r with
    | .error e => .error e
    | .ok ((t, k, n, nn), r) => .ok (({ t with cols := t.cols ++ [(c, ty, nn)] }, k, n), r)
def partsF : Nat → Tb → List (List T) → Nat → R → Except Er ((Tb × List (List T)) × R)
 | 0, _, _, _, r => fails 120 r
 | f + 1, t, k, n, r =>
  match part t k n r with
  | .error e => .error e
  | .ok ((t, k, n), r) => if isT [44] r then partsF f t k n (takes r) else .ok ((t, k), r)
def create (r : R) : Except Er (St × R) :=
 if isT [84, 65, 66, 76, 69] r then do
  let (t, r) ← name (takes r)
  let r ← must [40] r
  let ((t, k), r) ← partsF r.l.length { name := t } [] 0 r
  let r ← must [41] r
  return ({ made 1 with tb := t, keyCols := k }, r)
 else
  let u := has [85, 78, 73, 81, 85, 69] r
  if u.1 || isT [73, 78, 68, 69, 88] u.2 then do
   let r ← must [73, 78, 68, 69, 88] u.2
   let (a, r) ← name r
   let r ← must [79, 78] r
   let (b, r) ← name r
   let (l, r) ← names r
   return ({ made 3 with unique := u.1, name := a, on := b, cols := l }, r)
  else fails 120 r
def drop (r : R) : Except Er (St × R) := do
 let h := has [84, 65, 66, 76, 69] r
 let r ← if h.1 then .ok h.2 else must [73, 78, 68, 69, 88] h.2
 let (a, r) ← name r
 return ({ made (if h.1 then 2 else 4) with name := a }, r)
def exprs {α : Type} (read : R → Except Er (α × R)) (r : R) : Except Er (List α × R) := rowF 16 begins read r.l.length 0 r
def valuesRow (r : R) : Except Er (List E × R) := do
 let r ← must [40] r
 let (l, r) ← exprs expr r
 let r ← must [41] r
 return (l, r)
def wher (r : R) : Except Er (E × R) := if isT [87, 72, 69, 82, 69] r then expr (takes r) else .ok (E.none, r)
def insert (r : R) : Except Er (St × R) := do
 let r ← must [73, 78, 84, 79] r
 let (a, r) ← name r
 let (l, r) ← if isT [40] r then names r else .ok ([], r)
 let r ← must [86, 65, 76, 85, 69, 83] r
 let (rows, r) ← rowF 32 (isT [40]) valuesRow r.l.length 0 r
 return ({ made 5 with name := a, cols := l, rows := rows }, r)
def setOf (r : R) : Except Er ((T × E) × R) := do
 let (a, r) ← name r
 let r ← must [61] r
 let (e, r) ← expr r
 return ((a, e), r)
def update (r : R) : Except Er (St × R) := do
 let (a, r) ← name r
 let r ← must [83, 69, 84] r
 let (l, r) ← rowF 16 named setOf r.l.length 0 r
 let (e, r) ← wher r
 return ({ made 6 with name := a, sets := l, wher := e }, r)
def deletes (r : R) : Except Er (St × R) := do
 let r ← must [70, 82, 79, 77] r
 let (a, r) ← name r
 let (e, r) ← wher r
 return ({ made 7 with name := a, wher := e }, r)
def item (r : R) : Except Er ((Bool × E × T) × R) :=
 if isT [42] r then .ok ((true, E.none, []), takes r) else do
  let (e, r) ← expr r
  if isT [65, 83] r then do
   let (a, r) ← name (takes r)
   return ((false, e, a), r)
  else return ((false, e, []), r)
def source (r : R) : Except Er ((T × T) × R) := do
 let (a, r) ← name r
 let (b, r) ← maybe r
 return ((a, b), r)
def orderOf (r : R) : Except Er ((E × Bool) × R) := do
 let (e, r) ← expr r
 let d := has [68, 69, 83, 67] r
 return ((e, d.1), if d.1 then d.2 else (has [65, 83, 67] d.2).2)
def selects (r : R) : Except Er (St × R) := do
 let (items, r) ← rowF 16 (fun r => isT [42] r || begins r) item r.l.length 0 r
 let r ← must [70, 82, 79, 77] r
 let (s, r) ← source r
 let ((frm, join), r) ← if isT [74, 79, 73, 78] r then (do
   let (s2, r) ← source (takes r)
   let r ← must [79, 78] r
   let (e, r) ← expr r
   return (([s, s2], e), r)) else .ok (([s], E.none), r)
 let (w, r) ← wher r
 let (group, r) ← if isT [71, 82, 79, 85, 80] r then (do
   let r ← must [66, 89] (takes r)
   rowF 16 named column r.l.length 0 r) else .ok ([], r)
 let (order, r) ← if isT [79, 82, 68, 69, 82] r then (do
   let r ← must [66, 89] (takes r)
   exprs orderOf r) else .ok ([], r)
 let (limit, r) ← if isT [76, 73, 77, 73, 84] r then (if (nxt (takes r)).kind ≠ 3 then fails 120 (takes r) else do
   let (n, r) ← int 9223372036854775807 (takes r)
   return ((n : Int), r)) else .ok (-1, r)
 return ({ made 8 with items := items, frm := frm, join := join, wher := w, group := group, order := order, limit := limit }, r)
def statement (r : R) : Except Er (St × R) :=
 if isT [67, 82, 69, 65, 84, 69] r && (nxt r).kind == 2 then create (takes r)
 else if isT [68, 82, 79, 80] r && (nxt r).kind == 2 then drop (takes r)
 else if isT [73, 78, 83, 69, 82, 84] r && (nxt r).kind == 2 then insert (takes r)
 else if isT [85, 80, 68, 65, 84, 69] r && (nxt r).kind == 2 then update (takes r)
 else if isT [68, 69, 76, 69, 84, 69] r && (nxt r).kind == 2 then deletes (takes r)
 else if isT [83, 69, 76, 69, 67, 84] r && (nxt r).kind == 2 then selects (takes r)
 else if isT [66, 69, 71, 73, 78] r then .ok (made 9, takes r)
 else if isT [67, 79, 77, 77, 73, 84] r then .ok (made 10, takes r)
 else if isT [82, 79, 76, 76, 66, 65, 67, 75] r then .ok (made 11, takes r)
 else fails 120 r
def parseToks (l : List Tok) : Except Er St := do
 let (x, r) ← statement ⟨l, 0⟩
 let r := (has [59] r).2
 if (nxt r).kind ≠ 0 then fails 120 r else return x
def parse (s : T) : Except Er St := match P11.lexed s with
 | .inr (a, k) => .error (a, k)
 | .inl l => parseToks l
end P12
namespace P11
open P6 (dbl)
theorem textOf_len : ∀ (n : Nat) (l : List UInt8), l.length ≤ n → ∀ x, textOf l = some x → x.1.length ≤ x.2
 | _, [], _, x, h => by simp [textOf] at h
 | _, [c], _, x, h => by
  rw [textOf] at h
  split at h
  ·cases h; simp
  ·cases h
 | 0, _ :: _ :: _, hn, _, _ => by simp at hn
 | n + 1, c :: d :: l, hn, x, h => by
  rw [textOf] at h
  simp only [List.length_cons] at hn
  split at h
  ·split at h
   ·obtain ⟨y, hy, rfl⟩ := Option.map_eq_some_iff.1 h
    have := textOf_len n l (by omega) y hy
    simp only [List.length_cons]; omega
   ·cases h; simp
  ·obtain ⟨y, hy, rfl⟩ := Option.map_eq_some_iff.1 h
   have := textOf_len n (d :: l) (by simp; omega) y hy
   simp only [List.length_cons] at this ⊢; omega
theorem numOf_len : ∀ l : List UInt8, (numOf l).length ≤ l.length
 | [] => by simp [numOf]
 | [c] => by simp [numOf]
 | c :: d :: l => by
  rw [numOf]
  split
  ·have := numOf_len (d :: l)
   simp only [List.length_cons] at this ⊢; omega
  ·exact Nat.le_refl _
theorem step_len {c : UInt8} {t : List UInt8} {n : Nat} {x : Int × List UInt8} (h : step (c :: t) = .inl (n, some x)) : x.2.length ≤ n := by
 rw [step] at h
 split at h
 ·cases h
 split at h
 ·cases h
 split at h
 ·split at h
  ·cases h
  ·rename_i y hy
   split at h
   ·cases h
   ·cases h
    have := textOf_len _ t (Nat.le_refl _) y hy
    dsimp only; omega
 split at h
 ·cases h
  split
  ·simp
  ·simp
 split at h
 ·cases h
  exact numOf_len _
 split at h
 ·cases h
 ·cases h
  exact Nat.le_refl _
def bulk (l : List Tok) : Nat := (l.map fun t => t.text.length + 1).sum
theorem toks_bulk : ∀ (n : Nat) (r : List UInt8) (p : Nat) (l : List Tok), r.length ≤ n → toks r p = .inl l → bulk l ≤ 2 * r.length + 1
 | _, [], p, l, _, h => by rw [toks_nil] at h; cases h; simp [bulk]
 | 0, _ :: _, _, _, hn, _ => by simp at hn
 | n + 1, c :: t, p, l, hn, h => by
  cases hs : step (c :: t) with
  | inr x => rw [toks_err p hs] at h; cases h
  | inl x =>
   have hp := step_pos hs
   rw [toks_step p hs] at h
   cases hr : toks ((c :: t).drop x.1) (p + x.1) with
   | inr y => simp only [hr] at h; cases h
   | inl m =>
    simp only [hr, Sum.inl.injEq] at h
    have ih := toks_bulk n _ _ _ (by simp only [List.length_drop, List.length_cons] at hn hp ⊢; omega) hr
    rw [List.length_drop] at ih
    obtain ⟨k, o⟩ := x
    cases o with
    | none => subst h; dsimp only [withTok] at hp ih ⊢; omega
    | some y =>
     have := step_len hs
     subst h
     simp only [withTok, bulk, List.map_cons, List.sum_cons] at ih ⊢
     dsimp only at hp ih
     omega
theorem bulk_length (l : List Tok) : l.length ≤ bulk l := by
 induction l with
 | nil => simp
 | cons t l ih => simp only [bulk, List.map_cons, List.sum_cons, List.length_cons] at ih ⊢; omega
theorem bulk_at {l : List Tok} {t : Tok} (h : t ∈ l) : t.text.length < bulk l := by
 induction l with
 | nil => cases h
 | cons x l ih =>
  simp only [bulk, List.map_cons, List.sum_cons] at ih ⊢
  rcases List.mem_cons.1 h with rfl | h
  ·omega
  ·have := ih h; omega
end P11
namespace P12
open P11 (Tok)
structure TokOk (t : Tok) : Prop where
 kind : 0 ≤ t.kind ∧ t.kind ≤ 5
 len : t.text.length ≤ 8193
 name : t.kind = 1 → t.text ≠ []
 digits : t.kind = 3 → t.text ≠ [] ∧ ∀ c ∈ t.text, 48 ≤ c.toNat ∧ c.toNat ≤ 57
structure Good (r : R) : Prop where
 ends : ∃ a e, r.l = a ++ [e] ∧ e.kind = 0
 toks : ∀ t ∈ r.l, TokOk t
 deep : r.deep ≤ 100
 len : r.l.length ≤ 8193
structure Keeps (r r' : R) : Prop where
 suf : r'.l <:+ r.l
 deep : r'.deep = r.deep
theorem Keeps.refl (r : R) : Keeps r r := ⟨List.suffix_refl _, rfl⟩
theorem Keeps.trans {a b c : R} (h : Keeps a b) (k : Keeps b c) : Keeps a c := ⟨k.suf.trans h.suf, k.deep.trans h.deep⟩
theorem Keeps.le {a b : R} (h : Keeps a b) : b.l.length ≤ a.l.length := h.suf.length_le
theorem Good.head {r : R} (h : Good r) : ∃ t l, r.l = t :: l ∧ nxt r = t := by
 obtain ⟨a, e, h1, -⟩ := h.ends
 cases hl : r.l with
 | nil => rw [hl] at h1; cases a <;> cases h1
 | cons t l => exact ⟨t, l, rfl, by simp [nxt, hl]⟩
theorem Good.pos {r : R} (h : Good r) : 0 < r.l.length := by
 obtain ⟨t, l, h1, -⟩ := h.head
 rw [h1]; simp
theorem Good.nxt_ok {r : R} (h : Good r) : TokOk (nxt r) := by
 obtain ⟨t, l, h1, h2⟩ := h.head
 rw [h2]; exact h.toks t (by rw [h1]; simp)
theorem nxt_get {r : R} (h : Good r) : r.l[0]? = some (nxt r) := by
 obtain ⟨t, l, h1, h2⟩ := h.head
 rw [h1, h2]; rfl
theorem takes_tail {r : R} (h : (nxt r).kind ≠ 0) : takes r = ⟨r.l.tail, r.deep⟩ := by rw [takes, if_neg h]
theorem takes_end {r : R} (h : (nxt r).kind = 0) : takes r = r := by rw [takes, if_pos h]
theorem keeps_takes (r : R) : Keeps r (takes r) := by
 unfold takes
 split
 ·exact Keeps.refl r
 ·exact ⟨List.tail_suffix _, rfl⟩
theorem tail_ends {r : R} (h : Good r) (hk : (nxt r).kind ≠ 0) : ∃ a e, r.l.tail = a ++ [e] ∧ e.kind = 0 := by
 obtain ⟨a, e, h1, h2⟩ := h.ends
 cases a with
 | nil =>
  exfalso; apply hk
  simp [nxt, h1, h2]
 | cons t a => exact ⟨a, e, by rw [h1]; rfl, h2⟩
theorem Good.takes {r : R} (h : Good r) : Good (takes r) := by
 by_cases hk : (nxt r).kind = 0
 ·rwa [takes_end hk]
 ·rw [takes_tail hk]
  exact ⟨tail_ends h hk, fun t ht => h.toks t (List.mem_of_mem_tail ht), h.deep, Nat.le_trans (by simp) h.len⟩
theorem Good.tail_pos {r : R} (h : Good r) (hk : (nxt r).kind ≠ 0) : 1 < r.l.length := by
 obtain ⟨a, e, h1, -⟩ := tail_ends h hk
 have : r.l.tail.length = r.l.length - 1 := by simp
 have h2 : 0 < r.l.tail.length := by rw [h1]; simp
 omega
theorem takes_lt {r : R} (h : Good r) (hk : (nxt r).kind ≠ 0) : (P12.takes r).l.length + 1 = r.l.length := by
 rw [takes_tail hk]
 have := h.pos
 simp; omega
theorem isT_kind {s : T} {r : R} (h : isT s r = true) : (nxt r).kind ≠ 0 := by
 intro hk
 simp [isT, hk] at h
theorem isT_text {s : T} {r : R} (h : isT s r = true) : (nxt r).text = s := by
 simp [isT] at h; exact h.2
theorem tokOk_good {t : Tok} (h : P11.good (P11.kt t)) (hl : t.text.length ≤ 8193) : TokOk t := by
 rcases h with ⟨h1, ⟨c, l, h2, -⟩, -⟩ | ⟨h1, -⟩ | ⟨h1, h2, h3, -⟩ | ⟨h1, -⟩ | ⟨h1, -⟩
 ·simp only [P11.kt] at h1 h2
  exact ⟨by omega, hl, fun _ => by rw [h2]; simp, fun h => by omega⟩
 ·simp only [P11.kt] at h1
  exact ⟨by omega, hl, fun h => by omega, fun h => by omega⟩
 ·simp only [P11.kt] at h1 h2 h3
  refine ⟨by omega, hl, fun h => by omega, fun _ => ⟨h2, fun c hc => ?_⟩⟩
  have := List.all_eq_true.1 h3 c hc
  simp only [P11.digit, Bool.and_eq_true, decide_eq_true_eq, UInt8.le_iff_toNat_le] at this
  exact this
 ·simp only [P11.kt] at h1
  exact ⟨by omega, hl, fun h => by omega, fun h => by omega⟩
 ·simp only [P11.kt] at h1
  exact ⟨by omega, hl, fun h => by omega, fun h => by omega⟩
theorem lexed_good {s : List UInt8} {l : List Tok} (h : P11.lexed s = .inl l) : Good ⟨l, 0⟩ := by
 unfold P11.lexed at h
 split at h
 ·cases h
 ·rename_i hs
  have hb := P11.toks_bulk _ s 0 l (Nat.le_refl _) h
  obtain ⟨l', rfl, hg⟩ := P11.toks_form _ s 0 l (Nat.le_refl _) h
  refine ⟨⟨l', _, rfl, rfl⟩, fun t ht => ?_, Nat.zero_le _, ?_⟩
  ·have hlt := P11.bulk_at ht
   rcases List.mem_append.1 ht with ht | ht
   ·exact tokOk_good (hg t ht) (by simp only [Nat.zero_add] at hb hlt ⊢; omega)
   ·simp only [List.mem_singleton] at ht
    subst ht
    exact ⟨⟨Int.le_refl 0, (by decide : (0 : Int) ≤ 5)⟩, by simp, fun h => absurd h (by simp), fun h => absurd h (by simp)⟩
  ·have := P11.bulk_length (l' ++ [⟨0, [], 0 + s.length⟩])
   show (l' ++ [_]).length ≤ 8193
   omega
end P12
namespace P12
open P11 (words)
def nameC (i : Nat) (c : UInt8) : Bool := c == 95 || (97 ≤ c && c ≤ 122) || (48 ≤ c && c ≤ 57 && i != 0)
def nameOk : Nat → T → Bool
 | _, [] => true
 | i, c :: l => nameC i c && nameOk (i + 1) l
def isName (s : T) : Bool := s != [] && decide (s.length ≤ 24) && !words.contains (s.map Go.Lib.upperB) && nameOk 0 s
def maybeName (s : T) : Bool := s == [] || isName s
def isE : E → Bool
 | .none => false
 | .val k i s => P6.isV k i s && decide (-9223372036854775808 ≤ i) && decide (i ≤ 9223372036854775807)
 | .col t n => isName n && maybeName t
 | .una op a => decide (15 ≤ op) && decide (op ≤ 18) && isE a
 | .bin op a b => decide (1 ≤ op) && decide (op ≤ 14) && isE a && isE b
 | .call op a => decide (20 ≤ op) && decide (op ≤ 23) && isE a
 | .all => true
def noE : E → Bool
 | .none => true
 | _ => false
def maybeE (e : E) : Bool := noE e || isE e
def some {α : Type} (l : List α) (most : Nat) (p : α → Bool) : Bool := decide (1 ≤ l.length) && decide (l.length ≤ most) && l.all p
def isCol : E → Bool
 | .col t n => isE (.col t n)
 | _ => false
def tabOk (t : Tb) (k : List (List T)) : Bool :=
 isName t.name && decide (1 ≤ t.cols.length + t.keys.length + t.checks.length) && decide (t.cols.length + t.keys.length + t.checks.length ≤ 16) && k.length == t.keys.length &&
  k.all (fun l => some l 16 isName) && t.checks.all isE && t.cols.all (fun c => isName c.1 && decide (1 ≤ c.2.1) && decide (c.2.1 ≤ 3))
def itemOk (x : Bool × E × T) : Bool := if x.1 then noE x.2.1 && x.2.2 == [] else isE x.2.1 && maybeName x.2.2
def selOk (x : St) : Bool :=
 some x.items 16 itemOk && some x.frm 2 (fun s => isName s.1 && maybeName s.2) && maybeE x.wher && (if x.frm.length = 2 then isE x.join else noE x.join) &&
  decide (x.group.length ≤ 16) && x.group.all isCol && decide (x.order.length ≤ 16) && x.order.all (fun o => isE o.1) && decide (-1 ≤ x.limit) && decide (x.limit ≤ 9223372036854775807)
def keptOf (x : St) : St :=
 if x.kind = 1 then { kind := 1, tb := x.tb, keyCols := x.keyCols }
 else if x.kind = 3 then { kind := 3, name := x.name, on := x.on, unique := x.unique, cols := x.cols }
 else if x.kind = 5 then { kind := 5, name := x.name, cols := x.cols, rows := x.rows }
 else if x.kind = 6 then { kind := 6, name := x.name, sets := x.sets, wher := x.wher }
 else if x.kind = 7 then { kind := 7, name := x.name, wher := x.wher }
 else if x.kind = 8 then { kind := 8, items := x.items, frm := x.frm, join := x.join, wher := x.wher, group := x.group, order := x.order, limit := x.limit }
 else if x.kind = 2 ∨ x.kind = 4 then { kind := x.kind, name := x.name }
 else { kind := x.kind }
def isS (x : St) : Prop :=
 x = keptOf x ∧ ((x.kind = 1 ∧ tabOk x.tb x.keyCols = true) ∨ (x.kind = 2 ∧ isName x.name = true) ∨ (x.kind = 4 ∧ isName x.name = true) ∨
  (x.kind = 3 ∧ isName x.name = true ∧ isName x.on = true ∧ some x.cols 16 isName = true) ∨
  (x.kind = 5 ∧ isName x.name = true ∧ (x.cols = [] ∨ some x.cols 16 isName = true) ∧ some x.rows 32 (fun l => some l 16 isE) = true) ∨
  (x.kind = 6 ∧ isName x.name = true ∧ some x.sets 16 (fun s => isName s.1 && isE s.2) = true ∧ maybeE x.wher = true) ∨
  (x.kind = 7 ∧ isName x.name = true ∧ maybeE x.wher = true) ∨ (x.kind = 8 ∧ selOk x = true) ∨ x.kind = 9 ∨ x.kind = 10 ∨ x.kind = 11)
def signOf (op : Int) : T :=
 if op = 1 then [79, 82] else if op = 2 then [65, 78, 68] else if op = 3 then [61] else if op = 4 then [60, 62] else if op = 5 then [60] else if op = 6 then [60, 61] else if op = 7 then [62] else if op = 8 then [62, 61]
 else if op = 9 then [43] else if op = 10 then [45] else if op = 11 then [42] else if op = 12 then [47] else if op = 13 then [37] else if op = 14 then [124, 124] else []
def closed (op : Int) : E → Bool
 | .una _ _ => true
 | .bin _ _ _ => true
 | .val k _ _ => op == 16 && k == 2
 | _ => false
def inBr (b : Bool) (t : T) : T := if b then [40] ++ t ++ [41] else t
def fnWord (op : Int) : T := if op = 20 then [67, 79, 85, 78, 84] else if op = 21 then [83, 85, 77] else if op = 22 then [77, 73, 78] else if op = 23 then [77, 65, 88] else []
def text : E → T
 | .none => []
 | .val k i s => P6.printV k i s
 | .col t n => if t = [] then n else t ++ [46] ++ n
 | .bin op a b => inBr (closed op a) (text a) ++ [32] ++ signOf op ++ [32] ++ inBr (closed op b) (text b)
 | .una op a =>
  if op = 15 then [78, 79, 84, 32] ++ inBr (closed op a) (text a) else if op = 16 then [45, 32] ++ inBr (closed op a) (text a)
  else if op = 17 then inBr (closed op a) (text a) ++ [32, 73, 83, 32, 78, 85, 76, 76] else inBr (closed op a) (text a) ++ [32, 73, 83, 32, 78, 79, 84, 32, 78, 85, 76, 76]
 | .all => [67, 79, 85, 78, 84, 40, 42, 41]
 | .call op a => fnWord op ++ [40] ++ text a ++ [41]
def join (l : List T) : T := Go.Lib.join l [44, 32]
def typeWord (ty : Int) : T := if ty = 1 then [66, 79, 79, 76] else if ty = 2 then [73, 78, 84] else if ty = 3 then [84, 69, 88, 84] else []
def colText (c : T × Int × Bool) : T := c.1 ++ [32] ++ typeWord c.2.1 ++ (if c.2.2 then [32, 78, 79, 84, 32, 78, 85, 76, 76] else [])
def keyText (p : Bool) (l : List T) : T := (if p then [80, 82, 73, 77, 65, 82, 89, 32, 75, 69, 89] else [85, 78, 73, 81, 85, 69]) ++ [32, 40] ++ join l ++ [41]
def tabText (t : Tb) (k : List (List T)) : T :=
 [67, 82, 69, 65, 84, 69, 32, 84, 65, 66, 76, 69, 32] ++ t.name ++ [32, 40] ++ join (t.cols.map colText ++ (List.zipWith keyText t.keys k) ++ t.checks.map (fun e => [67, 72, 69, 67, 75, 32, 40] ++ text e ++ [41])) ++ [41]
def whereText (e : E) : T := if noE e then [] else [32, 87, 72, 69, 82, 69, 32] ++ text e
def itemText (x : Bool × E × T) : T := if x.1 then [42] else if x.2.2 = [] then text x.2.1 else text x.2.1 ++ [32, 65, 83, 32] ++ x.2.2
def srcText (s : T × T) : T := if s.2 = [] then s.1 else s.1 ++ [32] ++ s.2
def ordText (o : E × Bool) : T := if o.2 then text o.1 ++ [32, 68, 69, 83, 67] else text o.1
def selText (x : St) : T :=
 [83, 69, 76, 69, 67, 84, 32] ++ join (x.items.map itemText) ++ [32, 70, 82, 79, 77, 32] ++ srcText (x.frm.headD ([], [])) ++
  (if x.frm.length ≤ 1 then [] else [32, 74, 79, 73, 78, 32] ++ srcText (x.frm.tail.headD ([], [])) ++ [32, 79, 78, 32] ++ text x.join) ++ whereText x.wher ++
  (if x.group = [] then [] else [32, 71, 82, 79, 85, 80, 32, 66, 89, 32] ++ join (x.group.map text)) ++ (if x.order = [] then [] else [32, 79, 82, 68, 69, 82, 32, 66, 89, 32] ++ join (x.order.map ordText)) ++
  (if x.limit < 0 then [] else [32, 76, 73, 77, 73, 84, 32] ++ Go.Lib.itoa x.limit)
def colsText (l : List T) : T := if l = [] then [] else [32, 40] ++ join l ++ [41]
def rowText (l : List E) : T := [40] ++ join (l.map text) ++ [41]
def setText (s : T × E) : T := s.1 ++ [32, 61, 32] ++ text s.2
def print (x : St) : T :=
 if x.kind = 1 then tabText x.tb x.keyCols
 else if x.kind = 2 then [68, 82, 79, 80, 32, 84, 65, 66, 76, 69, 32] ++ x.name
 else if x.kind = 3 then (if x.unique then [67, 82, 69, 65, 84, 69, 32, 85, 78, 73, 81, 85, 69, 32, 73, 78, 68, 69, 88, 32] else [67, 82, 69, 65, 84, 69, 32, 73, 78, 68, 69, 88, 32]) ++ x.name ++ [32, 79, 78, 32] ++ x.on ++ colsText x.cols
 else if x.kind = 4 then [68, 82, 79, 80, 32, 73, 78, 68, 69, 88, 32] ++ x.name
 else if x.kind = 5 then [73, 78, 83, 69, 82, 84, 32, 73, 78, 84, 79, 32] ++ x.name ++ colsText x.cols ++ [32, 86, 65, 76, 85, 69, 83, 32] ++ join (x.rows.map rowText)
 else if x.kind = 6 then [85, 80, 68, 65, 84, 69, 32] ++ x.name ++ [32, 83, 69, 84, 32] ++ join (x.sets.map setText) ++ whereText x.wher
 else if x.kind = 7 then [68, 69, 76, 69, 84, 69, 32, 70, 82, 79, 77, 32] ++ x.name ++ whereText x.wher
 else if x.kind = 8 then selText x
 else if x.kind = 9 then [66, 69, 71, 73, 78] else if x.kind = 10 then [67, 79, 77, 77, 73, 84] else [82, 79, 76, 76, 66, 65, 67, 75]
end P12
namespace P12
end P12
namespace P12
open P11 (Tok toks after)
end P12
namespace P12
open P11 (Tok toks after digit numOf)
open Go.Lib (itoa decDigits)
theorem takeWhile_all {α : Type} (p : α → Bool) : ∀ l : List α, (∀ c ∈ l, p c = true) → l.takeWhile p = l
 | [], _ => rfl
 | c :: l, h => by rw [List.takeWhile_cons, if_pos (h c (by simp)), takeWhile_all p l fun c hc => h c (by simp [hc])]
end P12
namespace P12
end P12
namespace P11
end P11
namespace P12
open P11 (Tok)
end P12
namespace P12
open P11 (Tok)
abbrev okE (a : E) : Prop := isE a = true
abbrev Hd (r : R) : Prop := P11.good (P11.kt (nxt r)) ∨ (nxt r).kind = 0
end P12
namespace P12
open P11 (Tok)
section
variable {e : Tok} {x : List Tok}
theorem names_eq : names = fun r => must [40] r >>= fun r => (fun r => rowF 16 named name r.l.length 0 r) r >>= fun z => must [41] z.2 >>= fun r => .ok (z.1, r) := by kernel_rfl
theorem conOf_eq (n : Nat) (c : T) (r : R) : conOf n c r = if (decide (16 < n + 1) && constrains r) = true then fails 122 r else (fun r => if isT [67, 72, 69, 67, 75] r = true then (within expr (takes r) >>= fun z => .ok ((.inl z.1 : Con), z.2)) else
  if isT [80, 82, 73, 77, 65, 82, 89] r = true then (must [75, 69, 89] (takes r) >>= fun r => colsOf c r >>= fun z => .ok ((.inr (true, z.1) : Con), z.2)) else (must [85, 78, 73, 81, 85, 69] r >>= fun r => colsOf c r >>= fun z => .ok ((.inr (false, z.1) : Con), z.2))) r := by
 unfold conOf keyWord has
 split
 ·rfl
 dsimp only
 split
 ·cases within expr (takes r) <;> rfl
 ·cases hp : isT [80, 82, 73, 77, 65, 82, 89] r with
  | true => simp only [if_true]; cases must [75, 69, 89] (takes r) with
   | error er => rfl
   | ok r1 => show (match colsOf c r1 with | .error e => .error e | .ok (l, r2) => .ok ((.inr (true, l) : Con), r2)) = (colsOf c r1 >>= _); cases colsOf c r1 <;> rfl
  | false => simp only [Bool.false_eq_true, if_false]; cases must [85, 78, 73, 81, 85, 69] r with
   | error er => rfl
   | ok r1 => show (match colsOf c r1 with | .error e => .error e | .ok (l, r2) => .ok ((.inr (false, l) : Con), r2)) = (colsOf c r1 >>= _); cases colsOf c r1 <;> rfl
structure J (t : Tb) (k : List (List T)) (n c : Nat) : Prop where
 nm : isName t.name = true
 cnt : t.cols.length + t.keys.length + t.checks.length + c = n
 most : n ≤ 16
 kl : k.length = t.keys.length
 ks : ∀ l ∈ k, some l 16 isName = true
 cs : ∀ a ∈ t.checks, okE a
 col : ∀ a ∈ t.cols, isName a.1 = true ∧ 1 ≤ a.2.1 ∧ a.2.1 ≤ 3
theorem part_eq (t : Tb) (k : List (List T)) (n : Nat) : part t k n = fun r => if constrains r = true then (conOf n [] r >>= fun z => .ok ((addT t z.1, addK k z.1, n + 1), z.2)) else
  if (decide (16 < n + 1) && named r) = true then fails 122 r else (name r >>= fun z => typeOf z.2 >>= fun y => (fun r => tailF z.1 r.l.length t k (n + 1) false r) y.2 >>= fun w => .ok (({ w.1.1 with cols := w.1.1.cols ++ [(z.1, y.1, w.1.2.2.2)] }, w.1.2.1, w.1.2.2.1), w.2)) := by kernel_rfl
theorem partsF_succ (f : Nat) (t : Tb) (k : List (List T)) (n : Nat) : partsF (f + 1) t k n = fun r => part t k n r >>= fun z => if isT [44] z.2 = true then partsF f z.1.1 z.1.2.1 z.1.2.2 (takes z.2) else .ok ((z.1.1, z.1.2.1), z.2) := by kernel_rfl
abbrev SelF := R → Except Er (St × R)
def mkIdx (u : Bool) : SelF := fun r => must [73, 78, 68, 69, 88] r >>= fun r => name r >>= fun z => must [79, 78] z.2 >>= fun r => name r >>= fun w => names w.2 >>= fun l => .ok ({ made 3 with unique := u, name := z.1, on := w.1, cols := l.1 }, l.2)
def mkTab : SelF := fun r => name r >>= fun z => must [40] z.2 >>= fun r => (fun r => partsF r.l.length { name := z.1 } [] 0 r) r >>= fun w => must [41] w.2 >>= fun r => .ok ({ made 1 with tb := w.1.1, keyCols := w.1.2 }, r)
theorem create_eq : create = fun r => if isT [84, 65, 66, 76, 69] r = true then mkTab (takes r)
  else (fun u : Bool × R => if (u.1 || isT [73, 78, 68, 69, 88] u.2) = true then mkIdx u.1 u.2 else fails 120 r) (has [85, 78, 73, 81, 85, 69] r) := by kernel_rfl
end
end P12
namespace P11
end P11
namespace P12
open P11 (Tok)
def B (m : Nat) (r : R) : Prop := ∀ t ∈ r.l, t.pos ≤ m
end P12
namespace P11
open Go.Lib (upperB lowerB)
open P6 (dbl)
def Fo (r : List UInt8) : Prop := r = [] ∨ ∃ c u, r = c :: u ∧ (c = 32 ∨ c = 41 ∨ c = 44 ∨ c = 46 ∨ c = 40)
def Lx (P : List UInt8 → Prop) (s : List UInt8) (ks : List (Int × List UInt8)) : Prop := ∀ r p, P r → ∃ ts : List Tok, ts.map kt = ks ∧ toks (s ++ r) p = after ts (toks r (p + s.length))
abbrev Any (_ : List UInt8) : Prop := True
abbrev foC (c : UInt8) : Prop := c = 32 ∨ c = 41 ∨ c = 44 ∨ c = 46 ∨ c = 40
end P11
namespace P12
open P11 (Tok Lx Fo Any kt)
def numK (i : Int) : List (Int × T) := if i < 0 then [(5, [45]), (3, Go.Lib.decDigits i.natAbs)] else [(3, Go.Lib.decDigits i.toNat)]
def valK (k i : Int) (s : T) : List (Int × T) := if k = 0 then [(2, [78, 85, 76, 76])] else if k = 1 then (if i = 1 then [(2, [84, 82, 85, 69])] else [(2, [70, 65, 76, 83, 69])]) else if k = 2 then numK i else [(4, s)]
def opK (op : Int) : Int × T := (if op ≤ 2 then 2 else 5, signOf op)
def brK (b : Bool) (k : List (Int × T)) : List (Int × T) := if b then (5, [40]) :: (k ++ [(5, [41])]) else k
def ek : E → List (Int × T)
 | .none => []
 | .val k i s => valK k i s
 | .col t n => if t = [] then [(1, n)] else [(1, t), (5, [46]), (1, n)]
 | .bin op a b => brK (closed op a) (ek a) ++ opK op :: brK (closed op b) (ek b)
 | .una op a =>
  if op = 15 then (2, [78, 79, 84]) :: brK (closed op a) (ek a) else if op = 16 then (5, [45]) :: brK (closed op a) (ek a)
  else if op = 17 then brK (closed op a) (ek a) ++ [(2, [73, 83]), (2, [78, 85, 76, 76])] else brK (closed op a) (ek a) ++ [(2, [73, 83]), (2, [78, 79, 84]), (2, [78, 85, 76, 76])]
 | .all => [(2, [67, 79, 85, 78, 84]), (5, [40]), (5, [42]), (5, [41])]
 | .call op a => (2, fnWord op) :: (5, [40]) :: (ek a ++ [(5, [41])])
end P12
namespace P12
open P11 (Tok kt)
abbrev opsT (ops : List (T × Int)) : List T := ops.map (·.1)
def n1 : List T := [[46]]
def n2 : List T := n1 ++ opsT mulOps
def n3 : List T := n2 ++ opsT addOps
def n4 : List T := n3 ++ opsT cmpOps ++ [[73, 83]]
def n5 : List T := n4 ++ opsT andOps
def n6 : List T := n5 ++ opsT orOps
theorem isName_len {s : T} (h : isName s = true) : s.length ≤ 24 := by
 unfold isName at h
 simp only [Bool.and_eq_true, decide_eq_true_eq] at h
 exact h.1.1.2
end P12
namespace P12
open P11 (Tok kt)
end P12
namespace P12
open P11 (Tok Lx Fo Any kt foC)
def wt : List T → T
 | [] => []
 | w :: l => w ++ 32 :: wt l
end P12
namespace P12
open P11 (Tok kt)
end P12
namespace P12
open P11 (Tok kt)
end P12
namespace P12
open P11 (Tok)
def sm {α : Type} (f : α → Nat) (l : List α) : Nat := (l.map f).sum
theorem sm_cons {α : Type} (f : α → Nat) (a : α) (l : List α) : sm f (a :: l) = f a + sm f l := by simp [sm]
theorem join_len {α : Type} {f : α → T} {g : α → Nat} : ∀ l : List α, (∀ a ∈ l, (f a).length + 2 ≤ g a) → (join (l.map f)).length ≤ sm g l
 | [], _ => Nat.zero_le _
 | [a], h => by have := h a (by simp); simp [join, Go.Lib.join, sm]; omega
 | a :: b :: l, h => by
  have ih := join_len (b :: l) fun c hc => h c (by simp at hc ⊢; exact .inr hc)
  have := h a (by simp)
  rw [sm_cons]
  have e : join ((a :: b :: l).map f) = f a ++ [44, 32] ++ join ((b :: l).map f) := by simp [join, Go.Lib.join]
  rw [e]; simp only [List.length_append, List.length_cons, List.length_nil]; omega
theorem sm_le {α : Type} {g h : α → Nat} {c k : Nat} : ∀ l : List α, (∀ a ∈ l, g a ≤ k * h a + c) → sm g l ≤ k * sm h l + c * l.length
 | [], _ => Nat.zero_le _
 | a :: l, hh => by
  have ih := sm_le l fun b hb => hh b (by simp [hb])
  have := hh a (by simp)
  rw [sm_cons, sm_cons, List.length_cons, Nat.mul_add, Nat.mul_add]; omega
theorem names_len {l : List T} (h : ∀ s ∈ l, isName s = true) : (join l).length ≤ 26 * l.length := by
 have h1 := join_len (f := fun s : T => s) (g := fun _ => 26) l fun a ha => by have := isName_len (h a ha); omega
 have h2 := sm_le (g := fun _ : T => 26) (h := fun _ : T => 0) (k := 0) (c := 26) l fun a _ => by simp
 simp only [List.map_id', Nat.zero_mul, Nat.zero_add] at h1 h2; omega
end P12
