/- Plain functions: what the lexer computes, and laws of it. No program in sight. -/
import Derived.Lib.Strings
import Derived.Lib.Bytealg
import Derived.Lib.Case
import Derived.Lib.SlTrimSet
import Derived.Test.YteipafoiogkdoaaDoorP7
set_option linter.unusedSimpArgs false
set_option linter.unusedVariables false
namespace P11
open Go.Lib (upperB lowerB)
structure Tok where
  kind : Int
  text : List UInt8
  pos : Nat
def letter (c : UInt8) : Bool := (97 ≤ c && c ≤ 122) || (65 ≤ c && c ≤ 90) || c == 95
def digit (c : UInt8) : Bool := 48 ≤ c && c ≤ 57
def alnum (c : UInt8) : Bool := letter c || digit c
def blank (c : UInt8) : Bool := c == 32 || c == 9 || c == 10 || c == 13
def words : List (List UInt8) := [[65, 78, 68], [65, 83], [65, 83, 67], [66, 69, 71, 73, 78], [66, 79, 79, 76], [66, 89], [67, 72, 69, 67, 75], [67, 79, 77, 77, 73, 84], [67, 79, 85, 78, 84], [67, 82, 69, 65, 84, 69], [68, 69, 76, 69, 84, 69], [68, 69, 83, 67], [68, 82, 79, 80], [70, 65, 76, 83, 69], [70, 82, 79, 77], [71, 82, 79, 85, 80], [73, 78, 68, 69, 88], [73, 78, 83, 69, 82, 84], [73, 78, 84], [73, 78, 84, 79], [73, 83], [74, 79, 73, 78], [75, 69, 89], [76, 73, 77, 73, 84], [77, 65, 88], [77, 73, 78], [78, 79, 84], [78, 85, 76, 76], [79, 78], [79, 82], [79, 82, 68, 69, 82], [80, 82, 73, 77, 65, 82, 89], [82, 79, 76, 76, 66, 65, 67, 75], [83, 69, 76, 69, 67, 84], [83, 69, 84], [83, 85, 77], [84, 65, 66, 76, 69], [84, 69, 88, 84], [84, 82, 85, 69], [85, 78, 73, 81, 85, 69], [85, 80, 68, 65, 84, 69], [86, 65, 76, 85, 69, 83], [87, 72, 69, 82, 69]]
def signs : List (List UInt8) := [[60, 62], [60, 61], [62, 61], [124, 124], [40], [41], [44], [46], [42], [61], [60], [62], [43], [45], [47], [37], [59]]
def signOf (r : List UInt8) : Option (List UInt8) := signs.find? fun x => x.isPrefixOf r
/-- A number's digits, without zeros ahead; one is left. -/
def numOf : List UInt8 → List UInt8
  | [] => []
  | [c] => [c]
  | c :: d :: l => if c = 48 then numOf (d :: l) else c :: d :: l
/-- Behind a quote: what the text says, and how many bytes go until behind its end. -/
def textOf : List UInt8 → Option (List UInt8 × Nat)
  | [] => none
  | [c] => if c = 39 then some ([], 1) else none
  | c :: d :: l => if c = 39 then (if d = 39 then (textOf l).map fun x => (39 :: x.1, x.2 + 2) else some ([], 1)) else (textOf (d :: l)).map fun x => (c :: x.1, x.2 + 1)
def lineLen (r : List UInt8) : Nat := (r.takeWhile (· != 10)).length
/-- One step: how many bytes go, and the token that they are, if any; or how far on, and which error. -/
def step : List UInt8 → (Nat × Option (Int × List UInt8)) ⊕ (Nat × Int)
  | [] => .inr (0, 0)
  | c :: t =>
    if blank c then .inl (1, none)
    else if [45, 45].isPrefixOf (c :: t) then .inl (lineLen (c :: t), none)
    else if c = 39 then
      match textOf t with
      | none => .inr (0, 112)
      | some x => if ((c :: t).take (x.2 + 1)).contains 0 then .inr (((c :: t).take (x.2 + 1)).idxOf 0, 111) else .inl (x.2 + 1, some (4, x.1))
    else if letter c then
      let w := (c :: t).takeWhile alnum
      .inl (w.length, some (if words.contains (w.map upperB) then (2, w.map upperB) else (1, w.map lowerB)))
    else if digit c then
      let w := (c :: t).takeWhile digit
      .inl (w.length, some (3, numOf w))
    else match signOf (c :: t) with
      | none => .inr (0, 111)
      | some x => .inl (x.length, some (5, x))
def withTok (t : Option (Int × List UInt8)) (p : Nat) (l : List Tok) : List Tok :=
  match t with
  | none => l
  | some x => ⟨x.1, x.2, p⟩ :: l
def toksF : Nat → List UInt8 → Nat → List Tok ⊕ (Nat × Int)
  | 0, _, _ => .inr (0, 0)
  | _ + 1, [], p => .inl [⟨0, [], p⟩]
  | f + 1, c :: t, p =>
    match step (c :: t) with
    | .inr x => .inr (p + x.1, x.2)
    | .inl x => match toksF f ((c :: t).drop x.1) (p + x.1) with
      | .inr y => .inr y
      | .inl l => .inl (withTok x.2 p l)
/-- The tokens of what is left, from place p on. -/
def toks (r : List UInt8) (p : Nat) : List Tok ⊕ (Nat × Int) := toksF (r.length + 1) r p
def lexed (s : List UInt8) : List Tok ⊕ (Nat × Int) := if 4096 < s.length then .inr (0, 110) else toks s 0

theorem textOf_pos : ∀ (n : Nat) (l : List UInt8), l.length ≤ n → ∀ x, textOf l = some x → 0 < x.2 ∧ x.2 ≤ l.length
  | _, [], _, x, h => by simp [textOf] at h
  | _, [c], _, x, h => by
    rw [textOf] at h
    split at h
    · cases h; simp
    · cases h
  | 0, _ :: _ :: _, hn, _, _ => by simp at hn
  | n + 1, c :: d :: l, hn, x, h => by
    rw [textOf] at h
    simp only [List.length_cons] at hn
    split at h
    · split at h
      · obtain ⟨y, hy, rfl⟩ := Option.map_eq_some_iff.1 h
        have := textOf_pos n l (by omega) y hy
        simp only [List.length_cons]; omega
      · cases h; simp
    · obtain ⟨y, hy, rfl⟩ := Option.map_eq_some_iff.1 h
      have := textOf_pos n (d :: l) (by simp; omega) y hy
      simp only [List.length_cons] at this ⊢; omega
theorem letter_alnum {c : UInt8} (h : letter c = true) : alnum c = true := by simp [alnum, h]
theorem signs_pos : ∀ x ∈ signs, 0 < x.length := by decide
theorem signOf_pre {r x : List UInt8} (h : signOf r = some x) : 0 < x.length ∧ x.isPrefixOf r = true :=
  ⟨signs_pos x (List.mem_of_find?_eq_some h), by simpa using List.find?_some h⟩
theorem step_pos {c : UInt8} {t : List UInt8} {x} (h : step (c :: t) = .inl x) : 0 < x.1 ∧ x.1 ≤ (c :: t).length := by
  rw [step] at h
  split at h
  · cases h; simp
  split at h
  · rename_i h1 h2
    cases h
    constructor
    · unfold lineLen
      have hc : c = 45 := by simp [List.isPrefixOf] at h2; exact h2.1.symm
      subst hc
      simp [List.takeWhile]
    · exact (List.takeWhile_prefix _).length_le
  split at h
  · split at h
    · cases h
    · rename_i y hy
      split at h
      · cases h
      · cases h
        have := textOf_pos _ t (Nat.le_refl _) y hy
        simp only [List.length_cons]; omega
  split at h
  · rename_i h4
    cases h
    refine ⟨?_, (List.takeWhile_prefix _).length_le⟩
    simp [List.takeWhile, letter_alnum h4]
  split at h
  · rename_i h5
    cases h
    refine ⟨?_, (List.takeWhile_prefix _).length_le⟩
    simp [List.takeWhile, h5]
  split at h
  · cases h
  · rename_i x hx
    cases h
    obtain ⟨h1, h2⟩ := signOf_pre hx
    exact ⟨h1, (List.isPrefixOf_iff_prefix.1 h2).length_le⟩
theorem toksF_more : ∀ (f g : Nat) (r : List UInt8) (p : Nat), r.length < f → r.length < g → toksF f r p = toksF g r p
  | 0, _, _, _, h, _ => by omega
  | _ + 1, 0, _, _, _, h => by omega
  | f + 1, g + 1, [], p, _, _ => rfl
  | f + 1, g + 1, c :: t, p, hf, hg => by
    rw [toksF, toksF]
    cases hs : step (c :: t) with
    | inr x => rfl
    | inl x =>
      have := step_pos hs
      simp only [List.length_cons] at hf hg this
      have e := toksF_more f g ((c :: t).drop x.1) (p + x.1) (by simp only [List.length_drop, List.length_cons]; omega) (by simp only [List.length_drop, List.length_cons]; omega)
      simp only [e]
theorem toks_nil (p : Nat) : toks [] p = .inl [⟨0, [], p⟩] := rfl
theorem toks_err {c : UInt8} {t : List UInt8} {x} (p : Nat) (h : step (c :: t) = .inr x) : toks (c :: t) p = .inr (p + x.1, x.2) := by
  rw [toks, toksF, h]
theorem toks_step {c : UInt8} {t : List UInt8} {x} (p : Nat) (h : step (c :: t) = .inl x) : toks (c :: t) p = match toks ((c :: t).drop x.1) (p + x.1) with
    | .inr y => .inr y
    | .inl l => .inl (withTok x.2 p l) := by
  have := step_pos h
  simp only [List.length_cons] at this
  have e := toksF_more (c :: t).length (((c :: t).drop x.1).length + 1) ((c :: t).drop x.1) (p + x.1) (by simp only [List.length_drop, List.length_cons]; omega) (by omega)
  rw [toks, toksF, h]
  simp only [e]
  rfl
/-- What was told, and what is left. -/
def after (acc : List Tok) : List Tok ⊕ (Nat × Int) → List Tok ⊕ (Nat × Int)
  | .inr y => .inr y
  | .inl l => .inl (acc ++ l)
theorem after_nil (x) : after [] x = x := by cases x <;> rfl
theorem after_none {c : UInt8} {t : List UInt8} {n : Nat} {p : Nat} {acc : List Tok} (h : step (c :: t) = .inl (n, none)) : after acc (toks (c :: t) p) = after acc (toks ((c :: t).drop n) (p + n)) := by
  rw [toks_step p h]; dsimp only; cases toks ((c :: t).drop n) (p + n) <;> rfl
theorem after_some {c : UInt8} {t : List UInt8} {n : Nat} {p : Nat} {k : Int} {u : List UInt8} {acc : List Tok} (h : step (c :: t) = .inl (n, some (k, u))) : after acc (toks (c :: t) p) = after (acc ++ [⟨k, u, p⟩]) (toks ((c :: t).drop n) (p + n)) := by
  rw [toks_step p h]; dsimp only; cases toks ((c :: t).drop n) (p + n) <;> simp [after, withTok]
theorem after_err {c : UInt8} {t : List UInt8} {n : Nat} {p : Nat} {e : Int} {acc : List Tok} (h : step (c :: t) = .inr (n, e)) : after acc (toks (c :: t) p) = .inr (p + n, e) := by
  rw [toks_err p h]; rfl
end P11
