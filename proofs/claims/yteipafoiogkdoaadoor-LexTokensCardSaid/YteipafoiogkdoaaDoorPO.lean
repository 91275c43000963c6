/- Plain laws of the lexer: how long what is told is. No program in sight. -/
import Derived.Test.YteipafoiogkdoaaDoorPM
set_option linter.unusedSimpArgs false
set_option linter.unusedVariables false
namespace P11
open P6 (dbl)
theorem textOf_len : ∀ (n : Nat) (l : List UInt8), l.length ≤ n → ∀ x, textOf l = some x → x.1.length ≤ x.2
  | _, [], _, x, h => by simp [textOf] at h
  | _, [c], _, x, h => by
    rw [textOf] at h
    split at h
    · cases h; simp
    · cases h
  | 0, _ :: _ :: _, hn, _, _ => by simp at hn
  | n + 1, c :: d :: l, hn, x, h => by
    rw [textOf] at h
    simp only [List.length_cons] at hn
    split at h
    · split at h
      · obtain ⟨y, hy, rfl⟩ := Option.map_eq_some_iff.1 h
        have := textOf_len n l (by omega) y hy
        simp only [List.length_cons]; omega
      · cases h; simp
    · obtain ⟨y, hy, rfl⟩ := Option.map_eq_some_iff.1 h
      have := textOf_len n (d :: l) (by simp; omega) y hy
      simp only [List.length_cons] at this ⊢; omega
theorem numOf_len : ∀ l : List UInt8, (numOf l).length ≤ l.length
  | [] => by simp [numOf]
  | [c] => by simp [numOf]
  | c :: d :: l => by
    rw [numOf]
    split
    · have := numOf_len (d :: l)
      simp only [List.length_cons] at this ⊢; omega
    · exact Nat.le_refl _
theorem step_len {c : UInt8} {t : List UInt8} {n : Nat} {x : Int × List UInt8} (h : step (c :: t) = .inl (n, some x)) : x.2.length ≤ n := by
  rw [step] at h
  split at h
  · cases h
  split at h
  · cases h
  split at h
  · split at h
    · cases h
    · rename_i y hy
      split at h
      · cases h
      · cases h
        have := textOf_len _ t (Nat.le_refl _) y hy
        dsimp only; omega
  split at h
  · cases h
    split
    · simp
    · simp
  split at h
  · cases h
    exact numOf_len _
  split at h
  · cases h
  · cases h
    exact Nat.le_refl _
def bulk (l : List Tok) : Nat := (l.map fun t => t.text.length + 1).sum
theorem toks_bulk : ∀ (n : Nat) (r : List UInt8) (p : Nat) (l : List Tok), r.length ≤ n → toks r p = .inl l → bulk l ≤ 2 * r.length + 1
  | _, [], p, l, _, h => by rw [toks_nil] at h; cases h; simp [bulk]
  | 0, _ :: _, _, _, hn, _ => by simp at hn
  | n + 1, c :: t, p, l, hn, h => by
    cases hs : step (c :: t) with
    | inr x => rw [toks_err p hs] at h; cases h
    | inl x =>
      have hp := step_pos hs
      rw [toks_step p hs] at h
      cases hr : toks ((c :: t).drop x.1) (p + x.1) with
      | inr y => simp only [hr] at h; cases h
      | inl m =>
        simp only [hr, Sum.inl.injEq] at h
        have ih := toks_bulk n _ _ _ (by simp only [List.length_drop, List.length_cons] at hn hp ⊢; omega) hr
        rw [List.length_drop] at ih
        obtain ⟨k, o⟩ := x
        cases o with
        | none => subst h; dsimp only [withTok] at hp ih ⊢; omega
        | some y =>
          have := step_len hs
          subst h
          simp only [withTok, bulk, List.map_cons, List.sum_cons] at ih ⊢
          dsimp only at hp ih
          omega
theorem bulk_length (l : List Tok) : l.length ≤ bulk l := by
  induction l with
  | nil => simp
  | cons t l ih => simp only [bulk, List.map_cons, List.sum_cons, List.length_cons] at ih ⊢; omega
theorem bulk_at {l : List Tok} {t : Tok} (h : t ∈ l) : t.text.length < bulk l := by
  induction l with
  | nil => cases h
  | cons x l ih =>
    simp only [bulk, List.map_cons, List.sum_cons] at ih ⊢
    rcases List.mem_cons.1 h with rfl | h
    · omega
    · have := ih h; omega
theorem pr_length (x : Int × List UInt8) : (pr x).length ≤ 2 * x.2.length + 2 := by
  unfold pr
  split
  · have := P6.dbl_length x.2
    simp only [P6.quote, List.length_cons, List.length_append, List.length_nil]; omega
  · omega
theorem written_length (l : List Tok) : (written (l.map kt)).length ≤ 3 * bulk l := by
  induction l with
  | nil => simp [written]
  | cons t l ih =>
    have := pr_length (kt t)
    have e : (kt t).2 = t.text := rfl
    rw [e] at this
    simp only [written, bulk, List.map_cons, List.sum_cons, List.flatten_cons, List.length_append, List.length_cons, List.length_nil] at ih ⊢
    omega
theorem written_append (a b : List (Int × List UInt8)) : written (a ++ b) = written a ++ written b := by simp [written]
theorem written_take (l : List Tok) (q : Nat) : (written ((l.take q).map kt)).length ≤ (written (l.map kt)).length := by
  have : written (l.map kt) = written ((l.take q).map kt) ++ written ((l.drop q).map kt) := by
    rw [← written_append, ← List.map_append, List.take_append_drop]
  rw [this, List.length_append]; omega
theorem written_succ {l : List Tok} {q : Nat} {t : Tok} (h : l[q]? = some t) : written ((l.take (q + 1)).map kt) = written ((l.take q).map kt) ++ (pr (kt t) ++ [32]) := by
  obtain ⟨hq, rfl⟩ := List.getElem?_eq_some_iff.1 h
  rw [List.take_succ_eq_append_getElem hq, List.map_append, written_append]
  simp [written]
theorem step_code {c : UInt8} {t : List UInt8} {x : Nat × Int} (h : step (c :: t) = .inr x) : x.2 = 111 ∨ x.2 = 112 := by
  rw [step] at h
  split at h
  · cases h
  split at h
  · cases h
  split at h
  · split at h
    · cases h; exact .inr rfl
    · split at h
      · cases h; exact .inl rfl
      · cases h
  split at h
  · cases h
  split at h
  · cases h
  split at h
  · cases h; exact .inl rfl
  · cases h
theorem toks_code : ∀ (n : Nat) (r : List UInt8) (p : Nat) (x : Nat × Int), r.length ≤ n → toks r p = .inr x → x.2 = 111 ∨ x.2 = 112
  | _, [], p, x, _, h => by rw [toks_nil] at h; cases h
  | 0, _ :: _, _, _, hn, _ => by simp at hn
  | n + 1, c :: t, p, x, hn, h => by
    cases hs : step (c :: t) with
    | inr y => rw [toks_err p hs] at h; cases h; exact step_code (x := y) hs
    | inl y =>
      have hp := step_pos hs
      rw [toks_step p hs] at h
      cases hr : toks ((c :: t).drop y.1) (p + y.1) with
      | inr z =>
        simp only [hr, Sum.inr.injEq] at h
        subst h
        exact toks_code n _ _ _ (by simp only [List.length_drop, List.length_cons] at hn hp ⊢; omega) hr
      | inl m => simp only [hr] at h; cases h
theorem lexed_code {s : List UInt8} {x : Nat × Int} (h : lexed s = .inr x) : x.2 ≠ 0 := by
  unfold lexed at h
  split at h
  · cases h; decide
  · rcases toks_code _ s 0 x (Nat.le_refl _) h with e | e <;> rw [e] <;> decide
end P11
