/- Plain laws of the lexer: tokens that are written are told again; quotes; blanks. No program in sight. -/
import Derived.Test.YteipafoiogkdoaaDoorPL
import Derived.KernelRfl
set_option linter.unusedSimpArgs false
set_option linter.unusedVariables false
namespace P11
open Go.Lib (upperB lowerB)
open P6 (dbl)
theorem u8_all {p : UInt8 → Bool} (h : (List.range 256).all (fun n => p (UInt8.ofNat n)) = true) (c : UInt8) : p c = true := by
  have := List.all_eq_true.1 h c.toNat (List.mem_range.2 c.toNat_lt)
  simpa using this
theorem u8_imp {p q : UInt8 → Bool} (h : (List.range 256).all (fun n => !p (UInt8.ofNat n) || q (UInt8.ofNat n)) = true) (c : UInt8) (hp : p c = true) : q c = true := by
  have := u8_all (p := fun c => !p c || q c) h c
  simpa [hp] using this
/-! Quotes -/
theorem textOf_ne (c : UInt8) (x : List UInt8) (h : c ≠ 39) : textOf (c :: x) = (textOf x).map fun y => (c :: y.1, y.2 + 1) := by
  cases x with
  | nil => simp [textOf, h]
  | cons d l => rw [textOf, if_neg h]
theorem textOf_qq (x : List UInt8) : textOf (39 :: 39 :: x) = (textOf x).map fun y => (39 :: y.1, y.2 + 2) := by
  rw [textOf, if_pos rfl, if_pos rfl]
theorem textOf_q (r : List UInt8) (h : r.head? ≠ some 39) : textOf (39 :: r) = some ([], 1) := by
  cases r with
  | nil => rfl
  | cons d l => rw [textOf, if_pos rfl, if_neg (by simpa using h)]
theorem textOf_dbl (r : List UInt8) (h : r.head? ≠ some 39) : ∀ s : List UInt8, textOf (dbl s ++ 39 :: r) = some (s, (dbl s).length + 1)
  | [] => by simpa [dbl] using textOf_q r h
  | c :: s => by
    rw [dbl]
    have ih := textOf_dbl r h s
    split
    · rename_i hc
      subst hc
      simp only [List.cons_append]
      rw [textOf_qq, ih]; simp
    · rename_i hc
      simp only [List.cons_append]
      rw [textOf_ne _ _ hc, ih]; simp
theorem textOf_open : ∀ s : List UInt8, textOf (dbl s ++ [39, 39]) = none
  | [] => rfl
  | c :: s => by
    rw [dbl]
    have ih := textOf_open s
    split
    · simp only [List.cons_append]
      rw [textOf_qq, ih]; rfl
    · rename_i hc
      simp only [List.cons_append]
      rw [textOf_ne _ _ hc, ih]; rfl
theorem dbl_zero : ∀ s : List UInt8, (dbl s).contains 0 = s.contains 0
  | [] => rfl
  | c :: s => by
    rw [dbl]
    have ih := dbl_zero s
    split
    · rename_i hc; subst hc; simp_all
    · simp_all
theorem step_quote (s r : List UInt8) (h0 : s.contains 0 = false) (h : r.head? ≠ some 39) : step (39 :: (dbl s ++ 39 :: r)) = .inl ((dbl s).length + 2, some (4, s)) := by
  rw [step, if_neg (by decide), if_neg (by simp [List.isPrefixOf]), if_pos rfl, textOf_dbl r h s]
  have e : (39 :: (dbl s ++ 39 :: r)).take ((dbl s).length + 1 + 1) = 39 :: (dbl s ++ [39]) := by
    rw [List.take_succ_cons, show dbl s ++ 39 :: r = (dbl s ++ [39]) ++ r by simp, List.take_left' (by simp)]
  simp only [e]
  rw [if_neg]
  have := dbl_zero s
  rw [h0] at this
  simp_all
theorem step_open (s : List UInt8) : step (39 :: (dbl s ++ [39, 39])) = .inr (0, 112) := by
  rw [step, if_neg (by decide), if_neg (by simp [List.isPrefixOf]), if_pos rfl, textOf_open s]
theorem after_blank {c : UInt8} (h : blank c = true) (r : List UInt8) (p : Nat) (acc : List Tok) : after acc (toks (c :: r) p) = after acc (toks r (p + 1)) :=
  after_none (n := 1) (by rw [step, if_pos h])
theorem after_blanks (r : List UInt8) (acc : List Tok) : ∀ n p, after acc (toks (List.replicate n 32 ++ r) p) = after acc (toks r (p + n))
  | 0, p => rfl
  | n + 1, p => by
    rw [List.replicate_succ, List.cons_append, after_blank (by decide), after_blanks r acc n, Nat.add_assoc, Nat.add_comm 1]
theorem toks_quoted (s : List UInt8) (n : Nat) (h0 : s.contains 0 = false) :
    ∃ a b, toks (List.replicate n 32 ++ (39 :: (dbl s ++ [39]) ++ [32, 120])) 0 = .inl [⟨4, s, n⟩, ⟨1, [120], a⟩, ⟨0, [], b⟩] := by
  rw [← after_nil (toks _ 0), after_blanks, Nat.zero_add]
  have e : 39 :: (dbl s ++ [39]) ++ [32, 120] = 39 :: (dbl s ++ 39 :: [32, 120]) := by simp
  have e2 : (39 :: (dbl s ++ 39 :: [32, 120])).drop ((dbl s).length + 2) = [32, 120] := by
    rw [show 39 :: (dbl s ++ 39 :: [32, 120]) = (39 :: (dbl s ++ [39])) ++ [32, 120] by simp, List.drop_left' (by simp)]
  rw [e, after_some (step_quote s [32, 120] h0 (by decide)), e2, after_blank (by decide), after_some (n := 1) (k := 1) (u := [120]) (by decide +kernel)]
  exact ⟨_, _, rfl⟩
theorem toks_unended (s : List UInt8) (n : Nat) : toks (List.replicate n 32 ++ (39 :: (dbl s ++ [39]) ++ [39])) 0 = .inr (n, 112) := by
  rw [← after_nil (toks _ 0), after_blanks, Nat.zero_add]
  have e : 39 :: (dbl s ++ [39]) ++ [39] = 39 :: (dbl s ++ [39, 39]) := by simp
  rw [e, after_err (step_open s), Nat.add_zero]
/-! Tokens written and told again -/
/-- A token that the lexer tells ahead of the end. -/
def good (x : Int × List UInt8) : Prop :=
  (x.1 = 1 ∧ (∃ c l, x.2 = c :: l ∧ letter c = true) ∧ x.2.all alnum = true ∧ x.2.map lowerB = x.2 ∧ words.contains (x.2.map upperB) = false) ∨
  (x.1 = 2 ∧ (∃ c l, x.2 = c :: l ∧ letter c = true) ∧ x.2.all alnum = true ∧ x.2.map upperB = x.2 ∧ words.contains x.2 = true) ∨
  (x.1 = 3 ∧ x.2 ≠ [] ∧ x.2.all digit = true ∧ numOf x.2 = x.2) ∨ (x.1 = 4 ∧ x.2.contains 0 = false) ∨ (x.1 = 5 ∧ x.2 ∈ signs)
def pr (x : Int × List UInt8) : List UInt8 := if x.1 = 4 then P6.quote x.2 else x.2
theorem letter_up (c : UInt8) : letter (upperB c) = letter c := by simpa using u8_all (p := fun c => letter (upperB c) == letter c) (by decide +kernel) c
theorem letter_lo (c : UInt8) : letter (lowerB c) = letter c := by simpa using u8_all (p := fun c => letter (lowerB c) == letter c) (by decide +kernel) c
theorem alnum_up (c : UInt8) : alnum (upperB c) = alnum c := by simpa using u8_all (p := fun c => alnum (upperB c) == alnum c) (by decide +kernel) c
theorem alnum_lo (c : UInt8) : alnum (lowerB c) = alnum c := by simpa using u8_all (p := fun c => alnum (lowerB c) == alnum c) (by decide +kernel) c
theorem up_up (c : UInt8) : upperB (upperB c) = upperB c := by simpa using u8_all (p := fun c => upperB (upperB c) == upperB c) (by decide +kernel) c
theorem lo_lo (c : UInt8) : lowerB (lowerB c) = lowerB c := by simpa using u8_all (p := fun c => lowerB (lowerB c) == lowerB c) (by decide +kernel) c
theorem up_lo (c : UInt8) : upperB (lowerB c) = upperB c := by simpa using u8_all (p := fun c => upperB (lowerB c) == upperB c) (by decide +kernel) c
theorem takeWhile_all (p : UInt8 → Bool) : ∀ l : List UInt8, (l.takeWhile p).all p = true
  | [] => rfl
  | c :: l => by
    rw [List.takeWhile]
    split
    · rename_i h; simp only [List.all_cons, h, Bool.true_and]; exact takeWhile_all p l
    · rfl
theorem takeWhile_cat (p : UInt8 → Bool) (d : UInt8) (r : List UInt8) (hd : p d = false) : ∀ l : List UInt8, l.all p = true → (l ++ d :: r).takeWhile p = l
  | [], _ => by simp [List.takeWhile, hd]
  | c :: l, h => by
    simp only [List.all_cons, Bool.and_eq_true] at h
    rw [List.cons_append, List.takeWhile, h.1]
    simp only
    rw [takeWhile_cat p d r hd l h.2]
theorem numOf_idem : ∀ l : List UInt8, numOf (numOf l) = numOf l
  | [] => rfl
  | [c] => rfl
  | c :: d :: l => by
    rw [numOf]
    split
    · exact numOf_idem (d :: l)
    · rename_i h; rw [numOf, if_neg h]
theorem numOf_ne : ∀ l : List UInt8, l ≠ [] → numOf l ≠ []
  | [], h => absurd rfl h
  | [c], _ => by simp [numOf]
  | c :: d :: l, _ => by
    rw [numOf]
    split
    · exact numOf_ne (d :: l) (by simp)
    · simp
theorem numOf_all (p : UInt8 → Bool) : ∀ l : List UInt8, l.all p = true → (numOf l).all p = true
  | [], _ => rfl
  | [c], h => h
  | c :: d :: l, h => by
    rw [numOf]
    split
    · exact numOf_all p (d :: l) (by simp only [List.all_cons, Bool.and_eq_true] at h ⊢; exact h.2)
    · exact h
theorem textOf_zero : ∀ (n : Nat) (l : List UInt8), l.length ≤ n → ∀ x, textOf l = some x → (l.take x.2).contains 0 = false → x.1.contains 0 = false
  | _, [], _, x, h, _ => by simp [textOf] at h
  | _, [c], _, x, h, _ => by
    rw [textOf] at h
    split at h
    · cases h; rfl
    · cases h
  | 0, _ :: _ :: _, hn, _, _, _ => by simp at hn
  | n + 1, c :: d :: l, hn, x, h, h0 => by
    rw [textOf] at h
    simp only [List.length_cons] at hn
    split at h
    · split at h
      · obtain ⟨y, hy, rfl⟩ := Option.map_eq_some_iff.1 h
        dsimp only at h0 ⊢
        rw [List.take_succ_cons, List.take_succ_cons] at h0
        have := textOf_zero n l (by omega) y hy (by simp_all)
        simp_all
      · cases h; rfl
    · obtain ⟨y, hy, rfl⟩ := Option.map_eq_some_iff.1 h
      dsimp only at h0 ⊢
      rw [List.take_succ_cons] at h0
      have := textOf_zero n (d :: l) (by simp; omega) y hy (by simp_all)
      simp_all
theorem map_all {f : UInt8 → UInt8} {p : UInt8 → Bool} (h : ∀ c, p (f c) = p c) (l : List UInt8) : (l.map f).all p = l.all p := by
  rw [List.all_map]; congr 1; funext c; exact h c
theorem step_good {c : UInt8} {t : List UInt8} {n : Nat} {x : Int × List UInt8} (h : step (c :: t) = .inl (n, some x)) : good x := by
  rw [step] at h
  split at h
  · cases h
  split at h
  · cases h
  split at h
  · split at h
    · cases h
    · rename_i y hy
      split at h
      · cases h
      · rename_i h0
        cases h
        refine .inr (.inr (.inr (.inl ⟨rfl, ?_⟩)))
        rw [List.take_succ_cons] at h0
        exact textOf_zero _ t (Nat.le_refl _) y hy (by simp_all)
  split at h
  · rename_i h4
    have ha := takeWhile_all alnum (c :: t)
    have hh : ∃ c' l, (c :: t).takeWhile alnum = c' :: l ∧ letter c' = true := ⟨c, t.takeWhile alnum, by rw [List.takeWhile, letter_alnum h4], h4⟩
    generalize (c :: t).takeWhile alnum = w at *
    obtain ⟨c', l, rfl, hl⟩ := hh
    dsimp only at h
    split at h
    · rename_i hw
      cases h
      exact .inr (.inl ⟨rfl, ⟨_, _, rfl, by rw [letter_up]; exact hl⟩, by dsimp only; rw [map_all alnum_up]; exact ha, by simp [up_up], hw⟩)
    · rename_i hw
      cases h
      refine .inl ⟨rfl, ⟨_, _, rfl, by rw [letter_lo]; exact hl⟩, by dsimp only; rw [map_all alnum_lo]; exact ha, by simp [lo_lo], ?_⟩
      dsimp only
      rw [List.map_map, show upperB ∘ lowerB = upperB from funext up_lo]
      simpa using hw
  split at h
  · rename_i h5
    have ha := takeWhile_all digit (c :: t)
    have hh : (c :: t).takeWhile digit ≠ [] := by simp [List.takeWhile, h5]
    cases h
    exact .inr (.inr (.inl ⟨rfl, numOf_ne _ hh, numOf_all _ _ ha, numOf_idem _⟩))
  split at h
  · cases h
  · rename_i y hy
    cases h
    exact .inr (.inr (.inr (.inr ⟨rfl, List.mem_of_find?_eq_some hy⟩)))
theorem letter_first (c : UInt8) (h : letter c = true) : (!blank c && c != 45 && c != 39) = true := u8_imp (p := letter) (q := fun c => !blank c && c != 45 && c != 39) (by decide +kernel) c h
theorem digit_first (c : UInt8) (h : digit c = true) : (!blank c && c != 45 && c != 39 && !letter c) = true := u8_imp (p := digit) (q := fun c => !blank c && c != 45 && c != 39 && !letter c) (by decide +kernel) c h
theorem signs_step (r : List UInt8) : ∀ x ∈ signs, step (x ++ 32 :: r) = .inl (x.length, some (5, x)) := by
  unfold signs
  simp only [List.mem_cons, List.not_mem_nil, or_false, forall_eq_or_imp, forall_eq]
  refine ⟨?_, ?_, ?_, ?_, ?_, ?_, ?_, ?_, ?_, ?_, ?_, ?_, ?_, ?_, ?_, ?_, ?_⟩ <;> kernel_rfl
theorem step_word (u r : List UInt8) (hh : ∃ c l, u = c :: l ∧ letter c = true) (ha : u.all alnum = true) :
    step (u ++ 32 :: r) = .inl (u.length, some (if words.contains (u.map upperB) then (2, u.map upperB) else (1, u.map lowerB))) := by
  have e := takeWhile_cat alnum 32 r (by decide) u ha
  obtain ⟨c, l, rfl, hl⟩ := hh
  have hf := letter_first c hl
  simp only [Bool.and_eq_true, Bool.not_eq_true', bne_iff_ne] at hf
  obtain ⟨⟨h1, h2⟩, h3⟩ := hf
  rw [List.cons_append] at e ⊢
  rw [step, if_neg (by rw [h1]; decide), if_neg (by simp [List.isPrefixOf]; exact fun h => absurd h.symm h2), if_neg h3, if_pos hl, e]
theorem step_num (u r : List UInt8) (hn : u ≠ []) (ha : u.all digit = true) : step (u ++ 32 :: r) = .inl (u.length, some (3, numOf u)) := by
  have e := takeWhile_cat digit 32 r (by decide) u ha
  cases u with
  | nil => exact absurd rfl hn
  | cons c l =>
    have hd : digit c = true := by simp only [List.all_cons, Bool.and_eq_true] at ha; exact ha.1
    have hf := digit_first c hd
    simp only [Bool.and_eq_true, Bool.not_eq_true', bne_iff_ne] at hf
    obtain ⟨⟨⟨h1, h2⟩, h3⟩, h4⟩ := hf
    rw [List.cons_append] at e ⊢
    rw [step, if_neg (by rw [h1]; decide), if_neg (by simp [List.isPrefixOf]; exact fun h => absurd h.symm h2), if_neg h3, if_neg (by rw [h4]; decide), if_pos hd, e]
theorem step_again {x : Int × List UInt8} (h : good x) (r : List UInt8) : step (pr x ++ 32 :: r) = .inl ((pr x).length, some x) := by
  obtain ⟨k, u⟩ := x
  rcases h with ⟨rfl, hh, ha, hl, hw⟩ | ⟨rfl, hh, ha, hl, hw⟩ | ⟨rfl, hh, ha, hl⟩ | ⟨rfl, h0⟩ | ⟨rfl, hs⟩
  · dsimp only at hh ha hl hw
    show step (u ++ 32 :: r) = .inl (u.length, _)
    rw [step_word u r hh ha, hw, hl]; rfl
  · dsimp only at hh ha hl hw
    show step (u ++ 32 :: r) = .inl (u.length, _)
    rw [step_word u r hh ha, hl, hw]; rfl
  · dsimp only at hh ha hl
    show step (u ++ 32 :: r) = .inl (u.length, _)
    rw [step_num u r hh ha, hl]
  · dsimp only at h0
    show step (39 :: (dbl u ++ [39]) ++ 32 :: r) = .inl ((39 :: (dbl u ++ [39])).length, _)
    rw [show 39 :: (dbl u ++ [39]) ++ 32 :: r = 39 :: (dbl u ++ 39 :: 32 :: r) by simp, step_quote u (32 :: r) h0 (by simp)]
    simp
  · exact signs_step r u hs
theorem pr_cons {x : Int × List UInt8} (h : good x) : ∃ c l, pr x = c :: l := by
  obtain ⟨k, u⟩ := x
  rcases h with ⟨rfl, ⟨c, l, rfl, _⟩, _⟩ | ⟨rfl, ⟨c, l, rfl, _⟩, _⟩ | ⟨rfl, hh, _⟩ | ⟨rfl, h0⟩ | ⟨rfl, hs⟩
  · exact ⟨c, l, rfl⟩
  · exact ⟨c, l, rfl⟩
  · cases u with
    | nil => exact absurd rfl hh
    | cons c l => exact ⟨c, l, rfl⟩
  · exact ⟨_, _, rfl⟩
  · have := signs_pos u hs
    cases u with
    | nil => simp at this
    | cons c l => exact ⟨c, l, rfl⟩
def kt (t : Tok) : Int × List UInt8 := (t.kind, t.text)
/-- What is told: tokens, and the end. -/
theorem toks_form : ∀ (n : Nat) (r : List UInt8) (p : Nat) (l : List Tok), r.length ≤ n → toks r p = .inl l → ∃ l', l = l' ++ [⟨0, [], p + r.length⟩] ∧ ∀ t ∈ l', good (kt t)
  | _, [], p, l, _, h => by rw [toks_nil] at h; cases h; exact ⟨[], rfl, fun t ht => by cases ht⟩
  | 0, _ :: _, _, _, hn, _ => by simp at hn
  | n + 1, c :: t, p, l, hn, h => by
    cases hs : step (c :: t) with
    | inr x => rw [toks_err p hs] at h; cases h
    | inl x =>
      have hp := step_pos hs
      rw [toks_step p hs] at h
      cases hr : toks ((c :: t).drop x.1) (p + x.1) with
      | inr y => simp only [hr] at h; cases h
      | inl m =>
        simp only [hr, Sum.inl.injEq] at h
        obtain ⟨l', rfl, hg⟩ := toks_form n _ _ _ (by simp only [List.length_drop, List.length_cons] at hn hp ⊢; omega) hr
        have e : p + x.1 + ((c :: t).drop x.1).length = p + (c :: t).length := by rw [List.length_drop]; omega
        rw [e] at h
        obtain ⟨k, o⟩ := x
        cases o with
        | none => exact ⟨l', by rw [← h]; rfl, hg⟩
        | some y =>
          refine ⟨⟨y.1, y.2, p⟩ :: l', by rw [← h]; rfl, fun t' ht' => ?_⟩
          rcases List.mem_cons.1 ht' with rfl | h'
          · exact step_good hs
          · exact hg t' h'
/-- What is written. -/
def written (l : List (Int × List UInt8)) : List UInt8 := (l.map fun x => pr x ++ [32]).flatten
theorem written_again (r : List UInt8) : ∀ (l : List (Int × List UInt8)) (p : Nat) (acc : List Tok), (∀ x ∈ l, good x) →
    ∃ ts q, ts.map kt = l ∧ after acc (toks (written l ++ r) p) = after (acc ++ ts) (toks r q)
  | [], p, acc, _ => ⟨[], p, rfl, by simp [written]⟩
  | x :: l, p, acc, h => by
    have hx := h x (List.mem_cons_self ..)
    obtain ⟨c, m, hc⟩ := pr_cons hx
    have hs := step_again hx (written l ++ r)
    have e : written (x :: l) ++ r = pr x ++ 32 :: (written l ++ r) := by simp [written]
    have hd : (pr x ++ 32 :: (written l ++ r)).drop (pr x).length = 32 :: (written l ++ r) := List.drop_left' rfl
    obtain ⟨ts, q, h1, h2⟩ := written_again r l (p + (pr x).length + 1) (acc ++ [⟨x.1, x.2, p⟩]) fun y hy => h y (List.mem_cons_of_mem _ hy)
    refine ⟨⟨x.1, x.2, p⟩ :: ts, q, by rw [List.map_cons, h1]; rfl, ?_⟩
    rw [e]
    rw [hc] at hs hd ⊢
    rw [List.cons_append] at hs hd ⊢
    rw [after_some hs, hd, after_blank (by decide)]
    rw [hc] at h2
    rw [h2]; simp
theorem toks_back {s : List UInt8} {l : List Tok} (h : toks s 0 = .inl l) : ∃ m, toks (written (l.map kt)) 0 = .inl m ∧ m.map kt = l.map kt := by
  obtain ⟨l', rfl, hg⟩ := toks_form _ s 0 l (Nat.le_refl _) h
  have hw : written ((l' ++ [(⟨0, [], 0 + s.length⟩ : Tok)]).map kt) = written (l'.map kt) ++ [32] := by simp [written, kt, pr]
  obtain ⟨ts, q, h1, h2⟩ := written_again [32] (l'.map kt) 0 [] (fun x hx => by
    obtain ⟨t, ht, rfl⟩ := List.mem_map.1 hx; exact hg t ht)
  rw [hw, ← after_nil (toks _ 0), h2, after_blank (by decide), toks_nil]
  exact ⟨_, rfl, by simp [h1, kt]⟩
end P11
