/- Plain law of the lexer: words with blanks and notes between. No program in sight. -/
import Derived.Test.YteipafoiogkdoaaDoorPM
set_option linter.unusedSimpArgs false
set_option linter.unusedVariables false
namespace P11
/-- The words that are written, and the tokens that they are. -/
def bw : List (List UInt8 × (Int × List UInt8)) := [
  ([115, 101, 108, 101, 99, 116], (2, [83, 69, 76, 69, 67, 84])), ([70, 114, 111, 109], (2, [70, 82, 79, 77])), ([97, 98, 99], (1, [97, 98, 99])), ([120, 95, 49], (1, [120, 95, 49])), ([52, 50], (3, [52, 50])),
  ([60, 61], (5, [60, 61])), ([40], (5, [40])), ([39, 65, 32, 98, 39], (4, [65, 32, 98])), ([78, 85, 76, 76], (2, [78, 85, 76, 76])), ([45], (5, [45]))]
/-- What stands between. -/
def bg : List (List UInt8) := [[32], [9, 32], [10], [32, 45, 45, 110, 111, 116, 101, 10], [13, 10, 45, 45, 10, 32], [32, 32, 32]]
theorem bw_step (r : List UInt8) : ∀ x ∈ bw, ∀ d ∈ ([32, 9, 10, 13] : List UInt8), step (x.1 ++ d :: r) = .inl (x.1.length, some x.2) := by
  unfold bw
  simp only [List.mem_cons, List.not_mem_nil, or_false, forall_eq_or_imp, forall_eq]
  repeat' apply And.intro
  all_goals kernel_rfl
theorem bg_head : ∀ g ∈ bg, ∃ d t, g = d :: t ∧ d ∈ ([32, 9, 10, 13] : List UInt8) := by
  unfold bg
  simp only [List.mem_cons, List.not_mem_nil, or_false, forall_eq_or_imp, forall_eq]
  repeat' apply And.intro
  all_goals exact ⟨_, _, rfl, by decide⟩
theorem bg_after (r : List UInt8) (p : Nat) (acc : List Tok) : ∀ g ∈ bg, after acc (toks (g ++ r) p) = after acc (toks r (p + g.length)) := by
  unfold bg
  simp only [List.mem_cons, List.not_mem_nil, or_false, forall_eq_or_imp, forall_eq, List.cons_append, List.nil_append]
  refine ⟨?_, ?_, ?_, ?_, ?_, ?_⟩
  · rw [after_blank (by decide)]; rfl
  · rw [after_blank (by decide), after_blank (by decide)]; rfl
  · rw [after_blank (by decide)]; rfl
  · rw [after_blank (by decide), after_none (n := 6) (by kernel_rfl)]
    simp only [List.drop_succ_cons, List.drop_zero]
    rw [after_blank (by decide)]; rfl
  · rw [after_blank (by decide), after_blank (by decide), after_none (n := 2) (by kernel_rfl)]
    simp only [List.drop_succ_cons, List.drop_zero]
    rw [after_blank (by decide), after_blank (by decide)]; rfl
  · rw [after_blank (by decide), after_blank (by decide), after_blank (by decide)]; rfl
def cat (l : List (Nat × Nat)) : List UInt8 := l.flatMap fun x => (bw.getD x.1 ([], (0, []))).1 ++ bg.getD x.2 []
theorem cat_append (a b : List (Nat × Nat)) : cat (a ++ b) = cat a ++ cat b := by simp [cat]
theorem bw_pos : ∀ x ∈ bw, x.1 ≠ [] := by decide
theorem bw_len : ∀ x ∈ bw, x.1.length ≤ 6 := by decide
theorem bg_len : ∀ x ∈ bg, x.length ≤ 8 := by decide
theorem bw_mem {i : Nat} (h : i < 10) : bw.getD i ([], (0, [])) ∈ bw := by
  rw [List.getD_eq_getElem?_getD, List.getElem?_eq_getElem (show i < bw.length from h)]
  exact List.getElem_mem _
theorem bg_mem {i : Nat} (h : i < 6) : bg.getD i [] ∈ bg := by
  rw [List.getD_eq_getElem?_getD, List.getElem?_eq_getElem (show i < bg.length from h)]
  exact List.getElem_mem _
theorem cat_len (l : List (Nat × Nat)) (h : ∀ x ∈ l, x.1 < 10 ∧ x.2 < 6) : (cat l).length ≤ 14 * l.length := by
  induction l with
  | nil => simp [cat]
  | cons x l ih =>
    have := ih fun y hy => h y (List.mem_cons_of_mem _ hy)
    obtain ⟨h1, h2⟩ := h x (List.mem_cons_self ..)
    have e1 := bw_len _ (bw_mem h1)
    have e2 := bg_len _ (bg_mem h2)
    simp only [cat, List.flatMap_cons, List.length_append, List.length_cons] at this ⊢
    omega
theorem cat_toks (r : List UInt8) : ∀ (l : List (Nat × Nat)) (p : Nat) (acc : List Tok), (∀ x ∈ l, x.1 < 10 ∧ x.2 < 6) →
    ∃ ts : List Tok, ts.map (·.text) = l.map (fun x => (bw.getD x.1 ([], (0, []))).2.2) ∧ after acc (toks (cat l ++ r) p) = after (acc ++ ts) (toks r (p + (cat l).length))
  | [], p, acc, _ => ⟨[], rfl, by simp [cat]⟩
  | x :: l, p, acc, h => by
    obtain ⟨h1, h2⟩ := h x (List.mem_cons_self ..)
    have m1 := bw_mem h1
    have m2 := bg_mem h2
    obtain ⟨ts, e1, e2⟩ := cat_toks r l (p + (bw.getD x.1 ([], (0, []))).1.length + (bg.getD x.2 []).length) (acc ++ [⟨(bw.getD x.1 ([], (0, []))).2.1, (bw.getD x.1 ([], (0, []))).2.2, p⟩]) fun y hy => h y (List.mem_cons_of_mem _ hy)
    have ec : cat (x :: l) = (bw.getD x.1 ([], (0, []))).1 ++ (bg.getD x.2 [] ++ cat l) := by simp [cat]
    refine ⟨⟨(bw.getD x.1 ([], (0, []))).2.1, (bw.getD x.1 ([], (0, []))).2.2, p⟩ :: ts, by rw [List.map_cons, e1]; rfl, ?_⟩
    rw [ec]
    generalize bw.getD x.1 ([], (0, [])) = u at *
    have hb := fun r p acc => bg_after r p acc _ m2
    obtain ⟨d, t, eg, hd⟩ := bg_head _ m2
    generalize bg.getD x.2 [] = g at *
    have hs := bw_step (t ++ (cat l ++ r)) u m1 d hd
    have hne := bw_pos u m1
    obtain ⟨u1, u2⟩ := u
    cases u1 with
    | nil => exact absurd rfl hne
    | cons c u1 =>
      obtain ⟨k, v⟩ := u2
      have ea : (c :: u1) ++ (g ++ cat l) ++ r = (c :: u1) ++ (g ++ (cat l ++ r)) := by simp
      have ea2 : (c :: u1) ++ (g ++ (cat l ++ r)) = c :: (u1 ++ d :: (t ++ (cat l ++ r))) := by rw [eg]; simp
      rw [ea, ea2]
      dsimp only at hs e2
      rw [List.cons_append] at hs
      rw [after_some hs, ← ea2, List.drop_left' rfl, hb, e2]
      simp only [List.append_assoc, List.cons_append, List.nil_append, List.length_append, List.length_cons]
      congr 2
      omega
theorem cat_all (l : List (Nat × Nat)) (h : ∀ x ∈ l, x.1 < 10 ∧ x.2 < 6) : ∃ ts : List Tok, ts.map (·.text) = l.map (fun x => (bw.getD x.1 ([], (0, []))).2.2) ∧ toks (cat l) 0 = .inl (ts ++ [⟨0, [], (cat l).length⟩]) := by
  obtain ⟨ts, e1, e2⟩ := cat_toks [] l 0 [] h
  refine ⟨ts, e1, ?_⟩
  rw [List.append_nil, after_nil] at e2
  rw [e2, toks_nil, Nat.zero_add]; rfl
end P11
