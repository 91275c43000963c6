/- Plain functions: tables for people. No program in sight. -/
import Derived.Lib.Replace
import Derived.Lib.CountLaws
import Derived.Lib.Join
import Derived.Lib.Repeat
import Derived.Lib.TrimByte
import Derived.Lib.ItoaNum
import Derived.Lib.ItoaLen
import Derived.Test.YtmoippbmnanajaaGreatDoorP7
set_option linter.unusedSimpArgs false
set_option linter.unusedVariables false
namespace P25
open Go.Lib
theorem index_one (c b : UInt8) (l : List UInt8) : index (b :: l) [c] = if b = c then 0 else if index l [c] = -1 then -1 else index l [c] + 1 := by
  rw [index]
  by_cases h : b = c
  · subst h; simp [List.isPrefixOf]
  · have : ([c] : List UInt8).isPrefixOf (b :: l) = false := by simp [List.isPrefixOf]; exact fun e => h e.symm
    simp [h, this]
/-- One byte replaced by a text. -/
def subst (c : UInt8) (new : List UInt8) : List UInt8 → List UInt8
  | [] => []
  | b :: l => (if b = c then new else [b]) ++ subst c new l
theorem replace_one (c : UInt8) (new : List UInt8) : ∀ s : List UInt8, replaceK [c] new (count s [c]) s = subst c new s
  | [] => rfl
  | b :: l => by
    have ih := replace_one c new l
    have hi := index_one c b l
    by_cases hb : b = c
    · rw [if_pos hb] at hi
      have hi0 : index (b :: l) [c] = ((0 : Nat) : Int) := hi
      rw [count_hit (i := 0) (by simp) hi0, Nat.add_comm 1, replaceK_hit _ _ _ _ 0 hi0, subst, if_pos hb]
      simpa using ih
    · rw [if_neg hb] at hi
      rw [subst, if_neg hb]
      by_cases hm : index l [c] = -1
      · rw [if_pos hm] at hi
        rw [count_miss hi, replaceK, ← ih, count_miss hm, replaceK]
        rfl
      · rw [if_neg hm] at hi
        have hge := index_ge l [c]
        obtain ⟨i, hl⟩ := Int.eq_ofNat_of_zero_le (show 0 ≤ index l [c] by omega)
        have hi' : index (b :: l) [c] = ((i + 1 : Nat) : Int) := by rw [hi, hl]; rfl
        rw [count_hit (i := i + 1) (by simp) hi', Nat.add_comm 1, replaceK_hit _ _ _ _ _ hi']
        rw [count_hit (i := i) (by simp) hl, Nat.add_comm 1, replaceK_hit _ _ _ _ _ hl] at ih
        rw [← ih]
        simp
theorem replaceAll_one (c : UInt8) (new s : List UInt8) (h : [c] ≠ new) : replaceAll s [c] new = subst c new s := by
  unfold replaceAll replace replaceNum
  rw [if_neg (by simpa using h)]
  simpa using replace_one c new s
/-- Without line feeds. -/
def clean (s : List UInt8) : List UInt8 := s.map fun c => if c = 10 then 63 else c
theorem clean_length (s : List UInt8) : (clean s).length = s.length := by simp [clean]
theorem subst_clean : ∀ s, subst 10 [63] s = clean s
  | [] => rfl
  | b :: l => by
    rw [subst, subst_clean l]
    unfold clean
    rw [List.map_cons]
    split <;> rfl
theorem replaceAll_clean (s : List UInt8) : replaceAll s [10] [63] = clean s := by
  rw [replaceAll_one 10 [63] s (by decide), subst_clean]
/-- A cell: is it a number? its print, without line feeds. -/
abbrev Cell := Bool × List UInt8
def text (r : List Cell) (i : Nat) : List UInt8 := match r[i]? with
  | some c => c.2
  | none => []
theorem text_some {r : List Cell} {i : Nat} {c : Cell} (h : r[i]? = some c) : text r i = c.2 := by simp [text, h]
theorem text_none {r : List Cell} {i : Nat} (h : r.length ≤ i) : text r i = [] := by simp [text, List.getElem?_eq_none h]
def cells (r : List Cell) (n : Nat) : List (List UInt8) := (List.range n).map (text r)
theorem cells_at (r : List Cell) (n i : Nat) (h : i < n) : (cells r n)[i]? = some (text r i) := by simp [cells, h]
theorem cells_length (r : List Cell) (n : Nat) : (cells r n).length = n := by simp [cells]
/-- The first q cells are laid. -/
def cellsUpto (r : List Cell) (n q : Nat) : List (List UInt8) := (List.range n).map fun i => if i < q then text r i else []
theorem cellsUpto_length (r : List Cell) (n q : Nat) : (cellsUpto r n q).length = n := by simp [cellsUpto]
theorem cellsUpto_zero (r : List Cell) (n : Nat) : cellsUpto r n 0 = List.replicate n [] := by
  apply List.ext_getElem?
  intro i
  by_cases h : i < n <;> simp [cellsUpto, h]
theorem cellsUpto_set (r : List Cell) (n q : Nat) (h : q < n) : (cellsUpto r n q).set q (text r q) = cellsUpto r n (q + 1) := by
  apply List.ext_getElem?
  intro i
  rw [List.getElem?_set]
  by_cases hi : i < n
  · by_cases hq : q = i
    · subst hq; simp [cellsUpto, h]
    · rw [if_neg hq]
      simp only [cellsUpto, List.getElem?_map, List.getElem?_range hi, Option.map_some, Option.some.injEq]
      have : (i < q) = (i < q + 1) := propext ⟨fun h => by omega, fun h => by omega⟩
      simp only [this]
  · rw [if_neg (by omega), List.getElem?_eq_none (by rw [cellsUpto_length]; omega), List.getElem?_eq_none (by rw [cellsUpto_length]; omega)]
theorem cellsUpto_end (r : List Cell) (n q : Nat) (h : q = min n r.length) : cellsUpto r n q = cells r n := by
  unfold cellsUpto cells
  apply List.map_congr_left
  intro i hi
  have hn : i < n := by simpa using hi
  by_cases hq : i < q
  · rw [if_pos hq]
  · rw [if_neg hq, text_none (by omega)]
/-- A column so far: how wide, how many values, are all of them numbers. -/
structure Col where
  wide : Nat
  n : Nat
  ints : Bool
def Col.step (i : Nat) (s : Col) (r : List Cell) : Col := match r[i]? with
  | some c => ⟨max s.wide c.2.length, s.n + 1, s.ints && c.1⟩
  | none => s
theorem Col.step_some {i : Nat} {s : Col} {r : List Cell} {c : Cell} (h : r[i]? = some c) : s.step i r = ⟨max s.wide c.2.length, s.n + 1, s.ints && c.1⟩ := by simp [Col.step, h]
theorem Col.step_none {i : Nat} {s : Col} {r : List Cell} (h : r.length ≤ i) : s.step i r = s := by simp [Col.step, List.getElem?_eq_none h]
def col (name : List UInt8) (rows : List (List Cell)) (i : Nat) : Col := rows.foldl (Col.step i) ⟨name.length, 0, true⟩
def Col.out (c : Col) : Nat × Bool := (c.wide, c.ints && decide (0 < c.n))
def cols (names : List (List UInt8)) (rows : List (List Cell)) : List (Nat × Bool) := (List.range names.length).map fun i => (col (names.getD i []) rows i).out
theorem cols_length (names : List (List UInt8)) (rows : List (List Cell)) : (cols names rows).length = names.length := by simp [cols]
theorem cols_at (names : List (List UInt8)) (rows : List (List Cell)) (i : Nat) (h : i < names.length) : (cols names rows)[i]? = some (col (names.getD i []) rows i).out := by simp [cols, h]
theorem col_take (name : List UInt8) (rows : List (List Cell)) (i k : Nat) (h : k < rows.length) : col name (rows.take (k + 1)) i = (col name (rows.take k) i).step i rows[k] := by
  unfold col
  rw [List.take_succ_eq_append_getElem h, List.foldl_append]; rfl
theorem step_wide (i : Nat) (s : Col) (r : List Cell) : s.wide ≤ (s.step i r).wide ∧ (text r i).length ≤ (s.step i r).wide := by
  unfold Col.step text
  split
  · exact ⟨Nat.le_max_left _ _, Nat.le_max_right _ _⟩
  · exact ⟨Nat.le_refl _, Nat.zero_le _⟩
theorem fold_wide (i : Nat) : ∀ (rows : List (List Cell)) (s : Col), s.wide ≤ (rows.foldl (Col.step i) s).wide ∧ ∀ r ∈ rows, (text r i).length ≤ (rows.foldl (Col.step i) s).wide
  | [], s => ⟨Nat.le_refl _, fun r hr => by cases hr⟩
  | r :: rows, s => by
    have h := fold_wide i rows (s.step i r)
    have g := step_wide i s r
    refine ⟨Nat.le_trans g.1 h.1, fun r' hr => ?_⟩
    rcases List.mem_cons.1 hr with rfl | hr
    · exact Nat.le_trans g.2 h.1
    · exact h.2 r' hr
theorem col_name (name : List UInt8) (rows : List (List Cell)) (i : Nat) : name.length ≤ (col name rows i).wide := (fold_wide i rows ⟨name.length, 0, true⟩).1
theorem col_text (name : List UInt8) (rows : List (List Cell)) (i : Nat) (r : List Cell) (h : r ∈ rows) : (text r i).length ≤ (col name rows i).wide := (fold_wide i rows ⟨name.length, 0, true⟩).2 r h
theorem fold_most (i M : Nat) : ∀ (rows : List (List Cell)) (s : Col), s.wide ≤ M → (∀ r ∈ rows, ∀ c ∈ r, c.2.length ≤ M) → (rows.foldl (Col.step i) s).wide ≤ M
  | [], s, h, _ => h
  | r :: rows, s, h, hr => by
    refine fold_most i M rows (s.step i r) ?_ fun r' hr' => hr r' (List.mem_cons_of_mem _ hr')
    unfold Col.step
    split
    · rename_i c hc
      exact Nat.max_le.2 ⟨h, hr r (List.mem_cons_self ..) c (List.mem_of_getElem? hc)⟩
    · exact h
theorem col_most (name : List UInt8) (rows : List (List Cell)) (i M : Nat) (h : name.length ≤ M) (hr : ∀ r ∈ rows, ∀ c ∈ r, c.2.length ≤ M) : (col name rows i).wide ≤ M := fold_most i M rows _ h hr
theorem fold_n (i : Nat) : ∀ (rows : List (List Cell)) (s : Col), (rows.foldl (Col.step i) s).n ≤ s.n + rows.length
  | [], s => by simp
  | r :: rows, s => by
    have h := fold_n i rows (s.step i r)
    have g : (s.step i r).n ≤ s.n + 1 := by unfold Col.step; split <;> simp
    simp only [List.foldl_cons, List.length_cons]
    omega
theorem col_n (name : List UInt8) (rows : List (List Cell)) (i : Nat) : (col name rows i).n ≤ rows.length := by
  have := fold_n i rows ⟨name.length, 0, true⟩
  simpa [col] using this
/-- The first q columns are laid. -/
def colsUpto (names : List (List UInt8)) (rows : List (List Cell)) (q : Nat) : List (Nat × Bool) := (List.range names.length).map fun i => if i < q then (col (names.getD i []) rows i).out else (0, false)
theorem colsUpto_length (names : List (List UInt8)) (rows : List (List Cell)) (q : Nat) : (colsUpto names rows q).length = names.length := by simp [colsUpto]
theorem colsUpto_zero (names : List (List UInt8)) (rows : List (List Cell)) : colsUpto names rows 0 = List.replicate names.length (0, false) := by
  apply List.ext_getElem?
  intro i
  by_cases h : i < names.length <;> simp [colsUpto, h]
theorem colsUpto_set (names : List (List UInt8)) (rows : List (List Cell)) (q : Nat) (h : q < names.length) : (colsUpto names rows q).set q (col (names.getD q []) rows q).out = colsUpto names rows (q + 1) := by
  apply List.ext_getElem?
  intro i
  rw [List.getElem?_set]
  by_cases hi : i < names.length
  · by_cases hq : q = i
    · subst hq; simp [colsUpto, h]
    · rw [if_neg hq]
      simp only [colsUpto, List.getElem?_map, List.getElem?_range hi, Option.map_some, Option.some.injEq]
      have : (i < q) = (i < q + 1) := propext ⟨fun h => by omega, fun h => by omega⟩
      simp only [this]
  · rw [if_neg (by omega), List.getElem?_eq_none (by rw [colsUpto_length]; omega), List.getElem?_eq_none (by rw [colsUpto_length]; omega)]
theorem colsUpto_end (names : List (List UInt8)) (rows : List (List Cell)) : colsUpto names rows names.length = cols names rows := by
  unfold colsUpto cols
  apply List.map_congr_left
  intro i hi
  rw [if_pos (by simpa using hi)]
theorem colsUpto_at (names : List (List UInt8)) (rows : List (List Cell)) (q : Nat) (h : q < names.length) : (colsUpto names rows q)[q]? = some (0, false) := by simp [colsUpto, h]
/-- A cell in its column. -/
def pad (c : Nat × Bool) (t : List UInt8) : List UInt8 := if c.2 then List.replicate (c.1 - t.length) 32 ++ t else t ++ List.replicate (c.1 - t.length) 32
theorem pad_length (c : Nat × Bool) (t : List UInt8) (h : t.length ≤ c.1) : (pad c t).length = c.1 := by unfold pad; split <;> simp <;> omega
def bar : List UInt8 := [32, 124, 32]
def cross : List UInt8 := [45, 43, 45]
def pads (cs : List (Nat × Bool)) (l : List (List UInt8)) : List (List UInt8) := List.zipWith pad cs l
def line (cs : List (Nat × Bool)) (l : List (List UInt8)) : List UInt8 := trimRightB (join (pads cs l) bar) 32 ++ [10]
def rules (cs : List (Nat × Bool)) : List (List UInt8) := cs.map fun c => List.replicate c.1 45
def lines (cs : List (Nat × Bool)) (n : Nat) (rows : List (List Cell)) : List UInt8 := (rows.map fun r => line cs (cells r n)).flatten
def tableOf (cs : List (Nat × Bool)) (names : List (List UInt8)) (rows : List (List Cell)) : List UInt8 :=
  line cs (names.map clean) ++ join (rules cs) cross ++ [10] ++ lines cs names.length rows
/-- The table of names and rows; without names the number. -/
def table (names : List (List UInt8)) (rows : List (List Cell)) (n : Int) : List UInt8 :=
  if names = [] then itoa n ++ [10] else tableOf (cols names rows) names rows
theorem joinTail_length (sep : List UInt8) (M : Nat) : ∀ l : List (List UInt8), (∀ x ∈ l, x.length ≤ M) → (joinTail sep l).length ≤ l.length * (M + sep.length)
  | [], _ => by simp [joinTail]
  | x :: l, h => by
    have ih := joinTail_length sep M l fun y hy => h y (List.mem_cons_of_mem _ hy)
    have hx := h x (List.mem_cons_self ..)
    unfold joinTail at ih ⊢
    simp only [List.map_cons, List.flatten_cons, List.length_append, List.length_cons, Nat.succ_mul] at ih ⊢
    omega
theorem join_length (sep : List UInt8) (M : Nat) (l : List (List UInt8)) (h : ∀ x ∈ l, x.length ≤ M) : (join l sep).length ≤ l.length * (M + sep.length) := by
  cases l with
  | nil => simp [join_nil]
  | cons x l =>
    rw [join_cons]
    have := joinTail_length sep M l fun y hy => h y (List.mem_cons_of_mem _ hy)
    have hx := h x (List.mem_cons_self ..)
    simp only [List.length_append, List.length_cons, Nat.succ_mul]
    omega
theorem trimRight_length (l : List UInt8) (c : UInt8) : (trimRightB l c).length ≤ l.length := by
  unfold trimRightB
  rw [List.length_reverse]
  exact Nat.le_trans (List.dropWhile_sublist _).length_le (by simp)
theorem pads_at {cs : List (Nat × Bool)} {l : List (List UInt8)} {i : Nat} {c : Nat × Bool} {t : List UInt8} (hc : cs[i]? = some c) (ht : l[i]? = some t) : (pads cs l)[i]? = some (pad c t) := by
  unfold pads
  rw [List.getElem?_zipWith_eq_some]
  exact ⟨c, t, hc, ht, rfl⟩
theorem pads_take {cs : List (Nat × Bool)} {l : List (List UInt8)} {i : Nat} {c : Nat × Bool} {t : List UInt8} (hc : cs[i]? = some c) (ht : l[i]? = some t) : (pads cs l).take (i + 1) = (pads cs l).take i ++ [pad c t] := by
  rw [List.take_add_one, pads_at hc ht]; rfl
theorem pads_length {cs : List (Nat × Bool)} {l : List (List UInt8)} (h : cs.length = l.length) : (pads cs l).length = cs.length := by simp [pads, h]
theorem pads_most {cs : List (Nat × Bool)} {l : List (List UInt8)} {M : Nat} (h : cs.length = l.length) (hc : ∀ (i : Nat) (c : Nat × Bool) (t : List UInt8), cs[i]? = some c → l[i]? = some t → t.length ≤ c.1 ∧ c.1 ≤ M) : ∀ x ∈ pads cs l, x.length ≤ M := by
  intro x hx
  obtain ⟨i, hi⟩ := List.mem_iff_getElem?.1 hx
  unfold pads at hi
  rw [List.getElem?_zipWith_eq_some] at hi
  obtain ⟨c, t, h1, h2, rfl⟩ := hi
  have := hc i c t h1 h2
  rw [pad_length c t this.1]
  exact this.2
theorem line_most {cs : List (Nat × Bool)} {l : List (List UInt8)} {M : Nat} (h : cs.length = l.length) (hc : ∀ (i : Nat) (c : Nat × Bool) (t : List UInt8), cs[i]? = some c → l[i]? = some t → t.length ≤ c.1 ∧ c.1 ≤ M) : (line cs l).length ≤ cs.length * (M + 3) + 1 := by
  unfold line
  have h1 := trimRight_length (join (pads cs l) bar) 32
  have h2 := join_length bar M (pads cs l) (pads_most h hc)
  rw [pads_length h] at h2
  have h3 : (join (pads cs l) bar).length ≤ cs.length * (M + 3) := h2
  simp only [List.length_append, List.length_cons, List.length_nil]
  omega
theorem table_widths (names : List (List UInt8)) (rows : List (List Cell)) (M : Nat) (hn : ∀ x ∈ names, x.length ≤ M) (hr : ∀ r ∈ rows, ∀ c ∈ r, c.2.length ≤ M) :
    (∀ (i : Nat) (c : Nat × Bool) (t : List UInt8), (cols names rows)[i]? = some c → (names.map clean)[i]? = some t → t.length ≤ c.1 ∧ c.1 ≤ M) ∧
    ∀ r ∈ rows, ∀ (i : Nat) (c : Nat × Bool) (t : List UInt8), (cols names rows)[i]? = some c → (cells r names.length)[i]? = some t → t.length ≤ c.1 ∧ c.1 ≤ M := by
  have hc : ∀ (i : Nat) (c : Nat × Bool), (cols names rows)[i]? = some c → ∃ h : i < names.length, c.1 = (col names[i] rows i).wide ∧ c.1 ≤ M := by
    intro i c h
    have hi : i < names.length := by
      have := (List.getElem?_eq_some_iff.1 h).1
      rwa [cols_length] at this
    rw [cols_at _ _ _ hi] at h
    cases h
    have e : names.getD i [] = names[i] := by simp [hi]
    refine ⟨hi, by rw [e]; rfl, ?_⟩
    rw [e]
    exact col_most _ _ _ _ (hn _ (List.getElem_mem _)) hr
  refine ⟨fun i c t h1 h2 => ?_, fun r hr' i c t h1 h2 => ?_⟩
  · obtain ⟨hi, e, hm⟩ := hc i c h1
    refine ⟨?_, hm⟩
    simp [hi] at h2
    rw [← h2, clean_length, e]
    exact col_name _ _ _
  · obtain ⟨hi, e, hm⟩ := hc i c h1
    refine ⟨?_, hm⟩
    rw [cells_at _ _ _ hi] at h2
    cases h2
    rw [e]
    exact col_text _ _ _ _ hr'
theorem rules_at {cs : List (Nat × Bool)} {i : Nat} {c : Nat × Bool} (h : cs[i]? = some c) : (rules cs).take (i + 1) = (rules cs).take i ++ [List.replicate c.1 45] := by
  rw [List.take_add_one, rules, List.getElem?_map, h]; rfl
theorem rules_length (cs : List (Nat × Bool)) : (rules cs).length = cs.length := by simp [rules]
theorem names_at {names : List (List UInt8)} {i : Nat} {x : List UInt8} (h : names[i]? = some x) : (names.map clean).take (i + 1) = (names.map clean).take i ++ [clean x] := by
  rw [List.take_add_one, List.getElem?_map, h]; rfl
theorem lines_at {cs : List (Nat × Bool)} {n : Nat} {rows : List (List Cell)} {k : Nat} {r : List Cell} (h : rows[k]? = some r) : lines cs n (rows.take (k + 1)) = lines cs n (rows.take k) ++ line cs (cells r n) := by
  unfold lines
  rw [List.take_add_one, h]; simp
theorem lines_most {cs : List (Nat × Bool)} {n : Nat} {W : Nat} : ∀ (rows : List (List Cell)), (∀ r ∈ rows, (line cs (cells r n)).length ≤ W) → (lines cs n rows).length ≤ rows.length * W
  | [], _ => by simp [lines]
  | r :: rows, h => by
    have ih := lines_most rows fun r' hr' => h r' (List.mem_cons_of_mem _ hr')
    have h1 := h r (List.mem_cons_self ..)
    unfold lines at ih ⊢
    simp only [List.map_cons, List.flatten_cons, List.length_append, List.length_cons, Nat.succ_mul]
    omega
end P25
