/- Rows of values, opened from their readings. -/
import Derived.Test.YtpikcjpimciniaaDoorF
import Derived.Test.YtpikcjpimciniaaDoorP8
import Derived.Deep.Strs
set_option linter.unusedSimpArgs false
set_option linter.unusedVariables false
namespace Go.Proofs.YtpikcjpimciniaaDoor
open Go.RowKit Go.Deep

theorem add_cell (b off n : Nat) : (⟨b, off, none⟩ : Addr).add n = ⟨b, off + n, none⟩ := by
  unfold Addr.add; split
  · subst n; rfl
  · rfl
theorem open_value {H : Type} {enc : TypeId × Value → H} {w : World} {base : Nat} {spare : Nat → Bool} {held : Bool} {n : Nat} {cs : List Value} {y : DataW H × List MemPlace}
    (h : DataW.trod enc Tryd.prog w base spare held n 24 cs = some y) : ∃ x : V, cs = [.int .i64 x.k, .int .i64 x.i, .string x.s] ∧ x.s.size ≤ maxLen := by
  obtain ⟨y0, y1, y2, m, -, hl, h0, h1, h2⟩ := trod_struct3 Tryd.underlying24 h
  rw [show Tryd.prog.cellsOf 24 = 3 by kernel_rfl] at hl
  obtain ⟨k, e0, -, -⟩ := DataW.trod_int Tryd.underlying3 h0
  obtain ⟨i, e1, -, -⟩ := DataW.trod_int Tryd.underlying2 h1
  obtain ⟨s, e2, -, hs⟩ := DataW.trod_string Tryd.underlying9 h2
  dsimp only at e0 e1 e2
  rw [show Tryd.prog.cellsOf 3 = 1 by kernel_rfl] at e0
  rw [show Tryd.prog.cellsOf 2 = 1 by kernel_rfl] at e1
  rw [show Tryd.prog.cellsOf 9 = 1 by kernel_rfl] at e2
  refine ⟨⟨k, i, s⟩, ?_, hs⟩
  match cs, hl with
  | [c0, c1, c2], _ =>
    simp only [List.drop_zero, List.drop_succ_cons, List.take_succ_cons, List.take_zero, List.cons.injEq, and_true] at e0 e1 e2
    rw [e0, e1, e2]

theorem open_row {H : Type} {enc : TypeId × Value → H} {w : World} {base : Nat} {spare : Nat → Bool} {held : Bool} {n : Nat} {v : Value} {y : DataW H × List MemPlace}
    (h : DataW.trod enc Tryd.prog w base spare held n 35 [v] = some y) : ∃ l : List V, RowAt w v l ∧ l.length ≤ maxLen := by
  rcases open_slice Tryd.underlying35 h with ⟨e, -⟩ | ⟨a, len, cap, m, f, D, Pl, e, -, hlc, hcm, hm, -, hi⟩
  · simp only [List.cons.injEq, and_true] at e
    exact ⟨[], ⟨none, 0, e, fun j x hx => by simp at hx⟩, by simp⟩
  · simp only [List.cons.injEq, and_true] at e
    have hlm : len ≤ m := by rw [hm]; split <;> omega
    rw [show Tryd.prog.cellsOf 24 = 3 by kernel_rfl] at hi
    have hx : ∀ i, ∃ x : V, i < len → w.cell? (a.add (i * 3)) = some (.int .i64 x.k) ∧ w.cell? ((a.add (i * 3)).add 1) = some (.int .i64 x.i) ∧ w.cell? ((a.add (i * 3)).add 2) = some (.string x.s) ∧ x.s.size ≤ maxLen := by
      intro i
      by_cases hil : i < len
      · obtain ⟨cs, hc, ht⟩ := hi i (by omega)
        obtain ⟨x, rfl, hs⟩ := open_value ht
        obtain ⟨-, -, hg⟩ := World.cells?_some hc
        exact ⟨x, fun _ => ⟨by simpa [Addr.add] using hg 0 (by omega), by simpa using hg 1 (by omega), by simpa using hg 2 (by omega), hs⟩⟩
      · exact ⟨⟨0, 0, ⟨#[]⟩⟩, fun h => absurd h hil⟩
    obtain ⟨X, hX⟩ := Classical.axiomOfChoice hx
    refine ⟨(List.range len).map X, ⟨some a, cap, by simpa using e, fun j x hj => ?_⟩, by simp; omega⟩
    have hjl : j < len := by
      have := (List.getElem?_eq_some_iff.1 hj).1
      simpa using this
    have hxj : X j = x := by
      have := (List.getElem?_eq_some_iff.1 hj).2
      simpa using this
    subst hxj
    have hsp : a.spot = none := by simpa [Addr.add] using World.cell?_spot (hX 0 (by omega)).1
    obtain ⟨b, off, sp⟩ := a
    cases hsp
    obtain ⟨h1, h2, h3, h4⟩ := hX j hjl
    rw [add_cell] at h1 h2 h3
    rw [add_cell] at h2 h3
    exact ⟨b, off, rfl, h1, h2, h3, h4⟩

/-! ### The order of rows -/
theorem cmpX_anti (x y : V) : cmpX y x = - cmpX x y := P6.cmp3_anti _ _ _ _ _ _
theorem cmpX_left {x y : V} (z : V) (h : cmpX x y = 0) : cmpX x z = cmpX y z := by
  obtain ⟨h1, h2, h3⟩ := P6.cmp3_zero (show P6.cmp3 _ _ _ _ _ _ = 0 from h)
  show P6.cmp3 _ _ _ _ _ _ = P6.cmp3 _ _ _ _ _ _
  rw [h1, h2, h3]
theorem cmpX_right {x y : V} (z : V) (h : cmpX x y = 0) : cmpX z x = cmpX z y := by
  obtain ⟨h1, h2, h3⟩ := P6.cmp3_zero (show P6.cmp3 _ _ _ _ _ _ = 0 from h)
  show P6.cmp3 _ _ _ _ _ _ = P6.cmp3 _ _ _ _ _ _
  rw [h1, h2, h3]
theorem cmpX_trans {x y z : V} (h : cmpX x y ≤ 0) (g : cmpX y z ≤ 0) : cmpX x z ≤ 0 := P6.cmp3_le_trans (show P6.cmp3 _ _ _ _ _ _ ≤ 0 from h) (show P6.cmp3 _ _ _ _ _ _ ≤ 0 from g)
theorem cmpX_same (x : V) : cmpX x x = 0 := P6.cmp3_same _ _ _
theorem rowsV_same : ∀ l, rowsV l l = 0
  | [] => rfl
  | x :: l => by rw [rowsV, if_pos (cmpX_same x), rowsV_same l]
theorem rowsV_anti : ∀ l m, rowsV m l = - rowsV l m
  | [], [] => rfl
  | [], _ :: _ => rfl
  | _ :: _, [] => rfl
  | x :: l, y :: m => by
    rw [rowsV, rowsV, cmpX_anti x y, rowsV_anti l m]
    by_cases h : cmpX x y = 0
    · rw [if_pos h, if_pos (by omega)]
    · rw [if_neg h, if_neg (by omega)]
theorem rowsV_trans : ∀ l m n, rowsV l m ≤ 0 → rowsV m n ≤ 0 → rowsV l n ≤ 0
  | [], _, [], _, _ => by decide
  | [], _, _ :: _, _, _ => by simp [rowsV]
  | _ :: _, [], _, h, _ => by simp [rowsV] at h
  | _ :: _, _ :: _, [], _, g => by simp [rowsV] at g
  | x :: l, y :: m, z :: n, h, g => by
    rw [rowsV] at h g ⊢
    by_cases h0 : cmpX x y = 0
    · rw [if_pos h0] at h
      rw [cmpX_left z h0]
      split
      · rename_i h1
        rw [if_pos h1] at g
        exact rowsV_trans l m n h g
      · rename_i h1
        rwa [if_neg h1] at g
    · rw [if_neg h0] at h
      by_cases h1 : cmpX y z = 0
      · rw [← cmpX_right x h1, if_neg h0]
        exact h
      · rw [if_neg h1] at g
        have h2 := cmpX_trans h g
        split
        · rename_i h3
          have e := cmpX_left y h3
          have := cmpX_anti y z
          omega
        · exact h2

/-! ### An element goes down to its place -/
def swp (f : Nat → List V) (k : Nat) : Nat → List V := fun p => if p = k then f (k - 1) else if p = k - 1 then f k else f p
def upto (f : Nat → List V) (i : Nat) : Prop := ∀ p q, p < q → q < i → rowsV (f p) (f q) ≤ 0
def goesDown (f : Nat → List V) (i k : Nat) : Prop := k ≤ i ∧ (∀ p q, p < q → q ≤ i → p ≠ k → q ≠ k → rowsV (f p) (f q) ≤ 0) ∧ ∀ q, k < q → q ≤ i → rowsV (f k) (f q) ≤ 0
theorem goesDown_start {f : Nat → List V} {i : Nat} (h : upto f i) : goesDown f i i := ⟨Nat.le_refl _, fun p q hp hq _ h2 => h p q hp (by omega), fun q h1 h2 => by omega⟩
theorem goesDown_step {f : Nat → List V} {i k : Nat} (h : goesDown f i k) (hk : 0 < k) (hr : rowsV (f k) (f (k - 1)) < 0) : goesDown (swp f k) i (k - 1) := by
  obtain ⟨hki, h1, h2⟩ := h
  have ek : swp f k k = f (k - 1) := by simp [swp]
  have ek1 : swp f k (k - 1) = f k := by unfold swp; rw [if_neg (by omega), if_pos rfl]
  have eo : ∀ p, p ≠ k → p ≠ k - 1 → swp f k p = f p := fun p a b => by unfold swp; rw [if_neg a, if_neg b]
  refine ⟨by omega, fun p q hpq hq hp hq' => ?_, fun q hq hqi => ?_⟩
  · by_cases hpk : p = k
    · subst hpk
      rw [ek, eo q (by omega) hq']
      exact h1 (p - 1) q (by omega) hq (by omega) (by omega)
    · by_cases hqk : q = k
      · subst hqk
        rw [ek, eo p hpk hp]
        exact h1 p (q - 1) (by omega) (by omega) hpk (by omega)
      · rw [eo p hpk hp, eo q hqk hq']
        exact h1 p q hpq hq hpk hqk
  · rw [ek1]
    by_cases hqk : q = k
    · subst hqk
      rw [ek]
      omega
    · rw [eo q hqk (by omega)]
      exact h2 q (by omega) hqi
theorem goesDown_end {f : Nat → List V} {i k : Nat} (h : goesDown f i k) (hr : k = 0 ∨ 0 ≤ rowsV (f k) (f (k - 1))) : upto f (i + 1) := by
  obtain ⟨hki, h1, h2⟩ := h
  intro p q hpq hq
  by_cases hpk : p = k
  · subst hpk
    exact h2 q hpq (by omega)
  · by_cases hqk : q = k
    · subst hqk
      have hz : rowsV (f (q - 1)) (f q) ≤ 0 := by
        have := rowsV_anti (f (q - 1)) (f q)
        omega
      by_cases hp1 : p = q - 1
      · rw [hp1]; exact hz
      · exact rowsV_trans _ _ _ (h1 p (q - 1) (by omega) (by omega) (by omega) (by omega)) hz
    · exact h1 p q hpq (by omega) hpk hqk
end Go.Proofs.YtpikcjpimciniaaDoor
