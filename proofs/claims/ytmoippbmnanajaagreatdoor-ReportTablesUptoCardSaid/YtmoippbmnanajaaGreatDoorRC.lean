/- Walks: report.columns. -/
import Derived.Test.YtmoippbmnanajaaGreatDoorRB
set_option linter.unusedSimpArgs false
set_option linter.unusedVariables false
namespace Go.Proofs.YtmoippbmnanajaaGreatDoor
open Go.RowKit
theorem StrsAt.parts {w : World} {v : Value} {l : List (List UInt8)} (h : StrsAt w v l) : ∃ pa cap, v = .slice pa l.length cap ∧ ∀ (j : Nat) (x : List UInt8), l[j]? = some x → ∃ b off, pa = some ⟨b, off, none⟩ ∧ w.cell? ⟨b, off + j, none⟩ = some (.string ⟨x.toArray⟩) := by
  obtain ⟨pa, cap, hv, -, hl⟩ := h
  refine ⟨pa, cap, hv, fun j x hj => ?_⟩
  obtain ⟨b, off, h1, h2⟩ := hl j x hj
  rw [Nat.mul_one] at h2
  exact ⟨b, off, h1, h2⟩
theorem RowsAt.parts {w : World} {v : Value} {l : List (List V)} (h : RowsAt w v l) : ∃ pa cap, v = .slice pa l.length cap ∧ ∀ (j : Nat) (x : List V), l[j]? = some x → ∃ b off u, pa = some ⟨b, off, none⟩ ∧ w.cell? ⟨b, off + j, none⟩ = some u ∧ RowAt w u x := by
  obtain ⟨pa, cap, hv, -, hl⟩ := h
  refine ⟨pa, cap, hv, fun j x hj => ?_⟩
  obtain ⟨b, off, h1, u, h2, h3⟩ := hl j x hj
  rw [Nat.mul_one] at h2
  exact ⟨b, off, u, h1, h2, h3⟩
theorem TextsAt.parts {w : World} {v : Value} {l : List (List (List UInt8))} (h : TextsAt w v l) : ∃ pa cap, v = .slice pa l.length cap ∧ ∀ (j : Nat) (x : List (List UInt8)), l[j]? = some x → ∃ b off u, pa = some ⟨b, off, none⟩ ∧ w.cell? ⟨b, off + j, none⟩ = some u ∧ StrsAt w u x := by
  obtain ⟨pa, cap, hv, -, hl⟩ := h
  refine ⟨pa, cap, hv, fun j x hj => ?_⟩
  obtain ⟨b, off, h1, u, h2, h3⟩ := hl j x hj
  rw [Nat.mul_one] at h2
  exact ⟨b, off, u, h1, h2, h3⟩
theorem ColsAt.parts {w : World} {v : Value} {l : List (Nat × Bool)} (h : ColsAt w v l) : ∃ pa cap, v = .slice pa l.length cap ∧ ∀ (j : Nat) (x : Nat × Bool), l[j]? = some x → ∃ b off, pa = some ⟨b, off, none⟩ ∧ w.cell? ⟨b, off + j * 2, none⟩ = some (.int .i64 x.1) ∧ w.cell? ⟨b, off + j * 2 + 1, none⟩ = some (.bool x.2) := by
  obtain ⟨pa, cap, hv, -, hl⟩ := h
  exact ⟨pa, cap, hv, hl⟩
theorem ColsAt.get {w : World} {b off n cap : Nat} {l : List (Nat × Bool)} (h : ColsAt w (.slice (some ⟨b, off, none⟩) n cap) l) {q : Nat} {c : Nat × Bool} (hq : l[q]? = some c) : w.cell? ⟨b, off + q * 2, none⟩ = some (.int .i64 c.1) ∧ w.cell? ⟨b, off + q * 2 + 1, none⟩ = some (.bool c.2) := by
  obtain ⟨pa, ca, e, hl⟩ := h.parts
  cases e
  obtain ⟨b', o', e', h1, h2⟩ := hl q c hq
  cases e'
  exact ⟨h1, h2⟩
/-- Columns as cells. -/
def ccells : List (Nat × Bool) → List Value
  | [] => []
  | c :: l => .int .i64 c.1 :: .bool c.2 :: ccells l
theorem ccells_length : ∀ l : List (Nat × Bool), (ccells l).length = l.length * 2
  | [] => rfl
  | c :: l => by simp only [ccells, List.length_cons, ccells_length l]; omega
theorem ccells_at : ∀ (l : List (Nat × Bool)) (q : Nat) (c : Nat × Bool), l[q]? = some c → (ccells l)[q * 2]? = some (.int .i64 c.1) ∧ (ccells l)[q * 2 + 1]? = some (.bool c.2)
  | [], q, c, h => by simp at h
  | d :: l, 0, c, h => by simp at h; subst h; exact ⟨rfl, rfl⟩
  | d :: l, q + 1, c, h => by
    have := ccells_at l q c (by simpa using h)
    rw [show (q + 1) * 2 = q * 2 + 2 by omega]
    exact this
theorem ccells_set0 : ∀ (l : List (Nat × Bool)) (q n m : Nat) (b : Bool), l[q]? = some (m, b) → (ccells l).set (q * 2) (.int .i64 n) = ccells (l.set q (n, b))
  | [], q, n, m, b, h => by simp at h
  | d :: l, 0, n, m, b, h => by simp at h; subst h; rfl
  | d :: l, q + 1, n, m, b, h => by
    have := ccells_set0 l q n m b (by simpa using h)
    rw [show (q + 1) * 2 = q * 2 + 1 + 1 by omega]
    simp only [ccells, List.set_cons_succ, this]
theorem ccells_set1 : ∀ (l : List (Nat × Bool)) (q m : Nat) (b c : Bool), l[q]? = some (m, b) → (ccells l).set (q * 2 + 1) (.bool c) = ccells (l.set q (m, c))
  | [], q, m, b, c, h => by simp at h
  | d :: l, 0, m, b, c, h => by simp at h; subst h; rfl
  | d :: l, q + 1, m, b, c, h => by
    have := ccells_set1 l q m b c (by simpa using h)
    rw [show (q + 1) * 2 + 1 = q * 2 + 1 + 1 + 1 by omega]
    simp only [ccells, List.set_cons_succ, this]
theorem ccells_replicate : ∀ n : Nat, (madeCells #[.int .i64 0, .bool false] (n * 2)).toList = ccells (List.replicate n (0, false)) := by
  intro n
  apply List.ext_getElem?
  intro j
  by_cases hj : j < n * 2
  · have h1 : (List.replicate n ((0 : Nat), false))[j / 2]? = some (0, false) := by rw [List.getElem?_replicate, if_pos (by omega)]
    have h2 := ccells_at _ _ _ h1
    have hm : (madeCells #[.int .i64 0, .bool false] (n * 2)).toList[j]? = some ((#[Value.int .i64 0, .bool false]).getD (j % 2) undef) := by
      simp [madeCells, hj]
      have : j % 2 = 0 ∨ j % 2 = 1 := by omega
      rcases this with h | h <;> simp [h]
    rw [hm]
    have : j % 2 = 0 ∨ j % 2 = 1 := by omega
    rcases this with h | h
    · rw [show j = j / 2 * 2 by omega, h2.1]; simp
    · rw [show j = j / 2 * 2 + 1 by omega, h2.2]; simp
  · rw [List.getElem?_eq_none (by simp [madeCells]; omega), List.getElem?_eq_none (by rw [ccells_length, List.length_replicate]; omega)]
theorem ColsAt.own {w : World} {base : Nat} {e : TypeId} {v : Value} {n : Nat} {l : List (Nat × Bool)} (h : w.ownsRow base e 2 v n (ccells l)) : ColsAt w v l :=
  SlAt.own h (by have := h.1; rw [ccells_length] at this; omega) fun b j x hj hc => by
    obtain ⟨h1, h2⟩ := ccells_at l j x hj
    exact ⟨by simpa using hc 0 _ (by decide) (by simpa using h1), by simpa using hc 1 _ (by decide) h2⟩
theorem Tryz.infoCol : (Tryz.prog.info? 56).map (fun i => (i.zero, i.size, i.bytes)) = some (some (.agg #[.int .i64 0, .bool false]), 2, 16) := by kernel_rfl
end Go.Proofs.YtmoippbmnanajaaGreatDoor
