/- Walks: report.guess, of any short text. -/
import Derived.Test.YtmoippbmnanajaaGreatDoorRS
import Derived.Lib.AtoiAllCases
set_option linter.unusedSimpArgs false
set_option linter.unusedVariables false
namespace P25
open Go.Lib
theorem splitK_most (sep : List UInt8) : ∀ (k : Nat) (s : List UInt8), (splitK sep 0 k s).length ≤ k + 1 ∧ ∀ x ∈ splitK sep 0 k s, x.length ≤ s.length
  | 0, s => ⟨Nat.le_refl _, fun x hx => by simp only [splitK, List.mem_cons, List.not_mem_nil, or_false] at hx; subst hx; exact Nat.le_refl _⟩
  | k + 1, s => by
    unfold splitK
    split
    · exact ⟨by simp, fun x hx => by simp only [List.mem_cons, List.not_mem_nil, or_false] at hx; subst hx; exact Nat.le_refl _⟩
    · have h := splitK_most sep k (s.drop ((index s sep).toNat + sep.length))
      refine ⟨by simp only [List.length_cons]; omega, fun x hx => ?_⟩
      rcases List.mem_cons.1 hx with rfl | hx
      · rw [List.length_take]; omega
      · have := h.2 x hx
        rw [List.length_drop] at this
        omega
theorem split_most (s sep : List UInt8) (h1 : 1 ≤ sep.length) : (split s sep).length ≤ s.length + 1 ∧ ∀ x ∈ split s sep, x.length ≤ s.length := by
  have hc : count s sep ≤ s.length := by
    have h := countB_le ⟨sep.toArray⟩ (by simpa [ByteArray.size] using h1) s.length ⟨s.toArray⟩ (by simp [ByteArray.size])
    have e : countB ⟨s.toArray⟩ ⟨sep.toArray⟩ = count s sep := rfl
    have e2 : (⟨s.toArray⟩ : ByteArray).size = s.length := by simp [ByteArray.size]
    omega
  have h := splitK_most sep (count s sep) s
  exact ⟨Nat.le_trans h.1 (by omega), h.2⟩
end P25
namespace Go.Proofs.YtmoippbmnanajaaGreatDoor
open Go.RowKit
theorem lines_most (s : List UInt8) : (linesOf s).length ≤ s.length + 1 ∧ ∀ x ∈ linesOf s, x.length ≤ s.length := P25.split_most s [10] (by decide)
theorem getD_most (l : List (List UInt8)) (i m : Nat) (h : ∀ x ∈ l, x.length ≤ m) : (l.getD i []).length ≤ m := by
  rw [List.getD_eq_getElem?_getD]
  cases hi : l[i]? with
  | none => exact Nat.zero_le _
  | some x => exact h x (List.mem_of_getElem? hi)
theorem guess_any (s : List UInt8) (w : World) (hE : EnvR w) (hs : s.length ≤ 90000) :
    Calls Tryz.prog 31 #[.string ⟨s.toArray⟩] w (GuessPost w (guess s)) := by
  obtain ⟨h1, h2⟩ := lines_most s
  have h3 := getD_most (linesOf s) 1 _ h2
  by_cases ha : (linesOf s).length = 2
  · exact guess_two s w hE (by omega) ha fun x hx => by have := h2 x hx; omega
  · by_cases hb : (linesOf s).length < 2
    · exact guess_one s w hE (by omega) hb
    · obtain ⟨g1, g2⟩ := P25.split_most ((linesOf s).getD 1 []) [45, 43, 45] (by decide)
      have hw : (widths ((linesOf s).getD 1 [])).length = (Lib.split ((linesOf s).getD 1 []) [45, 43, 45]).length := by unfold widths P25.cross; rw [List.length_map]
      exact guess_many s w hE (by omega) (by omega) (by omega) (fun x hx => by have := h2 x hx; omega) (by omega) fun x hx => by have := g2 x hx; omega
theorem dropBlank_most (l : List (List UInt8)) : (P25.dropBlank l).length ≤ l.length := by
  unfold P25.dropBlank
  rw [List.length_reverse]
  exact Nat.le_trans (List.dropWhile_sublist _).length_le (by simp)
theorem vals_most : ∀ (l : List (List UInt8)) (r : List V), vals l = some r → r.length = l.length ∧ (∀ x ∈ r, isX x = true) ∧ IOk r
  | [], r, h => by cases h; exact ⟨rfl, fun x hx => (by cases hx), fun x hx => (by cases hx)⟩
  | s :: l, r, h => by
    unfold vals at h
    cases hl : lit (P25.inner s) with
    | none => rw [hl] at h; cases h
    | some x =>
      rw [hl] at h
      dsimp only at h
      cases hv : vals l with
      | none => rw [hv] at h; cases h
      | some r' =>
        rw [hv] at h
        cases h
        obtain ⟨h1, h2, h3⟩ := vals_most l r' hv
        obtain ⟨a1, -, a2⟩ := lit_ok hl
        refine ⟨by simp [h1], fun y hy => ?_, fun y hy => ?_⟩
        · rcases List.mem_cons.1 hy with rfl | hy
          · exact a1
          · exact h2 y hy
        · rcases List.mem_cons.1 hy with rfl | hy
          · exact a2
          · exact h3 y hy
theorem rowIn_most {l : List (List UInt8)} {r : List V} (h : rowIn l = some r) : r.length ≤ l.length ∧ (∀ x ∈ r, isX x = true) ∧ IOk r := by
  obtain ⟨h1, h2⟩ := vals_most _ _ h
  exact ⟨by have := dropBlank_most l; omega, h2⟩
theorem rowsIn_most (ws : List Nat) : ∀ (l : List (List UInt8)) (rows : List (List V)), rowsIn ws l = some rows → rows.length = l.length ∧ ∀ r ∈ rows, r.length ≤ ws.length ∧ (∀ x ∈ r, isX x = true) ∧ IOk r
  | [], r, h => by cases h; exact ⟨rfl, fun x hx => by cases hx⟩
  | s :: l, r, h => by
    unfold rowsIn at h
    cases hc : P25.cut 0 s ws with
    | none => rw [hc] at h; cases h
    | some c =>
      rw [hc] at h
      dsimp only at h
      cases hr : rowIn c with
      | none => rw [hr] at h; cases h
      | some x =>
        rw [hr] at h
        dsimp only at h
        cases hv : rowsIn ws l with
        | none => rw [hv] at h; cases h
        | some r' =>
          rw [hv] at h
          cases h
          obtain ⟨h1, h2⟩ := rowsIn_most ws l r' hv
          obtain ⟨a1, a2⟩ := rowIn_most hr
          obtain ⟨c1, -⟩ := cut_most _ _ _ _ hc
          refine ⟨by simp [h1], fun y hy => ?_⟩
          rcases List.mem_cons.1 hy with rfl | hy
          · exact ⟨by omega, a2⟩
          · exact h2 y hy
/-- How large an answer is. -/
structure AnsOk (m : Nat) (a : Ans) : Prop where
  names : a.names.length ≤ m
  name : ∀ x ∈ a.names, x.length ≤ m
  rows : a.rows.length ≤ m
  row : ∀ r ∈ a.rows, r.length ≤ m ∧ (∀ x ∈ r, isX x = true) ∧ IOk r
  lo : -9223372036854775808 ≤ a.n
  hi : a.n ≤ 9223372036854775807
theorem trimB_most (x : List UInt8) (c : UInt8) : (Lib.trimB x c).length ≤ x.length := by
  unfold Lib.trimB Lib.trimRightB Lib.trimLeftB
  refine Nat.le_trans (List.dropWhile_sublist _).length_le ?_
  rw [List.length_reverse]
  refine Nat.le_trans (List.dropWhile_sublist _).length_le ?_
  rw [List.length_reverse]
  exact Nat.le_refl _
theorem guess_most {s : List UInt8} {a : Ans} (h : guess s = some a) : AnsOk (s.length + 1) a := by
  obtain ⟨h1, h2⟩ := lines_most s
  have h3 := getD_most (linesOf s) 1 _ h2
  have h4 := getD_most (linesOf s) 0 _ h2
  unfold guess at h
  split at h
  · split at h
    · rename_i n hn
      cases h
      have hb := Lib.atoiAll_bounds hn
      exact ⟨Nat.zero_le _, fun x hx => (by cases hx), Nat.zero_le _, fun x hx => (by cases hx), hb.1, hb.2⟩
    · cases h
  · split at h
    · cases h
    · obtain ⟨g1, g2⟩ := P25.split_most ((linesOf s).getD 1 []) [45, 43, 45] (by decide)
      have hw : (widths ((linesOf s).getD 1 [])).length = (Lib.split ((linesOf s).getD 1 []) [45, 43, 45]).length := by unfold widths P25.cross; rw [List.length_map]
      split at h
      · cases h
      · rename_i names hn
        split at h
        · cases h
        · rename_i rows hr
          cases h
          obtain ⟨c1, c2⟩ := cut_most _ _ _ _ hn
          obtain ⟨r1, r2⟩ := rowsIn_most _ _ _ hr
          refine ⟨?_, fun x hx => ?_, ?_, fun r hr => ?_, by show (-9223372036854775808 : Int) ≤ 0; decide, by show (0 : Int) ≤ 9223372036854775807; decide⟩
          · simp only [List.length_map]; omega
          · obtain ⟨y, hy, rfl⟩ := List.mem_map.1 hx
            have := c2 y hy
            have := trimB_most y 32
            omega
          · have : rows.length ≤ s.length := by rw [r1]; simp only [List.length_take, List.length_drop]; omega
            show rows.length ≤ _
            omega
          · obtain ⟨q1, q2⟩ := r2 r hr
            exact ⟨by omega, q2⟩
theorem tableA_any (vc vr : Value) (a : Ans) (w : World) (hE : Env w) (hc : StrsAt w vc a.names) (hr : RowsAt w vr a.rows) (hk : AnsOk 4096 a) :
    Calls Tryz.prog 10 #[.agg #[vc, vr, .int .i64 a.n]] w fun e w' => e = .returned (.string ⟨(tableA a).toArray⟩) ∧ Below w.heap.size w w' := by
  unfold tableA P25.table
  by_cases hn : a.names = []
  · rw [if_pos hn]
    rw [hn] at hc
    exact table_none vc vr a.rows a.n w hE hc hr hk.lo hk.hi
  · rw [if_neg hn]
    exact table_some vc vr a.names a.rows a.n w hE hc hr (List.length_pos_iff.2 hn) hk.names (fun x hx => Nat.le_trans (hk.name x hx) (by omega)) hk.rows fun r hr => ⟨Nat.le_trans (hk.row r hr).1 (by unfold maxLen; omega), (hk.row r hr).2.2⟩
end Go.Proofs.YtmoippbmnanajaaGreatDoor
