/- Answers, opened from their readings. -/
import Derived.Test.YtmoippbmnanajaaGreatDoorRows
import Derived.Test.YtmoippbmnanajaaGreatDoorSG
import Derived.Lib.SmallJoins
import Derived.Deep.Strs
import Derived.OpenShut
import Derived.ProofKit
set_option linter.unusedSimpArgs false
set_option linter.unusedVariables false
namespace Go.Proofs.YtmoippbmnanajaaGreatDoor
open Go.RowKit Go.Deep Go.WideShapes Go.ChangeShapes
theorem add_cellA (b off n : Nat) : (⟨b, off, none⟩ : Addr).add n = ⟨b, off + n, none⟩ := by
  unfold Addr.add; split
  · subst n; rfl
  · rfl
/-- A slice, opened at every element. -/
theorem open_sl {α : Type} [Inhabited α] {H : Type} {enc : TypeId × Value → H} {w : World} {base : Nat} {spare : Nat → Bool} {held : Bool} {n : Nat} {v : Value} {y : DataW H × List MemPlace} (sz : Nat) (hpos : 0 < sz)
    (R : World → Nat → Nat → α → Prop) (G : α → DataW H → Prop) {t e : TypeId} (ht : Tryz.prog.underlying t = some (.slice e)) (hc : Tryz.prog.cellsOf e = sz) (h : DataW.trod enc Tryz.prog w base spare held n t [v] = some y)
    (hE : ∀ (m : Nat) (cs : List Value) (b o : Nat) (y' : DataW H × List MemPlace), cs.length = sz → (∀ i, i < sz → w.cell? ⟨b, o + i, none⟩ = cs[i]?) → DataW.trod enc Tryz.prog w base spare held m e cs = some y' → ∃ x, R w b o x ∧ G x y'.1) :
    ∃ l : List α, SlAt sz R w v l ∧ l.length ≤ maxLen ∧ ∀ x ∈ l, ∃ ds sp, y.1 = .slice ds sp ∧ ∃ d ∈ ds, G x d := by
  rcases open_slice ht h with ⟨e, -⟩ | ⟨a, len, cap, m, f, D, Pl, e, -, hlc, hcm, hm, hy, hi⟩
  · simp only [List.cons.injEq, and_true] at e
    exact ⟨[], ⟨none, 0, e, Nat.le_refl _, fun j x hx => by simp at hx⟩, by simp, fun x hx => by cases hx⟩
  · simp only [List.cons.injEq, and_true] at e
    have hlm : len ≤ m := by rw [hm]; split <;> omega
    rw [hc] at hi
    have hx : ∀ i, ∃ x : α, i < len → ∃ b o, a = ⟨b, o, none⟩ ∧ R w b (o + i * sz) x ∧ G x (D i) := by
      intro i
      by_cases hil : i < len
      · obtain ⟨cs, hcs, ht⟩ := hi i (by omega)
        obtain ⟨-, hl, hg⟩ := World.cells?_some hcs
        have hsp : a.spot = none := by
          obtain ⟨cs0, hc0, -⟩ := hi 0 (by omega)
          obtain ⟨-, hl0, hg0⟩ := World.cells?_some hc0
          have h0 := hg0 0 hpos
          rw [List.getElem?_eq_getElem (by omega)] at h0
          simpa [Addr.add] using World.cell?_spot h0
        obtain ⟨b, o, sp⟩ := a
        cases hsp
        obtain ⟨x, h1, h2⟩ := hE f cs b (o + i * sz) (D i, Pl i) hl (fun k hk => by have := hg k hk; rw [add_cellA, add_cellA] at this; exact this) ht
        exact ⟨x, fun _ => ⟨b, o, rfl, h1, h2⟩⟩
      · exact ⟨default, fun h => absurd h hil⟩
    obtain ⟨X, hX⟩ := Classical.axiomOfChoice hx
    refine ⟨(List.range len).map X, ⟨some a, cap, by simpa using e, by simpa using hlc, fun j x hj => ?_⟩, by simp; omega, fun x hx => ?_⟩
    · have hjl : j < len := by
        have := (List.getElem?_eq_some_iff.1 hj).1
        simpa using this
      have hxj : X j = x := by
        have := (List.getElem?_eq_some_iff.1 hj).2
        simpa using this
      subst hxj
      obtain ⟨b, o, rfl, h1, -⟩ := hX j hjl
      exact ⟨b, o, rfl, h1⟩
    · obtain ⟨i, hir, rfl⟩ := List.mem_map.1 hx
      have hil : i < len := by simpa using hir
      obtain ⟨b, o, rfl, -, h2⟩ := hX i hil
      exact ⟨_, _, congrArg Prod.fst hy, D i, List.mem_map.2 ⟨i, hir, rfl⟩, h2⟩
section
variable {H : Type} {enc : TypeId × Value → H} {w : World} {base : Nat} {spare : Nat → Bool} {held : Bool} {n : Nat} {v : Value} {y : DataW H × List MemPlace}
theorem open_names (h : DataW.trod enc Tryz.prog w base spare held n 22 [v] = some y) :
    ∃ l : List (List UInt8), StrsAt w v l ∧ l.length ≤ maxLen ∧ ∀ x ∈ l, ∃ ds sp, y.1 = .slice ds sp ∧ ∃ d ∈ ds, d = .lit (.string x) := by
  refine open_sl 1 (by decide) strR (fun x d => d = .lit (.string x)) Tryz.underlying22 (by kernel_rfl) h fun m cs b o y' hl hg ht => ?_
  match cs, hl with
  | [c], _ =>
    obtain ⟨s, e, e2, hs⟩ := DataW.trod_string Tryz.underlying9 ht
    simp only [List.cons.injEq, and_true] at e
    subst e
    exact ⟨s.data.toList, hg 0 (by decide), by rw [e2]⟩
def valR (w : World) (b o : Nat) (x : V) : Prop := w.cell? ⟨b, o, none⟩ = some (.int .i64 x.k) ∧ w.cell? ⟨b, o + 1, none⟩ = some (.int .i64 x.i) ∧ w.cell? ⟨b, o + 2, none⟩ = some (.string x.s) ∧ x.s.size ≤ maxLen
instance : Inhabited V := ⟨⟨0, 0, ⟨#[]⟩⟩⟩
set_option maxRecDepth 100000 in
theorem open_valueA {cs : List Value} (h : DataW.trod enc Tryz.prog w base spare held n 36 cs = some y) :
    ∃ x : V, cs = [.int .i64 x.k, .int .i64 x.i, .string x.s] ∧ x.s.size ≤ maxLen ∧ -9223372036854775808 ≤ x.i ∧ x.i ≤ 9223372036854775807 := by
  obtain ⟨y0, y1, y2, m, -, hl, h0, h1, h2⟩ := trod_struct3 Tryz.underlying36 h
  rw [show Tryz.prog.cellsOf 36 = 3 by kernel_rfl] at hl
  obtain ⟨k, e0, -, -⟩ := DataW.trod_int Tryz.underlying3 h0
  obtain ⟨i, e1, -, wi⟩ := DataW.trod_int Tryz.underlying2 h1
  obtain ⟨s, e2, -, hs⟩ := DataW.trod_string Tryz.underlying9 h2
  dsimp only at e0 e1 e2
  rw [show Tryz.prog.cellsOf 3 = 1 by kernel_rfl] at e0
  rw [show Tryz.prog.cellsOf 2 = 1 by kernel_rfl] at e1
  rw [show Tryz.prog.cellsOf 9 = 1 by kernel_rfl] at e2
  have hi : -9223372036854775808 ≤ i ∧ i ≤ 9223372036854775807 := by simpa [Lit.wf, show IntKind.i64.min = -9223372036854775808 from rfl, show IntKind.i64.max = 9223372036854775807 from rfl] using wi
  refine ⟨⟨k, i, s⟩, ?_, hs, hi⟩
  match cs, hl with
  | [c0, c1, c2], _ =>
    simp only [List.drop_zero, List.drop_succ_cons, List.take_succ_cons, List.take_zero, List.cons.injEq, and_true] at e0 e1 e2
    rw [e0, e1, e2]
theorem open_rowA (h : DataW.trod enc Tryz.prog w base spare held n 37 [v] = some y) : ∃ l : List V, RowAt w v l ∧ l.length ≤ maxLen ∧ IOk l := by
  obtain ⟨l, ⟨pa, cap, hv, -, hl⟩, hm, hg⟩ := open_sl (y := y) 3 (by decide) valR (fun x _ => -9223372036854775808 ≤ x.i ∧ x.i ≤ 9223372036854775807) Tryz.underlying37 (by kernel_rfl) h fun m cs b o y' hl hg ht => by
    obtain ⟨x, rfl, hs, hi⟩ := open_valueA ht
    exact ⟨x, ⟨hg 0 (by decide), hg 1 (by decide), hg 2 (by decide), hs⟩, hi⟩
  refine ⟨l, ⟨pa, cap, hv, fun j x hj => ?_⟩, hm, fun x hx => ?_⟩
  · obtain ⟨b, off, h1, h2⟩ := hl j x hj
    exact ⟨b, off, h1, h2⟩
  · obtain ⟨ds, sp, -, d, -, h3⟩ := hg x hx
    exact h3
theorem open_rowsA (h : DataW.trod enc Tryz.prog w base spare held n 23 [v] = some y) : ∃ L : List (List V), RowsAt w v L ∧ L.length ≤ maxLen ∧ ∀ l ∈ L, l.length ≤ maxLen ∧ IOk l := by
  obtain ⟨L, hl, hm, hg⟩ := open_sl (y := y) 1 (by decide) rowR (fun l _ => l.length ≤ maxLen ∧ IOk l) Tryz.underlying23 (by kernel_rfl) h fun m cs b o y' hl hg ht => by
    match cs, hl with
    | [c], _ =>
      obtain ⟨l, h1, h2, h3⟩ := open_rowA ht
      exact ⟨l, ⟨c, hg 0 (by decide), h1⟩, h2, h3⟩
  exact ⟨L, hl, hm, fun l hx => by obtain ⟨ds, sp, -, d, -, h3⟩ := hg l hx; exact h3⟩
end
theorem bulk_mem {H : Type} {d : DataW H} : ∀ {l : List (DataW H)}, d ∈ l → Rows.uptoBulk d ≤ Rows.uptoBulkAll l
  | x :: r, h => by
    simp only [Rows.uptoBulkAll]
    rcases List.mem_cons.1 h with rfl | h
    · omega
    · have := bulk_mem h; omega
set_option maxRecDepth 100000 in
/-- An answer, opened. -/
theorem open_answer {H : Type} {enc : TypeId × Value → H} {w : World} {spare : Nat → Bool} {held : Bool} {r : Reach} {base base' : Nat} {v : Value} {d : DataW H} {p : List MemPlace} (hv : Value.okWide Tryz.prog w r base 25 v)
    (h : DataW.Trod enc Tryz.prog w base' spare held 25 v d p) :
    ∃ vc vr names L cnt, v = .agg #[vc, vr, .int .i64 cnt] ∧ StrsAt w vc names ∧ RowsAt w vr L ∧ names.length ≤ maxLen ∧ L.length ≤ maxLen ∧ (∀ l ∈ L, l.length ≤ maxLen ∧ IOk l) ∧
      -9223372036854775808 ≤ cnt ∧ cnt ≤ 9223372036854775807 ∧ ∀ x ∈ names, x.length ≤ Rows.uptoBulk d := by
  obtain ⟨vc, vr, vn, y0, y1, y2, m, rfl, rfl, -, h0, h1, h2⟩ := Joins.open_agg3 Tryz.underlying25 (by kernel_rfl) (by kernel_rfl) hv h
  obtain ⟨cnt, e2, -, wi⟩ := DataW.trod_int Tryz.underlying3 h2
  simp only [List.cons.injEq, and_true] at e2
  subst e2
  have hi : -9223372036854775808 ≤ cnt ∧ cnt ≤ 9223372036854775807 := by simpa [Lit.wf, show IntKind.i64.min = -9223372036854775808 from rfl, show IntKind.i64.max = 9223372036854775807 from rfl] using wi
  obtain ⟨names, a1, a2, a3⟩ := open_names h0
  obtain ⟨L, b1, b2, b3⟩ := open_rowsA h1
  refine ⟨vc, vr, names, L, cnt, rfl, a1, b1, a2, b2, b3, hi.1, hi.2, fun x hx => ?_⟩
  obtain ⟨ds, sp, e, d, hd, rfl⟩ := a3 x hx
  have h1 := bulk_mem hd
  have h2 : Rows.uptoBulk (DataW.lit (H := H) (.string x)) = x.length + 1 := by simp [Rows.uptoBulk]
  simp only [Rows.uptoBulk, Rows.uptoBulkAll, e]
  omega
end Go.Proofs.YtmoippbmnanajaaGreatDoor
