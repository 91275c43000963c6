/- Slices that read as lists: of texts, of rows of values, of columns. -/
import Derived.Test.YtmoippbmnanajaaGreatDoorI
import Derived.Test.YtmoippbmnanajaaGreatDoorPR
import Derived.Test.YtmoippbmnanajaaGreatDoorKF
import Derived.OwnWalk
import Derived.Laws.OwnMore
set_option linter.unusedSimpArgs false
set_option linter.unusedVariables false
namespace Go.Proofs.YtmoippbmnanajaaGreatDoor
open Go.RowKit
theorem ownsRow_ext {w w' : World} {base : Nat} {e : TypeId} {size : Nat} {v : Value} {n : Nat} {xs : List Value} (h : w.ownsRow base e size v n xs) (hx : Xk.Ext w w') : w'.ownsRow base e size v n xs := by
  obtain ⟨h1, h2⟩ := h
  refine ⟨h1, ?_⟩
  rcases h2 with h2 | ⟨g, cap, cur, hv, hb, hg, r⟩
  · exact .inl h2
  · exact .inr ⟨g, cap, cur, hv, hb, by rw [hx.block g (Array.getElem?_eq_some_iff.1 hg).1]; exact hg, r⟩
/-- A slice whose elements, of sz cells each, meet R at their places. -/
def SlAt {α : Type} (sz : Nat) (R : World → Nat → Nat → α → Prop) (w : World) (v : Value) (l : List α) : Prop :=
  ∃ pa cap, v = .slice pa l.length cap ∧ l.length ≤ cap ∧ ∀ (j : Nat) (x : α), l[j]? = some x → ∃ b off, pa = some ⟨b, off, none⟩ ∧ R w b (off + j * sz) x
theorem SlAt.ext {α : Type} {sz : Nat} {R : World → Nat → Nat → α → Prop} {w w' : World} {v : Value} {l : List α} (h : SlAt sz R w v l) (hx : Xk.Ext w w') (hR : ∀ b o x, R w b o x → R w' b o x) : SlAt sz R w' v l := by
  obtain ⟨pa, cap, hv, hcap, hl⟩ := h
  refine ⟨pa, cap, hv, hcap, fun j x hj => ?_⟩
  obtain ⟨b, off, h1, h2⟩ := hl j x hj
  exact ⟨b, off, h1, hR _ _ _ h2⟩
theorem SlAt.imp {α : Type} {sz : Nat} {R R' : World → Nat → Nat → α → Prop} {w : World} {v : Value} {l : List α} (h : SlAt sz R w v l) (hR : ∀ b o x, x ∈ l → R w b o x → R' w b o x) : SlAt sz R' w v l := by
  obtain ⟨pa, cap, hv, hcap, hl⟩ := h
  refine ⟨pa, cap, hv, hcap, fun j x hj => ?_⟩
  obtain ⟨b, off, h1, h2⟩ := hl j x hj
  exact ⟨b, off, h1, hR _ _ _ (List.mem_of_getElem? hj) h2⟩
theorem SlAt.map {α β : Type} {sz : Nat} {R : World → Nat → Nat → α → Prop} {R' : World → Nat → Nat → β → Prop} {w : World} {v : Value} {l : List α} (f : α → β) (h : SlAt sz R w v l) (hR : ∀ b o x, x ∈ l → R w b o x → R' w b o (f x)) : SlAt sz R' w v (l.map f) := by
  obtain ⟨pa, cap, hv, hcap, hl⟩ := h
  refine ⟨pa, cap, by simpa using hv, by simpa using hcap, fun j x hj => ?_⟩
  rw [List.getElem?_map, Option.map_eq_some_iff] at hj
  obtain ⟨y, hy, rfl⟩ := hj
  obtain ⟨b, off, h1, h2⟩ := hl j y hy
  exact ⟨b, off, h1, hR _ _ _ (List.mem_of_getElem? hy) h2⟩
/-- A slice of the call's own, as a list. -/
theorem SlAt.own {α : Type} {sz : Nat} {R : World → Nat → Nat → α → Prop} {w : World} {base : Nat} {e : TypeId} {v : Value} {n : Nat} {xs : List Value} {l : List α} (h : w.ownsRow base e sz v n xs) (hn : l.length = n)
    (hR : ∀ (b j : Nat) x, l[j]? = some x → (∀ k u, k < sz → xs[j * sz + k]? = some u → w.cell? ⟨b, j * sz + k, none⟩ = some u) → R w b (j * sz) x) : SlAt sz R w v l := by
  obtain ⟨h1, h2⟩ := h
  rcases h2 with ⟨rfl, rfl⟩ | ⟨g, cap, cur, rfl, hb, hg, hnc, hcm, hcs, htake⟩
  · have : l = [] := List.eq_nil_of_length_eq_zero hn
    subst this
    exact ⟨none, 0, rfl, Nat.le_refl _, fun j x hj => by simp at hj⟩
  · subst hn
    refine ⟨some ⟨g, 0, none⟩, cap, rfl, hnc, fun j x hj => ⟨g, 0, rfl, ?_⟩⟩
    rw [Nat.zero_add]
    refine hR g j x hj fun k u hk hu => ?_
    have hlt : j * sz + k < l.length * sz := by
      have := (List.getElem?_eq_some_iff.1 hu).1
      omega
    rw [← htake, List.getElem?_take, if_pos hlt] at hu
    simp only [World.cell?, hg]
    simpa using hu
def strR (w : World) (b o : Nat) (x : List UInt8) : Prop := w.cell? ⟨b, o, none⟩ = some (.string ⟨x.toArray⟩)
abbrev StrsAt := SlAt 1 strR
theorem StrsAt.ext {w w' : World} {v : Value} {l : List (List UInt8)} (h : StrsAt w v l) (hx : Xk.Ext w w') : StrsAt w' v l := SlAt.ext h hx fun _ _ _ h => Xk.ext_cell hx h
/-- Texts as cells. -/
def scells (l : List (List UInt8)) : List Value := l.map fun x => .string ⟨x.toArray⟩
theorem scells_length (l : List (List UInt8)) : (scells l).length = l.length := by simp [scells]
theorem scells_snoc (l : List (List UInt8)) (x : List UInt8) : scells l ++ [.string ⟨x.toArray⟩] = scells (l ++ [x]) := by simp [scells]
theorem StrsAt.own {w : World} {base : Nat} {e : TypeId} {v : Value} {n : Nat} {l : List (List UInt8)} (h : w.ownsRow base e 1 v n (scells l)) : StrsAt w v l :=
  SlAt.own h (by have := h.1; simpa [scells] using this) fun b j x hj hc => by
    have := hc 0 (.string ⟨x.toArray⟩) (by decide) (by simp [scells, hj])
    simpa [strR] using this
def rowR (w : World) (b o : Nat) (x : List V) : Prop := ∃ u, w.cell? ⟨b, o, none⟩ = some u ∧ RowAt w u x
abbrev RowsAt := SlAt 1 rowR
theorem RowsAt.ext {w w' : World} {v : Value} {l : List (List V)} (h : RowsAt w v l) (hx : Xk.Ext w w') : RowsAt w' v l := SlAt.ext h hx fun _ _ _ ⟨u, h, g⟩ => ⟨u, Xk.ext_cell hx h, g.ext hx⟩
def textR (w : World) (b o : Nat) (x : List (List UInt8)) : Prop := ∃ u, w.cell? ⟨b, o, none⟩ = some u ∧ StrsAt w u x
abbrev TextsAt := SlAt 1 textR
theorem TextsAt.ext {w w' : World} {v : Value} {l : List (List (List UInt8))} (h : TextsAt w v l) (hx : Xk.Ext w w') : TextsAt w' v l := SlAt.ext h hx fun _ _ _ ⟨u, h, g⟩ => ⟨u, Xk.ext_cell hx h, g.ext hx⟩
def colR (w : World) (b o : Nat) (x : Nat × Bool) : Prop := w.cell? ⟨b, o, none⟩ = some (.int .i64 x.1) ∧ w.cell? ⟨b, o + 1, none⟩ = some (.bool x.2)
abbrev ColsAt := SlAt 2 colR
theorem ColsAt.ext {w w' : World} {v : Value} {l : List (Nat × Bool)} (h : ColsAt w v l) (hx : Xk.Ext w w') : ColsAt w' v l := SlAt.ext h hx fun _ _ _ ⟨h, g⟩ => ⟨Xk.ext_cell hx h, Xk.ext_cell hx g⟩
/-- A value as a cell of a table. -/
def cellOf (x : V) : P25.Cell := (decide (x.k = 2) && P6.isV x.k x.i x.s.data.toList, P25.clean (P6.printV x.k x.i x.s.data.toList))
def rowOf (l : List V) : List P25.Cell := l.map cellOf
theorem rowOf_length (l : List V) : (rowOf l).length = l.length := by simp [rowOf]
/-- Numbers of 64 bits. -/
def IOk (l : List V) : Prop := ∀ x ∈ l, -9223372036854775808 ≤ x.i ∧ x.i ≤ 9223372036854775807
end Go.Proofs.YtmoippbmnanajaaGreatDoor
