/- Walks: pantileref12's SameTable, of two that are the same. -/
import Derived.Test.YtlpcdpkgnfdpeaaGreatDoorSZE
set_option linter.unusedSimpArgs false
set_option linter.unusedVariables false
set_option maxRecDepth 100000
set_option maxHeartbeats 80000000
namespace Go.Xd
open Go.RowKit
open Go.Xk hiding law wpRel makeRun newPost callPost rel_skip rel_det rel_make rel_nil
open Go.Xe hiding wpRel wp_region_rel rel_skip rel_det rel_make rel_nil facts_head
theorem ld {E : World → World → Prop} (hE : Pre E) {P : Program} {ops : Array Oper} {w0 : World} {O : Nat → Option Nat} {Ψ : Ps} {Q : Act → World → Prop} {o : Oper} {r : List Oper} {i : Nat} {a : Act} {F : Facts} {G : Made} (t : TypeId) (b off : Nat) (cs : List Value) {d : TypeDesc} (hu : P.underlying t = some d) (hc : ∀ w, E w0 w → w.rangeAt b off cs) {x : Operand} (k : wpRel E P ops w0 O Ψ Q r (i + 1) (a.put o.dst (.agg cs.toArray)) F G)
  (hg : o.guard = none := by rfl) (ho : o.op = .load t x := by rfl) (ht : lookP Ψ i = none := by rfl) (hx : a.eval x = .pointer (some ⟨b, off, none⟩) := by rfl) (hd : d.isRow = true := by rfl) (hi : (P.info? t).map (·.size) = some cs.length := by kernel_rfl) : wpRel E P ops w0 O Ψ Q (o :: r) i a F G :=
 rel_det hE (wanted_none hg) ht fun K hK => ⟨.agg cs.toArray, fun w h _ => detRun_loadMid t x ho b off cs d hx (hc w h) hu hd hi, hK _ k⟩
end Go.Xd
namespace Go.Proofs.YtlpcdpkgnfdpeaaGreatDoor
open Go.RowKit
def boxF (T : TypeId) (n B : Nat) (_ : List Value) (v : Value) (W : World) : Prop := ∃ g c, v = .pointer (some ⟨g, 0, none⟩) ∧ B ≤ g ∧ c.size = n ∧ W.heap[g]? = some (.cells c T)
def boxS (T : TypeId) (B : Nat) (l : List Value) (ls : List Value) (_ : Value) (W : World) : Prop := ∀ g, ls.head? = some (.pointer (some ⟨g, 0, none⟩)) → B ≤ g → W.heap[g]? = some (.cells l.toArray T)
theorem boxF.et {T : TypeId} {n B : Nat} {l : List Value} (hl : l.length = n) : ∀ ls v w w', ET B (.cells l.toArray T) w w' → boxF T n B ls v w → boxF T n B ls v w' := by
 rintro ls v w w' h ⟨g, c, rfl, hg, hc, hw⟩
 rcases h.2.2.2.2 g (Array.getElem?_eq_some_iff.1 hw).1 with e | ⟨-, e⟩
 ·exact ⟨g, c, rfl, hg, hc, e.trans hw⟩
 ·exact ⟨g, l.toArray, rfl, hg, by simpa using hl, e⟩
theorem boxS.et {T : TypeId} {B : Nat} {l : List Value} : ∀ ls v w w', ET B (.cells l.toArray T) w w' → boxS T B l ls v w → boxS T B l ls v w' := by
 intro ls v w w' h hs g hg hb
 have hw := hs g hg hb
 rcases h.2.2.2.2 g (Array.getElem?_eq_some_iff.1 hw).1 with e | ⟨-, e⟩
 ·exact e.trans hw
 ·exact e
theorem et_new (T : TypeId) {n B : Nat} (o : Obj) (c : Array Value) {w2 W : World} (h : ET B o w2.drew W) (hB : B ≤ w2.heap.size) (hc : c.size = n) (ls : List Value) : Xe.newPost (ET B o) W none (boxF T n B ls) (.pointer (some ⟨W.heap.size, 0, none⟩)) (W.alloc (.cells c T)) :=
 ⟨(pre_ET _ _).ext ((Below.refl _ _).alloc (Nat.le_refl _) _), ⟨W.heap.size, c, rfl, by have h1 := h.2.2.2.1; rw [World.size_drew] at h1; omega, hc, heap_new W _⟩, fun b hb => by cases hb⟩
theorem et_row {B : Nat} {o : Obj} {w2 W : World} (h : ET B o w2.drew W) (hB : B = w2.heap.size) {g off : Nat} {l : List Value} (hr : w2.rangeAt g off l) (hg : g < w2.heap.size) : W.rangeAt g off l :=
 range_same hr ((h.2.2.2.2 g (by simpa using hg)).resolve_right fun e => by omega)
theorem et_cell {B : Nat} {o : Obj} {w2 W : World} (h : ET B o w2.drew W) (hB : B = w2.heap.size) {b i : Nat} {v : Value} (hc : w2.cell? ⟨b, i, none⟩ = some v) : W.cell? ⟨b, i, none⟩ = some v := by
 have hl := World.block_lt_of_cell? _ _ hc
 have := (h.2.2.2.2 b (by simpa using hl)).resolve_right fun e => by have := e.1; simp only at hl; omega
 unfold World.cell? at hc ⊢
 simp only at hc ⊢
 rw [this]; exact hc
end Go.Proofs.YtlpcdpkgnfdpeaaGreatDoor
