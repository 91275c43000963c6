/- Laws of slices of the call's own, for any seat: append, kept rows. -/
import Derived.Test.YtmoippbmnanajaaGreatDoorK
import Derived.WalkKit
import Derived.OwnWalk
import Derived.Laws.OwnMore
set_option linter.unusedSimpArgs false
set_option linter.unusedVariables false
namespace Go.Xo
open Go.RowKit Go.Xk
theorem own_ext {w w' : World} {base : Nat} {e : TypeId} {size : Nat} {v : Value} {n : Nat} {xs : List Value} (h : w.ownsRow base e size v n xs) (hx : Ext w w') : w'.ownsRow base e size v n xs := by
  obtain ⟨h1, h2⟩ := h
  refine ⟨h1, ?_⟩
  rcases h2 with h2 | ⟨g, cap, cur, hv, hb, hg, r⟩
  · exact .inl h2
  · exact .inr ⟨g, cap, cur, hv, hb, by rw [hx.block g (Array.getElem?_eq_some_iff.1 hg).1]; exact hg, r⟩
theorem own_exw {w : World} {base : Nat} {e : TypeId} {size : Nat} {v : Value} {n : Nat} {xs : List Value} (h : w.ownsRow base e size v n xs) (p : Regrown) : (exw w p).ownsRow base e size v n xs := own_ext h (ext_exw w p)
theorem own_alloc {w : World} {base : Nat} {e : TypeId} {size : Nat} {v : Value} {n : Nat} {xs : List Value} (h : w.ownsRow base e size v n xs) (o : Obj) : (w.alloc o).ownsRow base e size v n xs := h.alloc o
theorem own_drew {w : World} {base : Nat} {e : TypeId} {size : Nat} {v : Value} {n : Nat} {xs : List Value} (h : w.ownsRow base e size v n xs) : (w.drew).ownsRow base e size v n xs := h.drew
theorem own_setCell {w : World} {base : Nat} {e : TypeId} {size : Nat} {v : Value} {n : Nat} {xs : List Value} (h : w.ownsRow base e size v n xs) {b o : Nat} (hb : b < base) (u : Value) : (w.setCell ⟨b, o, none⟩ u).ownsRow base e size v n xs := by
  obtain ⟨h1, h2⟩ := h
  refine ⟨h1, ?_⟩
  rcases h2 with h2 | ⟨g, cap, cur, hv, hg0, hg, r⟩
  · exact .inl h2
  · exact .inr ⟨g, cap, cur, hv, hg0, by rw [heap_setCell_other w ⟨b, o, none⟩ g u (fun e => by simp at e; omega)]; exact hg, r⟩
theorem own_le {w : World} {b b' : Nat} {e : TypeId} {size : Nat} {v : Value} {n : Nat} {xs : List Value} (h : w.ownsRow b e size v n xs) (hb : b' ≤ b) : w.ownsRow b' e size v n xs := by
  obtain ⟨h1, h2⟩ := h
  refine ⟨h1, ?_⟩
  rcases h2 with h2 | ⟨g, cap, cur, hv, hg, r⟩
  · exact .inl h2
  · exact .inr ⟨g, cap, cur, hv, by omega, r⟩
theorem addr_add (b off j : Nat) : Addr.add ⟨b, off, none⟩ j = ⟨b, off + j, none⟩ := by
  unfold Addr.add; split
  · rename_i h0; subst h0; rfl
  · rfl
theorem ownBlock_ge {w : World} {b : Nat} {e : TypeId} {size : Nat} {v : Value} {n : Nat} {xs : List Value} (h : w.ownsRow b e size v n xs) : ∀ k, v.ownBlock = some k → b ≤ k := by
  obtain ⟨h1, h2⟩ := h
  intro k hk
  rcases h2 with ⟨rfl, _⟩ | ⟨g, cap, cur, rfl, hg, r⟩
  · cases hk
  · simp only [Value.ownBlock, Option.some.injEq] at hk; omega
/-- append to a slice of the call's own. -/
theorem wpList_app {P : Program} {w0 w : World} {ops : Array Oper} {rest : List Oper} {o : Oper} {a : Act} {Q : Exit → Act → World → Prop} (hgd : o.guard = none) (s x : Operand) (t : TypeId)
    (ho : o.op = .call { callee := .builtin .append, args := #[s, x], argTypes := #[t, t] })
    (e : TypeId) (i : TypeInfo) (z : Value) (size bytes : Nat) (ht : P.underlying t = some (.slice e)) (hi : P.info? e = some i) (hz : i.zero = some z)
    (hsize : i.size = size) (hby : i.bytes = bytes) (hzs : z.cells.size = size) (hsz : 0 < size)
    (v : Value) (n : Nat) (xs : List Value) (hs : a.eval s = v) (hown : w.ownsRow w0.heap.size e size v n xs)
    (g goff m c : Nat) (news : List Value) (hx : a.eval x = .slice (some ⟨g, goff, none⟩) m c) (hl : news.length = m * size) (hnews0 : ∀ j u, news[j]? = some u → w.cell? ⟨g, goff + j, none⟩ = some u) (h1 : ∀ u ∈ news, u.oneCell' = true)
    (hb : n ≤ 4000000 ∧ m ≤ 4000000 ∧ bytes ≤ 1000) (hbel : Below w0.heap.size w0 w)
    (h : ∀ v' w', w'.ownsRow w0.heap.size e size v' (n + m) (xs ++ news) → w.grownBy w' v.ownBlock → Below w0.heap.size w0 w' → wpList P ops Q rest (a.put o.dst v') w') : wpList P ops Q (o :: rest) a w := by
  have hnews : ∀ j u, news[j]? = some u → w.cell? (Addr.add ⟨g, goff, none⟩ j) = some u := fun j u hj => by rw [addr_add]; exact hnews0 j u hj
  have hm : (n + m) * bytes ≤ 8000000 * 1000 := Nat.mul_le_mul (by omega) hb.2.2
  exact wpList_append_own w hgd s x t ho w0.heap.size e i z size bytes ht hi hz hsize hby hzs hsz v n xs hs hown _ m c news hx hl hnews h1 (by unfold maxLen; omega) (by omega) hbel.size fun v' w' ho' hg _ =>
    h v' w' ho' hg (hbel.grown hg hbel.size (ownBlock_ge hown))
theorem cells1 {W : World} {g : Nat} {x : Value} {t : TypeId} (h : g = W.heap.size) : ∀ (j : Nat) u, [x][j]? = some u → (W.alloc (Obj.cells #[x] t)).cell? ⟨g, 0 + j, none⟩ = some u := by
  subst h
  intro j u hj
  rw [World.cell?_alloc_mark]
  match j, hj with
  | 0, hj => simpa using hj
theorem cells3 {W : World} {g : Nat} {x y z : Value} {t : TypeId} (h : g = W.heap.size) : ∀ (j : Nat) u, [x, y, z][j]? = some u → (W.alloc (.cells #[x, y, z] t)).cell? ⟨g, 0 + j, none⟩ = some u := by
  subst h
  intro j u hj
  rw [World.cell?_alloc_mark]
  match j, hj with
  | 0, hj => simpa using hj
  | 1, hj => simpa using hj
  | 2, hj => simpa using hj
theorem one1 {x : Value} (h : x.oneCell' = true) : ∀ u ∈ [x], u.oneCell' = true := by
  intro u hu
  simp only [List.mem_cons, List.not_mem_nil, or_false] at hu
  subst hu; exact h
theorem one3 {x y z : Value} (h : x.oneCell' = true) (h2 : y.oneCell' = true) (h3 : z.oneCell' = true) : ∀ u ∈ [x, y, z], u.oneCell' = true := by
  intro u hu
  simp only [List.mem_cons, List.not_mem_nil, or_false] at hu
  rcases hu with rfl | rfl | rfl <;> assumption
end Go.Xo
