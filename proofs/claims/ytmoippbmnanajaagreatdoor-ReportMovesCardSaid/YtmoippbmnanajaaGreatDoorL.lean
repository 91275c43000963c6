/- More laws of operations, over any program: bytes made into a string. -/
import Derived.Test.YtmoippbmnanajaaGreatDoorK
import Derived.WalkKit
import Derived.Laws.BytesString
import Derived.Laws.BytesArg
import Derived.Laws.Cells
set_option linter.unusedSimpArgs false
set_option linter.unusedVariables false
namespace Go.Xk
open Go.RowKit
theorem run_bstr {P : Program} (w : World) (src dst e : TypeId) (hs : P.underlying src = some (.slice e)) (he : P.underlying e = some (.int .u8)) (hd : P.underlying dst = some .string) (b off len cap : Nat) (ns : List Int) (hl : ns.length = len)
    (hc : ∀ j, j < len → w.cell? ⟨b, off + j, none⟩ = some (.int .u8 (ns.getD j 0))) :
    (convert src dst (.slice (some ⟨b, off, none⟩) len cap)).run P w = .ok (.string ⟨(ns.map fun n => UInt8.ofNat n.toNat).toArray⟩) w := by
  subst hl
  rw [run_convert_bytes_string w src dst e _ _ _ hs he hd, run_bytesToString w _ _ _ ns, foldl_push_bytes]
  · have e : (ByteArray.empty).data = #[] := rfl
    rw [e, Array.empty_append]
  · have := run_loadCells_list (P := P) (w := w) ⟨b, off, none⟩ (ns.map (Value.int .u8)) (fun j v hj => by
      simp only [List.getElem?_map, Option.map_eq_some_iff] at hj
      obtain ⟨n, hn, rfl⟩ := hj
      have hlt : j < ns.length := (List.getElem?_eq_some_iff.1 hn).1
      have h := hc j hlt
      have e1 : (Addr.add ⟨b, off, none⟩ j) = ⟨b, off + j, none⟩ := by
        unfold Addr.add; split
        · rename_i h0; subst h0; rfl
        · rfl
      rw [e1, h]; simp [hn])
    simpa using this
@[go_sem] theorem run_bstr1 {P : Program} (w : World) (src dst B c : Nat) (n : Int) (t : TypeId) (hB : B = w.heap.size) (hs : P.underlying src = some (.slice (P.elem src))) (he : P.underlying (P.elem src) = some (.int .u8)) (hd : P.underlying dst = some .string) :
    (convert src dst (.slice (some ⟨B, 0, none⟩) 1 c)).run P (w.alloc (.cells #[.int .u8 n] t)) = .ok (.string ⟨#[UInt8.ofNat n.toNat]⟩) (w.alloc (.cells #[.int .u8 n] t)) := by
  subst hB
  have := run_bstr (P := P) (w.alloc (.cells #[.int .u8 n] t)) src dst _ hs he hd w.heap.size 0 1 c [n] rfl (fun j hj => by
    obtain rfl : j = 0 := by omega
    simp)
  simpa using this


/-- A slice that the call may append to: its own row, or one that is full. -/
def Acc (w : World) (base : Nat) (e : TypeId) (size : Nat) (v : Value) (n : Nat) (xs : List Value) : Prop :=
  w.ownsRow base e size v n xs ∨ (∃ b off, v = .slice (some ⟨b, off, none⟩) n n ∧ xs.length = n * size ∧ ∀ j u, xs[j]? = some u → w.cell? ⟨b, off + j, none⟩ = some u)
theorem addr_add (b off j : Nat) : Addr.add ⟨b, off, none⟩ j = ⟨b, off + j, none⟩ := by
  unfold Addr.add; split
  · rename_i h0; subst h0; rfl
  · rfl
theorem ownsRow_le {w : World} {b b' : Nat} {e : TypeId} {size : Nat} {v : Value} {n : Nat} {xs : List Value} (h : w.ownsRow b e size v n xs) (hb : b' ≤ b) : w.ownsRow b' e size v n xs := by
  obtain ⟨h1, h2⟩ := h
  refine ⟨h1, ?_⟩
  rcases h2 with h2 | ⟨g, cap, cur, hv, hg, r⟩
  · exact .inl h2
  · exact .inr ⟨g, cap, cur, hv, by omega, r⟩
theorem ownBlock_ge {w : World} {b : Nat} {e : TypeId} {size : Nat} {v : Value} {n : Nat} {xs : List Value} (h : w.ownsRow b e size v n xs) : ∀ k, v.ownBlock = some k → b ≤ k := by
  obtain ⟨h1, h2⟩ := h
  intro k hk
  rcases h2 with ⟨rfl, _⟩ | ⟨g, cap, cur, rfl, hg, r⟩
  · cases hk
  · simp only [Value.ownBlock, Option.some.injEq] at hk; omega
theorem grownBy_none {w w' : World} {r : Option Nat} (h : w.grownBy w' none) : w.grownBy w' r :=
  ⟨h.os, h.tape, h.output, h.size, fun k hk _ => h.block k hk (by simp)⟩

theorem wpList_acc {P : Program} {w0 w : World} {ops : Array Oper} {rest : List Oper} {o : Oper} {a : Act} {Q : Exit → Act → World → Prop} (hgd : o.guard = none) (s x : Operand) (t : TypeId)
    (ho : o.op = .call { callee := .builtin .append, args := #[s, x], argTypes := #[t, t] })
    (e : TypeId) (i : TypeInfo) (z : Value) (size bytes : Nat) (ht : P.underlying t = some (.slice e)) (hi : P.info? e = some i) (hz : i.zero = some z)
    (hsize : i.size = size) (hby : i.bytes = bytes) (hzs : z.cells.size = size) (hsz : 0 < size)
    (v : Value) (n : Nat) (xs : List Value) (hs : a.eval s = v) (hacc : Acc w w0.heap.size e size v n xs)
    (g goff m c : Nat) (news : List Value) (hx : a.eval x = .slice (some ⟨g, goff, none⟩) m c) (hm : 0 < m) (hl : news.length = m * size) (hnews0 : ∀ j u, news[j]? = some u → w.cell? ⟨g, goff + j, none⟩ = some u) (h1 : ∀ u ∈ news, u.oneCell' = true)
    (h63 : n + m ≤ maxLen) (hbytes : (n + m) * bytes ≤ 140737488355328) (hbel : Below w0.heap.size w0 w)
    (h : ∀ v' p, Acc (exw w0 p) w0.heap.size e size v' (n + m) (xs ++ news) → w.grownBy (exw w0 p) v.ownBlock → wpList P ops Q rest (a.put o.dst v') (exw w0 p)) : wpList P ops Q (o :: rest) a w := by
  have hnews : ∀ j u, news[j]? = some u → w.cell? (Addr.add ⟨g, goff, none⟩ j) = some u := fun j u hj => by rw [addr_add]; exact hnews0 j u hj
  rcases hacc with hown | ⟨b, off, hv, hlo, holds⟩
  · refine wpList_append_own w hgd s x t ho w0.heap.size e i z size bytes ht hi hz hsize hby hzs hsz v n xs hs hown _ m c news hx hl hnews h1 h63 hbytes hbel.size fun v' w' ho' hg _ => ?_
    obtain ⟨p, rfl⟩ := exw_of (hbel.grown hg hbel.size (ownBlock_ge hown))
    exact h v' p (.inl ho') hg
  · refine wpList_append_grows w hgd s x t ho e i z size bytes ht hi hz hsize hby hzs hsz (some ⟨b, off, none⟩) n n xs (by rw [hs, hv]) (fun h => by cases h) hlo (fun b' hb' j u hj => by cases hb'; rw [addr_add]; exact holds j u hj) _ m c news hx hl hnews h1 (by omega) h63 hbytes fun v' w' ho' hg => ?_
    obtain ⟨p, rfl⟩ := exw_of (hbel.grown hg hbel.size (fun k hk => by cases hk))
    exact h v' p (.inl (ownsRow_le ho' hbel.size)) (grownBy_none hg)

theorem cell_last {W : World} {g : Nat} {u : Value} {t : TypeId} (h : g = W.heap.size) : (W.alloc (.cells #[u] t)).cell? ⟨g, 0, none⟩ = some u := by
  subst h; simp
/-- One element of one cell, appended. -/
theorem wpList_acc1 {P : Program} {w0 w : World} {ops : Array Oper} {rest : List Oper} {o : Oper} {a : Act} {Q : Exit → Act → World → Prop} (hgd : o.guard = none) (s x : Operand) (t : TypeId)
    (ho : o.op = .call { callee := .builtin .append, args := #[s, x], argTypes := #[t, t] })
    (e : TypeId) (i : TypeInfo) (z : Value) (bytes : Nat) (ht : P.underlying t = some (.slice e)) (hi : P.info? e = some i) (hz : i.zero = some z)
    (hsize : i.size = 1) (hby : i.bytes = bytes) (hzs : z.cells.size = 1)
    (v : Value) (n : Nat) (xs : List Value) (hs : a.eval s = v) (hacc : Acc w w0.heap.size e 1 v n xs)
    (g c : Nat) (u : Value) (hx : a.eval x = .slice (some ⟨g, 0, none⟩) 1 c) (hu : w.cell? ⟨g, 0, none⟩ = some u) (h1 : u.oneCell' = true)
    (hb : n ≤ 1000000000 ∧ bytes ≤ 1000) (hbel : Below w0.heap.size w0 w)
    (h : ∀ v' p, Acc (exw w0 p) w0.heap.size e 1 v' (n + 1) (xs ++ [u]) → w.grownBy (exw w0 p) v.ownBlock → wpList P ops Q rest (a.put o.dst v') (exw w0 p)) : wpList P ops Q (o :: rest) a w :=
  wpList_acc hgd s x t ho e i z 1 bytes ht hi hz hsize hby hzs (by decide) v n xs hs hacc g 0 1 c [u] hx (by decide) rfl
    (fun j u' hj => by
      have hj0 : j < 1 := (List.getElem?_eq_some_iff.1 hj).1
      obtain rfl : j = 0 := by omega
      simp only [List.getElem?_cons_zero, Option.some.injEq] at hj
      subst hj; exact hu)
    (fun u' hu' => by rw [List.mem_singleton] at hu'; subst hu'; exact h1)
    (by unfold maxLen; omega) (Nat.le_trans (Nat.mul_le_mul (show n + 1 ≤ 1000000001 by omega) hb.2) (by decide)) hbel h
/-- Bytes as cells. -/
def bcells (l : List UInt8) : List Value := l.map fun c => Value.int .u8 c.toNat
theorem bcells_length (l : List UInt8) : (bcells l).length = l.length := by simp [bcells]
theorem bcells_snoc (l : List UInt8) (c : UInt8) : bcells l ++ [.int .u8 c.toNat] = bcells (l ++ [c]) := by simp [bcells]
theorem Acc.snoc {w : World} {b : Nat} {e : TypeId} {v : Value} {l : List UInt8} {c : UInt8} (h : Acc w b e 1 v (l.length + 1) (bcells l ++ [.int .u8 c.toNat])) : Acc w b e 1 v (l ++ [c]).length (bcells (l ++ [c])) := by
  rw [← bcells_snoc, List.length_append]; exact h
theorem Acc.snoc2 {w : World} {b : Nat} {e : TypeId} {v : Value} {l : List UInt8} {c d : UInt8} (h : Acc w b e 1 v (l.length + 1 + 1) (bcells l ++ [.int .u8 c.toNat] ++ [.int .u8 d.toNat])) : Acc w b e 1 v (l ++ [c, d]).length (bcells (l ++ [c, d])) := by
  have e1 : l ++ [c, d] = (l ++ [c]) ++ [d] := by simp
  rw [e1, ← bcells_snoc, ← bcells_snoc, List.length_append, List.length_append]; exact h
/-- The elements of such a slice, one cell each. -/
theorem Acc.cells {w : World} {base : Nat} {e : TypeId} {v : Value} {n : Nat} {xs : List Value} (h : Acc w base e 1 v n xs) : xs.length = n ∧ ((v = .slice none 0 0 ∧ n = 0) ∨
    ∃ b off cap, v = .slice (some ⟨b, off, none⟩) n cap ∧ ∀ j u, xs[j]? = some u → w.cell? ⟨b, off + j, none⟩ = some u) := by
  rcases h with ⟨h1, h2⟩ | ⟨b, off, hv, hl, hc⟩
  · refine ⟨by simpa using h1, ?_⟩
    rcases h2 with h2 | ⟨g, cap, cur, hv, hg, hb, hn, hcap, hcs, hx⟩
    · exact .inl h2
    · refine .inr ⟨g, 0, cap, hv, fun j u hj => ?_⟩
      have hjn : j < n := by have := (List.getElem?_eq_some_iff.1 hj).1; rw [h1] at this; omega
      rw [← hx, List.getElem?_take, if_pos (by omega)] at hj
      simp only [World.cell?, hb, Nat.zero_add, Option.isSome_none, Bool.false_eq_true, if_false]
      simpa using hj
  · exact ⟨by simpa using hl, .inr ⟨b, off, n, hv, hc⟩⟩
/-- Such a slice of bytes as a string. -/
theorem Acc.str {P : Program} {w : World} {base : Nat} {e0 : TypeId} {v : Value} {n : Nat} {l : List UInt8} (h : Acc w base e0 1 v n (bcells l)) (src dst e : TypeId) (hs : P.underlying src = some (.slice e)) (he : P.underlying e = some (.int .u8)) (hd : P.underlying dst = some .string) :
    (convert src dst v).run P w = .ok (.string ⟨l.toArray⟩) w := by
  obtain ⟨hl, h⟩ := h.cells
  rw [bcells_length] at hl
  rcases h with ⟨rfl, h0⟩ | ⟨b, off, cap, rfl, hc⟩
  · rw [run_convert_bytes_string w src dst e _ _ _ hs he hd]
    have : l = [] := List.eq_nil_of_length_eq_zero (by omega)
    subst this
    simp [Conv.bytesToString]; rfl
  · have := run_bstr (P := P) w src dst e hs he hd b off n cap (l.map fun c => (c.toNat : Int)) (by simpa using hl) (fun j hj => by
      refine hc j _ ?_
      have hj' : j < l.length := by omega
      simp [bcells, hj'])
    rw [this]
    have e : ((l.map fun c => (c.toNat : Int)).map fun n => UInt8.ofNat n.toNat) = l := by
      rw [List.map_map]
      have : ((fun n : Int => UInt8.ofNat n.toNat) ∘ fun c : UInt8 => (c.toNat : Int)) = id := by funext c; simp
      rw [this, List.map_id]
    rw [e]
/-- Such a slice where another block has come. -/
theorem Acc.alloc {w : World} {base : Nat} {e : TypeId} {size : Nat} {v : Value} {n : Nat} {xs : List Value} (h : Acc w base e size v n xs) (o : Obj) : Acc (w.alloc o) base e size v n xs := by
  rcases h with h | ⟨b, off, hv, hl, hc⟩
  · exact .inl (h.alloc o)
  · exact .inr ⟨b, off, hv, hl, fun j u hj => by
      have hc' := hc j u hj
      rw [World.cell?_alloc_lt (h := block_lt_of_cell hc')]; exact hc'⟩
theorem Acc.nil (w : World) (base : Nat) (e : TypeId) (size : Nat) : Acc w base e size (.slice none 0 0) 0 [] := .inl (World.ownsRow_nil w base e size)
end Go.Xk
