/- Walks: the lexer: from label 0 on. -/
import Derived.Test.YteipafoiogkdoaaDoorLE
set_option linter.unusedSimpArgs false
set_option linter.unusedVariables false
namespace Go.Proofs.YteipafoiogkdoaaDoor
open Go.RowKit Go.Maps

/-- What a pass from a label shows. -/
abbrev Pass (w0 : World) (s : ByteArray) (bs B ba n l : Nat) (act : Act) (w : World) : Prop :=
  ∃ rest, findLabel scopeCode l = some (Code.skip.seq rest) ∧ rest.wp Tryd.prog (Xk.jumps (fun l' a' w' => ∃ m, m < n ∧ JL w0 s bs B ba m l' a' w') (bodyPost Tryd.prog Tryd.f8 (LexPost s w0))) act w
theorem rowsCell {W : World} {p : Regrown} {e : TypeId} {v : Value} {n : Nat} {xs : List Value} (h : (Xk.exw W p).ownsRow W.heap.size e 3 v n xs) {ad : Addr} (ha : ad.block < W.heap.size) (hs : ad.spot = none) (u : Value) : (Xk.exw (W.setCell ad u) p).ownsRow (W.setCell ad u).heap.size e 3 v n xs := by
  obtain ⟨b, o, sp⟩ := ad
  cases hs
  rw [← Xk.exw_setCell W p b o u ha, World.size_setCell]
  exact ownsRow_setCell_below h ha u
theorem goto0 {w0 : World} {s : ByteArray} {bs B ba n : Nat} {act : Act} {w : World} {W : World} {p : Regrown} {a : Nat} {v : Value} {acc : List P11.Tok} (hW : LW w0 s bs B ba W a) (b : Nat) (hn : 2 * (s.size - b) + 1 < n) (hb : a < b) (hbs : b ≤ s.size) (hw : w = Xk.exw (W.setCell ⟨ba, 0, none⟩ (.int .i64 b)) p)
    (hacc : acc.length ≤ b) (hF : Fr s bs B ba v act) (hrow : (Xk.exw W p).ownsRow W.heap.size 31 3 v acc.length (tokCells acc)) (hT : P11.toks s.data.toList 0 = P11.after acc (P11.toks (s.data.toList.drop b) b)) : ∃ m, m < n ∧ JL w0 s bs B ba m 0 act w :=
  ⟨2 * (s.size - b) + 1, hn, .inl ⟨rfl, _, p, b, v, acc, hw, hW.step b, hbs, rfl, hacc, hF, rowsCell hrow hW.la rfl _, hT⟩⟩
theorem drop_at (s : ByteArray) (a : Nat) (h : a < s.size) : s.data.toList.drop a = s[a] :: s.data.toList.drop (a + 1) := List.drop_eq_getElem_cons h

set_option maxRecDepth 100000 in
set_option maxHeartbeats 400000 in
theorem pass_blank {w0 : World} {s : ByteArray} {bs B ba n : Nat} {act : Act} {w : World} (W : World) (p : Regrown) (a : Nat) (v : Value) (acc : List P11.Tok) (hw : w = Xk.exw W p) (hW : LW w0 s bs B ba W a) (hs : s.size ≤ 4096)
    (hn : n = 2 * (s.size - a) + 1) (hacc : acc.length ≤ a) (hF : Fr s bs B ba v act) (hrow : (Xk.exw W p).ownsRow W.heap.size 31 3 v acc.length (tokCells acc)) (hT : P11.toks s.data.toList 0 = P11.after acc (P11.toks (s.data.toList.drop a) a)) (hlt : a < s.size) (hb : P11.blank s[a] = true) : Pass w0 s bs B ba n 0 act w := by
  have hT' : P11.toks s.data.toList 0 = P11.after acc (P11.toks (s.data.toList.drop (a + 1)) (a + 1)) := by
    rw [hT, drop_at s a hlt, P11.after_blank hb]
  have HT' := Lib.hid hT'
  clear hT'
  subst hw
  unfold Fr at hF
  obtain ⟨f, rfl⟩ := hF
  unfold Pass
  generalize hQ : bodyPost Tryd.prog Tryd.f8 (LexPost s w0) = Q
  have HQ := Lib.hid hQ
  clear hQ
  generalize hJL : (fun (l' : Nat) (a' : Act) (w' : World) => ∃ m, m < n ∧ JL w0 s bs B ba m l' a' w') = J
  have HJ := Lib.hid hJL
  clear hJL
  unfold scopeCode Tryd.f8
  simp only [findLabel]
  refine ⟨_, rfl, ?_⟩
  have cs := hW.cs
  have ca := hW.ca
  have fa := hW.fa
  have ls := hW.ls
  have la := hW.la
  have HW := Lib.hid hW
  have HN := Lib.hid hn
  have HR := Lib.hid hrow
  have HT := Lib.hid hT
  clear hW hn hrow hT
  have hb8 : (s[a].toNat : Int) < 256 := by have := s[a].toNat_lt; omega
  have hc : s[a] = 32 ∨ s[a] = 9 ∨ s[a] = 10 ∨ s[a] = 13 := by simpa [P11.blank, or_assoc] using hb
  clear hb
  rcases hc with hc | hc | hc | hc
  all_goals
    have hv : (s[a].toNat : Int) = _ := congrArg (fun c : UInt8 => (c.toNat : Int)) hc
    clear hc
    go_wp2_with fail
    go_step3
    simp only [Exit.inBlock, Exit.then, Xk.jumps_goto, ↓reduceIte]
    rw [← HJ.out]
    exact goto0 HW.out (a + 1) (by rw [HN.out]; omega) (by omega) (by omega) rfl (by omega) (Fr.of (by kernel_rfl)) HR.out HT'.out
end Go.Proofs.YteipafoiogkdoaaDoor
