/- What the claim's proof leans on, part 5: walks of functions and plain laws. -/
import Derived.Test.YtkpmclddjkebeaaGreatDoorEA
import Derived.Test.YtkpmclddjkebeaaGreatDoorProg
import Derived.WalkKit
import Derived.WalkSpells
import Derived.Outline
import Derived.Lib.Hide
import Derived.Deep.Light
import Derived.Test.YtkpmclddjkebeaaGreatDoorEB
import Derived.Deep.MidRow
import Derived.WalkLawsBesides
import Derived.Maps.Own
import Derived.Maps.OwnSet
import Derived.Maps.Views
set_option linter.unusedSimpArgs false
set_option linter.unusedVariables false
set_option maxRecDepth 100000
set_option maxHeartbeats 8000000
namespace Go.Proofs.YtkpmclddjkebeaaGreatDoor
open Go.RowKit
abbrev Turn (br : Nat) (w w' : World) : Prop := Xe.ES [(br, fun _ => True)] w w'
theorem Turn.refl (br : Nat) (w : World) : Turn br w w := (Xe.pre_ES _).refl w
theorem Turn.trans {br : Nat} {w w' w'' : World} (h : Turn br w w') (h' : Turn br w' w'') : Turn br w w'' := (Xe.pre_ES _).trans h h'
theorem Turn.of_ext {br : Nat} {w w' : World} (h : Xk.Ext w w') : Turn br w w' := (Xe.pre_ES _).ext h
theorem Turn.size {br : Nat} {w w' : World} (h : Turn br w w') : w.heap.size ≤ w'.heap.size := h.2.2.2.1
theorem Turn.block {br : Nat} {w w' : World} (h : Turn br w w') {b : Nat} (hb : b < w.heap.size) (hn : b ≠ br) : w'.heap[b]? = w.heap[b]? :=
 Xe.ES.block h hb (fun k hk e => by simp only [List.mem_singleton] at hk; subst hk; exact hn e.symm)
theorem Turn.cell {br : Nat} {w w' : World} (h : Turn br w w') {b o : Nat} {v : Value} (hc : w.cell? ⟨b, o, none⟩ = some v) (hn : b ≠ br) : w'.cell? ⟨b, o, none⟩ = some v :=
 Xe.ES.cell h hc (fun k hk e => by simp only [List.mem_singleton] at hk; subst hk; exact hn e.symm)
theorem Turn.held {br : Nat} {w w' : World} (h : Turn br w w') {b : Nat} {o : Obj} (hc : w.heap[b]? = some o) (hn : b ≠ br) : w'.heap[b]? = some o :=
 (h.block (Array.getElem?_eq_some_iff.1 hc).1 hn).trans hc
theorem Turn.alloc {br : Nat} {w0 w : World} (h : Turn br w0 w) (o : Obj) : Turn br w0 (w.alloc o) := h.trans (Turn.of_ext ((Below.refl _ _).alloc (Nat.le_refl _) _))
theorem Turn.drew {br : Nat} {w0 w : World} (h : Turn br w0 w) : Turn br w0 w.drew := h.trans (Turn.of_ext ((Below.refl _ _).drew))
theorem Turn.exw {br : Nat} {w0 w : World} (h : Turn br w0 w) (p : Regrown) : Turn br w0 (Xk.exw w p) := h.trans (Turn.of_ext (Xk.ext_exw _ _))
theorem Turn.setNew {br : Nat} {w0 w : World} (h : Turn br w0 w) {g : Nat} (hg : w0.heap.size ≤ g ∨ g = br) (o : Nat) (u : Value) : Turn br w0 (w.setCell ⟨g, o, none⟩ u) := by
 obtain ⟨h1, h2, h3, h4, h5⟩ := h
 refine ⟨h1, h2, h3, by rw [World.size_setCell]; exact h4, fun b hb => ?_⟩
 by_cases hbr : b = br
 ·exact .inr ⟨(br, fun _ => True), by simp, hbr.symm, trivial⟩
 ·have hbg : b ≠ g := fun e => by rcases hg with hg | hg <;> omega
  rw [heap_setCell_other w ⟨g, o, none⟩ b u (fun e => hbg (by simpa using e))]
  exact h5 b hb
theorem Turn.setCells {br : Nat} {w0 : World} {g : Nat} (hg : w0.heap.size ≤ g ∨ g = br) : ∀ (vs : List Value) (o : Nat) {w : World}, Turn br w0 w → Turn br w0 (w.setCells g o vs)
 | [], _, _, h => h
 | v :: vs, o, _, h => Turn.setCells hg vs (o + 1) (Turn.setNew h hg o v)
def TkRow (b off : Nat) (l : List P11.Tok) (w : World) : Prop :=
 b < w.heap.size ∧ ∀ (j : Nat) (t : P11.Tok), l[j]? = some t →
  w.cell? ⟨b, off + j * 3, none⟩ = some (.int .i64 t.kind) ∧ w.cell? ⟨b, off + j * 3 + 1, none⟩ = some (.string ⟨t.text.toArray⟩) ∧ w.cell? ⟨b, off + j * 3 + 2, none⟩ = some (.int .i64 t.pos)
theorem TkRow.ext {b off : Nat} {l : List P11.Tok} {w w' : World} (h : TkRow b off l w) (hx : Xk.Ext w w') : TkRow b off l w' :=
 ⟨Nat.lt_of_lt_of_le h.1 hx.size, fun j t hj => by
  obtain ⟨h1, h2, h3⟩ := h.2 j t hj
  exact ⟨Xk.ext_cell hx h1, Xk.ext_cell hx h2, Xk.ext_cell hx h3⟩⟩
structure RdAt (br b off cap : Nat) (r : P12.R) (w : World) : Prop where
 blk : w.heap[br]? = some (.cells #[.slice (some ⟨b, off, none⟩) r.l.length cap, .int .i64 r.deep] 69)
 lo : b < br
 cap : r.l.length ≤ cap
 toks : TkRow b off r.l w
 good : P12.Good r
 glo : 6 < br
 env : ∃ tp p, w.cell? ⟨6, 0, none⟩ = some (.iface tp p)
def Rd (br : Nat) (r : P12.R) (w : World) : Prop := ∃ b off cap, RdAt br b off cap r w
theorem RdAt.ext {br b off cap : Nat} {r : P12.R} {w w' : World} (h : RdAt br b off cap r w) (hx : Xk.Ext w w') : RdAt br b off cap r w' :=
 ⟨(hx.block br (Array.getElem?_eq_some_iff.1 h.blk).1).trans h.blk, h.lo, h.cap, h.toks.ext hx, h.good, h.glo, let ⟨tp, p, hc⟩ := h.env; ⟨tp, p, Xk.ext_cell hx hc⟩⟩
theorem Rd.ext {br : Nat} {r : P12.R} {w w' : World} (h : Rd br r w) (hx : Xk.Ext w w') : Rd br r w' := by
 obtain ⟨b, off, cap, h⟩ := h
 exact ⟨b, off, cap, h.ext hx⟩
theorem Rd.good {br : Nat} {r : P12.R} {w : World} (h : Rd br r w) : P12.Good r := by
 obtain ⟨b, off, cap, h⟩ := h
 exact h.good
theorem Rd.lt {br : Nat} {r : P12.R} {w : World} (h : Rd br r w) : br < w.heap.size := by
 obtain ⟨b, off, cap, h⟩ := h
 exact (Array.getElem?_eq_some_iff.1 h.blk).1
theorem Rd.alloc {br : Nat} {r : P12.R} {w : World} (h : Rd br r w) (o : Obj) : Rd br r (w.alloc o) := h.ext ((Below.refl _ _).alloc (Nat.le_refl _) _)
theorem Rd.drew {br : Nat} {r : P12.R} {w : World} (h : Rd br r w) : Rd br r w.drew := h.ext ((Below.refl _ _).drew)
theorem Rd.exw {br : Nat} {r : P12.R} {w : World} (h : Rd br r w) (p : Regrown) : Rd br r (Xk.exw w p) := h.ext (Xk.ext_exw _ _)
theorem RdAt.setCell {br b off cap : Nat} {r : P12.R} {w : World} (h : RdAt br b off cap r w) {g : Nat} (hg : br < g) (o : Nat) (u : Value) : RdAt br b off cap r (w.setCell ⟨g, o, none⟩ u) := by
 have hk : ∀ {c o' : Nat} {v : Value}, c ≠ g → w.cell? ⟨c, o', none⟩ = some v → (w.setCell ⟨g, o, none⟩ u).cell? ⟨c, o', none⟩ = some v := fun {c o' v} hne hc => by
  rw [World.cell?_setCell_other _ _ _ _ (fun e => hne (by cases e; rfl))]; exact hc
 have hl := h.lo
 have hgl := h.glo
 refine ⟨(heap_setCell_other w ⟨g, o, none⟩ br u (fun e => by have : br = g := (by simpa using e); omega)).trans h.blk, h.lo, h.cap, ⟨by rw [World.size_setCell]; exact h.toks.1, fun j t hj => ?_⟩, h.good, h.glo, let ⟨tp, p, hc⟩ := h.env; ⟨tp, p, hk (by omega) hc⟩⟩
 obtain ⟨h1, h2, h3⟩ := h.toks.2 j t hj
 exact ⟨hk (by omega) h1, hk (by omega) h2, hk (by omega) h3⟩
theorem RdAt.alloc {br b off cap : Nat} {r : P12.R} {w : World} (h : RdAt br b off cap r w) (o : Obj) : RdAt br b off cap r (w.alloc o) := h.ext ((Below.refl _ _).alloc (Nat.le_refl _) _)
theorem RdAt.drew {br b off cap : Nat} {r : P12.R} {w : World} (h : RdAt br b off cap r w) : RdAt br b off cap r w.drew := h.ext ((Below.refl _ _).drew)
theorem RdAt.exw {br b off cap : Nat} {r : P12.R} {w : World} (h : RdAt br b off cap r w) (p : Regrown) : RdAt br b off cap r (Xk.exw w p) := h.ext (Xk.ext_exw _ _)
theorem RdAt.took {br b off cap : Nat} {r : P12.R} {w : World} (h : RdAt br b off cap r w) (hk : (P12.nxt r).kind ≠ 0) :
  RdAt br b (off + 3) (cap - 1) (P12.takes r) (w.setCell ⟨br, 0, none⟩ (.slice (some ⟨b, off + 3, none⟩) (r.l.length - 1) (cap - 1))) := by
 have hl := h.lo
 have hgl := h.glo
 have hg := h.good.takes
 rw [P12.takes_tail hk] at hg ⊢
 have hkp : ∀ {c o' : Nat} {v u : Value}, c ≠ br → w.cell? ⟨c, o', none⟩ = some v → (w.setCell ⟨br, 0, none⟩ u).cell? ⟨c, o', none⟩ = some v := fun {c o' v u} hne hc => by
  rw [World.cell?_setCell_other _ _ _ _ (fun e => hne (by cases e; rfl))]; exact hc
 refine ⟨?_, h.lo, ?_, ⟨by rw [World.size_setCell]; exact h.toks.1, fun j t hj => ?_⟩, hg, h.glo, let ⟨tp, p, hc⟩ := h.env; ⟨tp, p, hkp (by omega) hc⟩⟩
 ·rw [heap_setCell_same w br 0 _ _ _ h.blk]
  simp
 ·have := h.cap
  simp only [List.length_tail]; omega
 ·have hj' : r.l[j + 1]? = some t := by rw [← hj]; simp
  obtain ⟨h1, h2, h3⟩ := h.toks.2 (j + 1) t hj'
  refine ⟨hkp (by omega) ?_, hkp (by omega) ?_, hkp (by omega) ?_⟩
  ·rw [← h1]; congr 2; omega
  ·rw [← h2]; congr 2; omega
  ·rw [← h3]; congr 2; omega
theorem RdAt.depth {br b off cap : Nat} {r : P12.R} {w : World} (h : RdAt br b off cap r w) (d : Nat) (hd : d ≤ 100) :
  RdAt br b off cap ⟨r.l, d⟩ (w.setCell ⟨br, 1, none⟩ (.int .i64 d)) := by
 have hl := h.lo
 have hgl := h.glo
 have hkp : ∀ {c o' : Nat} {v u : Value}, c ≠ br → w.cell? ⟨c, o', none⟩ = some v → (w.setCell ⟨br, 1, none⟩ u).cell? ⟨c, o', none⟩ = some v := fun {c o' v u} hne hc => by
  rw [World.cell?_setCell_other _ _ _ _ (fun e => hne (by cases e; rfl))]; exact hc
 refine ⟨?_, h.lo, h.cap, ⟨by rw [World.size_setCell]; exact h.toks.1, fun j t hj => ?_⟩, ⟨h.good.ends, h.good.toks, hd, h.good.len⟩, h.glo, let ⟨tp, p, hc⟩ := h.env; ⟨tp, p, hkp (by omega) hc⟩⟩
 ·rw [heap_setCell_same w br 1 _ _ _ h.blk]
  simp
 ·obtain ⟨h1, h2, h3⟩ := h.toks.2 j t hj
  exact ⟨hkp (by omega) h1, hkp (by omega) h2, hkp (by omega) h3⟩
theorem RdAt.cells {br b off cap : Nat} {r : P12.R} {w : World} (h : RdAt br b off cap r w) :
  w.cell? ⟨br, 0, none⟩ = some (.slice (some ⟨b, off, none⟩) r.l.length cap) ∧ w.cell? ⟨br, 1, none⟩ = some (.int .i64 r.deep) ∧ w.frozen? ⟨br, 0, none⟩ = false ∧ w.frozen? ⟨br, 1, none⟩ = false := by
 refine ⟨by simp [World.cell?, h.blk], by simp [World.cell?, h.blk], frozen_of_row w br 0 _ _ h.blk, frozen_of_row w br 1 _ _ h.blk⟩
theorem Rd.setCell {br : Nat} {r : P12.R} {w : World} (h : Rd br r w) {g : Nat} (hg : br < g) (o : Nat) (u : Value) : Rd br r (w.setCell ⟨g, o, none⟩ u) := by
 obtain ⟨b, off, cap, h⟩ := h
 exact ⟨b, off, cap, h.setCell hg o u⟩
theorem Rd.setCells {br : Nat} {r : P12.R} {g : Nat} (hg : br < g) : ∀ (vs : List Value) (o : Nat) {w : World}, Rd br r w → Rd br r (w.setCells g o vs)
 | [], _, _, h => h
 | v :: vs, o, _, h => Rd.setCells hg vs (o + 1) (Rd.setCell h hg o v)
def faults (e : P12.Er) : Ending := .panicked [{ v := .iface 65 (.agg #[.int .i64 e.1, .int .i64 e.2]), recovered := false }]
def Got {α : Type} (br : Nat) (w0 : World) (r : P12.R) (V : Value → α → World → Prop) (res : Except P12.Er (α × P12.R)) (e : Ending) (w' : World) : Prop :=
 match res with
 | .ok (x, r') => ∃ v, e = .returned v ∧ V v x w' ∧ Turn br w0 w' ∧ Rd br r' w' ∧ P12.Keeps r r'
 | .error er => e = faults er ∧ Turn br w0 w'
abbrev rp (br : Nat) : Value := .pointer (some ⟨br, 0, none⟩)
abbrev bs (s : List UInt8) : Value := .string ⟨s.toArray⟩
theorem tu {A P : Prop} (a : A) (h : A → P := by intro a; repeat (first | with_reducible exact a | with_reducible exact Turn.refl _ _ | ((with_reducible refine Turn.setNew ?_ (Or.inl ?_) _ _); rotate_left; exact Go.Xk.sz) | (with_reducible refine Turn.setNew ?_ (Or.inr rfl) _ _) | ((with_reducible refine Turn.setCells (Or.inl ?_) _ _ ?_); exact Go.Xk.sz) | (with_reducible refine Turn.alloc ?_ _) | (with_reducible refine Turn.drew ?_) | (with_reducible refine Turn.exw ?_ _))) : P := h a
theorem rdx {A P : Prop} (a : A) (h : A → P := by intro a; repeat (first | with_reducible exact a | ((with_reducible refine Rd.setCell ?_ ?_ _ _); rotate_left; exact Go.Xk.sz) | ((with_reducible refine Rd.setCells ?_ _ _ ?_); exact Go.Xk.sz) | (with_reducible refine Rd.alloc ?_ _) | (with_reducible refine Rd.drew ?_) | (with_reducible refine Rd.exw ?_ _))) : P := h a
theorem rda {A P : Prop} (a : A) (h : A → P := by intro a; repeat (first | with_reducible exact a | ((with_reducible refine RdAt.setCell ?_ ?_ _ _); rotate_left; exact Go.Xk.sz) | (with_reducible refine RdAt.alloc ?_ _) | (with_reducible refine RdAt.drew ?_) | (with_reducible refine RdAt.exw ?_ _))) : P := h a
theorem mkfun : ∀ (fn : Fn) (first cap : Array Value) (w : World), (Instr.makeFunc fn first cap).run Tryz.prog w = .ok (.func fn first cap) w := fun _ _ _ _ => rfl
theorem notrun : ∀ (x : Bool) (w : World), (Op.unary .not (.bool x)).run Tryz.prog w = .ok (.bool (!x)) w := fun _ _ => rfl
theorem tok_f0 (a b c : Value) (w : World) : (Instr.field 72 (.agg #[a, b, c]) 0).run Tryz.prog w = .ok a w := by kernel_rfl
theorem tok_f1 (a b c : Value) (w : World) : (Instr.field 72 (.agg #[a, b, c]) 1).run Tryz.prog w = .ok b w := by kernel_rfl
theorem tok_f2 (a b c : Value) (w : World) : (Instr.field 72 (.agg #[a, b, c]) 2).run Tryz.prog w = .ok c w := by kernel_rfl
attribute [go_sem] tok_f0 tok_f1 tok_f2
theorem next_any (br : Nat) (r : P12.R) (w : World) (h : Rd br r w) :
  Calls Tryz.prog 21 #[rp br] w fun e w' => e = .returned (.agg #[.int .i64 (P12.nxt r).kind, .string ⟨(P12.nxt r).text.toArray⟩, .int .i64 (P12.nxt r).pos]) ∧ Xk.Ext w w' := by
 obtain ⟨b, off, cap, h⟩ := h
 obtain ⟨c1, c2, c3⟩ := h.toks.2 0 _ (P12.nxt_get h.good)
 simp only [Nat.zero_mul, Nat.add_zero] at c1 c2 c3
 have hn : (0 : Int) < (r.l.length : Int) := by have := h.good.pos; omega
 have hd : w.cell? ⟨br, 0, none⟩ = some (.slice (some ⟨b, off, none⟩) r.l.length cap) := by simp [World.cell?, h.blk]
 have l1 := World.block_lt_of_cell? _ _ hd
 have l2 := World.block_lt_of_cell? _ _ c1
 clear h
 generalize P12.nxt r = t at c1 c2 c3 ⊢
 go_enter Tryz.func21, Tryz.ntmps21
 go_wp2
 refine bodyPost_ret (v := .agg #[.int .i64 (t).kind, .string ⟨(t).text.toArray⟩, .int .i64 (t).pos]) (by simp [results, Tryz.results21, go_sem]) rfl ⟨rfl, Xk.xt⟩
theorem fails_any (br : Nat) (r : P12.R) (n : Int) (w : World) (h : Rd br r w) :
  Calls Tryz.prog 22 #[rp br, .int .i64 n] w fun e w' => e = faults ((P12.nxt r).pos, n) ∧ Xk.Ext w w' := by
 have HN := Lib.hid (next_any br r w h)
 clear h
 go_enter Tryz.func22, Tryz.ntmps22
 go_wp2_with (go_at_call 21; with_reducible refine Xk.cl (HN.out) fun p => ?_)
 go_wp2
 refine ⟨rfl, rfl, ?_⟩
 exact Xk.xt
theorem takes_any (br : Nat) (r : P12.R) (w : World) (h : Rd br r w) :
  Calls Tryz.prog 75 #[rp br] w fun e w' => e = .returned (.agg #[.int .i64 (P12.nxt r).kind, .string ⟨(P12.nxt r).text.toArray⟩, .int .i64 (P12.nxt r).pos]) ∧ Turn br w w' ∧ Rd br (P12.takes r) w' := by
 obtain ⟨b, off, cap, h⟩ := h
 obtain ⟨c1, c2, c3⟩ := h.toks.2 0 _ (P12.nxt_get h.good)
 simp only [Nat.zero_mul, Nat.add_zero] at c1 c2 c3
 have hn : (0 : Int) < (r.l.length : Int) := by have := h.good.pos; omega
 obtain ⟨d1, d2, f1, f2⟩ := h.cells
 have l1 := World.block_lt_of_cell? _ _ d1
 have l2 := World.block_lt_of_cell? _ _ c1
 have hlo := h.lo
 by_cases hk : (P12.nxt r).kind = 0
 ·rw [P12.takes_end hk]
  have HH := Lib.hid h
  clear h
  rw [hk] at c1
  have HK := Lib.hid hk
  clear hk
  generalize P12.nxt r = t at c1 c2 c3 HK ⊢
  go_enter Tryz.func75, Tryz.ntmps75
  go_wp2
  refine bodyPost_ret (v := .agg #[.int .i64 0, .string ⟨t.text.toArray⟩, .int .i64 t.pos]) (by simp [results, Tryz.results75, go_sem]) rfl ⟨by rw [← HK.out], (tu trivial), b, off, cap, (rda (HH.out))⟩
 ·have hcap : (1 : Int) ≤ (cap : Int) := by have := h.cap; omega
  have hl2 := h.good.tail_pos hk
  have hkb : ((P12.nxt r).kind != 0) = true := by simpa using hk
  have HT := Lib.hid fun W (h : RdAt br b off cap r W) => h.took hk
  have HH := Lib.hid h
  have hlen : (1 : Int) < (r.l.length : Int) := by omega
  clear h
  generalize P12.takes r = r' at HT ⊢
  generalize P12.nxt r = t at c1 c2 c3 hk hkb ⊢
  go_enter Tryz.func75, Tryz.ntmps75
  go_wp2
  all_goals first
   | (exfalso; have := HH.out.cap; omega)
   | (refine bodyPost_ret (v := .agg #[.int .i64 (t).kind, .string ⟨(t).text.toArray⟩, .int .i64 (t).pos]) (by simp [results, Tryz.results75, go_sem]) rfl ⟨rfl, (tu trivial), b, off + 3, cap - 1, (rda ((HT.out _ HH.out)))⟩)
theorem isT_any (br : Nat) (r : P12.R) (s : List UInt8) (w : World) (h : Rd br r w) :
  Calls Tryz.prog 77 #[rp br, .string ⟨s.toArray⟩] w fun e w' => e = .returned (.bool (P12.isT s r)) ∧ Xk.Ext w w' := by
 have HN := Lib.hid (next_any br r w h)
 clear h
 unfold P12.isT
 generalize P12.nxt r = t at HN ⊢
 obtain ⟨kd, tx, ps⟩ := t
 simp only at HN ⊢
 by_cases h2 : kd = 2
 ·subst h2
  go_enter Tryz.func77, Tryz.ntmps77
  go_wp2_with (go_at_call 21; with_reducible refine Xk.cl (HN.out) fun p => ?_)
  go_wp2
  go_ret
  exact ⟨rfl, Xk.xt⟩
 ·by_cases h5 : kd = 5
  ·subst h5
   go_enter Tryz.func77, Tryz.ntmps77
   go_wp2_with (go_at_call 21; with_reducible refine Xk.cl (HN.out) fun p => ?_)
   go_wp2
   go_ret
   exact ⟨rfl, Xk.xt⟩
  ·have e2 : (kd == 2) = false := by simpa using h2
   have e5 : (kd == 5) = false := by simpa using h5
   rw [e2, e5]
   go_enter Tryz.func77, Tryz.ntmps77
   go_wp2_with (go_at_call 21; with_reducible refine Xk.cl (HN.out) fun p => ?_)
   go_wp2
   go_ret
   exact ⟨rfl, Xk.xt⟩
theorem has_no (br : Nat) (r : P12.R) (s : List UInt8) (w : World) (h : Rd br r w) (hs : P12.isT s r = false) :
  Calls Tryz.prog 20 #[rp br, .string ⟨s.toArray⟩] w fun e w' => e = .returned (.bool false) ∧ Xk.Ext w w' := by
 have HI := Lib.hid fun w h => isT_any br r s w h
 have HH := Lib.hid h
 rw [hs] at HI
 clear h hs
 go_enter Tryz.func20, Tryz.ntmps20
 go_wp2_with (go_at_call 77; with_reducible refine Xk.cl (HI.out _ (rdx (HH.out))) fun p => ?_)
 go_ret
 exact ⟨rfl, Xk.xt⟩
theorem has_yes (br : Nat) (r : P12.R) (s : List UInt8) (w : World) (h : Rd br r w) (hs : P12.isT s r = true) :
  Calls Tryz.prog 20 #[rp br, .string ⟨s.toArray⟩] w fun e w' => e = .returned (.bool true) ∧ Turn br w w' ∧ Rd br (P12.takes r) w' := by
 have HI := Lib.hid fun w h => isT_any br r s w h
 have HT := Lib.hid fun w h => takes_any br r w h
 have HH := Lib.hid h
 rw [hs] at HI
 clear h hs
 go_enter Tryz.func20, Tryz.ntmps20
 go_wp2_with (go_at_call 77; with_reducible refine Xk.cl (HI.out _ (rdx (HH.out))) fun p => ?_)
 go_at_call 75
 refine (HT.out _ (rdx (HH.out))).mono ?_
 rintro e w1 ⟨rfl, ht, hr⟩
 go_wp2
 go_ret
 exact ⟨rfl, (by repeat (first | with_reducible exact (Turn.trans (tu trivial) ht) | with_reducible exact Turn.refl _ _ | ((with_reducible refine Turn.setNew ?_ (Or.inl ?_) _ _); rotate_left; exact Xk.sz) | (with_reducible refine Turn.setNew ?_ (Or.inr rfl) _ _) | ((with_reducible refine Turn.setCells (Or.inl ?_) _ _ ?_); exact Xk.sz) | (with_reducible refine Turn.alloc ?_ _) | (with_reducible refine Turn.drew ?_) | (with_reducible refine Turn.exw ?_ _))), (rdx (hr))⟩
abbrev exprL (kind op k i : Int) (s t n : P12.T) (args : Value) : List Value :=
 [.int .i64 kind, .int .i64 op, .int .i64 k, .int .i64 i, bs s, bs t, bs n, .int .i64 0, .int .i64 0, args]
abbrev nilS : Value := .slice none 0 0
def ExprAt (S : Nat → Prop) (w : World) : P12.E → List Value → Prop
 | .none, l => l = exprL 0 0 0 0 [] [] [] nilS
 | .val k i s, l => l = exprL 1 0 k i s [] [] nilS
 | .col t n, l => l = exprL 2 0 0 0 [] t n nilS
 | .all, l => l = exprL 5 19 0 0 [] [] [] nilS
 | .una op a, l => ∃ g u, S g ∧ l = exprL 3 op 0 0 [] [] [] (.slice (some ⟨g, 0, none⟩) 1 1) ∧ w.rangeAt g 0 u ∧ u.length = 10 ∧ ExprAt S w a u
 | .call op a, l => ∃ g u, S g ∧ l = exprL 5 op 0 0 [] [] [] (.slice (some ⟨g, 0, none⟩) 1 1) ∧ w.rangeAt g 0 u ∧ u.length = 10 ∧ ExprAt S w a u
 | .bin op a b, l => ∃ g u v, S g ∧ l = exprL 4 op 0 0 [] [] [] (.slice (some ⟨g, 0, none⟩) 2 2) ∧ w.rangeAt g 0 (u ++ v) ∧ u.length = 10 ∧ v.length = 10 ∧ ExprAt S w a u ∧ ExprAt S w b v
theorem ExprAt.length {S : Nat → Prop} {w : World} : ∀ {e : P12.E} {l : List Value}, ExprAt S w e l → l.length = 10
 | .none, _, h | .val _ _ _, _, h | .col _ _, _, h | .all, _, h => by unfold ExprAt at h; rw [h]; rfl
 | .una _ _, _, h | .call _ _, _, h => by unfold ExprAt at h; obtain ⟨g, u, -, rfl, -⟩ := h; rfl
 | .bin _ _ _, _, h => by unfold ExprAt at h; obtain ⟨g, u, v, -, rfl, -⟩ := h; rfl
theorem ExprAt.form {S : Nat → Prop} {w : World} : ∀ {e : P12.E} {l : List Value}, ExprAt S w e l → ∃ kind op k i s t n p m c, l = exprL kind op k i s t n (.slice p m c)
 | .none, _, h | .val _ _ _, _, h | .col _ _, _, h | .all, _, h => by unfold ExprAt at h; exact ⟨_, _, _, _, _, _, _, _, _, _, h⟩
 | .una _ _, _, h | .call _ _, _, h => by unfold ExprAt at h; obtain ⟨g, u, -, h, -⟩ := h; exact ⟨_, _, _, _, _, _, _, _, _, _, h⟩
 | .bin _ _ _, _, h => by unfold ExprAt at h; obtain ⟨g, u, v, -, h, -⟩ := h; exact ⟨_, _, _, _, _, _, _, _, _, _, h⟩
theorem range_lt {w : World} {g o : Nat} {l : List Value} (h : w.rangeAt g o l) (hl : 0 < l.length) : g < w.heap.size := by
 have := h 0 l[0] (by simp [hl])
 exact World.block_lt_of_cell? _ _ this
theorem range_same {w w' : World} {g o : Nat} {l : List Value} (h : w.rangeAt g o l) (hb : w'.heap[g]? = w.heap[g]?) : w'.rangeAt g o l := fun j v hj => by
 have := h j v hj
 unfold World.cell? at this ⊢
 simp only at this ⊢
 rw [hb]; exact this
theorem ExprAt.keep {S S' : Nat → Prop} {w w' : World} (hb : ∀ b, S b → b < w.heap.size → w'.heap[b]? = w.heap[b]?) (hS : ∀ b, S b → b < w.heap.size → S' b) : ∀ {e : P12.E} {l : List Value}, ExprAt S w e l → ExprAt S' w' e l
 | .none, _, h | .val _ _ _, _, h | .col _ _, _, h | .all, _, h => by unfold ExprAt at h ⊢; exact h
 | .una _ a, _, h | .call _ a, _, h => by
  unfold ExprAt at h ⊢
  obtain ⟨g, u, h1, h2, h3, h4, h5⟩ := h
  have hlt := range_lt h3 (by omega)
  exact ⟨g, u, hS g h1 hlt, h2, range_same h3 (hb g h1 hlt), h4, ExprAt.keep hb hS h5⟩
 | .bin _ a b, _, h => by
  unfold ExprAt at h ⊢
  obtain ⟨g, u, v, h1, h2, h3, h4, h4', h5, h6⟩ := h
  have hlt := range_lt h3 (by simp; omega)
  exact ⟨g, u, v, hS g h1 hlt, h2, range_same h3 (hb g h1 hlt), h4, h4', ExprAt.keep hb hS h5, ExprAt.keep hb hS h6⟩
abbrev ExprV (w : World) : Value → P12.E → World → Prop := fun v e w' => ∃ l, v = .agg l.toArray ∧ ExprAt (fun b => w.heap.size ≤ b) w' e l
def P12.mustU (s : P12.T) (r : P12.R) : Except P12.Er (Unit × P12.R) := if P12.isT s r then .ok ((), P12.takes r) else .error ((P12.nxt r).pos, 120)
theorem must_any (br : Nat) (r : P12.R) (s : List UInt8) (g : Nat) (w : World) (h : Rd br r w) (hg : w.cell? ⟨g, 0, none⟩ = some (.string ⟨s.toArray⟩)) (hgr : br < g) :
  Calls Tryz.prog 132 #[rp br, .slice (some ⟨g, 0, none⟩) 1 1] w (Got br w r (fun v _ _ => v = .tuple #[]) (P12.mustU s r)) := by
 have HR := Lib.hid h
 have lg := World.block_lt_of_cell? _ _ hg
 have lr := h.lt
 clear h
 cases hs : P12.isT s r
 ·rw [show P12.mustU s r = .error ((P12.nxt r).pos, 120) by unfold P12.mustU; rw [hs]; rfl]
  have HI := Lib.hid fun w h => has_no br r s w h hs
  go_enter Tryz.func132, Tryz.ntmps132
  go_wp2
  go_loopw [8] (fun x wr => x = .int .i64 0 ∧ wr = w) (fun _ _ => 0)
  case atStart => exact ⟨rfl, rfl⟩
  case round =>
   obtain ⟨rfl, rfl⟩ := hrel
   go_wp2_with (go_at_call 20; with_reducible refine Xk.cl (HI.out _ (rdx (HR.out))) fun p => ?_)
   go_at_call 22
   refine (fails_any br (r) 120 _ (rdx (HR.out))).mono ?_
   rintro e wF ⟨rfl, hxF⟩
   simp only [faults]
   go_wp2
   exact ⟨rfl, rfl, Turn.trans (tu ((Turn.refl _ _))) (Turn.of_ext hxF)⟩
 ·rw [show P12.mustU s r = .ok ((), P12.takes r) by unfold P12.mustU; rw [hs]; rfl]
  have HI := Lib.hid fun w h => has_yes br r s w h hs
  go_enter Tryz.func132, Tryz.ntmps132
  go_wp2
  go_loopw [8] (fun x wr => (x = .int .i64 0 ∧ wr = w) ∨ (x = .int .i64 1 ∧ Turn br w wr ∧ Rd br (P12.takes r) wr)) (fun x _ => 1 - (intOf x).toNat)
  case atStart => exact .inl ⟨rfl, rfl⟩
  case round =>
   rcases hrel with ⟨rfl, rfl⟩ | ⟨rfl, ht, hr⟩
   ·go_wp2_with fail
    go_at_call 20
    refine (HI.out _ HR.out).mono ?_
    rintro e w1 ⟨rfl, ht, hr⟩
    go_wp2
    go_roundw
    case rel => exact .inr ⟨by go_num, ht, hr⟩
    case measure => simp [intOf]
   ·go_wp2
    go_end0
    exact ⟨_, rfl, rfl, ht, hr, P12.keeps_takes r⟩
theorem name_any (br : Nat) (r : P12.R) (w : World) (h : Rd br r w) :
  Calls Tryz.prog 131 #[rp br] w (Got br w r (fun v x _ => v = bs x) (P12.name r)) := by
 have HR := Lib.hid h
 have HN := Lib.hid (next_any br r w h)
 have lr := h.lt
 have hok := h.good.nxt_ok
 have hl := hok.len
 clear h hok
 unfold P12.name
 by_cases hk : (P12.nxt r).kind = 1
 ·rw [if_neg (by simpa using hk)]
  rw [hk] at HN
  by_cases hlen : 24 < (P12.nxt r).text.length
  ·rw [if_pos hlen]
   have hlb : (24 : Int) < ((P12.nxt r).text.length : Int) := by omega
   go_enter Tryz.func131, Tryz.ntmps131
   go_wp2_with (go_at_call 21; with_reducible refine Xk.cl (HN.out) fun p => ?_)
   go_at_call 22
   refine (fails_any br (r) 124 _ (rdx (HR.out))).mono ?_
   rintro e wF ⟨rfl, hxF⟩
   simp only [faults]
   go_wp2
   exact ⟨rfl, rfl, Turn.trans (tu ((Turn.refl _ _))) (Turn.of_ext hxF)⟩
  ·rw [if_neg hlen]
   have hlb : ¬ (24 : Int) < ((P12.nxt r).text.length : Int) := by omega
   go_enter Tryz.func131, Tryz.ntmps131
   go_wp2_with (go_at_call 21; with_reducible refine Xk.cl (HN.out) fun p => ?_)
   go_at_call 75
   refine (takes_any br r _ (rdx (HR.out))).mono ?_
   rintro e w1 ⟨rfl, ht, hr⟩
   go_wp2
   go_ret
   exact ⟨_, rfl, rfl, Turn.trans (tu trivial) ht, hr, P12.keeps_takes r⟩
 ·rw [if_pos (by simpa using hk)]
  have hkb : ((P12.nxt r).kind != 1) = true := by simpa using hk
  go_enter Tryz.func131, Tryz.ntmps131
  go_wp2_with (go_at_call 21; with_reducible refine Xk.cl (HN.out) fun p => ?_)
  go_at_call 22
  refine (fails_any br (r) 120 _ (rdx (HR.out))).mono ?_
  rintro e wF ⟨rfl, hxF⟩
  simp only [faults]
  go_wp2
  exact ⟨rfl, rfl, Turn.trans (tu ((Turn.refl _ _))) (Turn.of_ext hxF)⟩
theorem maybe_any (br : Nat) (r : P12.R) (w : World) (h : Rd br r w) :
  Calls Tryz.prog 148 #[rp br] w (Got br w r (fun v x _ => v = bs x) (P12.maybe r)) := by
 have HR := Lib.hid h
 have HN := Lib.hid (next_any br r w h)
 have lr := h.lt
 clear h
 unfold P12.maybe
 by_cases hk : (P12.nxt r).kind = 1
 ·rw [if_neg (by simpa using hk)]
  rw [hk] at HN
  rcases hn : P12.name r with er | ⟨x, r1⟩
  ·go_enter Tryz.func148, Tryz.ntmps148
   go_wp2_with (go_at_call 21; with_reducible refine Xk.cl (HN.out) fun p => ?_)
   go_at_call 131
   refine (name_any br r _ (rdx (HR.out))).mono ?_
   intro e w1 h
   rw [hn] at h
   obtain ⟨rfl, ht⟩ := h
   simp only [faults]
   go_wp2
   exact ⟨rfl, rfl, Turn.trans (tu trivial) ht⟩
  ·go_enter Tryz.func148, Tryz.ntmps148
   go_wp2_with (go_at_call 21; with_reducible refine Xk.cl (HN.out) fun p => ?_)
   go_at_call 131
   refine (name_any br r _ (rdx (HR.out))).mono ?_
   intro e w1 h
   rw [hn] at h
   obtain ⟨v, rfl, rfl, ht, hr, hk⟩ := h
   go_wp2
   go_ret
   exact ⟨_, rfl, rfl, Turn.trans (tu trivial) ht, hr, hk⟩
 ·rw [if_pos (by simpa using hk)]
  have hkb : ((P12.nxt r).kind != 1) = true := by simpa using hk
  go_enter Tryz.func148, Tryz.ntmps148
  go_wp2_with (go_at_call 21; with_reducible refine Xk.cl (HN.out) fun p => ?_)
  go_wp2
  go_ret
  exact ⟨_, rfl, rfl, (tu trivial), (rdx (HR.out)), P12.Keeps.refl r⟩
theorem named_any (br : Nat) (r : P12.R) (w : World) (h : Rd br r w) :
  Calls Tryz.prog 141 #[rp br] w fun e w' => e = .returned (.bool (P12.named r)) ∧ Xk.Ext w w' := by
 have HN := Lib.hid (next_any br r w h)
 have hl := h.good.nxt_ok.len
 clear h
 unfold P12.named
 by_cases hk : (P12.nxt r).kind = 1
 ·rw [hk] at HN ⊢
  by_cases hlen : (P12.nxt r).text.length ≤ 24
  ·have hlb : ((P12.nxt r).text.length : Int) ≤ 24 := by omega
   rw [show decide ((P12.nxt r).text.length ≤ 24) = true by simpa using hlen]
   go_enter Tryz.func141, Tryz.ntmps141
   go_wp2_with (go_at_call 21; with_reducible refine Xk.cl (HN.out) fun p => ?_)
   go_wp2
   go_ret
   exact ⟨rfl, Xk.xt⟩
  ·have hlb : decide (((P12.nxt r).text.length : Int) ≤ 24) = false := by simp; omega
   rw [show decide ((P12.nxt r).text.length ≤ 24) = false by simpa using hlen]
   go_enter Tryz.func141, Tryz.ntmps141
   go_wp2_with (go_at_call 21; with_reducible refine Xk.cl (HN.out) fun p => ?_)
   go_wp2
   go_ret
   exact ⟨rfl, Xk.xt⟩
 ·have hkb : ((P12.nxt r).kind == 1) = false := by simpa using hk
  rw [hkb]
  go_enter Tryz.func141, Tryz.ntmps141
  go_wp2_with (go_at_call 21; with_reducible refine Xk.cl (HN.out) fun p => ?_)
  go_wp2
  go_ret
  exact ⟨rfl, Xk.xt⟩
theorem opens_err (br : Nat) (r : P12.R) (w : World) (h : Rd br r w) (hd : r.deep = 100) :
  Calls Tryz.prog 261 #[rp br] w fun e w' => e = faults ((P12.nxt r).pos, 121) ∧ Turn br w w' := by
 have HR := Lib.hid h
 have lr := h.lt
 obtain ⟨b, off, cap, h⟩ := h
 obtain ⟨d1, d2, f1, f2⟩ := h.cells
 rw [hd] at d2
 clear h hd
 go_enter Tryz.func261, Tryz.ntmps261
 go_wp2_with fail
 go_at_call 22
 refine (fails_any br (r) 121 _ (rdx (HR.out))).mono ?_
 rintro e wF ⟨rfl, hxF⟩
 simp only [faults]
 go_wp2
 exact ⟨rfl, rfl, Turn.trans (tu ((Turn.refl _ _))) (Turn.of_ext hxF)⟩
theorem opens_ok (br : Nat) (r : P12.R) (w : World) (h : Rd br r w) (hd : r.deep ≠ 100) :
  Calls Tryz.prog 261 #[rp br] w fun e w' => e = .returned (.tuple #[]) ∧ Turn br w w' ∧ Rd br ⟨r.l, r.deep + 1⟩ w' := by
 have lr := h.lt
 obtain ⟨b, off, cap, h⟩ := h
 obtain ⟨d1, d2, f1, f2⟩ := h.cells
 have hle := h.good.deep
 have hd2 : ((r.deep : Int) == 100) = false := by simpa using (by omega : ¬ ((r.deep : Int) = 100))
 have HD := Lib.hid (h.depth (r.deep + 1) (by omega))
 clear h hd
 go_enter Tryz.func261, Tryz.ntmps261
 go_wp2
 go_end0
 exact ⟨rfl, (tu trivial), b, off, cap, HD.out⟩
def Bears1 (v : Value) (f : FuncId) (x : Value) : Prop := v = .func (.func f) #[x] #[] ∨ v = .func (.func f) #[] #[x]
structure Ent (f : FuncId) : Prop where
 run : ∀ args W, (callFunc f args).run Tryz.prog W = .ok (.enter f args) W
 no : ¬ 2 = f
theorem ent_named : Ent 141 := ⟨fun _ _ => by go_simp, by decide⟩
abbrev manyO (br : Nat) (n most : Nat) : Obj := .cells #[rp br, .int .i64 n, .int .i64 most] 179
theorem counts_few (br n most gm : Nat) (cv : Value) (w : World) (hm : w.heap[gm]? = some (manyO br n most)) (hn : n + 1 ≤ most) (hb : most ≤ 1000) :
  Calls Tryz.prog 200 #[rp gm, cv] w fun e w' => e = .returned (.tuple #[]) ∧ Xk.Ext (w.setCell ⟨gm, 1, none⟩ (.int .i64 ((n : Int) + 1))) w' := by
 obtain ⟨c0, c1, c2, f0, f1, f2⟩ := Xe.cells_of3 hm
 have hlt := (Array.getElem?_eq_some_iff.1 hm).1
 have hnb : decide ((most : Int) < (n : Int) + 1) = false := by simp; omega
 clear hm
 go_enter Tryz.func200, Tryz.ntmps200
 go_wp2
 refine Xk.reg 13 (Xk.w0 fun p => ?_)
 go_wp2
 go_end0
 exact ⟨rfl, Xk.xt⟩
theorem counts_no (br n most gm : Nat) (r : P12.R) (cv x : Value) (CF : FuncId) (w : World) (h : Rd br r w) (hm : w.heap[gm]? = some (manyO br n most)) (hgm : br < gm) (hn : most < n + 1) (hb : n ≤ 100000)
  (hcv : Bears1 cv CF x) (he : Ent CF) (hC : ∀ W, Rd br r W → Xk.Ext (w.setCell ⟨gm, 1, none⟩ (.int .i64 ((n : Int) + 1))) W → Calls Tryz.prog CF #[x] W fun e w' => e = .returned (.bool false) ∧ Xk.Ext W w') :
  Calls Tryz.prog 200 #[rp gm, cv] w fun e w' => e = .returned (.tuple #[]) ∧ Xk.Ext (w.setCell ⟨gm, 1, none⟩ (.int .i64 ((n : Int) + 1))) w' := by
 obtain ⟨c0, c1, c2, f0, f1, f2⟩ := Xe.cells_of3 hm
 have hlt := (Array.getElem?_eq_some_iff.1 hm).1
 have hnb : (most : Int) < (n : Int) + 1 := by omega
 have HR := Lib.hid h
 have HC := Lib.hid hC
 have hcf := he.run
 have hci := he.no
 clear hm h hC he
 rcases hcv with rfl | rfl
 ·go_enter Tryz.func200, Tryz.ntmps200
  go_wp2
  refine Xk.wp_region_rel' 13 [] trivial (by kernel_rfl) (by kernel_rfl) ?_
  simp only [List.take_succ_cons, List.take_zero, List.drop_succ_cons, List.drop_zero]
  repeat (first
   | (refine Xk.rel_det (Xk.wanted_none (by rfl)) (by rfl) (fun K hK => ?_); apply Exists.intro; refine ⟨fun p hp => ?_, ?_⟩; (go_simp; first | exact ⟨rfl, rfl⟩ | ((try refine ⟨by kernel_rfl, ?_⟩); (first | ((try refine ⟨hci, ?_⟩); (with_reducible refine (HC.out _ (rdx (HR.out)) Xk.xt).mono ?_); exact fun e w' h => h)))); (go_simp; refine hK _ ?_; clear hK K))
   | (refine Xk.rel_skip (by rfl) (fun K hK => ?_); go_simp; refine hK _ ?_; clear hK K)
   | (refine Xk.rel_det (by rfl) (by rfl) (fun K hK => ?_); apply Exists.intro; refine ⟨fun p hp => ?_, ?_⟩; (go_simp; first | exact ⟨rfl, rfl⟩ | ((try refine ⟨by kernel_rfl, ?_⟩); (first | ((try refine ⟨hci, ?_⟩); (with_reducible refine (HC.out _ (rdx (HR.out)) Xk.xt).mono ?_); exact fun e w' h => h)))); (go_simp; refine hK _ ?_; clear hK K)))
  refine Xk.rel_nil (fun p _ => ?_)
  go_wp2
  go_end0
  exact ⟨rfl, Xk.xt⟩
 ·go_enter Tryz.func200, Tryz.ntmps200
  go_wp2
  refine Xk.wp_region_rel' 13 [] trivial (by kernel_rfl) (by kernel_rfl) ?_
  simp only [List.take_succ_cons, List.take_zero, List.drop_succ_cons, List.drop_zero]
  repeat (first
   | (refine Xk.rel_det (Xk.wanted_none (by rfl)) (by rfl) (fun K hK => ?_); apply Exists.intro; refine ⟨fun p hp => ?_, ?_⟩; (go_simp; first | exact ⟨rfl, rfl⟩ | ((try refine ⟨by kernel_rfl, ?_⟩); (first | ((try refine ⟨hci, ?_⟩); (with_reducible refine (HC.out _ (rdx (HR.out)) Xk.xt).mono ?_); exact fun e w' h => h)))); (go_simp; refine hK _ ?_; clear hK K))
   | (refine Xk.rel_skip (by rfl) (fun K hK => ?_); go_simp; refine hK _ ?_; clear hK K)
   | (refine Xk.rel_det (by rfl) (by rfl) (fun K hK => ?_); apply Exists.intro; refine ⟨fun p hp => ?_, ?_⟩; (go_simp; first | exact ⟨rfl, rfl⟩ | ((try refine ⟨by kernel_rfl, ?_⟩); (first | ((try refine ⟨hci, ?_⟩); (with_reducible refine (HC.out _ (rdx (HR.out)) Xk.xt).mono ?_); exact fun e w' h => h)))); (go_simp; refine hK _ ?_; clear hK K)))
  refine Xk.rel_nil (fun p _ => ?_)
  go_wp2
  go_end0
  exact ⟨rfl, Xk.xt⟩
def rdLen (br : Nat) (w : World) : Nat := match w.cell? ⟨br, 0, none⟩ with
 | some (.slice _ n _) => n
 | _ => 0
theorem Rd.len {br : Nat} {r : P12.R} {w : World} (h : Rd br r w) : rdLen br w = r.l.length := by
 obtain ⟨b, off, cap, h⟩ := h
 unfold rdLen
 rw [h.cells.1]
theorem counts_yes (br n most gm : Nat) (r : P12.R) (cv x : Value) (CF : FuncId) (w : World) (h : Rd br r w) (hm : w.heap[gm]? = some (manyO br n most)) (hgm : br < gm) (hn : most < n + 1) (hb : n ≤ 100000)
  (hcv : Bears1 cv CF x) (he : Ent CF) (hC : ∀ W, Rd br r W → Xk.Ext (w.setCell ⟨gm, 1, none⟩ (.int .i64 ((n : Int) + 1))) W → Calls Tryz.prog CF #[x] W fun e w' => e = .returned (.bool true) ∧ Xk.Ext W w') :
  Calls Tryz.prog 200 #[rp gm, cv] w fun e w' => e = faults ((P12.nxt r).pos, 122) ∧ Xk.Ext (w.setCell ⟨gm, 1, none⟩ (.int .i64 ((n : Int) + 1))) w' := by
 obtain ⟨c0, c1, c2, f0, f1, f2⟩ := Xe.cells_of3 hm
 have hlt := (Array.getElem?_eq_some_iff.1 hm).1
 have hnb : (most : Int) < (n : Int) + 1 := by omega
 have HR := Lib.hid h
 have HC := Lib.hid hC
 have hcf := he.run
 have hci := he.no
 clear hm h hC he
 rcases hcv with rfl | rfl
 ·go_enter Tryz.func200, Tryz.ntmps200
  go_wp2
  refine Xk.wp_region_rel' 13 [] trivial (by kernel_rfl) (by kernel_rfl) ?_
  simp only [List.take_succ_cons, List.take_zero, List.drop_succ_cons, List.drop_zero]
  repeat (first
   | (refine Xk.rel_det (Xk.wanted_none (by rfl)) (by rfl) (fun K hK => ?_); apply Exists.intro; refine ⟨fun p hp => ?_, ?_⟩; (go_simp; first | exact ⟨rfl, rfl⟩ | ((try refine ⟨by kernel_rfl, ?_⟩); (first | ((try refine ⟨hci, ?_⟩); (with_reducible refine (HC.out _ (rdx (HR.out)) Xk.xt).mono ?_); exact fun e w' h => h)))); (go_simp; refine hK _ ?_; clear hK K))
   | (refine Xk.rel_skip (by rfl) (fun K hK => ?_); go_simp; refine hK _ ?_; clear hK K)
   | (refine Xk.rel_det (by rfl) (by rfl) (fun K hK => ?_); apply Exists.intro; refine ⟨fun p hp => ?_, ?_⟩; (go_simp; first | exact ⟨rfl, rfl⟩ | ((try refine ⟨by kernel_rfl, ?_⟩); (first | ((try refine ⟨hci, ?_⟩); (with_reducible refine (HC.out _ (rdx (HR.out)) Xk.xt).mono ?_); exact fun e w' h => h)))); (go_simp; refine hK _ ?_; clear hK K)))
  refine Xk.rel_nil (fun p _ => ?_)
  go_wp2_with fail
  go_at_call 22
  refine (fails_any br r 122 _ (rdx (HR.out))).mono ?_
  rintro e wF ⟨rfl, hxF⟩
  simp only [faults]
  go_wp2
  exact ⟨rfl, rfl, Xk.Ext.trans Xk.xt hxF⟩
 ·go_enter Tryz.func200, Tryz.ntmps200
  go_wp2
  refine Xk.wp_region_rel' 13 [] trivial (by kernel_rfl) (by kernel_rfl) ?_
  simp only [List.take_succ_cons, List.take_zero, List.drop_succ_cons, List.drop_zero]
  repeat (first
   | (refine Xk.rel_det (Xk.wanted_none (by rfl)) (by rfl) (fun K hK => ?_); apply Exists.intro; refine ⟨fun p hp => ?_, ?_⟩; (go_simp; first | exact ⟨rfl, rfl⟩ | ((try refine ⟨by kernel_rfl, ?_⟩); (first | ((try refine ⟨hci, ?_⟩); (with_reducible refine (HC.out _ (rdx (HR.out)) Xk.xt).mono ?_); exact fun e w' h => h)))); (go_simp; refine hK _ ?_; clear hK K))
   | (refine Xk.rel_skip (by rfl) (fun K hK => ?_); go_simp; refine hK _ ?_; clear hK K)
   | (refine Xk.rel_det (by rfl) (by rfl) (fun K hK => ?_); apply Exists.intro; refine ⟨fun p hp => ?_, ?_⟩; (go_simp; first | exact ⟨rfl, rfl⟩ | ((try refine ⟨by kernel_rfl, ?_⟩); (first | ((try refine ⟨hci, ?_⟩); (with_reducible refine (HC.out _ (rdx (HR.out)) Xk.xt).mono ?_); exact fun e w' h => h)))); (go_simp; refine hK _ ?_; clear hK K)))
  refine Xk.rel_nil (fun p _ => ?_)
  go_wp2_with fail
  go_at_call 22
  refine (fails_any br r 122 _ (rdx (HR.out))).mono ?_
  rintro e wF ⟨rfl, hxF⟩
  simp only [faults]
  go_wp2
  exact ⟨rfl, rfl, Xk.Ext.trans Xk.xt hxF⟩
def CountsPost (r : P12.R) (gm n most : Nat) (c : Bool) (w : World) (e : Ending) (w' : World) : Prop :=
 Xk.Ext (w.setCell ⟨gm, 1, none⟩ (.int .i64 ((n : Int) + 1))) w' ∧ if (decide (most < n + 1) && c) = true then e = faults ((P12.nxt r).pos, 122) else e = .returned (.tuple #[])
theorem counts_any (br n most gm : Nat) (r : P12.R) (cv x : Value) (CF : FuncId) (c : Bool) (w : World) (h : Rd br r w) (hm : w.heap[gm]? = some (manyO br n most)) (hgm : br < gm) (hb : n ≤ 100000) (hb2 : most ≤ 1000)
  (hcv : Bears1 cv CF x) (he : Ent CF) (hC : ∀ W, Rd br r W → Xk.Ext (w.setCell ⟨gm, 1, none⟩ (.int .i64 ((n : Int) + 1))) W → Calls Tryz.prog CF #[x] W fun e w' => e = .returned (.bool c) ∧ Xk.Ext W w') :
  Calls Tryz.prog 200 #[rp gm, cv] w (CountsPost r gm n most c w) := by
 by_cases hn : most < n + 1
 ·cases c
  ·exact (counts_no br n most gm r cv x CF w h hm hgm hn hb hcv he hC).mono fun e w' ⟨h1, h2⟩ => ⟨h2, by rw [if_neg (by simp)]; exact h1⟩
  ·exact (counts_yes br n most gm r cv x CF w h hm hgm hn hb hcv he hC).mono fun e w' ⟨h1, h2⟩ => ⟨h2, by rw [if_pos (by simpa using hn)]; exact h1⟩
 ·exact (counts_few br n most gm cv w hm (by omega) hb2).mono fun e w' ⟨h1, h2⟩ => ⟨h2, by rw [if_neg (by simp; omega)]; exact h1⟩
theorem heap_new (w : World) (o : Obj) : (w.alloc o).heap[w.heap.size]? = some o := by
 show (w.heap.push o)[w.heap.size]? = some o
 simp
def RowPost {α : Type} (br : Nat) (r : P12.R) (J : α → World → Prop) (Z : World → Prop) (res : Except P12.Er (α × P12.R)) (e : Ending) (w' : World) : Prop :=
 match res with
 | .ok (x, r') => e = .returned (.tuple #[]) ∧ J x w' ∧ Rd br r' w' ∧ P12.Keeps r r'
 | .error er => e = faults er ∧ Z w'
def P12.onto {α : Type} (xs : List α) : Except P12.Er (List α × P12.R) → Except P12.Er (List α × P12.R)
 | .ok (ys, r) => .ok (xs ++ ys, r)
 | .error e => .error e
theorem row_any {α : Type} (br most : Nat) (r0 : P12.R) (w : World) (cv rv cx ra rb : Value) (CF RF : FuncId) (could : P12.R → Bool) (read : P12.R → Except P12.Er (α × P12.R)) (J : List α → World → Prop) (Z : World → Prop)
  (hmost : most ≤ 1000) (hr : Rd br r0 w) (hcv : Bears1 cv CF cx) (hce : Ent CF) (hC : ∀ xs r W, Rd br r W → J xs W → Calls Tryz.prog CF #[cx] W fun e w' => e = .returned (.bool (could r)) ∧ Xk.Ext W w')
  (hrv : rv = .func (.func RF) #[] #[ra, rb]) (hre : Ent RF)
  (hR : ∀ xs r W, P12.Keeps r0 r → xs.length + r.l.length ≤ r0.l.length → Rd br r W → J xs W → Calls Tryz.prog RF #[ra, rb] W fun e w' => RowPost br r (fun x w' => J (xs ++ [x]) w' ∧ w'.heap[w.heap.size]? = W.heap[w.heap.size]?) Z (read r) e w')
  (hJ : J [] (w.alloc (manyO br 0 most))) (hJm : ∀ xs W v, J xs W → J xs (W.setCell ⟨w.heap.size, 1, none⟩ v)) (hJt : ∀ xs W W', J xs W → Turn br W W' → J xs W') (hZ : ∀ xs W, J xs W → Z W) :
  Calls Tryz.prog 135 #[rp br, .int .i64 most, cv, rv] w (RowPost br r0 J Z (P12.rowF most could read r0.l.length 0 r0)) := by
 subst hrv
 have lr := hr.lt
 have HR := Lib.hid hr
 have HRR := Lib.hid hR
 have HC := Lib.hid hC
 have HJ := Lib.hid hJ
 have HJm := Lib.hid hJm
 have HJt := Lib.hid hJt
 have HZ := Lib.hid hZ
 have hcf := hre.run
 have hci := hre.no
 clear hr hR hC hJ hJm hJt hZ
 generalize hres : P12.rowF most could read r0.l.length 0 r0 = res
 have HRES := Lib.hid hres
 clear hres
 go_enter Tryz.func135, Tryz.ntmps135
 go_wp2
 go_loopw [20] (fun _ wr => ∃ (xs : List α) (r1 : P12.R) (f : Nat), Rd br r1 wr ∧ P12.Keeps r0 r1 ∧ wr.heap[w.heap.size]? = some (manyO br xs.length most) ∧ J xs wr ∧ r1.l.length ≤ f ∧ xs.length + r1.l.length ≤ r0.l.length ∧ P12.onto xs (P12.rowF most could read f xs.length r1) = res) (fun _ wr => rdLen br wr)
 case atStart => exact ⟨[], r0, r0.l.length, (rdx (HR.out)), P12.Keeps.refl _, heap_new w _, HJ.out, Nat.le_refl _, by simp, by
  have := HRES.out
  show P12.onto [] (P12.rowF most could read r0.l.length 0 r0) = res
  rw [this]
  rcases res with e | ⟨ys, r⟩ <;> rfl⟩
 case round =>
  obtain ⟨xs, r1, f, hr1, hk1, hm, hJ, hf, hxl, hres⟩ := hrel
  have hgood := hr1.good
  have hpos := hgood.pos
  have h0len := HR.out.good.len
  have hlen1 := hr1.len
  obtain ⟨f, rfl⟩ : ∃ k, f = k + 1 := ⟨f - 1, by omega⟩
  have HR1 := Lib.hid hr1
  have HM := Lib.hid hm
  have HJ1 := Lib.hid hJ
  have HK1 := Lib.hid hk1
  have HE := Lib.hid hres
  have hlw := (Array.getElem?_eq_some_iff.1 hm).1
  clear hr1 hm hJ hk1 hres
  go_wp2_with fail
  go_at_call 200
  refine (counts_any br xs.length most w.heap.size r1 cv cx CF (could r1) wr HR1.out HM.out (by omega) (by omega) hmost hcv hce (fun W h hx => HC.out xs r1 W h (HJt.out _ _ _ (HJm.out _ _ _ HJ1.out) (Turn.of_ext hx)))).mono ?_
  rintro e w1 ⟨hx, hce1⟩
  have hr1 : Rd br r1 w1 := (Rd.setCell HR1.out (by omega) 1 _).ext hx
  have hj1 : J xs w1 := HJt.out _ _ _ (HJm.out _ _ _ HJ1.out) (Turn.of_ext hx)
  cases hmc : decide (most < xs.length + 1) && could r1
  ·rw [if_neg (by rw [hmc]; simp)] at hce1
   subst hce1
   have hm1 : w1.heap[w.heap.size]? = some (manyO br (xs.length + 1) most) := by
    rw [hx.block _ (by rw [World.size_setCell]; exact hlw), heap_setCell_same wr w.heap.size 1 _ _ _ HM.out]
    simp
   have HE1 := HE.out
   rw [P12.rowF, hmc, if_neg (by simp)] at HE1
   have HRd := HRR.out xs r1 w1 HK1.out hxl hr1 hj1
   have HM1 := Lib.hid hm1
   clear hx hm1
   go_wp2_with fail
   refine HRd.mono ?_
   intro e w2 h
   cases hrd : read r1 with
   | error er =>
    rw [hrd] at h HE1
    obtain ⟨rfl, hz⟩ := h
    simp only [faults]
    go_wp2
    refine ⟨rfl, ?_⟩
    rw [← HE1]
    exact ⟨rfl, hz⟩
   | ok p =>
    obtain ⟨x, r2⟩ := p
    rw [hrd] at h HE1
    obtain ⟨rfl, ⟨hj2, hm2⟩, hr2, hk2⟩ := h
    dsimp only at HE1
    have HR2 := Lib.hid hr2
    have hm2 := hm2.trans HM1.out
    have HK2 := Lib.hid hk2
    cases hs : P12.isT [44] r2
    ·rw [hs, if_neg (by simp)] at HE1
     go_wp2_with fail
     go_at_call 20
     refine (has_no br r2 [44] w2 HR2.out hs).mono ?_
     rintro e w3 ⟨rfl, hx3⟩
     go_wp2
     refine bodyPost_ret (results_none rfl _ _ _) rfl ?_
     rw [← HE1]
     exact ⟨rfl, HJt.out _ _ _ hj2 (Turn.of_ext hx3), HR2.out.ext hx3, HK1.out.trans HK2.out⟩
    ·rw [hs, if_pos rfl] at HE1
     go_wp2_with fail
     go_at_call 20
     refine (has_yes br r2 [44] w2 HR2.out hs).mono ?_
     rintro e w3 ⟨rfl, ht3, hr3⟩
     have hlt := P12.takes_lt HR2.out.good (P12.isT_kind hs)
     have hle := HK2.out.le
     have hm3 := ht3.held hm2 (by omega)
     have hl3 := hr3.len
     go_wp2
     go_roundw
     case rel => exact ⟨xs ++ [x], P12.takes r2, f, hr3, HK1.out.trans (HK2.out.trans (P12.keeps_takes r2)), by simpa using hm3, HJt.out _ _ _ hj2 ht3, by omega, by simp; omega, by
      rw [← HE1]
      simp only [List.length_append, List.length_singleton]
      rcases P12.rowF most could read f (xs.length + 1) (P12.takes r2) with e | ⟨ys, r⟩
      ·rfl
      ·simp [P12.onto]⟩
     case measure => (rw [hl3, hlen1]; omega)
  ·rw [if_pos hmc] at hce1
   subst hce1
   simp only [faults]
   go_wp2
   refine ⟨rfl, ?_⟩
   have HE1 := HE.out
   rw [P12.rowF, hmc, if_pos rfl] at HE1
   rw [← HE1]
   exact ⟨rfl, HZ.out _ _ hj1⟩
end Go.Proofs.YtkpmclddjkebeaaGreatDoor
namespace Go.Xo
open Go.RowKit Go.Xk
theorem wpList_appb {P : Program} {w : World} {ops : Array Oper} {rest : List Oper} {o : Oper} {a : Act} {Q : Exit → Act → World → Prop} (B : Nat) (hgd : o.guard = none) (s x : Operand) (t : TypeId)
  (ho : o.op = .call { callee := .builtin .append, args := #[s, x], argTypes := #[t, t] })
  (e : TypeId) (i : TypeInfo) (z : Value) (size bytes : Nat) (ht : P.underlying t = some (.slice e)) (hi : P.info? e = some i) (hz : i.zero = some z)
  (hsize : i.size = size) (hby : i.bytes = bytes) (hzs : z.cells.size = size) (hsz : 0 < size)
  (v : Value) (n : Nat) (xs : List Value) (hs : a.eval s = v) (hown : w.ownsRow B e size v n xs)
  (g goff m c : Nat) (news : List Value) (hx : a.eval x = .slice (some ⟨g, goff, none⟩) m c) (hm : 0 < m) (hl : news.length = m * size) (hnews0 : ∀ j u, news[j]? = some u → w.cell? ⟨g, goff + j, none⟩ = some u) (h1 : ∀ u ∈ news, u.oneCell' = true)
  (hb : n ≤ 4000000 ∧ m ≤ 4000000 ∧ bytes ≤ 1000) (hbel : B ≤ w.heap.size)
  (h : ∀ v' w', w'.ownsRow B e size v' (n + m) (xs ++ news) → w.grownBy w' v.ownBlock → (∀ b, v'.ownBlock = some b → v.ownBlock = some b ∨ w.heap.size ≤ b) → wpList P ops Q rest (a.put o.dst v') w') : wpList P ops Q (o :: rest) a w := by
 have hnews : ∀ j u, news[j]? = some u → w.cell? (Addr.add ⟨g, goff, none⟩ j) = some u := fun j u hj => by rw [addr_add]; exact hnews0 j u hj
 obtain ⟨v', w', hrun, r1, r2⟩ := run_app (P := P) w B t o.type e i z size bytes ht hi hz hsize hby hzs hsz v n xs hown _ m c news hm hl hnews h1 hb hbel
 refine wpList_plain hgd fun K hK' => ?_
 have hg : w.grownBy w' v.ownBlock ∧ (∀ b, v'.ownBlock = some b → v.ownBlock = some b ∨ w.heap.size ≤ b) := by
  rcases r2 with ⟨g, cap, rfl, rfl, hg⟩ | ⟨hg, b, hb', e1⟩
  ·exact ⟨hg, fun b h => .inl h⟩
  ·exact ⟨⟨hg.os, hg.tape, hg.output, hg.size, fun k hk _ => hg.block k hk (by simp)⟩, fun c h => by rw [e1] at h; cases h; exact .inr hb'⟩
 unfold Oper.wp
 simp [execOp, ho, resolve, invoke, builtin, hs, hx, hrun, Result.andThen]
 exact hK' _ _ (h v' w' r1 hg.1 hg.2)
end Go.Xo
namespace Go.Proofs.YtkpmclddjkebeaaGreatDoor
open Go.RowKit
structure Kept (B : Nat) (ks : List Nat) (w w' : World) : Prop where
 os : w'.os = w.os
 tape : w'.tape = w.tape
 output : w'.output = w.output
 size : w.heap.size ≤ w'.heap.size
 block : ∀ b, b < B → b < w.heap.size → b ∉ ks → w'.heap[b]? = w.heap[b]?
theorem Kept.refl (B : Nat) (ks : List Nat) (w : World) : Kept B ks w w := ⟨rfl, rfl, rfl, Nat.le_refl _, fun _ _ _ _ => rfl⟩
theorem Kept.trans {B : Nat} {ks : List Nat} {a b c : World} (h : Kept B ks a b) (k : Kept B ks b c) : Kept B ks a c :=
 ⟨k.os.trans h.os, k.tape.trans h.tape, k.output.trans h.output, Nat.le_trans h.size k.size, fun x h1 h2 h3 => (k.block x h1 (Nat.lt_of_lt_of_le h2 h.size) h3).trans (h.block x h1 h2 h3)⟩
theorem Kept.of_ext {B : Nat} {ks : List Nat} {w w' : World} (h : Xk.Ext w w') : Kept B ks w w' :=
 let t : Turn 0 w w' := Turn.of_ext h
 ⟨t.1, t.2.1, t.2.2.1, h.size, fun x _ h2 _ => h.block x h2⟩
theorem Kept.of_turn {B br : Nat} {ks : List Nat} {w w' : World} (h : Turn br w w') (hk : br ∈ ks) : Kept B ks w w' :=
 ⟨h.1, h.2.1, h.2.2.1, h.size, fun x _ h2 h3 => h.block h2 (fun e => h3 (e ▸ hk))⟩
theorem Kept.mono {B B' : Nat} {ks ks' : List Nat} {w w' : World} (h : Kept B ks w w') (hB : B' ≤ B) (hk : ∀ x, x ∈ ks → x ∈ ks') : Kept B' ks' w w' :=
 ⟨h.os, h.tape, h.output, h.size, fun x h1 h2 h3 => h.block x (Nat.lt_of_lt_of_le h1 hB) h2 (fun e => h3 (hk x e))⟩
theorem Kept.alloc {B : Nat} {ks : List Nat} {w0 w : World} (h : Kept B ks w0 w) (o : Obj) : Kept B ks w0 (w.alloc o) := h.trans (Kept.of_ext ((Below.refl _ _).alloc (Nat.le_refl _) _))
theorem Kept.drew {B : Nat} {ks : List Nat} {w0 w : World} (h : Kept B ks w0 w) : Kept B ks w0 w.drew := h.trans (Kept.of_ext ((Below.refl _ _).drew))
theorem Kept.exw {B : Nat} {ks : List Nat} {w0 w : World} (h : Kept B ks w0 w) (p : Regrown) : Kept B ks w0 (Xk.exw w p) := h.trans (Kept.of_ext (Xk.ext_exw _ _))
theorem Kept.setCell {B : Nat} {ks : List Nat} {w0 w : World} (h : Kept B ks w0 w) {g : Nat} (hg : B ≤ g ∨ g ∈ ks ∨ w0.heap.size ≤ g) (o : Nat) (u : Value) : Kept B ks w0 (w.setCell ⟨g, o, none⟩ u) :=
 ⟨h.os, h.tape, h.output, by rw [World.size_setCell]; exact h.size, fun x h1 h2 h3 => by
  have hne : x ≠ g := fun e => by
   subst e
   rcases hg with hg | hg | hg
   ·omega
   ·exact h3 hg
   ·omega
  rw [heap_setCell_other w ⟨g, o, none⟩ x u (fun e => hne (by simpa using e))]
  exact h.block x h1 h2 h3⟩
theorem Kept.grown {B : Nat} {ks : List Nat} {w0 w w' : World} {k : Option Nat} (h : Kept B ks w0 w) (hg : w.grownBy w' k) (hk : ∀ b, k = some b → B ≤ b) : Kept B ks w0 w' :=
 ⟨hg.os.trans h.os, hg.tape.trans h.tape, hg.output.trans h.output, Nat.le_trans h.size hg.size, fun x h1 h2 h3 => (hg.block x (Nat.lt_of_lt_of_le h2 h.size) (fun e => by have := hk x e.symm; omega)).trans (h.block x h1 h2 h3)⟩
theorem Kept.turn {br : Nat} {w w' : World} (h : Kept w.heap.size [br] w w') : Turn br w w' :=
 ⟨h.os, h.tape, h.output, h.size, fun b hb => by
  by_cases hbr : b = br
  ·exact .inr ⟨(br, fun _ => True), by simp, hbr.symm, trivial⟩
  ·exact .inl (h.block b hb hb (by simpa using hbr))⟩
theorem Kept.held {B : Nat} {ks : List Nat} {w w' : World} (h : Kept B ks w w') {b : Nat} {o : Obj} (hc : w.heap[b]? = some o) (hB : b < B) (hn : b ∉ ks) : w'.heap[b]? = some o :=
 (h.block b hB (Array.getElem?_eq_some_iff.1 hc).1 hn).trans hc
theorem own_same {w w' : World} {B : Nat} {e : TypeId} {size n : Nat} {v : Value} {xs : List Value} (h : w.ownsRow B e size v n xs) (hb : ∀ b, v.ownBlock = some b → w'.heap[b]? = w.heap[b]?) : w'.ownsRow B e size v n xs := by
 refine ⟨h.1, ?_⟩
 rcases h.2 with h2 | ⟨g, cap, cur, rfl, h3, h4, h5⟩
 ·exact .inl h2
 ·exact .inr ⟨g, cap, cur, rfl, h3, (hb g rfl).trans h4, h5⟩
theorem own_turn {br : Nat} {w w' : World} {B : Nat} {e : TypeId} {size n : Nat} {v : Value} {xs : List Value} (h : w.ownsRow B e size v n xs) (ht : Turn br w w') (hB : br < B) : w'.ownsRow B e size v n xs :=
 own_same h fun b hb => ht.block (h.lt b hb).2 (by have := (h.lt b hb).1; omega)
theorem own_set {w : World} {B : Nat} {e : TypeId} {size n : Nat} {v : Value} {xs : List Value} (h : w.ownsRow B e size v n xs) {g : Nat} (hg : g < B) (o : Nat) (u : Value) : (w.setCell ⟨g, o, none⟩ u).ownsRow B e size v n xs :=
 own_same h fun b hb => heap_setCell_other w ⟨g, o, none⟩ b u (fun e => by
  have h1 := (h.lt b hb).1
  have e' : b = g := by simpa using e
  omega)
theorem ownForm {w : World} {B : Nat} {e : TypeId} {size n : Nat} {v : Value} {xs : List Value} (h : w.ownsRow B e size v n xs) (hn : 0 < n) : ∃ g cap, v = .slice (some ⟨g, 0, none⟩) n cap := by
 rcases h.2 with ⟨-, h2⟩ | ⟨g, cap, cur, h2, -⟩
 ·omega
 ·exact ⟨g, cap, h2⟩
theorem Rd.grown {br : Nat} {r : P12.R} {w w' : World} {k : Option Nat} (h : Rd br r w) (hg : w.grownBy w' k) (hk : ∀ b, k = some b → br < b) : Rd br r w' := by
 obtain ⟨b, off, cap, h⟩ := h
 have hl := h.lo
 have hgl := h.glo
 have hb : ∀ x, x ≤ br → x < w.heap.size → w'.heap[x]? = w.heap[x]? := fun x hx hlt => hg.block x hlt (fun e => by have := hk x e.symm; omega)
 have hc : ∀ {c o : Nat} {v : Value}, c ≤ br → w.cell? ⟨c, o, none⟩ = some v → w'.cell? ⟨c, o, none⟩ = some v := fun {c o v} hle hc => by
  rw [World.cell?_of_block (hb c hle (World.block_lt_of_cell? _ _ hc))]; exact hc
 refine ⟨b, off, cap, (hb br (Nat.le_refl _) (Array.getElem?_eq_some_iff.1 h.blk).1).trans h.blk, h.lo, h.cap, ⟨Nat.lt_of_lt_of_le h.toks.1 hg.size, fun j t hj => ?_⟩, h.good, h.glo, let ⟨tp, p, h1⟩ := h.env; ⟨tp, p, hc (by omega) h1⟩⟩
 obtain ⟨h1, h2, h3⟩ := h.toks.2 j t hj
 exact ⟨hc (by omega) h1, hc (by omega) h2, hc (by omega) h3⟩
def BoxAt (gb : Nat) (T e : TypeId) (sz B n : Nat) (xs : List Value) (w : World) : Prop := ∃ v, w.heap[gb]? = some (.cells #[v] T) ∧ w.ownsRow B e sz v n xs
theorem kpx {A P : Prop} (a : A) (h : A → P := by intro a; repeat (first | with_reducible exact a | with_reducible exact Kept.refl _ _ _ | ((with_reducible refine Kept.setCell ?_ (Or.inl ?_) _ _); rotate_left; exact Go.Xk.sz) | ((with_reducible refine Kept.setCell ?_ (Or.inr (Or.inl (by simp))) _ _)) | (with_reducible refine Kept.alloc ?_ _) | (with_reducible refine Kept.drew ?_) | (with_reducible refine Kept.exw ?_ _))) : P := h a
theorem Tryz.infoStr : (Tryz.prog.info? 9).map (fun i => (i.zero, i.size, i.bytes)) = some (some (.string ⟨#[]⟩), 1, 16) := by kernel_rfl
theorem infoParts {o : Option TypeInfo} {z : Option Value} {n b : Nat} (h : o.map (fun i => (i.zero, i.size, i.bytes)) = some (z, n, b)) : ∃ i, o = some i ∧ i.zero = z ∧ i.size = n ∧ i.bytes = b := by
 cases o with
 | none => cases h
 | some i =>
  simp only [Option.map_some, Option.some.injEq, Prod.mk.injEq] at h
  exact ⟨i, rfl, h.1, h.2.1, h.2.2⟩
abbrev strsC (l : List (List UInt8)) : List Value := l.map fun s => bs s
theorem names1_any (br gout grb B : Nat) (xs : List P12.T) (r : P12.R) (w : World) (h : Rd br r w) (hb : BoxAt gout 29 9 1 B xs.length (strsC xs) w) (hrb : w.heap[grb]? = some (.cells #[rp br] 67))
  (h1 : br < gout) (h2 : br < grb) (h3 : gout < B) (h4 : grb < B) (h5 : B ≤ w.heap.size) (h6 : xs.length ≤ 100000) :
  Calls Tryz.prog 201 #[rp gout, rp grb] w (RowPost br r (fun x w' => BoxAt gout 29 9 1 B (xs ++ [x]).length (strsC (xs ++ [x])) w' ∧ Kept B [br, gout] w w') (Turn br w) (P12.name r)) := by
 obtain ⟨v, hbx, hown⟩ := hb
 have HR := Lib.hid h
 have hg1 : w.cell? ⟨gout, 0, none⟩ = some v := by simp [World.cell?, hbx]
 have hg2 : w.cell? ⟨grb, 0, none⟩ = some (rp br) := by simp [World.cell?, hrb]
 have G1 := Lib.hid hg1
 have G2 := Lib.hid hg2
 have HB := Lib.hid hbx
 have HO := Lib.hid hown
 clear h hbx hrb hown hg1 hg2
 obtain ⟨i0, hi, hz0, hz1, hz2⟩ := infoParts Tryz.infoStr
 have Hi := Lib.hid hi
 have Hz0 := Lib.hid hz0
 have Hz1 := Lib.hid hz1
 have Hz2 := Lib.hid hz2
 clear hi hz0 hz1 hz2
 rcases hn : P12.name r with er | ⟨x, r1⟩
 ·go_enter Tryz.func201, Tryz.ntmps201
  go_wp2
  refine Xg.wp_region_rel (E := Turn br) (Xe.pre_ES _) (fun ch W => Ending.panicked ch = faults er ∧ Turn br w W) 2 4 (fun _ => none) (fun _ _ h => by cases h) (fun _ _ _ _ h => by cases h) [(2, fun _ _ => False), (3, fun _ _ => False)] (by kernel_rfl) (by kernel_rfl) (Xg.stable_one ((by
     intro y hy
     simp only [List.mem_cons, List.not_mem_nil, or_false] at hy
     rcases hy with rfl | rfl
     ·rw [if_pos rfl]; exact fun _ _ _ _ h => h
     ·rw [if_neg (by decide)]; exact fun _ _ _ _ h => h))) ((fun ch a w' hd hX => by exact ⟨hd, hX.1, hX.2⟩)) ?_
  simp only [List.take_succ_cons, List.take_zero, List.drop_succ_cons, List.drop_zero]
  (refine Xg.rel_det (Xk.wanted_none (by rfl)) (by rfl) (fun K hK => ?_); apply Exists.intro; refine ⟨fun W hx hp => ?_, ?_⟩; (have c := hx.cell (show w.drew.cell? ⟨gout, 0, none⟩ = some v from G1.out) (by omega); go_simp; first | exact ⟨rfl, rfl⟩ | ((try refine ⟨by kernel_rfl, ?_⟩); (fail))); (go_simp; refine hK _ ?_; clear hK K))
  (refine Xg.rel_det (Xk.wanted_none (by rfl)) (by rfl) (fun K hK => ?_); apply Exists.intro; refine ⟨fun W hx hp => ?_, ?_⟩; (have c := hx.cell (show w.drew.cell? ⟨grb, 0, none⟩ = some (rp br) from G2.out) (by omega); go_simp; first | exact ⟨rfl, rfl⟩ | ((try refine ⟨by kernel_rfl, ?_⟩); (fail))); (go_simp; refine hK _ ?_; clear hK K))
  (refine Xg.rel_loud (by rfl) (by rfl) rfl (fun W hx hp => ?_) (fun u K hK => ?_); (go_simp; ((refine (name_any br r _ (HR.out.drew.ext hx)).mono ?_); intro e w2 h; rw [hn] at h; obtain ⟨h1, h2⟩ := h; exact Or.inr ⟨_, h1, by exact ⟨rfl, (Turn.drew (Turn.refl _ _)).trans ((Turn.of_ext hx).trans h2)⟩⟩)); (go_simp; refine hK _ ?_; clear hK K))
  (refine Xg.rel_make (by rfl) (by rfl) (by decide) (fun W hx hp => ?_) (fun u2 K hK => ?_); (exact (Xe.facts_head hp (by kernel_rfl)).elim); (go_simp; refine hK _ ?_; clear hK K))
  refine Xg.rel_nil (fun W hx hp hg => ?_)
  exact hp.1.elim
 ·go_enter Tryz.func201, Tryz.ntmps201
  go_wp2
  refine Xg.wp_region_rel (E := Turn br) (Xe.pre_ES _) (fun ch W => False) 2 4 (fun _ => none) (fun _ _ h => by cases h) (fun _ _ _ _ h => by cases h) [(2, fun u W => u = bs x ∧ Rd br r1 W ∧ P12.Keeps r r1), (3, Xe.newFact w.heap.size (bs x))] (by kernel_rfl) (by kernel_rfl) (Xg.stable_one ((by
     intro y hy
     simp only [List.mem_cons, List.not_mem_nil, or_false] at hy
     rcases hy with rfl | rfl
     ·rw [if_pos rfl]; exact fun _ _ _ hx h => ⟨h.1, h.2.1.ext hx, h.2.2⟩
     ·rw [if_neg (show ¬ (3 = 2) by decide)]; exact Xe.newFact.es (by intro k hk; simp only [List.mem_singleton] at hk; subst hk; show br < w.heap.size; omega)))) ((fun ch a w' hd hX => hX.elim)) ?_
  simp only [List.take_succ_cons, List.take_zero, List.drop_succ_cons, List.drop_zero]
  (refine Xg.rel_det (Xk.wanted_none (by rfl)) (by rfl) (fun K hK => ?_); apply Exists.intro; refine ⟨fun W hx hp => ?_, ?_⟩; (have c := hx.cell (show w.drew.cell? ⟨gout, 0, none⟩ = some v from G1.out) (by omega); go_simp; first | exact ⟨rfl, rfl⟩ | ((try refine ⟨by kernel_rfl, ?_⟩); (fail))); (go_simp; refine hK _ ?_; clear hK K))
  (refine Xg.rel_det (Xk.wanted_none (by rfl)) (by rfl) (fun K hK => ?_); apply Exists.intro; refine ⟨fun W hx hp => ?_, ?_⟩; (have c := hx.cell (show w.drew.cell? ⟨grb, 0, none⟩ = some (rp br) from G2.out) (by omega); go_simp; first | exact ⟨rfl, rfl⟩ | ((try refine ⟨by kernel_rfl, ?_⟩); (fail))); (go_simp; refine hK _ ?_; clear hK K))
  (refine Xg.rel_loud (by rfl) (by rfl) rfl (fun W hx hp => ?_) (fun u K hK => ?_); (go_simp; ((refine (name_any br r _ (HR.out.drew.ext hx)).mono ?_); intro e w2 h; rw [hn] at h; obtain ⟨v', rfl, rfl, h1, h2, h3⟩ := h; exact Or.inl ⟨_, rfl, h1, ⟨rfl, h2, h3⟩, fun b hb => by cases hb⟩)); (go_simp; refine hK _ ?_; clear hK K))
  (refine Xg.rel_make (by rfl) (by rfl) (by decide) (fun W hx hp => ?_) (fun u2 K hK => ?_); ((obtain ⟨rfl, -⟩ := Xe.facts_head hp (by kernel_rfl)); go_simp; exact ⟨(Below.refl _ _).alloc (Nat.le_refl _) _, ⟨W.heap.size, rfl, by simpa using hx.size, by simp⟩, fun b hb => by cases hb; exact ⟨.inr (Nat.le_refl _), by simp⟩⟩); (go_simp; refine hK _ ?_; clear hK K))
  refine Xg.rel_nil (fun W hx hp hg => ?_)
  obtain ⟨⟨g, rfl, hge, hgc⟩, ⟨rfl, hr1, hk1⟩, -⟩ := hp
  have hx' : Turn br w W := (Turn.drew (Turn.refl _ _)).trans hx
  have hsz := hx'.size
  have hoW := own_turn HO.out hx' (by omega)
  have hbW := hx'.held HB.out (by omega)
  go_wp2_with (at_builtin; refine Xo.wpList_appb B rfl _ _ 29 rfl 9 i0 _ 1 16 Tryz.underlying29 Hi.out Hz0.out Hz1.out Hz2.out rfl (by decide) v xs.length (strsC xs) rfl hoW g 0 1 1 [bs x] rfl (by decide) rfl (fun j u hj => by match j, hj with | 0, hj => (simp at hj; subst hj; exact hgc)) (Xo.one1 rfl) (by omega) (by omega) ?_; intro v' w' ho' hg' hk'; obtain ⟨z, cz, rfl⟩ := ownForm ho' (by omega); have hlt := hoW.lt; have hbW' := (hg'.block gout (Array.getElem?_eq_some_iff.1 hbW).1 (fun e => by have := (hlt gout e.symm).1; omega)).trans hbW; have hgc' : w'.cell? ⟨gout, 0, none⟩ = some v := (by simp [World.cell?, hbW']); have hgf := frozen_of_row w' gout 0 _ _ hbW'; have HK := Lib.hid ((Kept.of_turn (B := B) (ks := [br, gout]) hx' (by simp)).grown hg' (fun b hb => (hlt b hb).1)); have HR1 := Lib.hid (hr1.grown hg' (fun b hb => by have := (hlt b hb).1; omega)); have HO' := Lib.hid ho'; have HB' := Lib.hid hbW'; clear hg' hk' ho' hbW' hx hx' hbW hoW hlt hr1)
  go_wp2
  go_end0
  refine ⟨rfl, ⟨⟨.slice (some ⟨z, 0, none⟩) (xs.length + 1) cz, ?_, ?_⟩, HK.out.setCell (by simp) _ _⟩, Rd.setCell HR1.out h1 _ _, hk1⟩
  ·rw [heap_setCell_same w' gout 0 _ _ _ HB'.out]; simp
  ·have := own_set HO'.out h3 0 (.slice (some ⟨z, 0, none⟩) (xs.length + 1) cz)
   simpa [strsC] using this
end Go.Proofs.YtkpmclddjkebeaaGreatDoor
namespace Go.Proofs.YtkpmclddjkebeaaGreatDoor
open Go.RowKit Go.WideMaps Go.Maps
def dR : List (P12.T × Int) → DataW Unit
 | [] => .map []
 | x :: l => (dR l).put (.string x.1) (.lit (.int .i64 x.2))
theorem dR_map : ∀ l, IsMap (dR l)
 | [] => isMap_empty
 | x :: l => (dR_map l).put _ _
theorem dR_at (s : P12.T) : ∀ l, (dR l).atKey (.string s) (.lit (.int .i64 0)) = .lit (.int .i64 (((l.find? fun x => x.1 == s).map (·.2)).getD 0))
 | [] => rfl
 | x :: l => by
  rw [dR, List.find?_cons]
  by_cases h : x.1 = s
  ·subst h
   rw [atKey_put_same (dR_map l) (by trivial)]
   simp
  ·rw [atKey_put_other (by intro e; cases e; exact h rfl), dR_at s l, show (x.1 == s) = false by simpa using h]
theorem dR_has (s : P12.T) : ∀ l, Maps.has (dR l) (.string s) = (l.find? fun x => x.1 == s).isSome
 | [] => rfl
 | x :: l => by
  rw [dR, List.find?_cons]
  by_cases h : x.1 = s
  ·subst h
   rw [has_put_same (dR_map l) (by trivial)]
   simp only [beq_self_eq_true, Option.isSome_some]
  ·rw [has_put_other (by intro e; cases e; exact h rfl), dR_has s l, show (x.1 == s) = false by simpa using h]
theorem lawS : Keyed Tryz.prog 9 := string_keyed Tryz.underlying9
theorem zeroI (w : World) : (zeroValue 3).run Tryz.prog w = .ok (.int .i64 0) w := by kernel_rfl
abbrev mapI (w : World) (b n : Nat) (D : DataW Unit) : Prop := w.ownsMap Tryz.prog 9 (plainElem Tryz.prog 3) b n D
theorem lay_one {w : World} {b n : Nat} {l : List (P12.T × Int)} (h : mapI w b n (dR l)) (hn : n ≤ 100) (s : P12.T) (k : Int) (hs : s.length ≤ 100) (hk : (Lit.int .i64 k).wf = true) :
  ∃ w', (Instr.mapUpdate 220 (.map (some b)) (.string ⟨s.toArray⟩) (.int .i64 k)).run Tryz.prog w = .ok () w' ∧ mapI w' b (n + 1) (dR ((s, k) :: l)) ∧ w.grownBy w' (some b) := by
 have hkey : keyOf Tryz.prog 9 (.string ⟨s.toArray⟩) = some (.string s) := by
  have := keyOf_string_mk Tryz.underlying9 (s := ⟨s.toArray⟩) (by show s.length ≤ _; unfold maxLen; omega)
  simpa using this
 exact h.update lawS Tryz.underlying220 (by unfold maxLen; omega) hkey (plainElem_int Tryz.underlying3 hk)
def numOf (l : List (P12.T × Int)) (s : P12.T) : Int := ((l.find? fun x => x.1 == s).map (·.2)).getD 0
theorem look_one {w : World} {b n : Nat} {l : List (P12.T × Int)} (h : mapI w b n (dR l)) (s : P12.T) (hs : s.length ≤ 100000) :
  (Instr.lookup 220 (.map (some b)) (.string ⟨s.toArray⟩) false).run Tryz.prog w = .ok (.int .i64 (numOf l s)) w := by
 have hkey : keyOf Tryz.prog 9 (.string ⟨s.toArray⟩) = some (.string s) := by
  have := keyOf_string_mk Tryz.underlying9 (s := ⟨s.toArray⟩) (by show s.length ≤ _; unfold maxLen; omega)
  simpa using this
 obtain ⟨c, hr, hc, -⟩ := h.lookup_int lawS Tryz.underlying220 Tryz.underlying3 (zeroI _) hkey
 rw [dR_at] at hc
 rw [hr]
 have : c = numOf l s := by
  have h1 := DataW.lit.inj hc
  have h2 := (Lit.int.inj h1).2
  exact h2.symm
 rw [this]
theorem look_ok {w : World} {b n : Nat} {l : List (P12.T × Int)} (h : mapI w b n (dR l)) (s : P12.T) (hs : s.length ≤ 100000) :
  (Instr.lookup 220 (.map (some b)) (.string ⟨s.toArray⟩) true).run Tryz.prog w = .ok (.tuple #[.int .i64 (numOf l s), .bool (l.find? fun x => x.1 == s).isSome]) w := by
 have hkey : keyOf Tryz.prog 9 (.string ⟨s.toArray⟩) = some (.string s) := by
  have := keyOf_string_mk Tryz.underlying9 (s := ⟨s.toArray⟩) (by show s.length ≤ _; unfold maxLen; omega)
  simpa using this
 obtain ⟨v, ps, hr, hv⟩ := h.look_ok lawS Tryz.underlying220 (zeroI _) (plainElem_int (q := .i64) (a := 0) Tryz.underlying3 (by decide)) hkey
 obtain ⟨c, rfl, hc, -⟩ := plainElem_int_inv Tryz.underlying3 hv
 have hc := congrArg Prod.fst hc
 rw [dR_at] at hc
 rw [hr, dR_has]
 have : c = numOf l s := by
  have h1 := DataW.lit.inj hc
  have h2 := (Lit.int.inj h1).2
  exact h2.symm
 rw [this]
theorem ext_of_grown {B : Nat} {w w' w'' : World} (h : Below B w w') (hs : B ≤ w'.heap.size) (hg : w'.grownBy w'' (some B)) : Below B w w'' :=
 h.grown hg hs (fun j hj => by cases hj; exact Nat.le_refl _)
def functionsL : List (P12.T × Int) := [([77, 65, 88], 23), ([77, 73, 78], 22), ([83, 85, 77], 21), ([67, 79, 85, 78, 84], 20)]
theorem functions_any (w : World) : Calls Tryz.prog 205 #[] w fun e w' => e = .returned (.map (some w.heap.size)) ∧ mapI w' w.heap.size 4 (dR functionsL) ∧ Xk.Ext w w' := by
 have hmm := @run_makeMap Tryz.prog
 have o0 : mapI (w.alloc (.map #[] 0)) w.heap.size 0 (dR []) := World.ownsMap_made _ _ _ _
 have x0 : Below w.heap.size w (w.alloc (.map #[] 0)) := (Below.refl _ _).alloc (Nat.le_refl _) _
 obtain ⟨w1, h1, o1, g1⟩ := lay_one o0 (by decide) [67, 79, 85, 78, 84] 20 (by decide) (by decide)
 have x1 := ext_of_grown x0 x0.size g1
 obtain ⟨w2, h2, o2, g2⟩ := lay_one o1 (by decide) [83, 85, 77] 21 (by decide) (by decide)
 have x2 := ext_of_grown x1 x1.size g2
 obtain ⟨w3, h3, o3, g3⟩ := lay_one o2 (by decide) [77, 73, 78] 22 (by decide) (by decide)
 have x3 := ext_of_grown x2 x2.size g3
 obtain ⟨w4, h4, o4, g4⟩ := lay_one o3 (by decide) [77, 65, 88] 23 (by decide) (by decide)
 have x4 := ext_of_grown x3 x3.size g4
 have O := Lib.hid o4
 have X := Lib.hid x4
 clear o0 x0 o1 x1 o2 x2 o3 x3 o4 x4 g1 g2 g3 g4
 go_enter Tryz.func205, Tryz.ntmps205
 go_wp2
 go_ret
 exact ⟨rfl, O.out, X.out⟩
def operatorsL : List (P12.T × Int) := [([124, 124], 14), ([37], 13), ([47], 12), ([42], 11), ([45], 10), ([43], 9), ([62, 61], 8), ([62], 7), ([60, 61], 6), ([60], 5), ([60, 62], 4), ([61], 3), ([65, 78, 68], 2), ([79, 82], 1)]
theorem operators_any (w : World) : Calls Tryz.prog 237 #[] w fun e w' => e = .returned (.map (some w.heap.size)) ∧ mapI w' w.heap.size 14 (dR operatorsL) ∧ Xk.Ext w w' := by
 have hmm := @run_makeMap Tryz.prog
 have o0 : mapI (w.alloc (.map #[] 0)) w.heap.size 0 (dR []) := World.ownsMap_made _ _ _ _
 have x0 : Below w.heap.size w (w.alloc (.map #[] 0)) := (Below.refl _ _).alloc (Nat.le_refl _) _
 obtain ⟨w1, h1, o1, g1⟩ := lay_one o0 (by decide) [79, 82] 1 (by decide) (by decide)
 have x1 := ext_of_grown x0 x0.size g1
 obtain ⟨w2, h2, o2, g2⟩ := lay_one o1 (by decide) [65, 78, 68] 2 (by decide) (by decide)
 have x2 := ext_of_grown x1 x1.size g2
 obtain ⟨w3, h3, o3, g3⟩ := lay_one o2 (by decide) [61] 3 (by decide) (by decide)
 have x3 := ext_of_grown x2 x2.size g3
 obtain ⟨w4, h4, o4, g4⟩ := lay_one o3 (by decide) [60, 62] 4 (by decide) (by decide)
 have x4 := ext_of_grown x3 x3.size g4
 obtain ⟨w5, h5, o5, g5⟩ := lay_one o4 (by decide) [60] 5 (by decide) (by decide)
 have x5 := ext_of_grown x4 x4.size g5
 obtain ⟨w6, h6, o6, g6⟩ := lay_one o5 (by decide) [60, 61] 6 (by decide) (by decide)
 have x6 := ext_of_grown x5 x5.size g6
 obtain ⟨w7, h7, o7, g7⟩ := lay_one o6 (by decide) [62] 7 (by decide) (by decide)
 have x7 := ext_of_grown x6 x6.size g7
 obtain ⟨w8, h8, o8, g8⟩ := lay_one o7 (by decide) [62, 61] 8 (by decide) (by decide)
 have x8 := ext_of_grown x7 x7.size g8
 obtain ⟨w9, h9, o9, g9⟩ := lay_one o8 (by decide) [43] 9 (by decide) (by decide)
 have x9 := ext_of_grown x8 x8.size g9
 obtain ⟨w10, h10, o10, g10⟩ := lay_one o9 (by decide) [45] 10 (by decide) (by decide)
 have x10 := ext_of_grown x9 x9.size g10
 obtain ⟨w11, h11, o11, g11⟩ := lay_one o10 (by decide) [42] 11 (by decide) (by decide)
 have x11 := ext_of_grown x10 x10.size g11
 obtain ⟨w12, h12, o12, g12⟩ := lay_one o11 (by decide) [47] 12 (by decide) (by decide)
 have x12 := ext_of_grown x11 x11.size g12
 obtain ⟨w13, h13, o13, g13⟩ := lay_one o12 (by decide) [37] 13 (by decide) (by decide)
 have x13 := ext_of_grown x12 x12.size g13
 obtain ⟨w14, h14, o14, g14⟩ := lay_one o13 (by decide) [124, 124] 14 (by decide) (by decide)
 have x14 := ext_of_grown x13 x13.size g14
 have O := Lib.hid o14
 have X := Lib.hid x14
 clear o0 x0 o1 x1 o2 x2 o3 x3 o4 x4 o5 x5 o6 x6 o7 x7 o8 x8 o9 x9 o10 x10 o11 x11 o12 x12 o13 x13 o14 x14 g1 g2 g3 g4 g5 g6 g7 g8 g9 g10 g11 g12 g13 g14
 go_enter Tryz.func237, Tryz.ntmps237
 go_wp2
 go_ret
 exact ⟨rfl, O.out, X.out⟩
theorem setCells_size (g : Nat) : ∀ (vs : List Value) (o : Nat) (W : World), (W.setCells g o vs).heap.size = W.heap.size
 | [], _, _ => rfl
 | v :: vs, o, W => by rw [World.setCells, setCells_size g vs, World.size_setCell]
theorem setCells_other (g : Nat) : ∀ (vs : List Value) (o : Nat) (W : World) {b : Nat}, b ≠ g → (W.setCells g o vs).heap[b]? = W.heap[b]?
 | [], _, _, _, _ => rfl
 | v :: vs, o, W, b, hb => by rw [World.setCells, setCells_other g vs _ _ hb, heap_setCell_other W ⟨g, o, none⟩ b v (fun e => hb (by simpa using e))]
theorem setCells_same {g : Nat} {T : TypeId} : ∀ (vs : List Value) (o : Nat) (W : World) (c : Array Value), W.heap[g]? = some (.cells c T) → o + vs.length ≤ c.size →
  ∃ c', (W.setCells g o vs).heap[g]? = some (.cells c' T) ∧ c'.size = c.size ∧ (∀ j, j < vs.length → c'[o + j]? = vs[j]?) ∧ ∀ j, (j < o ∨ o + vs.length ≤ j) → c'[j]? = c[j]?
 | [], o, W, c, h, _ => ⟨c, h, rfl, fun j hj => absurd hj (by simp), fun _ _ => rfl⟩
 | v :: vs, o, W, c, h, hl => by
  simp only [List.length_cons] at hl
  have h1 := heap_setCell_same W g o c T v h
  obtain ⟨c', e1, e2, e3, e4⟩ := setCells_same vs (o + 1) (W.setCell ⟨g, o, none⟩ v) _ h1 (by simp; omega)
  refine ⟨c', e1, by rw [e2]; simp, fun j hj => ?_, fun j hj => ?_⟩
  ·cases j with
   | zero =>
    rw [Nat.add_zero, e4 o (by omega)]
    simp [show o < c.size by omega]
   | succ j =>
    have := e3 j (by simpa using hj)
    rw [show o + (j + 1) = o + 1 + j by omega, this]
    simp
  ·simp only [List.length_cons] at hj
   rw [e4 j (by omega)]
   rw [Array.getElem?_setIfInBounds_ne (by omega)]
theorem setCells_all {g : Nat} {T : TypeId} {W : World} {c : Array Value} (h : W.heap[g]? = some (.cells c T)) (vs : List Value) (hl : vs.length = c.size) : (W.setCells g 0 vs).heap[g]? = some (.cells vs.toArray T) := by
 obtain ⟨c', e1, e2, e3, -⟩ := setCells_same vs 0 W c h (by omega)
 rw [e1]
 congr 2
 apply Array.ext_getElem?
 intro i
 by_cases hi : i < vs.length
 ·have := e3 i hi
  rw [Nat.zero_add] at this
  rw [this]; simp
 ·rw [Array.getElem?_eq_none (by omega), Array.getElem?_eq_none (by simp; omega)]
abbrev exprO (l : List Value) : Obj := .cells l.toArray 35
theorem cells_of10 {W : World} {b : Nat} {a0 a1 a2 a3 a4 a5 a6 a7 a8 a9 : Value} {T : TypeId} (h : W.heap[b]? = some (.cells #[a0, a1, a2, a3, a4, a5, a6, a7, a8, a9] T)) :
  W.cell? ⟨b, 0, none⟩ = some a0 ∧ W.cell? ⟨b, 1, none⟩ = some a1 ∧ W.cell? ⟨b, 2, none⟩ = some a2 ∧ W.cell? ⟨b, 3, none⟩ = some a3 ∧ W.cell? ⟨b, 4, none⟩ = some a4 ∧
  W.cell? ⟨b, 5, none⟩ = some a5 ∧ W.cell? ⟨b, 6, none⟩ = some a6 ∧ W.cell? ⟨b, 7, none⟩ = some a7 ∧ W.cell? ⟨b, 8, none⟩ = some a8 ∧ W.cell? ⟨b, 9, none⟩ = some a9 := by
 refine ⟨?_, ?_, ?_, ?_, ?_, ?_, ?_, ?_, ?_, ?_⟩ <;> simp [World.cell?, h]
theorem frozen10 {W : World} {b : Nat} {c : Array Value} {T : TypeId} (h : W.heap[b]? = some (.cells c T)) :
  W.frozen? ⟨b, 0, none⟩ = false ∧ W.frozen? ⟨b, 1, none⟩ = false ∧ W.frozen? ⟨b, 2, none⟩ = false ∧ W.frozen? ⟨b, 3, none⟩ = false ∧ W.frozen? ⟨b, 4, none⟩ = false ∧
  W.frozen? ⟨b, 5, none⟩ = false ∧ W.frozen? ⟨b, 6, none⟩ = false ∧ W.frozen? ⟨b, 7, none⟩ = false ∧ W.frozen? ⟨b, 8, none⟩ = false ∧ W.frozen? ⟨b, 9, none⟩ = false :=
 ⟨frozen_of_row W b 0 _ _ h, frozen_of_row W b 1 _ _ h, frozen_of_row W b 2 _ _ h, frozen_of_row W b 3 _ _ h, frozen_of_row W b 4 _ _ h, frozen_of_row W b 5 _ _ h, frozen_of_row W b 6 _ _ h, frozen_of_row W b 7 _ _ h, frozen_of_row W b 8 _ _ h, frozen_of_row W b 9 _ _ h⟩
theorem range_of_block {W : World} {g : Nat} {l : List Value} {T : TypeId} (h : W.heap[g]? = some (.cells l.toArray T)) : W.rangeAt g 0 l := fun j v hj => by
 unfold World.cell?
 simp only [h, Nat.zero_add]
 simpa using hj
theorem ExprAt.turn {S : Nat → Prop} {br : Nat} {w w' : World} {e : P12.E} {l : List Value} (h : ExprAt S w e l) (ht : Turn br w w') (hS : ∀ b, S b → b ≠ br) : ExprAt S w' e l :=
 h.keep (fun b hb hlt => ht.block hlt (hS b hb)) (fun b hb _ => hb)
theorem ExprAt.ext {S : Nat → Prop} {w w' : World} {e : P12.E} {l : List Value} (h : ExprAt S w e l) (hx : Xk.Ext w w') : ExprAt S w' e l :=
 h.keep (fun b hb hlt => hx.block b hlt) (fun b hb _ => hb)
theorem ExprAt.mono {S S' : Nat → Prop} {w : World} {e : P12.E} {l : List Value} (h : ExprAt S w e l) (hS : ∀ b, S b → b < w.heap.size → S' b) : ExprAt S' w e l :=
 h.keep (fun b _ _ => rfl) hS
theorem ExprAt.set {S : Nat → Prop} {w : World} {e : P12.E} {l : List Value} (h : ExprAt S w e l) {g : Nat} (hg : ¬ S g) (o : Nat) (u : Value) : ExprAt S (w.setCell ⟨g, o, none⟩ u) e l :=
 h.keep (fun b hb hlt => heap_setCell_other w ⟨g, o, none⟩ b u (fun e => hg ((show b = g by simpa using e) ▸ hb))) (fun b hb _ => hb)
theorem ExprAt.sets {S : Nat → Prop} {w : World} {e : P12.E} {l : List Value} (h : ExprAt S w e l) {g : Nat} (hg : ¬ S g) (vs : List Value) (o : Nat) : ExprAt S (w.setCells g o vs) e l :=
 h.keep (fun b hb hlt => setCells_other g vs o w (fun e => hg (e ▸ hb))) (fun b hb _ => hb)
end Go.Proofs.YtkpmclddjkebeaaGreatDoor
namespace Go.Proofs.YtkpmclddjkebeaaGreatDoor
open Go.RowKit Go.WideMaps Go.Maps
structure OpsAt (gs br : Nat) (ops : List (P12.T × Int)) (w : World) : Prop where
 cell : ∀ (j : Nat) (o : P12.T × Int), ops[j]? = some o → w.cell? ⟨gs, j, none⟩ = some (bs o.1)
 lo : br < gs
 num : ∀ o ∈ ops, numOf operatorsL o.1 = o.2 ∧ o.1 ≠ [] ∧ o.1.length ≤ 100
 lt : gs < w.heap.size
theorem OpsAt.turn {gs br : Nat} {ops : List (P12.T × Int)} {w w' : World} (h : OpsAt gs br ops w) (ht : Turn br w w') : OpsAt gs br ops w' :=
 ⟨fun j o hj => ht.cell (h.cell j o hj) (by have := h.lo; omega), h.lo, h.num, Nat.lt_of_lt_of_le h.lt ht.size⟩
theorem map_same {w w' : World} {b n : Nat} {D : DataW Unit} (h : mapI w b n D) (e : w'.heap[b]? = w.heap[b]?) : mapI w' b n D := by
 obtain ⟨es, clock, hb, hr⟩ := h
 exact ⟨es, clock, e.trans hb, hr⟩
def MapFact (B : Nat) (l : List (P12.T × Int)) (v : Value) (W : World) : Prop := ∃ b n, v = .map (some b) ∧ B ≤ b ∧ b < W.heap.size ∧ mapI W b n (dR l)
theorem MapFact.turn {B br : Nat} {l : List (P12.T × Int)} (hB : br < B) : ∀ v w w', Turn br w w' → MapFact B l v w → MapFact B l v w' := by
 rintro v w w' ht ⟨b, n, rfl, h1, h2, h3⟩
 exact ⟨b, n, rfl, h1, Nat.lt_of_lt_of_le h2 ht.size, map_same h3 (ht.block h2 (by omega))⟩
def PairFact (B : Nat) (e : P12.E) (l : List Value) (v : Value) (W : World) : Prop := ∃ g l2, v = .slice (some ⟨g, 0, none⟩) 2 2 ∧ B ≤ g ∧ W.heap[g]? = some (.cells (l ++ l2).toArray 35) ∧ ExprAt (fun b => B ≤ b) W e l2
theorem PairFact.turn {B br : Nat} {e : P12.E} {l : List Value} (hB : br < B) : ∀ v w w', Turn br w w' → PairFact B e l v w → PairFact B e l v w' := by
 rintro v w w' ht ⟨g, l2, rfl, h1, h2, h3⟩
 exact ⟨g, l2, rfl, h1, ht.held h2 (by omega), h3.turn ht (fun b hb => by omega)⟩
def ExprFact (br B : Nat) (e : P12.E) (r r2 : P12.R) (v : Value) (W : World) : Prop := ∃ l2, v = .agg l2.toArray ∧ ExprAt (fun b => B ≤ b) W e l2 ∧ Rd br r2 W ∧ P12.Keeps r r2
theorem ExprFact.ext {br B : Nat} {e : P12.E} {r r2 : P12.R} : ∀ v w w', Xk.Ext w w' → ExprFact br B e r r2 v w → ExprFact br B e r r2 v w' := by
 rintro v w w' hx ⟨l2, rfl, h1, h2, h3⟩
 exact ⟨l2, rfl, h1.ext hx, h2.ext hx, h3⟩
abbrev zero10 : Array Value := #[.int .i64 0, .int .i64 0, .int .i64 0, .int .i64 0, .string ⟨#[]⟩, .string ⟨#[]⟩, .string ⟨#[]⟩, .int .i64 0, .int .i64 0, .slice none 0 0]
theorem find_none {ops : List (P12.T × Int)} {r : P12.R} (h : ∀ (j : Nat) (o : P12.T × Int), ops[j]? = some o → P12.isT o.1 r = false) : ops.find? (fun o : P12.T × Int => P12.isT o.1 r) = none := by
 rw [List.find?_eq_none]
 intro o ho
 obtain ⟨j, hj, e⟩ := List.mem_iff_getElem.1 ho
 rw [h j o (by rw [List.getElem?_eq_getElem hj, e])]
 simp
theorem find_at {ops : List (P12.T × Int)} {r : P12.R} : ∀ {k : Nat} {o : P12.T × Int}, ops[k]? = some o → P12.isT o.1 r = true → (∀ (j : Nat) (o' : P12.T × Int), j < k → ops[j]? = some o' → P12.isT o'.1 r = false) → ops.find? (fun o : P12.T × Int => P12.isT o.1 r) = some o := by
 induction ops with
 | nil => intro k o h; simp at h
 | cons x l ih =>
  intro k o h ht hb
  rw [List.find?_cons]
  cases k with
  | zero =>
   simp only [List.getElem?_cons_zero, Option.some.injEq] at h
   subst h
   rw [ht]
  | succ k =>
   rw [hb 0 x (by omega) rfl]
   exact ih (by simpa using h) ht fun j o' hj ho => hb (j + 1) o' (by omega) (by simpa using ho)
theorem binary_any (br gs : Nat) (F : FuncId) (hF : Ent F) (part : P12.R → Except P12.Er (P12.E × P12.R)) (ops : List (P12.T × Int)) (r0 : P12.R) (w : World) (h : Rd br r0 w) (ho : OpsAt gs br ops w) (hn : ops.length ≤ 100)
  (HP : ∀ r W, P12.Keeps r0 r → Rd br r W → Calls Tryz.prog F #[rp br] W (Got br W r (ExprV W) (part r))) :
  Calls Tryz.prog 202 #[rp br, .func (.func F) #[rp br] #[], .slice (some ⟨gs, 0, none⟩) ops.length ops.length] w (Got br w r0 (ExprV w) (P12.binary part ops r0)) := by
 have HR := Lib.hid h
 have HO := Lib.hid ho
 have HPP := Lib.hid HP
 have lr := h.lt
 have hcf := hF.run
 have hci := hF.no
 clear h ho HP hF
 cases hp : part r0 with
 | error er =>
  rw [show P12.binary part ops r0 = .error er by unfold P12.binary; rw [hp]]
  go_enter Tryz.func202, Tryz.ntmps202
  go_wp2_with fail
  refine (HPP.out r0 _ (P12.Keeps.refl _) (rdx (HR.out))).mono ?_
  intro e w1 h
  rw [hp] at h
  obtain ⟨rfl, ht⟩ := h
  simp only [faults]
  go_wp2
  exact ⟨rfl, rfl, Turn.trans (tu trivial) ht⟩
 | ok p =>
  obtain ⟨e0, r1⟩ := p
  rw [show P12.binary part ops r0 = P12.binF part ops r1.l.length e0 r1 by unfold P12.binary; rw [hp]]
  generalize hres : P12.binF part ops r1.l.length e0 r1 = res
  have HRES := Lib.hid hres
  clear hres
  go_enter Tryz.func202, Tryz.ntmps202
  go_wp2_with fail
  refine (HPP.out r0 _ (P12.Keeps.refl _) (rdx (HR.out))).mono ?_
  intro e w1 h
  rw [hp] at h
  obtain ⟨v1, rfl, ⟨l1, rfl, he1⟩, ht1, hr1, hk1⟩ := h
  obtain ⟨kd, op, vk, vi, vs, tb, nm, pp, pm, pc, rfl⟩ := he1.form
  go_wp2
  have lw1 := ht1.size
  simp only [World.size_alloc] at lw1
  go_loopw [8] (fun _ wr => ∃ (e : P12.E) (l : List Value) (r : P12.R) (f : Nat), Rd br r wr ∧ P12.Keeps r0 r ∧ Turn br w wr ∧ wr.heap[w.heap.size]? = some (exprO zero10.toList) ∧ wr.heap[w1.heap.size]? = some (exprO l) ∧ ExprAt (fun b => w.heap.size < b ∧ b ≠ w1.heap.size) wr e l ∧ r.l.length ≤ f ∧ P12.binF part ops f e r = res) (fun _ wr => rdLen br wr)
  case atStart => exact ⟨e0, _, r1, r1.l.length, (rdx (hr1)), hk1, (by repeat (first | with_reducible exact (Turn.trans (tu trivial) ht1) | with_reducible exact Turn.refl _ _ | ((with_reducible refine Turn.setNew ?_ (Or.inl ?_) _ _); rotate_left; exact Xk.sz) | (with_reducible refine Turn.setNew ?_ (Or.inr rfl) _ _) | ((with_reducible refine Turn.setCells (Or.inl ?_) _ _ ?_); exact Xk.sz) | (with_reducible refine Turn.alloc ?_ _) | (with_reducible refine Turn.drew ?_) | (with_reducible refine Turn.exw ?_ _))), by
   have h1 := ht1.held (heap_new w (exprO zero10.toList)) (by omega)
   exact ((Turn.alloc (Turn.refl br w1) _).held h1 (by omega)), heap_new w1 _, (he1.mono (fun b hb hlt => ⟨by simp only [World.size_alloc] at hb; omega, by omega⟩)).ext ((Below.refl _ _).alloc (Nat.le_refl _) _), Nat.le_refl _, HRES.out⟩
  case round =>
   obtain ⟨Wo, hwo⟩ : ∃ W, W = wr := ⟨_, rfl⟩
   subst hwo
   obtain ⟨e, l, r, f, hr, hk, ht, hz, hb7, he, hf, hres⟩ := hrel
   obtain ⟨kd, op, vk, vi, vs, tb, nm, pp, pm, pc, rfl⟩ := he.form
   have HR1 := Lib.hid hr
   have HK := Lib.hid hk
   have HT := Lib.hid ht
   have HZ := Lib.hid hz
   have HB7 := Lib.hid hb7
   have HE := Lib.hid he
   have HF := Lib.hid hf
   have HRS := Lib.hid hres
   have hlenr := hr.len
   have hpos := hr.good.pos
   have hO2 := HO.out.turn ht
   have HO2 := Lib.hid hO2
   have lwr := ht.size
   have lg := hO2.lt
   have lrr := hr.lt
   have l7 := (Array.getElem?_eq_some_iff.1 hb7).1
   clear hr hk ht hz hb7 he hf hres hO2
   go_wp2
   go_loopw [15, 8] (fun x s wr2 => ∃ k : Nat, k ≤ ops.length ∧ x = .int .i64 k ∧ s = .string ⟨#[]⟩ ∧ Xk.Ext Wo wr2 ∧ ∀ (j : Nat) (o : P12.T × Int), j < k → ops[j]? = some o → P12.isT o.1 r = false) (fun x _ _ => ops.length - (intOf x).toNat)
   case atStart => exact ⟨0, Nat.zero_le _, rfl, rfl, Below.refl _ _, fun j o hj => absurd hj (by omega)⟩
   case round =>
    obtain ⟨k, hkn, rfl, rfl, hx, hno⟩ := hrel
    have HX := Lib.hid hx
    have HNO := Lib.hid hno
    have hsx := hx.size
    clear hx hno
    by_cases hlt : k < ops.length
    ·obtain ⟨o, hok⟩ : ∃ o, ops[k]? = some o := ⟨_, List.getElem?_eq_getElem hlt⟩
     have hkb : (k : Int) < (ops.length : Int) := by omega
     have hc := Xk.ext_cell HX.out (HO2.out.cell k o hok)
     obtain ⟨hnum, hne, hol⟩ := HO2.out.num o (List.mem_of_getElem? hok)
     have HOK := Lib.hid hok
     clear hok
     cases hs : P12.isT o.1 r
     ·go_wp2_with (go_at_call 20; refine (has_no br r o.1 _ (HR1.out.ext HX.out) hs).mono ?_; rintro e w' ⟨rfl, hb⟩; obtain ⟨p, rfl⟩ := Xk.exw_of hb; clear hb)
      go_roundw
      case rel => exact ⟨k + 1, by omega, by go_num, rfl, Xk.Ext.trans HX.out (Xk.ext_exw _ _), fun j o' hj ho' => by
       by_cases hjk : j = k
       ·subst hjk
        rw [HOK.out] at ho'
        cases ho'
        exact hs
       ·exact HNO.out j o' (by omega) ho'⟩
      case measure => simp [intOf]; omega
     ·go_wp2_with fail
      go_at_call 20
      refine (has_yes br r o.1 _ (HR1.out.ext HX.out) hs).mono ?_
      rintro e w3 ⟨rfl, ht3, hr3⟩
      have hemp : o.1.isEmpty = false := by
       cases ho : o.1 with
       | nil => exact absurd ho hne
       | cons a b => rfl
      go_wp2
      have hx3 : Turn br Wo w3 := Turn.trans (Turn.of_ext HX.out) ht3
      have hb3 := hx3.held HB7.out (by omega)
      have hz3 := hx3.held HZ.out (by omega)
      have he3 := HE.out.turn hx3 (fun b hb => by omega)
      have HB3 := Lib.hid hb3
      have HZ3 := Lib.hid hz3
      have HE3 := Lib.hid he3
      have HR3 := Lib.hid hr3
      have HT3 := Lib.hid (Turn.trans HT.out hx3)
      have HK3 := Lib.hid (HK.out.trans (P12.keeps_takes r))
      have ls3 := hx3.size
      have l73 := (Array.getElem?_eq_some_iff.1 hb3).1
      have hRS := HRS.out
      have hf1 := HF.out
      obtain ⟨f, rfl⟩ : ∃ k, f = k + 1 := ⟨f - 1, by omega⟩
      rw [P12.binF, find_at HOK.out hs (fun j o' hj ho' => HNO.out j o' hj ho')] at hRS
      dsimp only at hRS
      have hlt3 := P12.takes_lt HR1.out.good (P12.isT_kind hs)
      clear hb3 hz3 he3 hr3 hx3 ht3 hc
      cases hp2 : part (P12.takes r) with
      | error er =>
       rw [hp2] at hRS
       dsimp only at hRS
       subst hRS
       refine Xg.wp_region_rel (E := Turn br) (Xe.pre_ES _) (fun ch W => Ending.panicked ch = faults er ∧ Turn br w3 W) 5 7 (fun _ => none) (fun _ _ h => by cases h) (fun _ _ _ _ h => by cases h) [(0, MapFact w3.heap.size operatorsL), (5, fun _ _ => False), (6, fun _ _ => False)] (by kernel_rfl) (by kernel_rfl) (Xg.stable_one ((by
               intro y hy
               simp only [List.mem_cons, List.not_mem_nil, or_false] at hy
               rcases hy with rfl | rfl | rfl
               ·rw [if_neg (show ¬ (0 = 5) by decide)]; exact MapFact.turn (by omega)
               ·rw [if_pos rfl]; exact fun _ _ _ _ h => h
               ·rw [if_neg (show ¬ (6 = 5) by decide)]; exact fun _ _ _ _ h => h))) ((fun ch a w' hd hX => ⟨hd, hX.1, Turn.trans HT3.out hX.2⟩)) ?_
       simp only [List.take_succ_cons, List.take_zero, List.drop_succ_cons, List.drop_zero]
       (refine Xg.rel_make (by rfl) (by rfl) (by decide) (fun W hx hp => ?_) (fun u0 K hK => ?_); (go_simp; exact (operators_any W).mono (fun e w' h => by obtain ⟨rfl, hm, hx'⟩ := h; exact ⟨_, rfl, hx', ⟨W.heap.size, 14, rfl, (by have := hx.size; simpa using this), (by obtain ⟨es, cl, hb, -⟩ := hm; exact (Array.getElem?_eq_some_iff.1 hb).1), hm⟩, fun b hb => by cases hb⟩)); (go_simp; refine hK _ ?_; clear hK K))
       refine Xg.gs ?_
       (refine Xg.rel_det (Xk.wanted_none (by rfl)) (by rfl) (fun K hK => ?_); apply Exists.intro; refine ⟨fun W hx hp => ?_, ?_⟩; ((obtain ⟨b, n, hu, h1, h2, h3⟩ := Xe.facts_head hp (by kernel_rfl); have hlk := look_one h3 o.1 (by omega); subst hu); go_simp; first | exact ⟨rfl, rfl⟩ | ((try refine ⟨by kernel_rfl, ?_⟩); (fail))); (go_simp; refine hK _ ?_; clear hK K))
       (refine Xg.rel_det (Xk.wanted_none (by rfl)) (by rfl) (fun K hK => ?_); apply Exists.intro; refine ⟨fun W hx hp => ?_, ?_⟩; ((obtain ⟨c0, c1, c2, c3, c4, c5, c6, c7, c8, c9⟩ := cells_of10 (hx.held (show w3.drew.heap[w1.heap.size]? = _ from HB3.out) (by omega))); go_simp; first | exact ⟨rfl, rfl⟩ | ((try refine ⟨by kernel_rfl, ?_⟩); (fail))); (go_simp; refine hK _ ?_; clear hK K))
       refine Xg.gs ?_
       (refine Xg.rel_loud (by rfl) (by rfl) rfl (fun W hx hp => ?_) (fun u5 K hK => ?_); (go_simp; ((refine (HPP.out (P12.takes r) W HK3.out (HR3.out.drew.ext hx)).mono ?_); intro e w2 h; rw [hp2] at h; obtain ⟨h1, h2⟩ := h; exact Or.inr ⟨_, h1, ⟨rfl, (Turn.drew (Turn.refl _ _)).trans ((Turn.of_ext hx).trans h2)⟩⟩)); (go_simp; refine hK _ ?_; clear hK K))
       (refine Xg.rel_make (by rfl) (by rfl) (by decide) (fun W hx hp => ?_) (fun u6 K hK => ?_); (exact (Xe.facts_head hp (by kernel_rfl)).elim); (go_simp; refine hK _ ?_; clear hK K))
       refine Xg.rel_nil (fun W hx hp hg => ?_)
       exact hp.1.elim
      | ok p2 =>
       obtain ⟨e2, r2⟩ := p2
       rw [hp2] at hRS
       dsimp only at hRS
       have HRS2 := Lib.hid hRS
       clear hRS
       refine Xg.wp_region_rel (E := Turn br) (Xe.pre_ES _) (fun ch W => False) 5 7 (fun _ => none) (fun _ _ h => by cases h) (fun _ _ _ _ h => by cases h) [(0, MapFact w3.heap.size operatorsL), (5, ExprFact br w3.heap.size e2 (P12.takes r) r2), (6, PairFact w3.heap.size e2 (exprL kd op vk vi vs tb nm (.slice pp pm pc)))] (by kernel_rfl) (by kernel_rfl) (Xg.stable_one ((by
               intro y hy
               simp only [List.mem_cons, List.not_mem_nil, or_false] at hy
               rcases hy with rfl | rfl | rfl
               ·rw [if_neg (show ¬ (0 = 5) by decide)]; exact MapFact.turn (by omega)
               ·rw [if_pos rfl]; exact ExprFact.ext
               ·rw [if_neg (show ¬ (6 = 5) by decide)]; exact PairFact.turn (by omega)))) ((fun ch a w' hd hX => hX.elim)) ?_
       simp only [List.take_succ_cons, List.take_zero, List.drop_succ_cons, List.drop_zero]
       (refine Xg.rel_make (by rfl) (by rfl) (by decide) (fun W hx hp => ?_) (fun u0 K hK => ?_); (go_simp; exact (operators_any W).mono (fun e w' h => by obtain ⟨rfl, hm, hx'⟩ := h; exact ⟨_, rfl, hx', ⟨W.heap.size, 14, rfl, (by have := hx.size; simpa using this), (by obtain ⟨es, cl, hb, -⟩ := hm; exact (Array.getElem?_eq_some_iff.1 hb).1), hm⟩, fun b hb => by cases hb⟩)); (go_simp; refine hK _ ?_; clear hK K))
       refine Xg.gs ?_
       (refine Xg.rel_det (Xk.wanted_none (by rfl)) (by rfl) (fun K hK => ?_); apply Exists.intro; refine ⟨fun W hx hp => ?_, ?_⟩; ((obtain ⟨b, n, hu, h1, h2, h3⟩ := Xe.facts_head hp (by kernel_rfl); have hlk := look_one h3 o.1 (by omega); subst hu); go_simp; first | exact ⟨rfl, rfl⟩ | ((try refine ⟨by kernel_rfl, ?_⟩); (fail))); (go_simp; refine hK _ ?_; clear hK K))
       (refine Xg.rel_det (Xk.wanted_none (by rfl)) (by rfl) (fun K hK => ?_); apply Exists.intro; refine ⟨fun W hx hp => ?_, ?_⟩; ((obtain ⟨c0, c1, c2, c3, c4, c5, c6, c7, c8, c9⟩ := cells_of10 (hx.held (show w3.drew.heap[w1.heap.size]? = _ from HB3.out) (by omega))); go_simp; first | exact ⟨rfl, rfl⟩ | ((try refine ⟨by kernel_rfl, ?_⟩); (fail))); (go_simp; refine hK _ ?_; clear hK K))
       refine Xg.gs ?_
       (refine Xg.rel_loud (by rfl) (by rfl) rfl (fun W hx hp => ?_) (fun u5 K hK => ?_); (go_simp; ((refine (HPP.out (P12.takes r) W HK3.out (HR3.out.drew.ext hx)).mono ?_); intro e w2 h; rw [hp2] at h; obtain ⟨v2, rfl, ⟨l2, rfl, he2⟩, h1, h2, h3⟩ := h; exact Or.inl ⟨_, rfl, h1, ⟨l2, rfl, he2.mono (fun b hb _ => by have := hx.size; simp only [World.size_drew] at this; omega), h2, h3⟩, fun b hb => by cases hb⟩)); (go_simp; refine hK _ ?_; clear hK K))
       (refine Xg.rel_make (by rfl) (by rfl) (by decide) (fun W hx hp => ?_) (fun u6 K hK => ?_); ((obtain ⟨l2, hu, he2, -, -⟩ := Xe.facts_head hp (by kernel_rfl); obtain ⟨kd2, op2, vk2, vi2, vs2, tb2, nm2, pp2, pm2, pc2, rfl⟩ := he2.form; subst hu; go_simp; exact ⟨(Below.refl _ _).alloc (Nat.le_refl _) _, ⟨W.heap.size, _, rfl, (by have := hx.size; simpa using this), heap_new W _, he2.ext ((Below.refl _ _).alloc (Nat.le_refl _) _)⟩, fun b hb => by cases hb; exact ⟨.inr (Nat.le_refl _), by simp⟩⟩)); (go_simp; refine hK _ ?_; clear hK K))
       refine Xg.rel_nil (fun W hx hp hg => ?_)
       obtain ⟨⟨g, l2, rfl, hge, hgc, he2⟩, ⟨l2', rfl, -, hr2, hk2⟩, -⟩ := hp
       have hxW : Turn br w3 W := (Turn.drew (Turn.refl _ _)).trans hx
       have hbW := hxW.held HB3.out (by omega)
       have hzW := hxW.held HZ3.out (by omega)
       obtain ⟨d0, d1, d2, d3, d4, d5, d6, d7, d8, d9⟩ := cells_of10 hbW
       obtain ⟨f0, f1, f2, f3, f4, f5, f6, f7, f8, f9⟩ := frozen10 hbW
       have HBW := Lib.hid hbW
       have HZW := Lib.hid hzW
       have HEW := Lib.hid (HE3.out.turn hxW (fun b hb => by omega))
       have HE2 := Lib.hid he2
       have HR2 := Lib.hid hr2
       have HK2 := Lib.hid hk2
       have HGC := Lib.hid hgc
       have HTW := Lib.hid (Turn.trans HT3.out hxW)
       have hle2 := hk2.le
       have hlr2 := hr2.len
       clear hx hg hxW hbW hzW he2 hr2 hk2 hgc
       go_wp2
       go_roundw
       case rel =>
        refine ⟨.bin o.2 e e2, exprL 4 o.2 0 0 [] [] [] (.slice (some ⟨g, 0, none⟩) 2 2), r2, f, ?_, HK3.out.trans HK2.out, ?_, ?_, ?_, ?_, by omega, HRS2.out⟩
        ·exact Rd.setCells (g := w1.heap.size) (by omega) (exprL 4 o.2 0 0 [] [] [] (.slice (some ⟨g, 0, none⟩) 2 2)) 0 HR2.out
        ·exact Turn.setCells (g := w1.heap.size) (.inl (by omega)) (exprL 4 o.2 0 0 [] [] [] (.slice (some ⟨g, 0, none⟩) 2 2)) 0 HTW.out
        ·exact (setCells_other w1.heap.size (exprL 4 o.2 0 0 [] [] [] (.slice (some ⟨g, 0, none⟩) 2 2)) 0 W (by omega)).trans HZW.out
        ·exact setCells_all HBW.out (exprL 4 o.2 0 0 [] [] [] (.slice (some ⟨g, 0, none⟩) 2 2)) rfl
        ·refine ⟨g, exprL kd op vk vi vs tb nm (.slice pp pm pc), l2, ⟨by omega, by omega⟩, rfl, ?_, rfl, HE2.out.length, ?_, ?_⟩
         ·exact range_same (range_of_block HGC.out) (setCells_other w1.heap.size (exprL 4 o.2 0 0 [] [] [] (.slice (some ⟨g, 0, none⟩) 2 2)) 0 W (by omega))
         ·exact ExprAt.sets (g := w1.heap.size) HEW.out (by omega) (exprL 4 o.2 0 0 [] [] [] (.slice (some ⟨g, 0, none⟩) 2 2)) 0
         ·exact (ExprAt.sets (g := w1.heap.size) (S := fun b => w3.heap.size ≤ b) HE2.out (by omega) (exprL 4 o.2 0 0 [] [] [] (.slice (some ⟨g, 0, none⟩) 2 2)) 0).mono (fun b hb _ => ⟨by omega, by omega⟩)
       case measure =>
        have := (Rd.setCells (g := w1.heap.size) (by omega) (exprL 4 o.2 0 0 [] [] [] (.slice (some ⟨g, 0, none⟩) 2 2)) 0 HR2.out).len
        rw [hlenr]
        show rdLen br (World.setCells W w1.heap.size 0 (exprL 4 o.2 0 0 [] [] [] (.slice (some ⟨g, 0, none⟩) 2 2))) < _
        omega
    ·obtain rfl : k = ops.length := by omega
     have hkb : ¬ (ops.length : Int) < (ops.length : Int) := by omega
     have hz2 := (HX.out.block _ (Array.getElem?_eq_some_iff.1 HZ.out).1).trans HZ.out
     have hb2 := (HX.out.block _ l7).trans HB7.out
     obtain ⟨c0, c1, c2, c3, c4, c5, c6, c7, c8, c9⟩ := cells_of10 hb2
     obtain ⟨d0, d1, d2, d3, d4, d5, d6, d7, d8, d9⟩ := cells_of10 hz2
     obtain ⟨f0, f1, f2, f3, f4, f5, f6, f7, f8, f9⟩ := frozen10 hz2
     have HZ2 := Lib.hid hz2
     have HE2 := Lib.hid (HE.out.ext HX.out)
     clear hz2 hb2
     go_wp2
     refine bodyPost_ret (v := .agg (exprL kd op vk vi vs tb nm (.slice pp pm pc)).toArray) (by simp [results, Tryz.results202, go_sem, d0, d1, d2, d3, d4, d5, d6, d7, d8, d9]) rfl ?_
     have hRS := HRS.out
     obtain ⟨f, rfl⟩ : ∃ k, f = k + 1 := ⟨f - 1, by have := HF.out; omega⟩
     rw [P12.binF, find_none (fun j o hj => HNO.out j o (List.getElem?_eq_some_iff.1 hj).1 hj)] at hRS
     dsimp only at hRS
     rw [← hRS]
     refine ⟨_, rfl, ⟨_, rfl, ?_⟩, ?_, ?_, HK.out⟩
     ·exact (ExprAt.sets (g := w.heap.size) HE2.out (by omega) (exprL kd op vk vi vs tb nm (.slice pp pm pc)) 0).mono (fun b hb _ => by omega)
     ·exact Turn.setCells (.inl (Nat.le_refl _)) (exprL kd op vk vi vs tb nm (.slice pp pm pc)) 0 (Turn.trans HT.out (Turn.of_ext HX.out))
     ·exact Rd.setCells lr (exprL kd op vk vi vs tb nm (.slice pp pm pc)) 0 (HR1.out.ext HX.out)
def ReadsE (F : FuncId) (br : Nat) (P : P12.R → Prop) (part : P12.R → Except P12.Er (P12.E × P12.R)) : Prop :=
 ∀ r W, P r → Rd br r W → Calls Tryz.prog F #[rp br] W (Got br W r (ExprV W) (part r))
theorem opsAt_new {br : Nat} {ops : List (P12.T × Int)} {W : World} (hl : br < W.heap.size) (hn : ∀ o ∈ ops, numOf operatorsL o.1 = o.2 ∧ o.1 ≠ [] ∧ o.1.length ≤ 100) :
  OpsAt W.heap.size br ops (W.alloc (.cells (ops.map fun o => bs o.1).toArray 9)) := by
 refine ⟨fun j o hj => ?_, hl, hn, by rw [World.size_alloc]; omega⟩
 have h := heap_new W (.cells (ops.map fun o => bs o.1).toArray 9)
 unfold World.cell?
 simp only [h]
 simp [hj]
theorem expr_of (P : P12.R → Prop) (hP : ∀ r r', P r → P12.Keeps r r' → P r') (br : Nat) (part : P12.R → Except P12.Er (P12.E × P12.R)) (h : ReadsE 203 br P part) :
  ReadsE 140 br P (P12.binary part P12.orOps) := by
 intro r w hp hr
 have hmf := mkfun
 have HR := Lib.hid hr
 have lr := hr.lt
 have hE : Ent 203 := ⟨fun _ _ => by go_simp, by decide⟩
 have HB := Lib.hid fun W gs hr ho => binary_any br gs 203 hE part P12.orOps r W hr ho (by decide) (fun r' W' hk hr' => h r' W' (hP _ _ hp hk) hr')
 have HO := Lib.hid (opsAt_new (br := br) (ops := P12.orOps) (W := w.alloc (exprO zero10.toList)) (by rw [World.size_alloc]; omega) (by decide))
 clear hr h hE
 cases hres : P12.binary part P12.orOps r with
 | error er =>
  go_enter Tryz.func140, Tryz.ntmps140
  go_wp2_with fail
  refine (HB.out _ (w.heap.size + 1) (rdx (HR.out)) (by have := HO.out; rw [World.size_alloc] at this; exact this)).mono ?_
  intro e w1 h
  rw [hres] at h
  obtain ⟨rfl, ht⟩ := h
  simp only [faults]
  go_wp2
  exact ⟨rfl, rfl, Turn.trans (tu trivial) ht⟩
 | ok p =>
  obtain ⟨e, r'⟩ := p
  go_enter Tryz.func140, Tryz.ntmps140
  go_wp2_with fail
  refine (HB.out _ (w.heap.size + 1) (rdx (HR.out)) (by have := HO.out; rw [World.size_alloc] at this; exact this)).mono ?_
  intro e' w1 h
  rw [hres] at h
  obtain ⟨v, rfl, ⟨l, rfl, he⟩, ht, hr', hk⟩ := h
  obtain ⟨kd, op, vk, vi, vs, tb, nm, pp, pm, pc, rfl⟩ := he.form
  have hsz := ht.size
  simp only [World.size_alloc] at hsz
  have hz : w1.heap[w.heap.size]? = some (exprO zero10.toList) := ht.held (((Turn.alloc (Turn.refl br _) _)).held (heap_new w _) (by omega)) (by omega)
  have HT : Hid (Turn br w w1) := Lib.hid (Turn.trans (tu trivial) ht)
  have HE := Lib.hid (he.mono (S' := fun b => w.heap.size < b) (fun b hb _ => by simp only [World.size_alloc] at hb; omega))
  have HR' := Lib.hid hr'
  have HK := Lib.hid hk
  clear he ht hr' hk
  have lRet := (Array.getElem?_eq_some_iff.1 (hz)).1
  obtain ⟨d0, d1, d2, d3, d4, d5, d6, d7, d8, d9⟩ := cells_of10 (hz)
  obtain ⟨f0, f1, f2, f3, f4, f5, f6, f7, f8, f9⟩ := frozen10 (hz)
  go_wp2
  refine bodyPost_ret (v := .agg (exprL kd op vk vi vs tb nm (.slice pp pm pc)).toArray) (by simp [results, Tryz.results140, go_sem, d0, d1, d2, d3, d4, d5, d6, d7, d8, d9]) rfl ⟨_, rfl, ⟨_, rfl, ?_⟩, ?_, ?_, HK.out⟩
  ·exact (ExprAt.sets (g := w.heap.size) (HE.out) (by omega) (exprL kd op vk vi vs tb nm (.slice pp pm pc)) 0).mono (fun b hb _ => by omega)
  ·exact Turn.setCells (g := w.heap.size) (.inl (by omega)) (exprL kd op vk vi vs tb nm (.slice pp pm pc)) 0 (HT.out)
  ·exact Rd.setCells (g := w.heap.size) (by omega) (exprL kd op vk vi vs tb nm (.slice pp pm pc)) 0 (HR'.out)
theorem and_of (P : P12.R → Prop) (hP : ∀ r r', P r → P12.Keeps r r' → P r') (br : Nat) (part : P12.R → Except P12.Er (P12.E × P12.R)) (h : ReadsE 238 br P part) :
  ReadsE 203 br P (P12.binary part P12.andOps) := by
 intro r w hp hr
 have hmf := mkfun
 have HR := Lib.hid hr
 have lr := hr.lt
 have hE : Ent 238 := ⟨fun _ _ => by go_simp, by decide⟩
 have HB := Lib.hid fun W gs hr ho => binary_any br gs 238 hE part P12.andOps r W hr ho (by decide) (fun r' W' hk hr' => h r' W' (hP _ _ hp hk) hr')
 have HO := Lib.hid (opsAt_new (br := br) (ops := P12.andOps) (W := w.alloc (exprO zero10.toList)) (by rw [World.size_alloc]; omega) (by decide))
 clear hr h hE
 cases hres : P12.binary part P12.andOps r with
 | error er =>
  go_enter Tryz.func203, Tryz.ntmps203
  go_wp2_with fail
  refine (HB.out _ (w.heap.size + 1) (rdx (HR.out)) (by have := HO.out; rw [World.size_alloc] at this; exact this)).mono ?_
  intro e w1 h
  rw [hres] at h
  obtain ⟨rfl, ht⟩ := h
  simp only [faults]
  go_wp2
  exact ⟨rfl, rfl, Turn.trans (tu trivial) ht⟩
 | ok p =>
  obtain ⟨e, r'⟩ := p
  go_enter Tryz.func203, Tryz.ntmps203
  go_wp2_with fail
  refine (HB.out _ (w.heap.size + 1) (rdx (HR.out)) (by have := HO.out; rw [World.size_alloc] at this; exact this)).mono ?_
  intro e' w1 h
  rw [hres] at h
  obtain ⟨v, rfl, ⟨l, rfl, he⟩, ht, hr', hk⟩ := h
  obtain ⟨kd, op, vk, vi, vs, tb, nm, pp, pm, pc, rfl⟩ := he.form
  have hsz := ht.size
  simp only [World.size_alloc] at hsz
  have hz : w1.heap[w.heap.size]? = some (exprO zero10.toList) := ht.held (((Turn.alloc (Turn.refl br _) _)).held (heap_new w _) (by omega)) (by omega)
  have HT : Hid (Turn br w w1) := Lib.hid (Turn.trans (tu trivial) ht)
  have HE := Lib.hid (he.mono (S' := fun b => w.heap.size < b) (fun b hb _ => by simp only [World.size_alloc] at hb; omega))
  have HR' := Lib.hid hr'
  have HK := Lib.hid hk
  clear he ht hr' hk
  have lRet := (Array.getElem?_eq_some_iff.1 (hz)).1
  obtain ⟨d0, d1, d2, d3, d4, d5, d6, d7, d8, d9⟩ := cells_of10 (hz)
  obtain ⟨f0, f1, f2, f3, f4, f5, f6, f7, f8, f9⟩ := frozen10 (hz)
  go_wp2
  refine bodyPost_ret (v := .agg (exprL kd op vk vi vs tb nm (.slice pp pm pc)).toArray) (by simp [results, Tryz.results203, go_sem, d0, d1, d2, d3, d4, d5, d6, d7, d8, d9]) rfl ⟨_, rfl, ⟨_, rfl, ?_⟩, ?_, ?_, HK.out⟩
  ·exact (ExprAt.sets (g := w.heap.size) (HE.out) (by omega) (exprL kd op vk vi vs tb nm (.slice pp pm pc)) 0).mono (fun b hb _ => by omega)
  ·exact Turn.setCells (g := w.heap.size) (.inl (by omega)) (exprL kd op vk vi vs tb nm (.slice pp pm pc)) 0 (HT.out)
  ·exact Rd.setCells (g := w.heap.size) (by omega) (exprL kd op vk vi vs tb nm (.slice pp pm pc)) 0 (HR'.out)
theorem sum_of (P : P12.R → Prop) (hP : ∀ r r', P r → P12.Keeps r r' → P r') (br : Nat) (part : P12.R → Except P12.Er (P12.E × P12.R)) (h : ReadsE 287 br P part) :
  ReadsE 280 br P (P12.binary part P12.addOps) := by
 intro r w hp hr
 have hmf := mkfun
 have HR := Lib.hid hr
 have lr := hr.lt
 have hE : Ent 287 := ⟨fun _ _ => by go_simp, by decide⟩
 have HB := Lib.hid fun W gs hr ho => binary_any br gs 287 hE part P12.addOps r W hr ho (by decide) (fun r' W' hk hr' => h r' W' (hP _ _ hp hk) hr')
 have HO := Lib.hid (opsAt_new (br := br) (ops := P12.addOps) (W := w.alloc (exprO zero10.toList)) (by rw [World.size_alloc]; omega) (by decide))
 clear hr h hE
 cases hres : P12.binary part P12.addOps r with
 | error er =>
  go_enter Tryz.func280, Tryz.ntmps280
  go_wp2_with fail
  refine (HB.out _ (w.heap.size + 1) (rdx (HR.out)) (by have := HO.out; rw [World.size_alloc] at this; exact this)).mono ?_
  intro e w1 h
  rw [hres] at h
  obtain ⟨rfl, ht⟩ := h
  simp only [faults]
  go_wp2
  exact ⟨rfl, rfl, Turn.trans (tu trivial) ht⟩
 | ok p =>
  obtain ⟨e, r'⟩ := p
  go_enter Tryz.func280, Tryz.ntmps280
  go_wp2_with fail
  refine (HB.out _ (w.heap.size + 1) (rdx (HR.out)) (by have := HO.out; rw [World.size_alloc] at this; exact this)).mono ?_
  intro e' w1 h
  rw [hres] at h
  obtain ⟨v, rfl, ⟨l, rfl, he⟩, ht, hr', hk⟩ := h
  obtain ⟨kd, op, vk, vi, vs, tb, nm, pp, pm, pc, rfl⟩ := he.form
  have hsz := ht.size
  simp only [World.size_alloc] at hsz
  have hz : w1.heap[w.heap.size]? = some (exprO zero10.toList) := ht.held (((Turn.alloc (Turn.refl br _) _)).held (heap_new w _) (by omega)) (by omega)
  have HT : Hid (Turn br w w1) := Lib.hid (Turn.trans (tu trivial) ht)
  have HE := Lib.hid (he.mono (S' := fun b => w.heap.size < b) (fun b hb _ => by simp only [World.size_alloc] at hb; omega))
  have HR' := Lib.hid hr'
  have HK := Lib.hid hk
  clear he ht hr' hk
  have lRet := (Array.getElem?_eq_some_iff.1 (hz)).1
  obtain ⟨d0, d1, d2, d3, d4, d5, d6, d7, d8, d9⟩ := cells_of10 (hz)
  obtain ⟨f0, f1, f2, f3, f4, f5, f6, f7, f8, f9⟩ := frozen10 (hz)
  go_wp2
  refine bodyPost_ret (v := .agg (exprL kd op vk vi vs tb nm (.slice pp pm pc)).toArray) (by simp [results, Tryz.results280, go_sem, d0, d1, d2, d3, d4, d5, d6, d7, d8, d9]) rfl ⟨_, rfl, ⟨_, rfl, ?_⟩, ?_, ?_, HK.out⟩
  ·exact (ExprAt.sets (g := w.heap.size) (HE.out) (by omega) (exprL kd op vk vi vs tb nm (.slice pp pm pc)) 0).mono (fun b hb _ => by omega)
  ·exact Turn.setCells (g := w.heap.size) (.inl (by omega)) (exprL kd op vk vi vs tb nm (.slice pp pm pc)) 0 (HT.out)
  ·exact Rd.setCells (g := w.heap.size) (by omega) (exprL kd op vk vi vs tb nm (.slice pp pm pc)) 0 (HR'.out)
theorem product_of (P : P12.R → Prop) (hP : ∀ r r', P r → P12.Keeps r r' → P r') (br : Nat) (part : P12.R → Except P12.Er (P12.E × P12.R)) (h : ReadsE 291 br P part) :
  ReadsE 287 br P (P12.binary part P12.mulOps) := by
 intro r w hp hr
 have hmf := mkfun
 have HR := Lib.hid hr
 have lr := hr.lt
 have hE : Ent 291 := ⟨fun _ _ => by go_simp, by decide⟩
 have HB := Lib.hid fun W gs hr ho => binary_any br gs 291 hE part P12.mulOps r W hr ho (by decide) (fun r' W' hk hr' => h r' W' (hP _ _ hp hk) hr')
 have HO := Lib.hid (opsAt_new (br := br) (ops := P12.mulOps) (W := w.alloc (exprO zero10.toList)) (by rw [World.size_alloc]; omega) (by decide))
 clear hr h hE
 cases hres : P12.binary part P12.mulOps r with
 | error er =>
  go_enter Tryz.func287, Tryz.ntmps287
  go_wp2_with fail
  refine (HB.out _ (w.heap.size + 1) (rdx (HR.out)) (by have := HO.out; rw [World.size_alloc] at this; exact this)).mono ?_
  intro e w1 h
  rw [hres] at h
  obtain ⟨rfl, ht⟩ := h
  simp only [faults]
  go_wp2
  exact ⟨rfl, rfl, Turn.trans (tu trivial) ht⟩
 | ok p =>
  obtain ⟨e, r'⟩ := p
  go_enter Tryz.func287, Tryz.ntmps287
  go_wp2_with fail
  refine (HB.out _ (w.heap.size + 1) (rdx (HR.out)) (by have := HO.out; rw [World.size_alloc] at this; exact this)).mono ?_
  intro e' w1 h
  rw [hres] at h
  obtain ⟨v, rfl, ⟨l, rfl, he⟩, ht, hr', hk⟩ := h
  obtain ⟨kd, op, vk, vi, vs, tb, nm, pp, pm, pc, rfl⟩ := he.form
  have hsz := ht.size
  simp only [World.size_alloc] at hsz
  have hz : w1.heap[w.heap.size]? = some (exprO zero10.toList) := ht.held (((Turn.alloc (Turn.refl br _) _)).held (heap_new w _) (by omega)) (by omega)
  have HT : Hid (Turn br w w1) := Lib.hid (Turn.trans (tu trivial) ht)
  have HE := Lib.hid (he.mono (S' := fun b => w.heap.size < b) (fun b hb _ => by simp only [World.size_alloc] at hb; omega))
  have HR' := Lib.hid hr'
  have HK := Lib.hid hk
  clear he ht hr' hk
  have lRet := (Array.getElem?_eq_some_iff.1 (hz)).1
  obtain ⟨d0, d1, d2, d3, d4, d5, d6, d7, d8, d9⟩ := cells_of10 (hz)
  obtain ⟨f0, f1, f2, f3, f4, f5, f6, f7, f8, f9⟩ := frozen10 (hz)
  go_wp2
  refine bodyPost_ret (v := .agg (exprL kd op vk vi vs tb nm (.slice pp pm pc)).toArray) (by simp [results, Tryz.results287, go_sem, d0, d1, d2, d3, d4, d5, d6, d7, d8, d9]) rfl ⟨_, rfl, ⟨_, rfl, ?_⟩, ?_, ?_, HK.out⟩
  ·exact (ExprAt.sets (g := w.heap.size) (HE.out) (by omega) (exprL kd op vk vi vs tb nm (.slice pp pm pc)) 0).mono (fun b hb _ => by omega)
  ·exact Turn.setCells (g := w.heap.size) (.inl (by omega)) (exprL kd op vk vi vs tb nm (.slice pp pm pc)) 0 (HT.out)
  ·exact Rd.setCells (g := w.heap.size) (by omega) (exprL kd op vk vi vs tb nm (.slice pp pm pc)) 0 (HR'.out)
def OneOf (kd op : Int) (l : List Value) (w : World) (e : Ending) (w' : World) : Prop :=
 ∃ g, e = .returned (.agg (exprL kd op 0 0 [] [] [] (.slice (some ⟨g, 0, none⟩) 1 1)).toArray) ∧ w.heap.size ≤ g ∧ w'.heap[g]? = some (.cells l.toArray 35) ∧ Xk.Ext w w'
theorem unary_any (op : Int) (kd o vk vi : Int) (vs tb nm : P12.T) (pp : Option Addr) (pm pc : Nat) (w : World) :
  Calls Tryz.prog 263 #[.int .i64 op, .agg (exprL kd o vk vi vs tb nm (.slice pp pm pc)).toArray] w (OneOf 3 op (exprL kd o vk vi vs tb nm (.slice pp pm pc)) w) := by
 have H := Lib.hid (heap_new ((w.alloc (exprO (exprL kd o vk vi vs tb nm (.slice pp pm pc)))).alloc (exprO (exprL 3 op 0 0 [] [] [] (.slice (some ⟨w.heap.size + 1 + 1, 0, none⟩) 1 1)))) (exprO (exprL kd o vk vi vs tb nm (.slice pp pm pc))))
 go_enter Tryz.func263, Tryz.ntmps263
 go_wp2
 refine bodyPost_ret (v := .agg (exprL 3 op 0 0 [] [] [] (.slice (some ⟨w.heap.size + 1 + 1, 0, none⟩) 1 1)).toArray) (by simp [results, Tryz.results263, go_sem]) rfl ⟨w.heap.size + 1 + 1, rfl, by omega, ?_, Xk.xt⟩
 have := H.out
 simpa only [World.size_alloc] using this
theorem literal_any (n : Int) (w : World) : Calls Tryz.prog 294 #[.int .i64 n] w fun e w' => e = .returned (.agg (exprL 1 0 2 n [] [] [] nilS).toArray) ∧ Xk.Ext w w' := by
 go_enter Tryz.func294, Tryz.ntmps294
 go_wp2
 refine bodyPost_ret (v := .agg (exprL 1 0 2 n [] [] [] nilS).toArray) (by simp [results, Tryz.results294, go_sem]) rfl ⟨rfl, Xk.xt⟩
theorem column_any (br : Nat) (r : P12.R) (w : World) (h : Rd br r w) : Calls Tryz.prog 150 #[rp br] w (Got br w r (ExprV w) (P12.column r)) := by
 have HR := Lib.hid h
 have lr := h.lt
 clear h
 unfold P12.column
 rcases hn : P12.name r with er | ⟨a, r1⟩
 ·go_enter Tryz.func150, Tryz.ntmps150
  go_wp2_with fail
  go_at_call 131
  refine (name_any br r _ (rdx (HR.out))).mono ?_
  intro e w1 h
  rw [hn] at h
  obtain ⟨rfl, ht⟩ := h
  simp only [faults]
  go_wp2
  exact ⟨rfl, rfl, Turn.trans (tu trivial) ht⟩
 ·dsimp only
  cases hd : P12.isT [46] r1
  ·rw [if_neg (by simp)]
   go_enter Tryz.func150, Tryz.ntmps150
   go_wp2_with fail
   go_at_call 131
   refine (name_any br r _ (rdx (HR.out))).mono ?_
   intro e w1 h
   rw [hn] at h
   obtain ⟨v, rfl, rfl, ht, hr1, hk1⟩ := h
   have hsz := ht.size
   simp only [World.size_alloc] at hsz
   have HR1 := Lib.hid hr1
   have hz : w1.heap[w.heap.size]? = some (exprO zero10.toList) := ht.held (heap_new w _) (by omega)
   have HT : Hid (Turn br w w1) := Lib.hid (Turn.trans (tu trivial) ht)
   have hz1 := hz
   clear ht hr1 hz
   go_wp2_with fail
   go_at_call 20
   refine (has_no br r1 [46] _ (rdx (HR1.out)) hd).mono ?_
   rintro e w2 ⟨rfl, hx2⟩
   have hx2' : Xk.Ext w1 w2 := Xk.Ext.trans ((Below.refl _ _).alloc (Nat.le_refl _) _) hx2
   have hc2 := (hx2.block w1.heap.size (by rw [World.size_alloc]; omega)).trans (heap_new w1 _)
   obtain ⟨c0, c1, c2, c3, c4, c5, c6, c7, c8, c9⟩ := cells_of10 hc2
   have hz2 := (hx2'.block _ (Array.getElem?_eq_some_iff.1 hz1).1).trans hz1
   have HT2 := Lib.hid (Turn.trans HT.out (Turn.of_ext hx2'))
   have HR2 := Lib.hid (HR1.out.ext hx2')
   clear hx2 hx2' hc2
   have lRet := (Array.getElem?_eq_some_iff.1 (hz2)).1
   obtain ⟨d0, d1, d2, d3, d4, d5, d6, d7, d8, d9⟩ := cells_of10 (hz2)
   obtain ⟨f0, f1, f2, f3, f4, f5, f6, f7, f8, f9⟩ := frozen10 (hz2)
   go_wp2
   refine bodyPost_ret (v := .agg (exprL 2 0 0 0 [] [] a nilS).toArray) (by simp [results, Tryz.results150, go_sem, d0, d1, d2, d3, d4, d5, d6, d7, d8, d9]) rfl ⟨_, rfl, ⟨_, rfl, ?_⟩, ?_, ?_, hk1⟩
   ·exact (ExprAt.sets (g := w.heap.size) ((show ExprAt (fun b => w.heap.size < b) _ (.col [] a) _ from rfl)) (by omega) (exprL 2 0 0 0 [] [] a nilS) 0).mono (fun b hb _ => by omega)
   ·exact Turn.setCells (g := w.heap.size) (.inl (by omega)) (exprL 2 0 0 0 [] [] a nilS) 0 (HT2.out)
   ·exact Rd.setCells (g := w.heap.size) (by omega) (exprL 2 0 0 0 [] [] a nilS) 0 (HR2.out)
  ·rw [if_pos rfl]
   rcases hn2 : P12.name (P12.takes r1) with er | ⟨b, r2⟩
   ·go_enter Tryz.func150, Tryz.ntmps150
    go_wp2_with fail
    go_at_call 131
    refine (name_any br r _ (rdx (HR.out))).mono ?_
    intro e w1 h
    rw [hn] at h
    obtain ⟨v, rfl, rfl, ht, hr1, hk1⟩ := h
    have hsz := ht.size
    simp only [World.size_alloc] at hsz
    have HR1 := Lib.hid hr1
    have HT : Hid (Turn br w w1) := Lib.hid (Turn.trans (tu trivial) ht)
    clear ht hr1
    go_wp2_with fail
    go_at_call 20
    refine (has_yes br r1 [46] _ (rdx (HR1.out)) hd).mono ?_
    rintro e w2 ⟨rfl, ht2, hr2⟩
    have hc3 := ht2.held (heap_new w1 _) (by omega)
    obtain ⟨c0, c1, c2, c3, c4, c5, c6, c7, c8, c9⟩ := cells_of10 hc3
    have HR2 := Lib.hid hr2
    have HT2 : Hid (Turn br w w2) := Lib.hid (Turn.trans (tu (HT.out)) ht2)
    go_wp2
    refine Xg.wp_region_rel (E := Turn br) (Xe.pre_ES _) (fun ch W => Ending.panicked ch = faults er ∧ Turn br w2 W) 3 5 (fun _ => none) (fun _ _ h => by cases h) (fun _ _ _ _ h => by cases h) [(3, fun _ _ => False)] (by kernel_rfl) (by kernel_rfl) (Xg.stable_one ((by
         intro y hy
         simp only [List.mem_cons, List.not_mem_nil, or_false] at hy
         rcases hy with rfl
         rw [if_pos rfl]; exact fun _ _ _ _ h => h))) ((fun ch a w' hd hX => ⟨hd, hX.1, Turn.trans HT2.out hX.2⟩)) ?_
    simp only [List.take_succ_cons, List.take_zero, List.drop_succ_cons, List.drop_zero]
    refine Xg.gs ?_
    (refine Xg.rel_det (Xk.wanted_none (by rfl)) (by rfl) (fun K hK => ?_); apply Exists.intro; refine ⟨fun W hx hp => ?_, ?_⟩; (have c := hx.cell (show w2.drew.cell? ⟨w1.heap.size, 6, none⟩ = _ from c6) (by omega); go_simp; first | exact ⟨rfl, rfl⟩ | ((try refine ⟨by kernel_rfl, ?_⟩); (fail))); (go_simp; refine hK _ ?_; clear hK K))
    refine Xg.gs ?_
    (refine Xg.rel_loud (by rfl) (by rfl) rfl (fun W hx hp => ?_) (fun u K hK => ?_); (go_simp; ((refine (name_any br (P12.takes r1) _ (HR2.out.drew.ext hx)).mono ?_); intro e w2 h; rw [hn2] at h; obtain ⟨h1, h2⟩ := h; exact Or.inr ⟨_, h1, by exact ⟨rfl, (Turn.drew (Turn.refl _ _)).trans ((Turn.of_ext hx).trans h2)⟩⟩)); (go_simp; refine hK _ ?_; clear hK K))
    refine Xg.gs ?_
    refine Xg.rel_nil (fun W hx hp hg => ?_)
    exact hp.1.elim
   ·go_enter Tryz.func150, Tryz.ntmps150
    go_wp2_with fail
    go_at_call 131
    refine (name_any br r _ (rdx (HR.out))).mono ?_
    intro e w1 h
    rw [hn] at h
    obtain ⟨v, rfl, rfl, ht, hr1, hk1⟩ := h
    have hsz := ht.size
    simp only [World.size_alloc] at hsz
    have HR1 := Lib.hid hr1
    have hz1 : w1.heap[w.heap.size]? = some (exprO zero10.toList) := ht.held (heap_new w _) (by omega)
    have HT : Hid (Turn br w w1) := Lib.hid (Turn.trans (tu trivial) ht)
    clear ht hr1
    go_wp2_with fail
    go_at_call 20
    refine (has_yes br r1 [46] _ (rdx (HR1.out)) hd).mono ?_
    rintro e w2 ⟨rfl, ht2, hr2⟩
    have HC3 := Lib.hid (ht2.held (heap_new w1 (exprO (exprL 2 0 0 0 [] [] a nilS))) (by omega))
    have HZ2 := Lib.hid (ht2.held ((Turn.alloc (Turn.refl br w1) _).held hz1 (by omega)) (by omega))
    have hsz2 := ht2.size
    simp only [World.size_alloc] at hsz2
    have HR2 := Lib.hid hr2
    have HT2 : Hid (Turn br w w2) := Lib.hid (Turn.trans (tu (HT.out)) ht2)
    clear ht2 hr2 hz1
    go_wp2
    refine Xg.wp_region_rel (E := Turn br) (Xe.pre_ES _) (fun ch W => False) 3 5 (fun _ => none) (fun _ _ h => by cases h) (fun _ _ _ _ h => by cases h) [(3, fun u W => u = bs b ∧ Rd br r2 W ∧ P12.Keeps (P12.takes r1) r2)] (by kernel_rfl) (by kernel_rfl) (Xg.stable_one ((by
         intro y hy
         simp only [List.mem_cons, List.not_mem_nil, or_false] at hy
         rcases hy with rfl
         rw [if_pos rfl]; exact fun _ _ _ hx h => ⟨h.1, h.2.1.ext hx, h.2.2⟩))) ((fun ch a w' hd hX => hX.elim)) ?_
    simp only [List.take_succ_cons, List.take_zero, List.drop_succ_cons, List.drop_zero]
    refine Xg.gs ?_
    (refine Xg.rel_det (Xk.wanted_none (by rfl)) (by rfl) (fun K hK => ?_); apply Exists.intro; refine ⟨fun W hx hp => ?_, ?_⟩; ((obtain ⟨c0, c1, c2, c3, c4, c5, c6, c7, c8, c9⟩ := cells_of10 (hx.held (show w2.drew.heap[w1.heap.size]? = _ from HC3.out) (by omega))); go_simp; first | exact ⟨rfl, rfl⟩ | ((try refine ⟨by kernel_rfl, ?_⟩); (fail))); (go_simp; refine hK _ ?_; clear hK K))
    refine Xg.gs ?_
    (refine Xg.rel_loud (by rfl) (by rfl) rfl (fun W hx hp => ?_) (fun u K hK => ?_); (go_simp; ((refine (name_any br (P12.takes r1) _ (HR2.out.drew.ext hx)).mono ?_); intro e w2 h; rw [hn2] at h; obtain ⟨v', rfl, rfl, h1, h2, h3⟩ := h; exact Or.inl ⟨_, rfl, h1, ⟨rfl, h2, h3⟩, fun b hb => by cases hb⟩)); (go_simp; refine hK _ ?_; clear hK K))
    refine Xg.gs ?_
    refine Xg.rel_nil (fun W hx hp hg => ?_)
    obtain ⟨⟨rfl, hr3, hk3⟩, -⟩ := hp
    have hxW : Turn br w2 W := (Turn.drew (Turn.refl _ _)).trans hx
    have hcW := hxW.held HC3.out (by omega)
    have hzW := hxW.held HZ2.out (by omega)
    obtain ⟨c0, c1, c2, c3, c4, c5, c6, c7, c8, c9⟩ := cells_of10 hcW
    obtain ⟨g0, g1, g2, g3, g4, g5, g6, g7, g8, g9⟩ := frozen10 hcW
    have lC := (Array.getElem?_eq_some_iff.1 hcW).1
    have lRet := (Array.getElem?_eq_some_iff.1 (hzW)).1
    obtain ⟨d0, d1, d2, d3, d4, d5, d6, d7, d8, d9⟩ := cells_of10 (hzW)
    obtain ⟨f0, f1, f2, f3, f4, f5, f6, f7, f8, f9⟩ := frozen10 (hzW)
    have HTW := Lib.hid (Turn.trans HT2.out hxW)
    have HR3 := Lib.hid hr3
    have hne : ¬ w1.heap.size = w.heap.size := by omega
    have hne2 : ¬ w.heap.size = w1.heap.size := by omega
    clear hx hg hxW hcW hzW hr3
    go_wp2_with fail
    refine bodyPost_ret (v := .agg (exprL 2 0 0 0 [] a b nilS).toArray) (by simp [results, Tryz.results150, go_sem, hne, hne2, d0, d1, d2, d3, d4, d5, d6, d7, d8, d9]) rfl ⟨_, rfl, ⟨_, rfl, ?_⟩, ?_, ?_, (hk1.trans ((P12.keeps_takes r1).trans hk3))⟩
    ·exact (ExprAt.sets (g := w.heap.size) (S := fun b => w.heap.size < b) ((show ExprAt (fun b => w.heap.size < b) _ (.col a b) _ from rfl)) (by omega) (exprL 2 0 0 0 [] a b nilS) 0).mono (fun b hb _ => by omega)
    ·exact Turn.setCells (g := w.heap.size) (.inl (by omega)) (exprL 2 0 0 0 [] a b nilS) 0 ((tu (HTW.out)))
    ·exact Rd.setCells (g := w.heap.size) (by omega) (exprL 2 0 0 0 [] a b nilS) 0 ((rdx (HR3.out)))
def GotK {α : Type} (br : Nat) (ks : List Nat) (w0 : World) (r : P12.R) (V : Value → α → World → Prop) (res : Except P12.Er (α × P12.R)) (e : Ending) (w' : World) : Prop :=
 match res with
 | .ok (x, r') => ∃ v, e = .returned v ∧ V v x w' ∧ Kept w0.heap.size (br :: ks) w0 w' ∧ Rd br r' w' ∧ P12.Keeps r r'
 | .error er => e = faults er ∧ Kept w0.heap.size (br :: ks) w0 w'
theorem Kept.setCells {B : Nat} {ks : List Nat} {w0 : World} {g : Nat} (hg : B ≤ g ∨ g ∈ ks ∨ w0.heap.size ≤ g) : ∀ (vs : List Value) (o : Nat) {w : World}, Kept B ks w0 w → Kept B ks w0 (w.setCells g o vs)
 | [], _, _, h => h
 | v :: vs, o, _, h => Kept.setCells hg vs (o + 1) (Kept.setCell h hg o v)
theorem cell_new (W : World) (x : Value) (T : TypeId) : (W.alloc (.cells #[x] T)).cell? ⟨W.heap.size, 0, none⟩ = some x := by
 have h := heap_new W (.cells #[x] T)
 simp only [World.cell?, h]
 rfl
theorem stays {V : World → Prop} {g : Nat} (hVs : ∀ W o u, V W → V (W.setCell ⟨g, o, none⟩ u)) : ∀ (vs : List Value) (o : Nat) {W : World}, V W → V (W.setCells g o vs)
 | [], _, _, h => h
 | v :: vs, o, W, h => stays hVs vs (o + 1) (hVs W o v h)
def BearsA (v : Value) (f : FuncId) (A : Array Value) : Prop := v = .func (.func f) A #[] ∨ v = .func (.func f) #[] A
theorem within_any {α : Type} (br : Nat) (ks : List Nat) (cv : Value) (F : FuncId) (A : Array Value) (hcv : BearsA cv F A) (hF : Ent F) (read : P12.R → Except P12.Er (α × P12.R)) (V : Value → α → World → Prop) (r : P12.R) (w : World) (h : Rd br r w)
  (hks : ∀ k ∈ ks, k < w.heap.size)
  (hV1 : ∀ v x W, V v x W → ∃ kd op vk vi vs tb nm pp pm pc, v = .agg (exprL kd op vk vi vs tb nm (.slice pp pm pc)).toArray)
  (hVt : ∀ v x W W', V v x W → Turn br W W' → V v x W') (hVs : ∀ v x W o u, V v x W → V v x (W.setCell ⟨w.heap.size, o, none⟩ u))
  (hR : ∀ r1 W, r1.deep = r.deep + 1 → r1.deep ≤ 100 → Rd br r1 W → Turn br w W → w.heap.size < W.heap.size → Calls Tryz.prog F A W (GotK br ks W r1 V (read r1))) :
  Calls Tryz.prog 236 #[rp br, cv] w (GotK br ks w r V (P12.within read r)) := by
 have HR := Lib.hid h
 have HRR := Lib.hid hR
 have HV1 := Lib.hid hV1
 have HVt := Lib.hid hVt
 have HVs := Lib.hid hVs
 have HKS := Lib.hid hks
 have lr := h.lt
 have hcf := hF.run
 have hci := hF.no
 clear h hR hV1 hVt hVs hF hks
 generalize hres : P12.within read r = res
 have HRES := Lib.hid hres
 clear hres
 cases hs : P12.isT [40] r
 ·go_enter Tryz.func236, Tryz.ntmps236
  go_wp2_with fail
  go_at_call 77
  refine (isT_any br r [40] _ (rdx (HR.out))).mono ?_
  rw [hs]
  rintro e w1 ⟨rfl, hx1⟩
  have hT1 : Turn br w w1 := Turn.trans (tu trivial) (Turn.of_ext hx1)
  have hr1 := (HR.out.alloc _).ext hx1
  go_wp2_with fail
  go_at_call 22
  refine (fails_any br r 120 _ hr1).mono ?_
  rintro e wF ⟨rfl, hxF⟩
  simp only [faults]
  go_wp2
  have hE := HRES.out
  simp only [P12.within, P12.fails, hs, if_true] at hE
  subst hE
  exact ⟨rfl, rfl, Kept.of_turn (Turn.trans hT1 (Turn.of_ext hxF)) (by simp)⟩
 ·go_enter Tryz.func236, Tryz.ntmps236
  go_wp2_with fail
  go_at_call 77
  refine (isT_any br r [40] _ (rdx (HR.out))).mono ?_
  rw [hs]
  rintro e w1 ⟨rfl, hx1⟩
  have hT1 : Turn br w w1 := Turn.trans (tu trivial) (Turn.of_ext hx1)
  have hr1 := (HR.out.alloc _).ext hx1
  have hz1 : w1.heap[w.heap.size]? = some (exprO zero10.toList) := (hx1.block _ (by rw [World.size_alloc]; omega)).trans (heap_new w _)
  have hl1 := hx1.size
  simp only [World.size_alloc] at hl1
  by_cases hd : r.deep = 100
  ·go_wp2_with fail
   go_at_call 261
   refine (opens_err br r _ hr1 hd).mono ?_
   rintro e w2 ⟨rfl, ht2⟩
   simp only [faults]
   go_wp2
   have hE := HRES.out
   simp only [P12.within, P12.opens, P12.fails, hs, hd, if_true, Bool.true_eq_false, if_false] at hE
   subst hE
   exact ⟨rfl, rfl, Kept.of_turn (Turn.trans hT1 ht2) (by simp)⟩
  ·have hE := HRES.out
   simp only [P12.within, P12.opens, P12.fails, hs, hd, if_true, Bool.true_eq_false, if_false] at hE
   have HE := Lib.hid hE
   clear hE HRES
   go_wp2_with fail
   go_at_call 261
   refine (opens_ok br r _ hr1 hd).mono ?_
   rintro e w2 ⟨rfl, ht2, hr2⟩
   go_wp2_with fail
   go_at_call 75
   refine (takes_any br _ _ hr2).mono ?_
   rintro e w3 ⟨rfl, ht3, hr3⟩
   have hT3 : Turn br w w3 := Turn.trans hT1 (Turn.trans ht2 ht3)
   have hz3 := ht3.held (ht2.held hz1 (by omega)) (by omega)
   have hl3 := Nat.le_trans ht2.size ht3.size
   have hd3 : (P12.takes ⟨r.l, r.deep + 1⟩).deep = r.deep + 1 := (P12.keeps_takes ⟨r.l, r.deep + 1⟩).deep
   have hks3 := (P12.keeps_takes ⟨r.l, r.deep + 1⟩).suf
   have hgd := hr3.good.deep
   have hRd := HRR.out _ w3 hd3 (by omega) hr3 hT3 (by omega)
   have HT3 := Lib.hid hT3
   have HZ3 := Lib.hid hz3
   clear hx1 hr1 hz1 ht2 hr2 ht3 hT1 hT3 hz3 hr3
   cases hrd : read (P12.takes ⟨r.l, r.deep + 1⟩) with
   | error er =>
    rw [hrd] at hRd
    have hE := HE.out
    rw [hrd] at hE
    dsimp only at hE
    subst hE
    have HRd := Lib.hid hRd
    clear hRd
    rcases hcv with rfl | rfl
    all_goals
     go_wp2_with fail
     refine HRd.out.mono ?_
     rintro e w4 ⟨rfl, hk4⟩
     simp only [faults]
     go_wp2
     exact ⟨rfl, rfl, (Kept.of_turn HT3.out (by simp)).trans (hk4.mono (by omega) (fun x h => h))⟩
   | ok p =>
    obtain ⟨x, r4⟩ := p
    rw [hrd] at hRd
    have hE := HE.out
    rw [hrd] at hE
    dsimp only at hE
    have HE2 := Lib.hid hE
    have HRd := Lib.hid hRd
    clear hRd hE HE
    rcases hcv with rfl | rfl
    all_goals
     go_wp2_with fail
     refine HRd.out.mono ?_
     rintro e w4 ⟨v, rfl, hv4, hk4, hr4, hkk4⟩
     obtain ⟨kd, op, vk, vi, vs, tb, nm, pp, pm, pc, rfl⟩ := HV1.out _ _ _ hv4
     have hl4 := hk4.size
     have hz4 := hk4.held HZ3.out (by omega) (by simp only [List.mem_cons, not_or]; exact ⟨by omega, fun hm => by have := HKS.out _ hm; omega⟩)
     have hK4 : Kept w.heap.size (br :: ks) w w4 := (Kept.of_turn HT3.out (by simp)).trans (hk4.mono (by omega) (fun x h => h))
     have HV4 := Lib.hid hv4
     have HZ4 := Lib.hid hz4
     have HK4 := Lib.hid hK4
     have HR4 := Lib.hid hr4
     have HKK := Lib.hid hkk4
     clear hv4 hz4 hK4 hr4 hkk4 hk4
     have hMu := must_any br r4 [41]
     cases hm : P12.isT [41] r4
     ·rw [show P12.mustU [41] r4 = .error ((P12.nxt r4).pos, 120) by unfold P12.mustU; rw [hm]; rfl] at hMu
      have HMu := Lib.hid hMu
      clear hMu
      go_wp2_with fail
      refine (HMu.out (w4.heap.size + 1) _ (rdx (HR4.out)) (by simpa only [World.size_alloc] using cell_new (w4.alloc _) (bs [41]) 9) (by omega)).mono ?_
      rintro e w6 ⟨rfl, ht6⟩
      simp only [faults]
      go_wp2
      have hE := HE2.out
      simp only [P12.must, P12.fails, hm, Bool.false_eq_true, if_false] at hE
      subst hE
      exact ⟨rfl, rfl, Kept.trans (kpx (HK4.out)) (Kept.of_turn ht6 (by simp))⟩
     ·rw [show P12.mustU [41] r4 = .ok ((), P12.takes r4) by unfold P12.mustU; rw [hm]; rfl] at hMu
      have HMu := Lib.hid hMu
      clear hMu
      go_wp2_with fail
      refine (HMu.out (w4.heap.size + 1) _ (rdx (HR4.out)) (by simpa only [World.size_alloc] using cell_new (w4.alloc _) (bs [41]) 9) (by omega)).mono ?_
      rintro e w6 ⟨v6, rfl, rfl, ht6, hr6, hk6⟩
      have hK6 : Kept w.heap.size (br :: ks) w w6 := Kept.trans (kpx (HK4.out)) (Kept.of_turn ht6 (by simp))
      have hT46 : Turn br w4 w6 := Turn.trans (tu trivial) ht6
      have hz6 := hT46.held HZ4.out (by omega)
      have hc6 := ht6.held ((Turn.alloc (Turn.refl br (w4.alloc (exprO (exprL kd op vk vi vs tb nm (.slice pp pm pc))))) _).held (heap_new w4 _) (by omega)) (by omega)
      have hv6 := HVt.out _ _ _ _ HV4.out hT46
      have hdd : (P12.takes r4).deep = r.deep + 1 := by rw [hk6.deep, HKK.out.deep, hd3]
      obtain ⟨tb6, off6, cap6, hA⟩ := hr6
      obtain ⟨e1, e2, e3, e4⟩ := hA.cells
      have hD := hA.depth r.deep (by omega)
      rw [hdd] at e2
      have e2' : w6.cell? ⟨br, 1, none⟩ = some (.int .i64 ((r.deep : Int) + 1)) := by rw [e2]; rfl
      have l6 := ht6.size
      simp only [World.size_alloc] at l6
      have hT7 : Turn br w6 (w6.setCell ⟨br, 1, none⟩ (.int .i64 r.deep)) := (Turn.refl br w6).setNew (.inr rfl) _ _
      have hz7 := hT7.held hz6 (by omega)
      have hc7 := hT7.held hc6 (by omega)
      have hv7 := HVt.out _ _ _ _ hv6 hT7
      obtain ⟨c0, c1, c2, c3, c4, c5, c6, c7, c8, c9⟩ := cells_of10 hc6
      have lRet := (Array.getElem?_eq_some_iff.1 (hz6)).1
      obtain ⟨d0, d1, d2, d3, d4, d5, d6, d7, d8, d9⟩ := cells_of10 (hz6)
      obtain ⟨f0, f1, f2, f3, f4, f5, f6, f7, f8, f9⟩ := frozen10 (hz6)
      have lbr : br < w6.heap.size := World.block_lt_of_cell? _ _ e1
      have lC := (Array.getElem?_eq_some_iff.1 hc6).1
      have hne1 : ¬ br = w.heap.size := by omega
      have hne2 : ¬ br = w4.heap.size := by omega
      have hsuf : (P12.takes r4).l <:+ r.l := hk6.suf.trans (HKK.out.suf.trans hks3)
      have HV7 := Lib.hid hv7
      have HK6 := Lib.hid hK6
      have HD := Lib.hid hD
      clear hv7 hv6 hK6 hD hT46 hT7 ht6 hz6 hc6 hz7 hc7 hk6 hA e2
      go_wp2
      have hcl : P12.closes (P12.takes r4) = ⟨(P12.takes r4).l, r.deep⟩ := by unfold P12.closes; rw [hdd]; rfl
      have hE := HE2.out
      simp only [P12.must, P12.fails, hm, if_true, hcl] at hE
      subst hE
      refine bodyPost_ret (v := .agg (exprL kd op vk vi vs tb nm (.slice pp pm pc)).toArray) (by simp [results, Tryz.results236, go_sem, hne1, d0, d1, d2, d3, d4, d5, d6, d7, d8, d9]) rfl ⟨_, rfl, ?_, ?_, ?_, ⟨hsuf, rfl⟩⟩
      ·exact stays (V := V _ x) (fun W o u h => HVs.out _ _ _ _ _ h) (exprL kd op vk vi vs tb nm (.slice pp pm pc)) 0 HV7.out
      ·exact Kept.setCells (g := w.heap.size) (.inl (Nat.le_refl _)) (exprL kd op vk vi vs tb nm (.slice pp pm pc)) 0 (HK6.out.setCell (.inr (.inl (by simp))) _ _)
      ·exact Rd.setCells (g := w.heap.size) lr (exprL kd op vk vi vs tb nm (.slice pp pm pc)) 0 ⟨tb6, off6, cap6, HD.out⟩
end Go.Proofs.YtkpmclddjkebeaaGreatDoor
namespace P12
open Go.Lib (parseUintM parseUintB parseIntB)
def decFrom (a : Nat) (s : T) : Nat := s.foldl (fun a c => 10 * a + (c.toNat - 48)) a
theorem decFrom_ge : ∀ (s : T) (a : Nat), a ≤ decFrom a s
 | [], a => Nat.le_refl _
 | c :: s, a => by
  have := decFrom_ge s (10 * a + (c.toNat - 48))
  unfold decFrom at this ⊢
  simp only [List.foldl_cons]
  omega
theorem parse_digits : ∀ (s : T) (a : Nat), (∀ c ∈ s, 48 ≤ c.toNat ∧ c.toNat ≤ 57) → parseUintM 18446744073709551615 a s = if decFrom a s ≤ 18446744073709551615 ∨ s = [] then .ok (decFrom a s) else .range
 | [], a, _ => by rw [if_pos (.inr rfl)]; rfl
 | c :: s, a, h => by
  have hc := h c (by simp)
  have hs : ∀ c ∈ s, 48 ≤ c.toNat ∧ c.toNat ≤ 57 := fun x hx => h x (by simp [hx])
  have hd : decFrom a (c :: s) = decFrom (10 * a + (c.toNat - 48)) s := rfl
  have hge := decFrom_ge s (10 * a + (c.toNat - 48))
  rw [parseUintM, if_pos hc, hd]
  by_cases h1 : 1844674407370955162 ≤ a
  ·rw [if_pos h1, if_neg (by simp; omega)]
  ·rw [if_neg h1]
   by_cases h2 : 18446744073709551615 < a * 10 + (c.toNat - 48)
   ·rw [if_pos h2, if_neg (by simp; omega)]
   ·rw [if_neg h2, show a * 10 + (c.toNat - 48) = 10 * a + (c.toNat - 48) by omega, parse_digits s _ hs]
    by_cases h3 : decFrom (10 * a + (c.toNat - 48)) s ≤ 18446744073709551615
    ·rw [if_pos (.inl h3), if_pos (.inl h3)]
    ·cases s with
     | nil => exact absurd (by unfold decFrom; simp; omega) h3
     | cons x y => rw [if_neg (by simp; omega), if_neg (by simp; omega)]
theorem uint_ok {s : T} (h : s ≠ []) (hd : ∀ c ∈ s, 48 ≤ c.toNat ∧ c.toNat ≤ 57) (hle : dec s ≤ 18446744073709551615) : parseUintB 64 s = .ok (dec s) := by
 unfold parseUintB
 rw [if_neg h, show (2 : Nat) ^ 64 - 1 = 18446744073709551615 by decide, parse_digits s 0 hd, if_pos (.inl hle)]; rfl
theorem uint_range {s : T} (h : s ≠ []) (hd : ∀ c ∈ s, 48 ≤ c.toNat ∧ c.toNat ≤ 57) (hle : ¬ dec s ≤ 18446744073709551615) : parseUintB 64 s = .range := by
 unfold parseUintB
 rw [if_neg h, show (2 : Nat) ^ 64 - 1 = 18446744073709551615 by decide, parse_digits s 0 hd, if_neg (by rintro (h1 | h1); exact hle h1; exact h h1)]
theorem int_ok {s : T} (h : s ≠ []) (hd : ∀ c ∈ s, 48 ≤ c.toNat ∧ c.toNat ≤ 57) (hle : dec s ≤ 9223372036854775807) : parseIntB 64 s = .ok (dec s) := by
 cases s with
 | nil => exact absurd rfl h
 | cons c r =>
  have hc := hd c (by simp)
  unfold parseIntB
  simp only
  rw [if_neg (by omega), uint_ok h hd (by omega)]
  simp only
  rw [if_neg (by intro h1; have := h1.2; simp at this; omega), if_neg (by intro h1; omega), if_neg (by omega)]
theorem int_range {s : T} (h : s ≠ []) (hd : ∀ c ∈ s, 48 ≤ c.toNat ∧ c.toNat ≤ 57) (hle : ¬ dec s ≤ 9223372036854775807) : parseIntB 64 s = .range := by
 cases s with
 | nil => exact absurd rfl h
 | cons c r =>
  have hc := hd c (by simp)
  unfold parseIntB
  simp only
  rw [if_neg (by omega)]
  by_cases h2 : dec (c :: r) ≤ 18446744073709551615
  ·rw [uint_ok h hd h2]
   simp only
   rw [if_pos ⟨by omega, by simp; omega⟩]
  ·rw [uint_range h hd h2]
end P12
namespace Go.Proofs.YtkpmclddjkebeaaGreatDoor
open Go.RowKit
theorem bytesBelow {w w' : World} {e : TypeId} (h : w' = w ∨ ∃ t, w' = Lib.bytesWorld w e t) : Below w.heap.size w w' := by
 rcases h with rfl | ⟨t, rfl⟩
 ·exact Below.refl _ _
 ·exact Lib.bytesWorld_below _ _ _
theorem Rd.range {br : Nat} {r : P12.R} {w : World} (h : Rd br r w) : ∃ tp p, w.cell? ⟨6, 0, none⟩ = some (.iface tp p) := by
 obtain ⟨b, off, cap, h⟩ := h
 exact h.env
theorem uint_good (s : P12.T) (h : s ≠ []) (hd : ∀ c ∈ s, 48 ≤ c.toNat ∧ c.toNat ≤ 57) (hl : s.length ≤ 100000) (hle : P12.dec s ≤ 18446744073709551615) (w : World) :
  Calls Tryz.prog 206 #[.string ⟨s.toArray⟩, .int .i64 10, .int .i64 64] w fun e w' => e = .returned (.tuple #[.int .u64 (P12.dec s), .nilIface]) ∧ Xk.Ext w w' :=
 (Tryz.strconv_ParseUint_10_at64_ok ⟨s.toArray⟩ (by show s.length ≤ _; omega) (P12.dec s) (by simpa using P12.uint_ok h hd hle) w).mono fun e w' ⟨h1, h2⟩ => ⟨h1, bytesBelow (h2.imp id fun h => ⟨_, h⟩)⟩
theorem uint_bad (s : P12.T) (h : s ≠ []) (hd : ∀ c ∈ s, 48 ≤ c.toNat ∧ c.toNat ≤ 57) (hl : s.length ≤ 100000) (hle : ¬ P12.dec s ≤ 18446744073709551615) (br : Nat) (r : P12.R) (w : World) (hr : Rd br r w) :
  Calls Tryz.prog 206 #[.string ⟨s.toArray⟩, .int .i64 10, .int .i64 64] w fun e w' => ∃ tp a, e = .returned (.tuple #[.int .u64 18446744073709551615, .iface tp (.pointer (some a))]) ∧ Xk.Ext w w' := by
 obtain ⟨tp, p, hc⟩ := hr.range
 exact (Tryz.strconv_ParseUint_10_at64_range ⟨s.toArray⟩ (by show s.length ≤ _; omega) (by simpa using P12.uint_range h hd hle) (.iface tp p) w hc (.inr ⟨tp, p, rfl⟩)).mono fun e w' h => by
  obtain ⟨N, h1, -, -, h2⟩ := h
  exact ⟨_, _, h1, h2⟩
theorem int_good (s : P12.T) (h : s ≠ []) (hd : ∀ c ∈ s, 48 ≤ c.toNat ∧ c.toNat ≤ 57) (hl : s.length ≤ 100000) (hle : P12.dec s ≤ 9223372036854775807) (w : World) :
  Calls Tryz.prog 204 #[.string ⟨s.toArray⟩, .int .i64 10, .int .i64 64] w fun e w' => e = .returned (.tuple #[.int .i64 (P12.dec s), .nilIface]) ∧ Xk.Ext w w' :=
 (Tryz.strconv_ParseInt_10_at64_ok ⟨s.toArray⟩ (by show s.length ≤ _; omega) (P12.dec s) (by simpa using P12.int_ok h hd hle) w).mono fun e w' ⟨h1, h2⟩ => ⟨h1, bytesBelow h2⟩
theorem int_bad (s : P12.T) (h : s ≠ []) (hd : ∀ c ∈ s, 48 ≤ c.toNat ∧ c.toNat ≤ 57) (hl : s.length ≤ 100000) (hle : ¬ P12.dec s ≤ 9223372036854775807) (br : Nat) (r : P12.R) (w : World) (hr : Rd br r w) :
  Calls Tryz.prog 204 #[.string ⟨s.toArray⟩, .int .i64 10, .int .i64 64] w fun e w' => ∃ n tp a, e = .returned (.tuple #[.int .i64 n, .iface tp (.pointer (some a))]) ∧ Xk.Ext w w' := by
 obtain ⟨tp, p, hc⟩ := hr.range
 exact (Tryz.strconv_ParseInt_10_at64_range ⟨s.toArray⟩ (by show s.length ≤ _; omega) (by simpa using P12.int_range h hd hle) (.iface tp p) w hc (.inr ⟨tp, p, rfl⟩)).mono fun e w' h => by
  obtain ⟨N, h1, -, -, h2⟩ := h
  exact ⟨_, _, _, h1, h2⟩
theorem int_any (br most : Nat) (r : P12.R) (w : World) (h : Rd br r w) (hk : (P12.nxt r).kind = 3) (hm : most ≤ 9223372036854775808) :
  Calls Tryz.prog 152 #[rp br, .int .u64 most] w (Got br w r (fun v x _ => v = .int .u64 (x : Nat)) (P12.int most r)) := by
 have HR := Lib.hid h
 have HN := Lib.hid (next_any br r w h)
 have lr := h.lt
 have hok := h.good.nxt_ok
 obtain ⟨hne, hdg⟩ := hok.digits hk
 have hl := hok.len
 clear h hok hk
 unfold P12.int
 by_cases h64 : P12.dec (P12.nxt r).text ≤ 18446744073709551615
 ·have HU := Lib.hid fun W => uint_good _ hne hdg (by omega) h64 W
  by_cases hmost : most < P12.dec (P12.nxt r).text
  ·rw [if_pos hmost]
   have hmb : (most : Int) < (P12.dec (P12.nxt r).text : Int) := by omega
   go_enter Tryz.func152, Tryz.ntmps152
   go_wp2_with (first | (go_at_call 21; with_reducible refine Xk.cl (HN.out) fun p => ?_) | (go_at_call 206; with_reducible refine Xk.cl (HU.out _) fun p => ?_))
   go_at_call 22
   refine (fails_any br (r) 123 _ (rdx (HR.out))).mono ?_
   rintro e wF ⟨rfl, hxF⟩
   simp only [faults]
   go_wp2
   exact ⟨rfl, rfl, Turn.trans (tu ((Turn.refl _ _))) (Turn.of_ext hxF)⟩
  ·rw [if_neg hmost]
   have hmb : decide ((most : Int) < (P12.dec (P12.nxt r).text : Int)) = false := by simp; omega
   go_enter Tryz.func152, Tryz.ntmps152
   go_wp2_with (first | (go_at_call 21; with_reducible refine Xk.cl (HN.out) fun p => ?_) | (go_at_call 206; with_reducible refine Xk.cl (HU.out _) fun p => ?_))
   go_at_call 75
   refine (takes_any br r _ (rdx (HR.out))).mono ?_
   rintro e w1 ⟨rfl, ht, hr⟩
   go_wp2
   go_ret
   exact ⟨_, rfl, rfl, Turn.trans (tu trivial) ht, hr, P12.keeps_takes r⟩
 ·rw [if_pos (by omega)]
  have HU := Lib.hid fun W hr => uint_bad _ hne hdg (by omega) h64 br r W hr
  go_enter Tryz.func152, Tryz.ntmps152
  go_wp2_with (first | (go_at_call 21; with_reducible refine Xk.cl (HN.out) fun p => ?_) | (go_at_call 206; (with_reducible refine (HU.out _ (rdx (HR.out))).mono ?_); rintro e w' ⟨tp, ad, rfl, hb⟩; obtain ⟨p, rfl⟩ := Xk.exw_of hb; clear hb))
  go_at_call 22
  refine (fails_any br (r) 123 _ (rdx (HR.out))).mono ?_
  rintro e wF ⟨rfl, hxF⟩
  simp only [faults]
  go_wp2
  exact ⟨rfl, rfl, Turn.trans (tu ((Turn.refl _ _))) (Turn.of_ext hxF)⟩
theorem not_of (P : P12.R → Prop) (hPd : ∀ r r' : P12.R, P r → r.deep ≤ r'.deep → P r') (br : Nat) (tst : P12.R → Except P12.Er (P12.E × P12.R)) (h : ReadsE 262 br P tst) :
  ∀ (f : Nat) (r : P12.R) (w : World), 101 ≤ f + r.deep → P r → Rd br r w → Calls Tryz.prog 238 #[rp br] w (Got br w r (ExprV w) (P12.notF tst f r)) := by
 intro f
 induction f with
 | zero => intro r w hf hp hr; have := hr.good.deep; omega
 | succ f ih =>
  intro r w hf hp hr
  have HR := Lib.hid hr
  have lr := hr.lt
  have HI := Lib.hid fun W (hx : Rd br r W) => h r W hp hx
  have HIH := Lib.hid fun r' W h1 h2 h3 => ih r' W h1 (hPd r r' hp h2) h3
  clear hr h ih
  generalize hres : P12.notF tst (f + 1) r = res
  have HRES := Lib.hid hres
  clear hres
  go_enter Tryz.func238, Tryz.ntmps238
  go_wp2_with fail
  go_at_call 77
  refine (isT_any br r [78, 79, 84] _ (rdx (HR.out))).mono ?_
  rintro e w1 ⟨rfl, hx1⟩
  have hT1 : Turn br w w1 := Turn.trans (tu trivial) (Turn.of_ext hx1)
  have hr1 := (HR.out.alloc _).ext hx1
  have hz1 : w1.heap[w.heap.size]? = some (exprO zero10.toList) := (hx1.block _ (by rw [World.size_alloc]; omega)).trans (heap_new w _)
  have hl1 := hx1.size
  simp only [World.size_alloc] at hl1
  cases hs : P12.isT [78, 79, 84] r
  ·have hE := HRES.out
   simp only [P12.notF, hs, if_true] at hE
   go_wp2_with fail
   refine (HI.out _ hr1).mono ?_
   intro e' w2 h
   cases ht : tst r with
   | error er =>
    rw [ht] at h hE
    subst hE
    obtain ⟨rfl, ht2⟩ := h
    simp only [faults]
    go_wp2
    exact ⟨rfl, rfl, Turn.trans hT1 ht2⟩
   | ok p =>
    obtain ⟨e, r'⟩ := p
    rw [ht] at h hE
    subst hE
    obtain ⟨v, rfl, ⟨l, rfl, he⟩, ht2, hr2, hk2⟩ := h
    obtain ⟨kd, op, vk, vi, vs, tb, nm, pp, pm, pc, rfl⟩ := he.form
    have hsz := ht2.size
    have hz2 := ht2.held hz1 (by omega)
    have HT := Lib.hid (Turn.trans hT1 ht2)
    have HE := Lib.hid (he.mono (S' := fun b => w.heap.size < b) (fun b hb _ => by omega))
    have HR' := Lib.hid hr2
    have HK := Lib.hid hk2
    clear he ht2 hr2 hk2 hx1 hr1 hz1 hT1
    have lRet := (Array.getElem?_eq_some_iff.1 (hz2)).1
    obtain ⟨d0, d1, d2, d3, d4, d5, d6, d7, d8, d9⟩ := cells_of10 (hz2)
    obtain ⟨f0, f1, f2, f3, f4, f5, f6, f7, f8, f9⟩ := frozen10 (hz2)
    go_wp2
    refine bodyPost_ret (v := .agg (exprL kd op vk vi vs tb nm (.slice pp pm pc)).toArray) (by simp [results, Tryz.results238, go_sem, d0, d1, d2, d3, d4, d5, d6, d7, d8, d9]) rfl ⟨_, rfl, ⟨_, rfl, ?_⟩, ?_, ?_, HK.out⟩
    ·exact (ExprAt.sets (g := w.heap.size) (HE.out) (by omega) (exprL kd op vk vi vs tb nm (.slice pp pm pc)) 0).mono (fun b hb _ => by omega)
    ·exact Turn.setCells (g := w.heap.size) (.inl (by omega)) (exprL kd op vk vi vs tb nm (.slice pp pm pc)) 0 (HT.out)
    ·exact Rd.setCells (g := w.heap.size) (by omega) (exprL kd op vk vi vs tb nm (.slice pp pm pc)) 0 (HR'.out)
  ·by_cases hd : r.deep = 100
   ·have hE := HRES.out
    simp only [P12.notF, P12.opens, P12.fails, hs, hd, if_true, Bool.true_eq_false, if_false] at hE
    subst hE
    go_wp2_with fail
    go_at_call 261
    refine (opens_err br r _ hr1 hd).mono ?_
    rintro e w2 ⟨rfl, ht2⟩
    simp only [faults]
    go_wp2
    exact ⟨rfl, rfl, Turn.trans hT1 ht2⟩
   ·have hE := HRES.out
    simp only [P12.notF, P12.opens, P12.fails, hs, hd, if_true, Bool.true_eq_false, if_false] at hE
    have HE := Lib.hid hE
    clear hE HRES
    go_wp2_with fail
    go_at_call 261
    refine (opens_ok br r _ hr1 hd).mono ?_
    rintro e w2 ⟨rfl, ht2, hr2⟩
    go_wp2_with fail
    go_at_call 75
    refine (takes_any br _ _ hr2).mono ?_
    rintro e w3 ⟨rfl, ht3, hr3⟩
    have hT3 : Turn br w w3 := Turn.trans hT1 (Turn.trans ht2 ht3)
    have hz3 := ht3.held (ht2.held hz1 (by omega)) (by omega)
    have hl3 := Nat.le_trans ht2.size ht3.size
    have hd3 : (P12.takes ⟨r.l, r.deep + 1⟩).deep = r.deep + 1 := (P12.keeps_takes ⟨r.l, r.deep + 1⟩).deep
    have hks3 := (P12.keeps_takes ⟨r.l, r.deep + 1⟩).suf
    have hgd := hr3.good.deep
    have HT3 := Lib.hid hT3
    have HZ3 := Lib.hid hz3
    have hRd := HIH.out _ w3 (by omega) (by omega) hr3
    clear hx1 hr1 hz1 ht2 hr2 ht3 hT1 hT3 hz3 hr3
    cases hrd : P12.notF tst f (P12.takes ⟨r.l, r.deep + 1⟩) with
    | error er =>
     rw [hrd] at hRd
     have hE := HE.out
     rw [hrd] at hE
     dsimp only at hE
     subst hE
     have HRd := Lib.hid hRd
     clear hRd
     go_wp2_with fail
     refine HRd.out.mono ?_
     rintro e w4 ⟨rfl, ht4⟩
     simp only [faults]
     go_wp2
     exact ⟨rfl, rfl, Turn.trans HT3.out ht4⟩
    | ok p =>
     obtain ⟨x, r4⟩ := p
     rw [hrd] at hRd
     have hE := HE.out
     rw [hrd] at hE
     dsimp only at hE
     have HRd := Lib.hid hRd
     clear hRd HE
     go_wp2_with fail
     refine HRd.out.mono ?_
     rintro e w4 ⟨v, rfl, ⟨l4, rfl, he4⟩, ht4, hr4, hkk4⟩
     obtain ⟨kd, op, vk, vi, vs, tb, nm, pp, pm, pc, rfl⟩ := he4.form
     have hl4 := ht4.size
     have hz4 := ht4.held HZ3.out (by omega)
     go_wp2_with fail
     go_at_call 263
     refine (unary_any 15 kd op vk vi vs tb nm pp pm pc _).mono ?_
     rintro e w5 ⟨g, rfl, hg, hgc, hx5⟩
     have hT5 : Turn br w w5 := Turn.trans HT3.out (Turn.trans ht4 (Turn.of_ext hx5))
     have hl5 := hx5.size
     have hz5 := (hx5.block _ (Array.getElem?_eq_some_iff.1 hz4).1).trans hz4
     have hu5 : ExprAt (fun b => w.heap.size < b) w5 (.una 15 x) (exprL 3 15 0 0 [] [] [] (.slice (some ⟨g, 0, none⟩) 1 1)) :=
      ⟨g, exprL kd op vk vi vs tb nm (.slice pp pm pc), by omega, rfl, range_of_block hgc, rfl, (he4.ext hx5).mono (fun b hb _ => by omega)⟩
     obtain ⟨tb6, off6, cap6, hA⟩ := hr4.ext hx5
     have hdd : r4.deep = r.deep + 1 := by rw [hkk4.deep, hd3]
     obtain ⟨e1, e2, e3, e4⟩ := hA.cells
     have hD := hA.depth r.deep (by omega)
     rw [hdd] at e2
     have e2' : w5.cell? ⟨br, 1, none⟩ = some (.int .i64 ((r.deep : Int) + 1)) := by rw [e2]; rfl
     have lRet := (Array.getElem?_eq_some_iff.1 (hz5)).1
     obtain ⟨d0, d1, d2, d3, d4, d5, d6, d7, d8, d9⟩ := cells_of10 (hz5)
     obtain ⟨f0, f1, f2, f3, f4, f5, f6, f7, f8, f9⟩ := frozen10 (hz5)
     have lbr : br < w5.heap.size := World.block_lt_of_cell? _ _ e1
     have hne1 : ¬ br = w.heap.size := by omega
     have hsuf : r4.l <:+ r.l := hkk4.suf.trans hks3
     have hcl : P12.closes r4 = ⟨r4.l, r.deep⟩ := by unfold P12.closes; rw [hdd]; rfl
     have HU5 := Lib.hid hu5
     have HT5 := Lib.hid hT5
     have HD := Lib.hid hD
     have HZ5 := Lib.hid hz5
     clear hu5 hT5 hD hz5 hz4 ht4 hr4 hkk4 hx5 hA e2 hgc he4
     go_wp2
     rw [hcl] at hE
     subst hE
     refine bodyPost_ret (v := .agg (exprL 3 15 0 0 [] [] [] (.slice (some ⟨g, 0, none⟩) 1 1)).toArray) (by simp [results, Tryz.results238, go_sem, hne1, lRet, d0, d1, d2, d3, d4, d5, d6, d7, d8, d9]) rfl ⟨_, rfl, ⟨_, rfl, ?_⟩, ?_, ?_, ⟨hsuf, rfl⟩⟩
     ·exact (((ExprAt.sets (g := w.heap.size) (S := fun b => w.heap.size < b) (HU5.out.set (g := br) (by omega) 1 _) (by omega) (exprL 3 15 0 0 [] [] [] (.slice (some ⟨g, 0, none⟩) 1 1)) 0).ext ((Below.refl _ _).alloc (Nat.le_refl _) _))).mono (fun b hb _ => by omega)
     ·exact Turn.alloc (Turn.setCells (g := w.heap.size) (.inl (Nat.le_refl _)) (exprL 3 15 0 0 [] [] [] (.slice (some ⟨g, 0, none⟩) 1 1)) 0 (HT5.out.setNew (.inr rfl) _ _)) _
     ·exact Rd.alloc (Rd.setCells (g := w.heap.size) lr (exprL 3 15 0 0 [] [] [] (.slice (some ⟨g, 0, none⟩) 1 1)) 0 ⟨tb6, off6, cap6, HD.out⟩) _
theorem neg_wrap (n : Nat) (h : n ≤ 9223372036854775808) : wrap64 (-wrap64 (n : Int)) = -(n : Int) := by
 unfold wrap64
 omega
theorem factor_of (P : P12.R → Prop) (hPd : ∀ r r' : P12.R, P r → r.deep ≤ r'.deep → P r') (br : Nat) (ex : P12.R → Except P12.Er (P12.E × P12.R)) (h : ReadsE 293 br P (P12.primary ex)) :
  ∀ (f : Nat) (r : P12.R) (w : World), 101 ≤ f + r.deep → P r → Rd br r w → Calls Tryz.prog 291 #[rp br] w (Got br w r (ExprV w) (P12.factorF ex f r)) := by
 intro f
 induction f with
 | zero => intro r w hf hp hr; have := hr.good.deep; omega
 | succ f ih =>
  intro r w hf hp hr
  have HR := Lib.hid hr
  have lr := hr.lt
  have hgood := hr.good
  have HI := Lib.hid fun W (hx : Rd br r W) => h r W hp hx
  have HIH := Lib.hid fun r' W h1 h2 h3 => ih r' W h1 (hPd r r' hp h2) h3
  clear hr h ih
  generalize hres : P12.factorF ex (f + 1) r = res
  have HRES := Lib.hid hres
  clear hres
  go_enter Tryz.func291, Tryz.ntmps291
  go_wp2_with fail
  go_at_call 77
  refine (isT_any br r [45] _ (rdx (HR.out))).mono ?_
  rintro e w1 ⟨rfl, hx1⟩
  have hT1 : Turn br w w1 := Turn.trans (tu trivial) (Turn.of_ext hx1)
  have hr1 := (HR.out.alloc _).ext hx1
  have hz1 : w1.heap[w.heap.size]? = some (exprO zero10.toList) := (hx1.block _ (by rw [World.size_alloc]; omega)).trans (heap_new w _)
  have hl1 := hx1.size
  simp only [World.size_alloc] at hl1
  cases hs : P12.isT [45] r
  ·have hE := HRES.out
   simp only [P12.factorF, hs, if_true] at hE
   go_wp2_with fail
   refine (HI.out _ hr1).mono ?_
   intro e' w2 h
   cases ht : P12.primary ex r with
   | error er =>
    rw [ht] at h hE
    subst hE
    obtain ⟨rfl, ht2⟩ := h
    simp only [faults]
    go_wp2
    exact ⟨rfl, rfl, Turn.trans hT1 ht2⟩
   | ok p =>
    obtain ⟨e, r'⟩ := p
    rw [ht] at h hE
    subst hE
    obtain ⟨v, rfl, ⟨l, rfl, he⟩, ht2, hr2, hk2⟩ := h
    obtain ⟨kd, op, vk, vi, vs, tb, nm, pp, pm, pc, rfl⟩ := he.form
    have hsz := ht2.size
    have hz2 := ht2.held hz1 (by omega)
    have HT := Lib.hid (Turn.trans hT1 ht2)
    have HE := Lib.hid (he.mono (S' := fun b => w.heap.size < b) (fun b hb _ => by omega))
    have HR' := Lib.hid hr2
    have HK := Lib.hid hk2
    clear he ht2 hr2 hk2 hx1 hr1 hz1 hT1
    have lRet := (Array.getElem?_eq_some_iff.1 (hz2)).1
    obtain ⟨d0, d1, d2, d3, d4, d5, d6, d7, d8, d9⟩ := cells_of10 (hz2)
    obtain ⟨f0, f1, f2, f3, f4, f5, f6, f7, f8, f9⟩ := frozen10 (hz2)
    go_wp2
    refine bodyPost_ret (v := .agg (exprL kd op vk vi vs tb nm (.slice pp pm pc)).toArray) (by simp [results, Tryz.results291, go_sem, d0, d1, d2, d3, d4, d5, d6, d7, d8, d9]) rfl ⟨_, rfl, ⟨_, rfl, ?_⟩, ?_, ?_, HK.out⟩
    ·exact (ExprAt.sets (g := w.heap.size) (HE.out) (by omega) (exprL kd op vk vi vs tb nm (.slice pp pm pc)) 0).mono (fun b hb _ => by omega)
    ·exact Turn.setCells (g := w.heap.size) (.inl (by omega)) (exprL kd op vk vi vs tb nm (.slice pp pm pc)) 0 (HT.out)
    ·exact Rd.setCells (g := w.heap.size) (by omega) (exprL kd op vk vi vs tb nm (.slice pp pm pc)) 0 (HR'.out)
  ·have hkd := P12.isT_kind hs
   have h2 := hgood.tail_pos hkd
   have htk := P12.takes_tail hkd
   obtain ⟨t1, ht1⟩ : ∃ t, r.l[1]? = some t := ⟨_, List.getElem?_eq_getElem h2⟩
   have hnx : P12.nxt ⟨r.l.tail, r.deep⟩ = t1 := by
    unfold P12.nxt
    rw [List.headD_eq_head?_getD, List.head?_tail, ht1]; rfl
   obtain ⟨tb, off, cap, hA⟩ := hr1
   obtain ⟨e1, e2, e3, e4⟩ := hA.cells
   obtain ⟨q1, q2, q3⟩ := hA.toks.2 1 t1 ht1
   simp only [Nat.one_mul] at q1
   have hr1 : Rd br r w1 := ⟨tb, off, cap, hA⟩
   have lb1 := World.block_lt_of_cell? _ _ e1
   have lb2 := World.block_lt_of_cell? _ _ q1
   have hb2 : (1 : Int) < (r.l.length : Int) := by omega
   clear hA q2 q3
   by_cases hk3 : t1.kind = 3
   ·rw [hk3] at q1
    have hE := HRES.out
    simp only [P12.factorF, hs, hnx, hk3, if_true, Bool.true_eq_false, if_false] at hE
    have HE := Lib.hid hE
    clear hE HRES
    go_wp2_with fail
    go_at_call 75
    refine (takes_any br _ _ hr1).mono ?_
    rintro e w2 ⟨rfl, ht2, hr2⟩
    have hk3' : (P12.nxt (P12.takes r)).kind = 3 := by rw [htk, hnx]; exact hk3
    have hz2 := ht2.held hz1 (by omega)
    have hl2 := ht2.size
    have hT2 := Turn.trans hT1 ht2
    clear e1 e2 e3 e4 q1 ht2 hx1 hr1 hz1 hT1
    go_wp2_with fail
    refine (int_any br 9223372036854775808 (P12.takes r) _ hr2 hk3' (Nat.le_refl _)).mono ?_
    intro e w3 h
    cases hi : P12.int 9223372036854775808 (P12.takes r) with
    | error er =>
     rw [hi] at h
     have hE := HE.out
     rw [hi] at hE
     dsimp only at hE
     subst hE
     obtain ⟨rfl, ht3⟩ := h
     simp only [faults]
     go_wp2
     exact ⟨rfl, rfl, Turn.trans hT2 ht3⟩
    | ok p =>
     obtain ⟨n, r3⟩ := p
     rw [hi] at h
     have hE := HE.out
     rw [hi] at hE
     dsimp only at hE
     subst hE
     obtain ⟨v, rfl, rfl, ht3, hr3, hk4⟩ := h
     have hnle : n ≤ 9223372036854775808 := by
      unfold P12.int at hi
      split at hi
      ·cases hi
      ·cases hi; omega
     have hz3 := ht3.held hz2 (by omega)
     have hl3 := ht3.size
     have HT3 := Lib.hid (Turn.trans hT2 ht3)
     have HZ3 := Lib.hid hz3
     have HR3 := Lib.hid hr3
     have HK := Lib.hid ((P12.keeps_takes r).trans hk4)
     clear ht3 hr3 hk4 hz2 hz3 hT2 hr2
     go_wp2_with fail
     rw [neg_wrap n hnle]
     refine (literal_any _ _).mono ?_
     rintro e w4 ⟨rfl, hx4⟩
     have hz4 := (hx4.block _ (Array.getElem?_eq_some_iff.1 HZ3.out).1).trans HZ3.out
     have HT4 := Lib.hid (Turn.trans HT3.out (Turn.of_ext hx4))
     have HR4 := Lib.hid (HR3.out.ext hx4)
     clear hx4
     have lRet := (Array.getElem?_eq_some_iff.1 (hz4)).1
     obtain ⟨d0, d1, d2, d3, d4, d5, d6, d7, d8, d9⟩ := cells_of10 (hz4)
     obtain ⟨f0, f1, f2, f3, f4, f5, f6, f7, f8, f9⟩ := frozen10 (hz4)
     go_wp2
     refine bodyPost_ret (v := .agg (exprL 1 0 2 (-(n : Int)) [] [] [] nilS).toArray) (by simp [results, Tryz.results291, go_sem, d0, d1, d2, d3, d4, d5, d6, d7, d8, d9]) rfl ⟨_, rfl, ⟨_, rfl, ?_⟩, ?_, ?_, HK.out⟩
     ·exact (ExprAt.sets (g := w.heap.size) ((show ExprAt (fun b => w.heap.size < b) _ (.val 2 (-(n : Int)) []) _ from rfl)) (by omega) (exprL 1 0 2 (-(n : Int)) [] [] [] nilS) 0).mono (fun b hb _ => by omega)
     ·exact Turn.setCells (g := w.heap.size) (.inl (by omega)) (exprL 1 0 2 (-(n : Int)) [] [] [] nilS) 0 (HT4.out)
     ·exact Rd.setCells (g := w.heap.size) (by omega) (exprL 1 0 2 (-(n : Int)) [] [] [] nilS) 0 (HR4.out)
   ·have hk3b : (t1.kind == 3) = false := by simpa using hk3
    by_cases hd : r.deep = 100
    ·have hE := HRES.out
     simp only [P12.factorF, P12.opens, P12.fails, hs, hnx, hk3, hd, (show P12.nxt ⟨r.l.tail, 100⟩ = t1 from by rw [← hd]; exact hnx), if_true, Bool.true_eq_false, if_false] at hE
     subst hE
     go_wp2_with fail
     go_at_call 261
     refine (opens_err br r _ hr1 hd).mono ?_
     rintro e w2 ⟨rfl, ht2⟩
     simp only [faults]
     go_wp2
     exact ⟨rfl, rfl, Turn.trans hT1 ht2⟩
    ·have hE := HRES.out
     simp only [P12.factorF, P12.opens, P12.fails, hs, hnx, hk3, hd, if_true, Bool.true_eq_false, if_false] at hE
     have HE := Lib.hid hE
     clear hE HRES
     go_wp2_with fail
     go_at_call 261
     refine (opens_ok br r _ hr1 hd).mono ?_
     rintro e w2 ⟨rfl, ht2, hr2⟩
     go_wp2_with fail
     go_at_call 75
     refine (takes_any br _ _ hr2).mono ?_
     rintro e w3 ⟨rfl, ht3, hr3⟩
     have hT3 : Turn br w w3 := Turn.trans hT1 (Turn.trans ht2 ht3)
     have hz3 := ht3.held (ht2.held hz1 (by omega)) (by omega)
     have hl3 := Nat.le_trans ht2.size ht3.size
     have hd3 : (P12.takes ⟨r.l, r.deep + 1⟩).deep = r.deep + 1 := (P12.keeps_takes ⟨r.l, r.deep + 1⟩).deep
     have hks3 := (P12.keeps_takes ⟨r.l, r.deep + 1⟩).suf
     have hgd := hr3.good.deep
     have HT3 := Lib.hid hT3
     have HZ3 := Lib.hid hz3
     have hRd := HIH.out _ w3 (by omega) (by omega) hr3
     clear hx1 hr1 hz1 ht2 hr2 ht3 hT1 hT3 hz3 hr3
     cases hrd : P12.factorF ex f (P12.takes ⟨r.l, r.deep + 1⟩) with
     | error er =>
      rw [hrd] at hRd
      have hE := HE.out
      rw [hrd] at hE
      dsimp only at hE
      subst hE
      have HRd := Lib.hid hRd
      clear hRd
      go_wp2_with fail
      refine HRd.out.mono ?_
      rintro e w4 ⟨rfl, ht4⟩
      simp only [faults]
      go_wp2
      exact ⟨rfl, rfl, Turn.trans HT3.out ht4⟩
     | ok p =>
      obtain ⟨x, r4⟩ := p
      rw [hrd] at hRd
      have hE := HE.out
      rw [hrd] at hE
      dsimp only at hE
      have HRd := Lib.hid hRd
      clear hRd HE
      go_wp2_with fail
      refine HRd.out.mono ?_
      rintro e w4 ⟨v, rfl, ⟨l4, rfl, he4⟩, ht4, hr4, hkk4⟩
      obtain ⟨kd, op, vk, vi, vs, tb, nm, pp, pm, pc, rfl⟩ := he4.form
      have hl4 := ht4.size
      have hz4 := ht4.held HZ3.out (by omega)
      go_wp2_with fail
      go_at_call 263
      refine (unary_any 16 kd op vk vi vs tb nm pp pm pc _).mono ?_
      rintro e w5 ⟨g, rfl, hg, hgc, hx5⟩
      have hT5 : Turn br w w5 := Turn.trans HT3.out (Turn.trans ht4 (Turn.of_ext hx5))
      have hl5 := hx5.size
      have hz5 := (hx5.block _ (Array.getElem?_eq_some_iff.1 hz4).1).trans hz4
      have hu5 : ExprAt (fun b => w.heap.size < b) w5 (.una 16 x) (exprL 3 16 0 0 [] [] [] (.slice (some ⟨g, 0, none⟩) 1 1)) :=
       ⟨g, exprL kd op vk vi vs tb nm (.slice pp pm pc), by omega, rfl, range_of_block hgc, rfl, (he4.ext hx5).mono (fun b hb _ => by omega)⟩
      obtain ⟨tb6, off6, cap6, hA⟩ := hr4.ext hx5
      have hdd : r4.deep = r.deep + 1 := by rw [hkk4.deep, hd3]
      obtain ⟨e1, e2, e3, e4⟩ := hA.cells
      have hD := hA.depth r.deep (by omega)
      rw [hdd] at e2
      have e2' : w5.cell? ⟨br, 1, none⟩ = some (.int .i64 ((r.deep : Int) + 1)) := by rw [e2]; rfl
      have lRet := (Array.getElem?_eq_some_iff.1 (hz5)).1
      obtain ⟨d0, d1, d2, d3, d4, d5, d6, d7, d8, d9⟩ := cells_of10 (hz5)
      obtain ⟨f0, f1, f2, f3, f4, f5, f6, f7, f8, f9⟩ := frozen10 (hz5)
      have lbr : br < w5.heap.size := World.block_lt_of_cell? _ _ e1
      have hne1 : ¬ br = w.heap.size := by omega
      have hsuf : r4.l <:+ r.l := hkk4.suf.trans hks3
      have hcl : P12.closes r4 = ⟨r4.l, r.deep⟩ := by unfold P12.closes; rw [hdd]; rfl
      have HU5 := Lib.hid hu5
      have HT5 := Lib.hid hT5
      have HD := Lib.hid hD
      have HZ5 := Lib.hid hz5
      clear hu5 hT5 hD hz5 hz4 ht4 hr4 hkk4 hx5 hA e2 hgc he4
      go_wp2
      rw [hcl] at hE
      subst hE
      refine bodyPost_ret (v := .agg (exprL 3 16 0 0 [] [] [] (.slice (some ⟨g, 0, none⟩) 1 1)).toArray) (by simp [results, Tryz.results291, go_sem, hne1, lRet, d0, d1, d2, d3, d4, d5, d6, d7, d8, d9]) rfl ⟨_, rfl, ⟨_, rfl, ?_⟩, ?_, ?_, ⟨hsuf, rfl⟩⟩
      ·exact (((ExprAt.sets (g := w.heap.size) (S := fun b => w.heap.size < b) (HU5.out.set (g := br) (by omega) 1 _) (by omega) (exprL 3 16 0 0 [] [] [] (.slice (some ⟨g, 0, none⟩) 1 1)) 0).ext ((Below.refl _ _).alloc (Nat.le_refl _) _))).mono (fun b hb _ => by omega)
      ·exact Turn.alloc (Turn.setCells (g := w.heap.size) (.inl (Nat.le_refl _)) (exprL 3 16 0 0 [] [] [] (.slice (some ⟨g, 0, none⟩) 1 1)) 0 (HT5.out.setNew (.inr rfl) _ _)) _
      ·exact Rd.alloc (Rd.setCells (g := w.heap.size) lr (exprL 3 16 0 0 [] [] [] (.slice (some ⟨g, 0, none⟩) 1 1)) 0 ⟨tb6, off6, cap6, HD.out⟩) _
end Go.Proofs.YtkpmclddjkebeaaGreatDoor
namespace Go.Proofs.YtkpmclddjkebeaaGreatDoor
open Go.RowKit Go.WideMaps Go.Maps
theorem test_of (P : P12.R → Prop) (hP : ∀ r r', P r → P12.Keeps r r' → P r') (br : Nat) (sm : P12.R → Except P12.Er (P12.E × P12.R)) (h : ReadsE 280 br P sm) :
  ReadsE 262 br P (P12.test sm) := by
 intro r0 w hp hr
 have HR := Lib.hid hr
 have lr := hr.lt
 have HPP := Lib.hid fun r W hk hx => h r W (hP r0 r hp hk) hx
 clear hr h
 generalize hres : P12.test sm r0 = res
 have HRES := Lib.hid hres
 clear hres
 go_enter Tryz.func262, Tryz.ntmps262
 go_wp2_with fail
 refine (HPP.out r0 _ (P12.Keeps.refl _) (rdx (HR.out))).mono ?_
 intro e w1 h
 cases hs0 : sm r0 with
 | error er =>
  rw [hs0] at h
  have hE := HRES.out
  simp only [P12.test, hs0] at hE
  subst hE
  obtain ⟨rfl, ht⟩ := h
  simp only [faults]
  go_wp2
  exact ⟨rfl, rfl, Turn.trans (tu trivial) ht⟩
 | ok p =>
  obtain ⟨e0, r⟩ := p
  rw [hs0] at h
  have hE := HRES.out
  simp only [P12.test, hs0] at hE
  have HE0 := Lib.hid hE
  clear hE HRES
  obtain ⟨v1, rfl, ⟨l1, rfl, he1⟩, ht1, hr1, hk1⟩ := h
  obtain ⟨kd, op, vk, vi, vs, tb, nm, pp, pm, pc, rfl⟩ := he1.form
  have hl1 := ht1.size
  simp only [World.size_alloc] at hl1
  have hz1 : w1.heap[w.heap.size]? = some (exprO zero10.toList) := ht1.held (heap_new w _) (by omega)
  have HT1 : Hid (Turn br w w1) := Lib.hid (Turn.trans (tu trivial) ht1)
  have HE1 := Lib.hid (he1.mono (S' := fun b => w.heap.size < b ∧ b ≠ w1.heap.size) (fun b hb hlt => ⟨by simp only [World.size_alloc] at hb; omega, by omega⟩))
  have HR1 := Lib.hid hr1
  have HZ1 := Lib.hid hz1
  have HK1 := Lib.hid hk1
  have hO := opsAt_new (br := br) (ops := P12.cmpOps) (W := w1.alloc (exprO (exprL kd op vk vi vs tb nm (.slice pp pm pc)))) (by rw [World.size_alloc]; omega) (by decide)
  have hb7 := heap_new w1 (exprO (exprL kd op vk vi vs tb nm (.slice pp pm pc)))
  rw [World.size_alloc] at hO
  clear ht1 he1 hr1 hk1 hz1
  go_wp2
  generalize hWo : World.alloc (World.alloc w1 _) _ = Wo
  have hxo : Xk.Ext w1 Wo := by rw [← hWo]; exact Xk.xt
  have hO : OpsAt (w1.heap.size + 1) br P12.cmpOps Wo := by rw [← hWo]; exact hO
  have hbo : Wo.heap[w1.heap.size]? = some (exprO (exprL kd op vk vi vs tb nm (.slice pp pm pc))) := by
   rw [← hWo]; exact (Turn.alloc (Turn.refl br _) _).held hb7 (by omega)
  have hlo : Wo.heap.size = w1.heap.size + 2 := by rw [← hWo]; simp only [World.size_alloc]
  clear hWo hb7
  have HO2 := Lib.hid hO
  have HB7 := Lib.hid hbo
  have HZ := Lib.hid ((hxo.block _ (Array.getElem?_eq_some_iff.1 HZ1.out).1).trans HZ1.out)
  have HE := Lib.hid (HE1.out.ext hxo)
  have HR2 := Lib.hid (HR1.out.ext hxo)
  have HT := Lib.hid (Turn.trans HT1.out (Turn.of_ext hxo))
  have lgo := hO.lt
  clear hO hbo hxo
  go_loopw [11] (fun x wr2 => ∃ k : Nat, k ≤ 6 ∧ x = .int .i64 k ∧ Xk.Ext Wo wr2 ∧ ∀ (j : Nat) (o : P12.T × Int), j < k → P12.cmpOps[j]? = some o → P12.isT o.1 r = false) (fun x _ => 6 - (intOf x).toNat)
  case atStart => exact ⟨0, Nat.zero_le _, rfl, Below.refl _ _, fun j o hj => absurd hj (by omega)⟩
  case round =>
   obtain ⟨k, hkn, rfl, hx, hno⟩ := hrel
   have HX := Lib.hid hx
   have HNO := Lib.hid hno
   have hsx := hx.size
   clear hx hno
   by_cases hlt : k < 6
   ·obtain ⟨o, hok⟩ : ∃ o, P12.cmpOps[k]? = some o := ⟨_, List.getElem?_eq_getElem (by show k < 6; exact hlt)⟩
    have hkb : (k : Int) < 6 := by omega
    have hc := Xk.ext_cell HX.out (HO2.out.cell k o hok)
    obtain ⟨hnum, hne, hol⟩ := HO2.out.num o (List.mem_of_getElem? hok)
    have HOK := Lib.hid hok
    clear hok
    cases hs : P12.isT o.1 r
    ·go_wp2_with (go_at_call 20; refine (has_no br r o.1 _ (HR2.out.ext HX.out) hs).mono ?_; rintro e w' ⟨rfl, hb⟩; obtain ⟨p, rfl⟩ := Xk.exw_of hb; clear hb)
     go_roundw
     case rel => exact ⟨k + 1, by omega, by go_num, Xk.Ext.trans HX.out (Xk.ext_exw _ _), fun j o' hj ho' => by
      by_cases hjk : j = k
      ·subst hjk
       rw [HOK.out] at ho'
       cases ho'
       exact hs
      ·exact HNO.out j o' (by omega) ho'⟩
     case measure => simp [intOf]; omega
    ·go_wp2_with fail
     go_at_call 20
     refine (has_yes br r o.1 _ (HR2.out.ext HX.out) hs).mono ?_
     rintro e w3 ⟨rfl, ht3, hr3⟩
     have hx3 : Turn br Wo w3 := Turn.trans (Turn.of_ext HX.out) ht3
     have HB3 := Lib.hid (hx3.held HB7.out (by omega))
     have HZ3 := Lib.hid (hx3.held HZ.out (by omega))
     have HE3 := Lib.hid (HE.out.turn hx3 (fun b hb => by omega))
     have HR3 := Lib.hid hr3
     have HT3 := Lib.hid (Turn.trans HT.out hx3)
     have HK3 := Lib.hid (HK1.out.trans (P12.keeps_takes r))
     have ls3 := hx3.size
     have l73 := (Array.getElem?_eq_some_iff.1 HB3.out).1
     have hE := HE0.out
     rw [find_at HOK.out hs (fun j o' hj ho' => HNO.out j o' hj ho')] at hE
     dsimp only at hE
     clear hr3 hx3 ht3 hc HE0
     cases hp2 : sm (P12.takes r) with
     | error er =>
      rw [hp2] at hE
      dsimp only at hE
      subst hE
      go_wp2
      refine Xg.wp_region_rel (E := Turn br) (Xe.pre_ES _) (fun ch W => Ending.panicked ch = faults er ∧ Turn br w3 W) 5 7 (fun _ => none) (fun _ _ h => by cases h) (fun _ _ _ _ h => by cases h) [(0, MapFact w3.heap.size operatorsL), (5, fun _ _ => False), (6, fun _ _ => False)] (by kernel_rfl) (by kernel_rfl) (Xg.stable_one ((by
             intro y hy
             simp only [List.mem_cons, List.not_mem_nil, or_false] at hy
             rcases hy with rfl | rfl | rfl
             ·rw [if_neg (show ¬ (0 = 5) by decide)]; exact MapFact.turn (by omega)
             ·rw [if_pos rfl]; exact fun _ _ _ _ h => h
             ·rw [if_neg (show ¬ (6 = 5) by decide)]; exact fun _ _ _ _ h => h))) ((fun ch a w' hd hX => ⟨hd, hX.1, Turn.trans HT3.out hX.2⟩)) ?_
      simp only [List.take_succ_cons, List.take_zero, List.drop_succ_cons, List.drop_zero]
      (refine Xg.rel_make (by rfl) (by rfl) (by decide) (fun W hx hp => ?_) (fun u0 K hK => ?_); (go_simp; exact (operators_any W).mono (fun e w' h => by obtain ⟨rfl, hm, hx'⟩ := h; exact ⟨_, rfl, hx', ⟨W.heap.size, 14, rfl, (by have := hx.size; simpa using this), (by obtain ⟨es, cl, hb, -⟩ := hm; exact (Array.getElem?_eq_some_iff.1 hb).1), hm⟩, fun b hb => by cases hb⟩)); (go_simp; refine hK _ ?_; clear hK K))
      refine Xg.gs ?_
      (refine Xg.rel_det (Xk.wanted_none (by rfl)) (by rfl) (fun K hK => ?_); apply Exists.intro; refine ⟨fun W hx hp => ?_, ?_⟩; ((obtain ⟨b, n, hu, h1, h2, h3⟩ := Xe.facts_head hp (by kernel_rfl); have hlk := look_one h3 o.1 (by omega); subst hu); go_simp; first | exact ⟨rfl, rfl⟩ | ((try refine ⟨by kernel_rfl, ?_⟩); (fail))); (go_simp; refine hK _ ?_; clear hK K))
      (refine Xg.rel_det (Xk.wanted_none (by rfl)) (by rfl) (fun K hK => ?_); apply Exists.intro; refine ⟨fun W hx hp => ?_, ?_⟩; ((obtain ⟨c0, c1, c2, c3, c4, c5, c6, c7, c8, c9⟩ := cells_of10 (hx.held (show w3.drew.heap[w1.heap.size]? = _ from HB3.out) (by omega))); go_simp; first | exact ⟨rfl, rfl⟩ | ((try refine ⟨by kernel_rfl, ?_⟩); (fail))); (go_simp; refine hK _ ?_; clear hK K))
      refine Xg.gs ?_
      (refine Xg.rel_loud (by rfl) (by rfl) rfl (fun W hx hp => ?_) (fun u5 K hK => ?_); (go_simp; ((refine (HPP.out (P12.takes r) W HK3.out (HR3.out.drew.ext hx)).mono ?_); intro e w2 h; rw [hp2] at h; obtain ⟨h1, h2⟩ := h; exact Or.inr ⟨_, h1, ⟨rfl, (Turn.drew (Turn.refl _ _)).trans ((Turn.of_ext hx).trans h2)⟩⟩)); (go_simp; refine hK _ ?_; clear hK K))
      (refine Xg.rel_make (by rfl) (by rfl) (by decide) (fun W hx hp => ?_) (fun u6 K hK => ?_); (exact (Xe.facts_head hp (by kernel_rfl)).elim); (go_simp; refine hK _ ?_; clear hK K))
      refine Xg.rel_nil (fun W hx hp hg => ?_)
      exact hp.1.elim
     | ok p2 =>
      obtain ⟨e2, r2⟩ := p2
      rw [hp2] at hE
      dsimp only at hE
      subst hE
      go_wp2
      refine Xg.wp_region_rel (E := Turn br) (Xe.pre_ES _) (fun ch W => False) 5 7 (fun _ => none) (fun _ _ h => by cases h) (fun _ _ _ _ h => by cases h) [(0, MapFact w3.heap.size operatorsL), (5, ExprFact br w3.heap.size e2 (P12.takes r) r2), (6, PairFact w3.heap.size e2 (exprL kd op vk vi vs tb nm (.slice pp pm pc)))] (by kernel_rfl) (by kernel_rfl) (Xg.stable_one ((by
             intro y hy
             simp only [List.mem_cons, List.not_mem_nil, or_false] at hy
             rcases hy with rfl | rfl | rfl
             ·rw [if_neg (show ¬ (0 = 5) by decide)]; exact MapFact.turn (by omega)
             ·rw [if_pos rfl]; exact ExprFact.ext
             ·rw [if_neg (show ¬ (6 = 5) by decide)]; exact PairFact.turn (by omega)))) ((fun ch a w' hd hX => hX.elim)) ?_
      simp only [List.take_succ_cons, List.take_zero, List.drop_succ_cons, List.drop_zero]
      (refine Xg.rel_make (by rfl) (by rfl) (by decide) (fun W hx hp => ?_) (fun u0 K hK => ?_); (go_simp; exact (operators_any W).mono (fun e w' h => by obtain ⟨rfl, hm, hx'⟩ := h; exact ⟨_, rfl, hx', ⟨W.heap.size, 14, rfl, (by have := hx.size; simpa using this), (by obtain ⟨es, cl, hb, -⟩ := hm; exact (Array.getElem?_eq_some_iff.1 hb).1), hm⟩, fun b hb => by cases hb⟩)); (go_simp; refine hK _ ?_; clear hK K))
      refine Xg.gs ?_
      (refine Xg.rel_det (Xk.wanted_none (by rfl)) (by rfl) (fun K hK => ?_); apply Exists.intro; refine ⟨fun W hx hp => ?_, ?_⟩; ((obtain ⟨b, n, hu, h1, h2, h3⟩ := Xe.facts_head hp (by kernel_rfl); have hlk := look_one h3 o.1 (by omega); subst hu); go_simp; first | exact ⟨rfl, rfl⟩ | ((try refine ⟨by kernel_rfl, ?_⟩); (fail))); (go_simp; refine hK _ ?_; clear hK K))
      (refine Xg.rel_det (Xk.wanted_none (by rfl)) (by rfl) (fun K hK => ?_); apply Exists.intro; refine ⟨fun W hx hp => ?_, ?_⟩; ((obtain ⟨c0, c1, c2, c3, c4, c5, c6, c7, c8, c9⟩ := cells_of10 (hx.held (show w3.drew.heap[w1.heap.size]? = _ from HB3.out) (by omega))); go_simp; first | exact ⟨rfl, rfl⟩ | ((try refine ⟨by kernel_rfl, ?_⟩); (fail))); (go_simp; refine hK _ ?_; clear hK K))
      refine Xg.gs ?_
      (refine Xg.rel_loud (by rfl) (by rfl) rfl (fun W hx hp => ?_) (fun u5 K hK => ?_); (go_simp; ((refine (HPP.out (P12.takes r) W HK3.out (HR3.out.drew.ext hx)).mono ?_); intro e w2 h; rw [hp2] at h; obtain ⟨v2, rfl, ⟨l2, rfl, he2⟩, h1, h2, h3⟩ := h; exact Or.inl ⟨_, rfl, h1, ⟨l2, rfl, he2.mono (fun b hb _ => by have := hx.size; simp only [World.size_drew] at this; omega), h2, h3⟩, fun b hb => by cases hb⟩)); (go_simp; refine hK _ ?_; clear hK K))
      (refine Xg.rel_make (by rfl) (by rfl) (by decide) (fun W hx hp => ?_) (fun u6 K hK => ?_); ((obtain ⟨l2, hu, he2, -, -⟩ := Xe.facts_head hp (by kernel_rfl); obtain ⟨kd2, op2, vk2, vi2, vs2, tb2, nm2, pp2, pm2, pc2, rfl⟩ := he2.form; subst hu; go_simp; exact ⟨(Below.refl _ _).alloc (Nat.le_refl _) _, ⟨W.heap.size, _, rfl, (by have := hx.size; simpa using this), heap_new W _, he2.ext ((Below.refl _ _).alloc (Nat.le_refl _) _)⟩, fun b hb => by cases hb; exact ⟨.inr (Nat.le_refl _), by simp⟩⟩)); (go_simp; refine hK _ ?_; clear hK K))
      refine Xg.rel_nil (fun W hx hp hg => ?_)
      obtain ⟨⟨g, l2, rfl, hge, hgc, he2⟩, ⟨l2', rfl, -, hr2, hk2⟩, -⟩ := hp
      have hxW : Turn br w3 W := (Turn.drew (Turn.refl _ _)).trans hx
      have hzW := hxW.held HZ3.out (by omega)
      have hU : ExprAt (fun b => w.heap.size < b) W (.bin o.2 e0 e2) (exprL 4 o.2 0 0 [] [] [] (.slice (some ⟨g, 0, none⟩) 2 2)) :=
       ⟨g, exprL kd op vk vi vs tb nm (.slice pp pm pc), l2, by omega, rfl, range_of_block hgc, rfl, he2.length, (HE3.out.turn hxW (fun b hb => by omega)).mono (fun b hb _ => hb.1), he2.mono (fun b hb _ => by omega)⟩
      have HU := Lib.hid hU
      have HTW := Lib.hid (Turn.trans HT3.out hxW)
      have HRW := Lib.hid hr2
      have HKW := Lib.hid (HK3.out.trans hk2)
      clear hx hg hxW he2 hr2 hk2 hgc hU
      have lRet := (Array.getElem?_eq_some_iff.1 (hzW)).1
      obtain ⟨d0, d1, d2, d3, d4, d5, d6, d7, d8, d9⟩ := cells_of10 (hzW)
      obtain ⟨f0, f1, f2, f3, f4, f5, f6, f7, f8, f9⟩ := frozen10 (hzW)
      go_wp2
      refine bodyPost_ret (v := .agg (exprL 4 o.2 0 0 [] [] [] (.slice (some ⟨g, 0, none⟩) 2 2)).toArray) (by simp [results, Tryz.results262, go_sem, d0, d1, d2, d3, d4, d5, d6, d7, d8, d9]) rfl ⟨_, rfl, ⟨_, rfl, ?_⟩, ?_, ?_, HKW.out⟩
      ·exact (ExprAt.sets (g := w.heap.size) (HU.out) (by omega) (exprL 4 o.2 0 0 [] [] [] (.slice (some ⟨g, 0, none⟩) 2 2)) 0).mono (fun b hb _ => by omega)
      ·exact Turn.setCells (g := w.heap.size) (.inl (by omega)) (exprL 4 o.2 0 0 [] [] [] (.slice (some ⟨g, 0, none⟩) 2 2)) 0 (HTW.out)
      ·exact Rd.setCells (g := w.heap.size) (by omega) (exprL 4 o.2 0 0 [] [] [] (.slice (some ⟨g, 0, none⟩) 2 2)) 0 (HRW.out)
   ·obtain rfl : k = 6 := by omega
    have hz2 := (HX.out.block _ (Array.getElem?_eq_some_iff.1 HZ.out).1).trans HZ.out
    have hb2 := (HX.out.block _ (Array.getElem?_eq_some_iff.1 HB7.out).1).trans HB7.out
    have HRX := Lib.hid (HR2.out.ext HX.out)
    have hfn : P12.cmpOps.find? (fun o => P12.isT o.1 r) = none := find_none (fun j o hj => HNO.out j o (List.getElem?_eq_some_iff.1 hj).1 hj)
    have hE := HE0.out
    rw [hfn] at hE
    dsimp only at hE
    have HE2 := Lib.hid hE
    have HEX := Lib.hid (HE.out.ext HX.out)
    have HTX := Lib.hid (Turn.trans HT.out (Turn.of_ext HX.out))
    clear hE HE0 hfn
    cases hi : P12.isT [73, 83] r
    ·go_wp2_with fail
     go_at_call 20
     refine (has_no br r [73, 83] _ HRX.out hi).mono ?_
     rintro e w4 ⟨rfl, hx4⟩
     have hE := HE2.out
     simp only [hi, if_true] at hE
     subst hE
     have hz4 := (hx4.block _ (Array.getElem?_eq_some_iff.1 hz2).1).trans hz2
     have hb4 := (hx4.block _ (Array.getElem?_eq_some_iff.1 hb2).1).trans hb2
     obtain ⟨c0, c1, c2, c3, c4, c5, c6, c7, c8, c9⟩ := cells_of10 hb4
     have lC := (Array.getElem?_eq_some_iff.1 hb4).1
     have HEY := Lib.hid (HEX.out.ext hx4)
     have HTY := Lib.hid (Turn.trans HTX.out (Turn.of_ext hx4))
     have HRY := Lib.hid (HRX.out.ext hx4)
     clear hx4 hz2 hb2 hb4
     have lRet := (Array.getElem?_eq_some_iff.1 (hz4)).1
     obtain ⟨d0, d1, d2, d3, d4, d5, d6, d7, d8, d9⟩ := cells_of10 (hz4)
     obtain ⟨f0, f1, f2, f3, f4, f5, f6, f7, f8, f9⟩ := frozen10 (hz4)
     go_wp2
     refine bodyPost_ret (v := .agg (exprL kd op vk vi vs tb nm (.slice pp pm pc)).toArray) (by simp [results, Tryz.results262, go_sem, d0, d1, d2, d3, d4, d5, d6, d7, d8, d9]) rfl ⟨_, rfl, ⟨_, rfl, ?_⟩, ?_, ?_, HK1.out⟩
     ·exact (ExprAt.sets (g := w.heap.size) (HEY.out.mono (S' := fun b => w.heap.size < b) (fun b hb _ => hb.1)) (by omega) (exprL kd op vk vi vs tb nm (.slice pp pm pc)) 0).mono (fun b hb _ => by omega)
     ·exact Turn.setCells (g := w.heap.size) (.inl (by omega)) (exprL kd op vk vi vs tb nm (.slice pp pm pc)) 0 (HTY.out)
     ·exact Rd.setCells (g := w.heap.size) (by omega) (exprL kd op vk vi vs tb nm (.slice pp pm pc)) 0 (HRY.out)
    ·go_wp2_with fail
     go_at_call 20
     refine (has_yes br r [73, 83] _ HRX.out hi).mono ?_
     rintro e w4 ⟨rfl, ht4, hr4⟩
     have hE := HE2.out
     simp only [hi, Bool.true_eq_false, if_false] at hE
     have hz4 := ht4.held hz2 (by omega)
     have hb4 := ht4.held hb2 (by omega)
     have HE4 := Lib.hid (HEX.out.turn ht4 (fun b hb => by omega))
     have HT4 := Lib.hid (Turn.trans HTX.out ht4)
     have l4 := ht4.size
     have HK4 := Lib.hid (HK1.out.trans (P12.keeps_takes r))
     clear hz2 hb2 ht4
     cases hnt : P12.isT [78, 79, 84] (P12.takes r)
     ·simp only [P12.has, hnt, Bool.false_eq_true, if_false] at hE
      have HE5 := Lib.hid hE
      clear hE HE2
      go_wp2_with fail
      go_at_call 20
      refine (has_no br _ [78, 79, 84] _ hr4 hnt).mono ?_
      rintro e w5 ⟨rfl, hx5⟩
      have HZ5 := Lib.hid ((hx5.block _ (Array.getElem?_eq_some_iff.1 hz4).1).trans hz4)
      have HB5 := Lib.hid ((hx5.block _ (Array.getElem?_eq_some_iff.1 hb4).1).trans hb4)
      have HEX5 := Lib.hid (HE4.out.ext hx5)
      have HT5 := Lib.hid (Turn.trans HT4.out (Turn.of_ext hx5))
      have HR5 := Lib.hid (hr4.ext hx5)
      have HK5 := Lib.hid HK4.out
      have l5 := hx5.size
      clear hz4 hb4 hx5 hr4
      have hMu := must_any br (P12.takes r) [78, 85, 76, 76] w5.heap.size (w5.alloc (.cells #[bs [78, 85, 76, 76]] 9)) (rdx (HR5.out)) (cell_new w5 _ _) (by omega)
      cases hm : P12.isT [78, 85, 76, 76] (P12.takes r)
      ·rw [show P12.mustU [78, 85, 76, 76] (P12.takes r) = .error ((P12.nxt (P12.takes r)).pos, 120) by unfold P12.mustU; rw [hm]; rfl] at hMu
       have HMu := Lib.hid hMu
       clear hMu
       have hE := HE5.out
       simp only [P12.must, hm, P12.fails, Bool.false_eq_true, if_false] at hE
       subst hE
       go_wp2_with fail
       refine HMu.out.mono ?_
       rintro e w6 ⟨rfl, ht6⟩
       simp only [faults]
       go_wp2
       exact ⟨rfl, rfl, Turn.trans (tu (HT5.out)) ht6⟩
      ·rw [show P12.mustU [78, 85, 76, 76] (P12.takes r) = .ok ((), P12.takes (P12.takes r)) by unfold P12.mustU; rw [hm]; rfl] at hMu
       have HMu := Lib.hid hMu
       clear hMu
       have hE := HE5.out
       simp only [P12.must, hm, P12.fails, if_true] at hE
       subst hE
       go_wp2_with fail
       refine HMu.out.mono ?_
       rintro e w6 ⟨v6, rfl, rfl, ht6, hr6, hk6⟩
       have hT56 : Turn br w5 w6 := Turn.trans (tu trivial) ht6
       have hz6 := hT56.held HZ5.out (by omega)
       have hb6 := hT56.held HB5.out (by omega)
       obtain ⟨c0, c1, c2, c3, c4, c5, c6, c7, c8, c9⟩ := cells_of10 hb6
       have HT6 := Lib.hid (Turn.trans HT5.out hT56)
       have HE6 := Lib.hid (HEX5.out.turn hT56 (fun b hb => by omega))
       have HR6 := Lib.hid hr6
       have HK6 := Lib.hid hk6
       have l6 := hT56.size
       clear hT56 ht6 hr6 hk6 hb6
       go_wp2_with fail
       go_at_call 263
       refine (unary_any 17 kd op vk vi vs tb nm pp pm pc _).mono ?_
       rintro e w7 ⟨g, rfl, hg, hgc, hx7⟩
       have hz7 := (hx7.block _ (Array.getElem?_eq_some_iff.1 hz6).1).trans hz6
       have hl7 := hx7.size
       have hu7 : ExprAt (fun b => w.heap.size < b) w7 (.una 17 e0) (exprL 3 17 0 0 [] [] [] (.slice (some ⟨g, 0, none⟩) 1 1)) :=
        ⟨g, exprL kd op vk vi vs tb nm (.slice pp pm pc), by omega, rfl, range_of_block hgc, rfl, (HE6.out.ext hx7).mono (fun b hb _ => hb.1)⟩
       have HU7 := Lib.hid hu7
       have HT7 := Lib.hid (Turn.trans HT6.out (Turn.of_ext hx7))
       have HR7 := Lib.hid (HR6.out.ext hx7)
       have HKK := Lib.hid (HK5.out.trans HK6.out)
       clear hu7 hx7 hgc c0 c1 c2 c3 c4 c5 c6 c7 c8 c9
       have lRet := (Array.getElem?_eq_some_iff.1 (hz7)).1
       obtain ⟨d0, d1, d2, d3, d4, d5, d6, d7, d8, d9⟩ := cells_of10 (hz7)
       obtain ⟨f0, f1, f2, f3, f4, f5, f6, f7, f8, f9⟩ := frozen10 (hz7)
       go_wp2
       refine bodyPost_ret (v := .agg (exprL 3 17 0 0 [] [] [] (.slice (some ⟨g, 0, none⟩) 1 1)).toArray) (by simp [results, Tryz.results262, go_sem, d0, d1, d2, d3, d4, d5, d6, d7, d8, d9]) rfl ⟨_, rfl, ⟨_, rfl, ?_⟩, ?_, ?_, HKK.out⟩
       ·exact (ExprAt.sets (g := w.heap.size) (HU7.out) (by omega) (exprL 3 17 0 0 [] [] [] (.slice (some ⟨g, 0, none⟩) 1 1)) 0).mono (fun b hb _ => by omega)
       ·exact Turn.setCells (g := w.heap.size) (.inl (by omega)) (exprL 3 17 0 0 [] [] [] (.slice (some ⟨g, 0, none⟩) 1 1)) 0 (HT7.out)
       ·exact Rd.setCells (g := w.heap.size) (by omega) (exprL 3 17 0 0 [] [] [] (.slice (some ⟨g, 0, none⟩) 1 1)) 0 (HR7.out)
     ·simp only [P12.has, hnt, if_true] at hE
      have HE5 := Lib.hid hE
      clear hE HE2
      go_wp2_with fail
      go_at_call 20
      refine (has_yes br _ [78, 79, 84] _ hr4 hnt).mono ?_
      rintro e w5 ⟨rfl, ht5, hr5⟩
      have HZ5 := Lib.hid (ht5.held hz4 (by omega))
      have HB5 := Lib.hid (ht5.held hb4 (by omega))
      have HEX5 := Lib.hid (HE4.out.turn ht5 (fun b hb => by omega))
      have HT5 := Lib.hid (Turn.trans HT4.out ht5)
      have HR5 := Lib.hid hr5
      have HK5 := Lib.hid (HK4.out.trans (P12.keeps_takes (P12.takes r)))
      have l5 := ht5.size
      clear hz4 hb4 ht5 hr4 hr5
      have hMu := must_any br (P12.takes (P12.takes r)) [78, 85, 76, 76] w5.heap.size (w5.alloc (.cells #[bs [78, 85, 76, 76]] 9)) (rdx (HR5.out)) (cell_new w5 _ _) (by omega)
      cases hm : P12.isT [78, 85, 76, 76] (P12.takes (P12.takes r))
      ·rw [show P12.mustU [78, 85, 76, 76] (P12.takes (P12.takes r)) = .error ((P12.nxt (P12.takes (P12.takes r))).pos, 120) by unfold P12.mustU; rw [hm]; rfl] at hMu
       have HMu := Lib.hid hMu
       clear hMu
       have hE := HE5.out
       simp only [P12.must, hm, P12.fails, Bool.false_eq_true, if_false] at hE
       subst hE
       go_wp2_with fail
       refine HMu.out.mono ?_
       rintro e w6 ⟨rfl, ht6⟩
       simp only [faults]
       go_wp2
       exact ⟨rfl, rfl, Turn.trans (tu (HT5.out)) ht6⟩
      ·rw [show P12.mustU [78, 85, 76, 76] (P12.takes (P12.takes r)) = .ok ((), P12.takes (P12.takes (P12.takes r))) by unfold P12.mustU; rw [hm]; rfl] at hMu
       have HMu := Lib.hid hMu
       clear hMu
       have hE := HE5.out
       simp only [P12.must, hm, P12.fails, if_true] at hE
       subst hE
       go_wp2_with fail
       refine HMu.out.mono ?_
       rintro e w6 ⟨v6, rfl, rfl, ht6, hr6, hk6⟩
       have hT56 : Turn br w5 w6 := Turn.trans (tu trivial) ht6
       have hz6 := hT56.held HZ5.out (by omega)
       have hb6 := hT56.held HB5.out (by omega)
       obtain ⟨c0, c1, c2, c3, c4, c5, c6, c7, c8, c9⟩ := cells_of10 hb6
       have HT6 := Lib.hid (Turn.trans HT5.out hT56)
       have HE6 := Lib.hid (HEX5.out.turn hT56 (fun b hb => by omega))
       have HR6 := Lib.hid hr6
       have HK6 := Lib.hid hk6
       have l6 := hT56.size
       clear hT56 ht6 hr6 hk6 hb6
       go_wp2_with fail
       go_at_call 263
       refine (unary_any 18 kd op vk vi vs tb nm pp pm pc _).mono ?_
       rintro e w7 ⟨g, rfl, hg, hgc, hx7⟩
       have hz7 := (hx7.block _ (Array.getElem?_eq_some_iff.1 hz6).1).trans hz6
       have hl7 := hx7.size
       have hu7 : ExprAt (fun b => w.heap.size < b) w7 (.una 18 e0) (exprL 3 18 0 0 [] [] [] (.slice (some ⟨g, 0, none⟩) 1 1)) :=
        ⟨g, exprL kd op vk vi vs tb nm (.slice pp pm pc), by omega, rfl, range_of_block hgc, rfl, (HE6.out.ext hx7).mono (fun b hb _ => hb.1)⟩
       have HU7 := Lib.hid hu7
       have HT7 := Lib.hid (Turn.trans HT6.out (Turn.of_ext hx7))
       have HR7 := Lib.hid (HR6.out.ext hx7)
       have HKK := Lib.hid (HK5.out.trans HK6.out)
       clear hu7 hx7 hgc c0 c1 c2 c3 c4 c5 c6 c7 c8 c9
       have lRet := (Array.getElem?_eq_some_iff.1 (hz7)).1
       obtain ⟨d0, d1, d2, d3, d4, d5, d6, d7, d8, d9⟩ := cells_of10 (hz7)
       obtain ⟨f0, f1, f2, f3, f4, f5, f6, f7, f8, f9⟩ := frozen10 (hz7)
       go_wp2
       refine bodyPost_ret (v := .agg (exprL 3 18 0 0 [] [] [] (.slice (some ⟨g, 0, none⟩) 1 1)).toArray) (by simp [results, Tryz.results262, go_sem, d0, d1, d2, d3, d4, d5, d6, d7, d8, d9]) rfl ⟨_, rfl, ⟨_, rfl, ?_⟩, ?_, ?_, HKK.out⟩
       ·exact (ExprAt.sets (g := w.heap.size) (HU7.out) (by omega) (exprL 3 18 0 0 [] [] [] (.slice (some ⟨g, 0, none⟩) 1 1)) 0).mono (fun b hb _ => by omega)
       ·exact Turn.setCells (g := w.heap.size) (.inl (by omega)) (exprL 3 18 0 0 [] [] [] (.slice (some ⟨g, 0, none⟩) 1 1)) 0 (HT7.out)
       ·exact Rd.setCells (g := w.heap.size) (by omega) (exprL 3 18 0 0 [] [] [] (.slice (some ⟨g, 0, none⟩) 1 1)) 0 (HR7.out)
theorem value_any (br grb : Nat) (k i : Int) (s : P12.T) (r : P12.R) (w : World) (h : Rd br r w) (hb : w.heap[grb]? = some (.cells #[rp br] 67)) (hg : br < grb) :
  Calls Tryz.prog 296 #[.agg #[.int .i64 k, .int .i64 i, .string ⟨s.toArray⟩], rp grb] w fun e w' => e = .returned (.agg (exprL 1 0 k i s [] [] nilS).toArray) ∧ Turn br w w' ∧ Rd br (P12.takes r) w' := by
 have HR := Lib.hid h
 have hg2 : w.cell? ⟨grb, 0, none⟩ = some (rp br) := by simp [World.cell?, hb]
 have lg := World.block_lt_of_cell? _ _ hg2
 have lr := h.lt
 clear h hb
 go_enter Tryz.func296, Tryz.ntmps296
 go_wp2_with fail
 go_at_call 75
 refine (takes_any br r _ (rdx (HR.out))).mono ?_
 rintro e w1 ⟨rfl, ht, hr⟩
 have hl := ht.size
 simp only [World.size_alloc] at hl
 have hz : w1.heap[w.heap.size + 1]? = some (exprO zero10.toList) := ht.held (by have := heap_new (w.alloc (.cells #[.int .i64 k, .int .i64 i, .string ⟨s.toArray⟩] 33)) (exprO zero10.toList); rwa [World.size_alloc] at this) (by omega)
 have hv : w1.heap[w.heap.size]? = some (.cells #[.int .i64 k, .int .i64 i, .string ⟨s.toArray⟩] 33) := ht.held ((Turn.alloc (Turn.refl br _) _).held (heap_new w _) (by omega)) (by omega)
 obtain ⟨c0, c1, c2, -⟩ := Xe.cells_of3 hv
 have hT : Turn br w w1 := Turn.trans (tu trivial) ht
 have lRet := (Array.getElem?_eq_some_iff.1 (hz)).1
 obtain ⟨d0, d1, d2, d3, d4, d5, d6, d7, d8, d9⟩ := cells_of10 (hz)
 obtain ⟨f0, f1, f2, f3, f4, f5, f6, f7, f8, f9⟩ := frozen10 (hz)
 have HT := Lib.hid hT
 have HR1 := Lib.hid hr
 clear hz hv ht hr hT
 go_wp2
 refine bodyPost_ret (v := .agg (exprL 1 0 k i s [] [] nilS).toArray) (by simp [results, Tryz.results296, go_sem, d0, d1, d2, d3, d4, d5, d6, d7, d8, d9]) rfl ⟨rfl, ?_, ?_⟩
 ·exact Turn.setCells (g := w.heap.size + 1) (.inl (by omega)) (exprL 1 0 k i s [] [] nilS) 0 HT.out
 ·exact Rd.setCells (g := w.heap.size + 1) (by omega) (exprL 1 0 k i s [] [] nilS) 0 HR1.out
def ArgV (B g5 : Nat) (v : Value) (x : Bool × P12.E) (W : World) : Prop := ∃ l, v = .agg l.toArray ∧ ExprAt (fun b => B < b) W x.2 l ∧ W.heap[g5]? = some (.cells #[.bool x.1] 4)
theorem arg_any (br B g2 g3 g5 : Nat) (op : Int) (ex : P12.R → Except P12.Er (P12.E × P12.R)) (r : P12.R) (w : World) (h : Rd br r w) (h2 : w.heap[g2]? = some (.cells #[rp br] 67)) (h3 : w.heap[g3]? = some (.cells #[.int .i64 op] 3)) (h5 : w.heap[g5]? = some (.cells #[.bool false] 4))
  (l2 : br < g2) (l3 : br < g3) (l5 : br < g5) (hB : B < w.heap.size) (hB5 : g5 ≤ B)
  (hX : ∀ W, Rd br r W → Calls Tryz.prog 140 #[rp br] W (Got br W r (ExprV W) (ex r))) :
  Calls Tryz.prog 300 #[rp g3, rp g2, rp g5] w (GotK br [g5] w r (ArgV B g5) (P12.callArg ex op r)) := by
 have HR := Lib.hid h
 have c2 : w.cell? ⟨g2, 0, none⟩ = some (rp br) := by simp [World.cell?, h2]
 have c3 : w.cell? ⟨g3, 0, none⟩ = some (.int .i64 op) := by simp [World.cell?, h3]
 have c5 : w.cell? ⟨g5, 0, none⟩ = some (.bool false) := by simp [World.cell?, h5]
 have f5 := frozen_of_row w g5 0 _ _ h5
 have lw2 := World.block_lt_of_cell? _ _ c2
 have lw3 := World.block_lt_of_cell? _ _ c3
 have lw5 := World.block_lt_of_cell? _ _ c5
 have lr := h.lt
 have H2 := Lib.hid h2
 have H5 := Lib.hid h5
 have HX := Lib.hid hX
 clear h h2 h3 h5 hX
 generalize hres : P12.callArg ex op r = res
 have HRES := Lib.hid hres
 clear hres
 by_cases ho : op = 20
 ·subst ho
  cases hs : P12.isT [42] r
  ·have hE := HRES.out
   simp only [P12.callArg, hs, Bool.false_eq_true, and_false, if_false] at hE
   go_enter Tryz.func300, Tryz.ntmps300
   go_wp2_with fail
   go_at_call 20
   refine (has_no br r [42] _ (rdx (HR.out)) hs).mono ?_
   rintro e w1 ⟨rfl, hx1⟩
   have hxw : Xk.Ext w w1 := Xk.Ext.trans ((Below.refl _ _).alloc (Nat.le_refl _) _) hx1
   have hT1 : Turn br w w1 := Turn.of_ext hxw
   have hr1 := HR.out.ext hxw
   have hz1 : w1.heap[w.heap.size]? = some (exprO zero10.toList) := (hx1.block _ (by rw [World.size_alloc]; omega)).trans (heap_new w _)
   have hl1 := hx1.size
   simp only [World.size_alloc] at hl1
   have h51 := (hxw.block _ (Array.getElem?_eq_some_iff.1 H5.out).1).trans H5.out
   have c2' := Xk.ext_cell hxw c2
   clear hxw hx1
   go_wp2_with fail
   refine (HX.out _ hr1).mono ?_
   intro e w2 h
   cases hx2 : ex r with
   | error er =>
    rw [hx2] at h hE
    dsimp only at hE
    subst hE
    obtain ⟨rfl, ht2⟩ := h
    simp only [faults]
    go_wp2
    exact ⟨rfl, rfl, (Kept.of_turn (Turn.trans hT1 ht2) (by simp))⟩
   | ok p =>
    obtain ⟨a, r2⟩ := p
    rw [hx2] at h hE
    dsimp only at hE
    subst hE
    obtain ⟨v, rfl, ⟨l, rfl, he⟩, ht2, hr2, hk2⟩ := h
    obtain ⟨kd, op', vk, vi, vs, tb, nm, pp, pm, pc, rfl⟩ := he.form
    have hl2 := ht2.size
    have hz2 := ht2.held hz1 (by omega)
    have h52 := ht2.held h51 (by omega)
    have HT2 := Lib.hid (Turn.trans hT1 ht2)
    have HE2 := Lib.hid (he.mono (S' := fun b => w.heap.size < b) (fun b hb _ => by omega))
    have H52 := Lib.hid h52
    have HR2 := Lib.hid hr2
    have hne : ¬ g5 = w.heap.size := by omega
    have lRet := (Array.getElem?_eq_some_iff.1 (hz2)).1
    obtain ⟨d0, d1, d2, d3, d4, d5, d6, d7, d8, d9⟩ := cells_of10 (hz2)
    obtain ⟨f0, f1, f2, f3, f4, f5, f6, f7, f8, f9⟩ := frozen10 (hz2)
    clear he ht2 hr2 hz1 hz2 h51 h52 hr1 hT1
    go_wp2
    refine bodyPost_ret (v := .agg (exprL kd op' vk vi vs tb nm (.slice pp pm pc)).toArray) (by simp [results, Tryz.results297, go_sem, d0, d1, d2, d3, d4, d5, d6, d7, d8, d9]) rfl ⟨_, rfl, ⟨_, rfl, ?_, ?_⟩, ?_, ?_, hk2⟩
    ·exact (ExprAt.sets (g := w.heap.size) (S := fun b => w.heap.size < b) HE2.out (by omega) (exprL kd op' vk vi vs tb nm (.slice pp pm pc)) 0).mono (fun b hb _ => by omega)
    ·exact (setCells_other w.heap.size (exprL kd op' vk vi vs tb nm (.slice pp pm pc)) 0 w2 hne).trans H52.out
    ·exact Kept.setCells (g := w.heap.size) (.inl (Nat.le_refl _)) (exprL kd op' vk vi vs tb nm (.slice pp pm pc)) 0 (Kept.of_turn HT2.out (by simp))
    ·exact Rd.setCells (g := w.heap.size) lr (exprL kd op' vk vi vs tb nm (.slice pp pm pc)) 0 HR2.out
  ·have hE := HRES.out
   simp only [P12.callArg, hs, and_self, if_true] at hE
   subst hE
   go_enter Tryz.func300, Tryz.ntmps300
   go_wp2_with fail
   go_at_call 20
   refine (has_yes br r [42] _ (rdx (HR.out)) hs).mono ?_
   rintro e w1 ⟨rfl, ht, hr⟩
   have hl := ht.size
   simp only [World.size_alloc] at hl
   have hz : w1.heap[w.heap.size]? = some (exprO zero10.toList) := ht.held (heap_new w _) (by omega)
   have h51 := ht.held ((Turn.alloc (Turn.refl br w) _).held H5.out (by omega)) (by omega)
   have d5' : w1.cell? ⟨g5, 0, none⟩ = some (.bool false) := by simp [World.cell?, h51]
   have f5' := frozen_of_row w1 g5 0 _ _ h51
   have lw51 := World.block_lt_of_cell? _ _ d5'
   have hne : ¬ g5 = w.heap.size := by omega
   have hT : Turn br w w1 := Turn.trans (tu trivial) ht
   have lRet := (Array.getElem?_eq_some_iff.1 (hz)).1
   obtain ⟨d0, d1, d2, d3, d4, d5, d6, d7, d8, d9⟩ := cells_of10 (hz)
   obtain ⟨f0, f1, f2, f3, f4, f5, f6, f7, f8, f9⟩ := frozen10 (hz)
   have HT := Lib.hid hT
   have HR1 := Lib.hid hr
   have H51 := Lib.hid h51
   clear hz ht hr hT h51
   go_wp2
   refine bodyPost_ret (v := .agg (exprL 0 0 0 0 [] [] [] nilS).toArray) (by simp [results, Tryz.results300, go_sem, hne, d0, d1, d2, d3, d4, d5, d6, d7, d8, d9]) rfl ⟨_, rfl, ⟨exprL 0 0 0 0 [] [] [] nilS, rfl, rfl, ?_⟩, ?_, ?_, P12.keeps_takes r⟩
   ·refine (setCells_other w.heap.size (exprL 0 0 0 0 [] [] [] nilS) 0 (w1.setCell ⟨g5, 0, none⟩ (.bool true)) hne).trans ?_
    rw [heap_setCell_same w1 g5 0 _ _ _ H51.out]; simp
   ·exact Kept.setCells (g := w.heap.size) (.inl (Nat.le_refl _)) (exprL 0 0 0 0 [] [] [] nilS) 0 ((Kept.of_turn HT.out (by simp)).setCell (.inr (.inl (by simp))) _ _)
   ·exact Rd.setCells (g := w.heap.size) lr (exprL 0 0 0 0 [] [] [] nilS) 0 (Rd.setCell HR1.out l5 _ _)
 ·have hE := HRES.out
  simp only [P12.callArg, ho, false_and, if_false] at hE
  have hob : (op == 20) = false := by simpa using ho
  go_enter Tryz.func300, Tryz.ntmps300
  go_wp2_with fail
  generalize hW1 : World.alloc w _ = w1
  have hxw : Xk.Ext w w1 := by rw [← hW1]; exact (Below.refl _ _).alloc (Nat.le_refl _) _
  have hT1 : Turn br w w1 := Turn.of_ext hxw
  have hr1 := HR.out.ext hxw
  have hz1 : w1.heap[w.heap.size]? = some (exprO zero10.toList) := by rw [← hW1]; exact heap_new w _
  have hl1 : w.heap.size + 1 ≤ w1.heap.size := by rw [← hW1, World.size_alloc]; omega
  have h51 := (hxw.block _ (Array.getElem?_eq_some_iff.1 H5.out).1).trans H5.out
  clear hxw hW1
  refine (HX.out _ hr1).mono ?_
  intro e w2 h
  cases hx2 : ex r with
  | error er =>
   rw [hx2] at h hE
   dsimp only at hE
   subst hE
   obtain ⟨rfl, ht2⟩ := h
   simp only [faults]
   go_wp2
   exact ⟨rfl, rfl, (Kept.of_turn (Turn.trans hT1 ht2) (by simp))⟩
  | ok p =>
   obtain ⟨a, r2⟩ := p
   rw [hx2] at h hE
   dsimp only at hE
   subst hE
   obtain ⟨v, rfl, ⟨l, rfl, he⟩, ht2, hr2, hk2⟩ := h
   obtain ⟨kd, op', vk, vi, vs, tb, nm, pp, pm, pc, rfl⟩ := he.form
   have hl2 := ht2.size
   have hz2 := ht2.held hz1 (by omega)
   have h52 := ht2.held h51 (by omega)
   have HT2 := Lib.hid (Turn.trans hT1 ht2)
   have HE2 := Lib.hid (he.mono (S' := fun b => w.heap.size < b) (fun b hb _ => by omega))
   have H52 := Lib.hid h52
   have HR2 := Lib.hid hr2
   have hne : ¬ g5 = w.heap.size := by omega
   have lRet := (Array.getElem?_eq_some_iff.1 (hz2)).1
   obtain ⟨d0, d1, d2, d3, d4, d5, d6, d7, d8, d9⟩ := cells_of10 (hz2)
   obtain ⟨f0, f1, f2, f3, f4, f5, f6, f7, f8, f9⟩ := frozen10 (hz2)
   clear he ht2 hr2 hz1 hz2 h51 h52 hr1 hT1
   go_wp2
   refine bodyPost_ret (v := .agg (exprL kd op' vk vi vs tb nm (.slice pp pm pc)).toArray) (by simp [results, Tryz.results297, go_sem, d0, d1, d2, d3, d4, d5, d6, d7, d8, d9]) rfl ⟨_, rfl, ⟨_, rfl, ?_, ?_⟩, ?_, ?_, hk2⟩
   ·exact (ExprAt.sets (g := w.heap.size) (S := fun b => w.heap.size < b) HE2.out (by omega) (exprL kd op' vk vi vs tb nm (.slice pp pm pc)) 0).mono (fun b hb _ => by omega)
   ·exact (setCells_other w.heap.size (exprL kd op' vk vi vs tb nm (.slice pp pm pc)) 0 w2 hne).trans H52.out
   ·exact Kept.setCells (g := w.heap.size) (.inl (Nat.le_refl _)) (exprL kd op' vk vi vs tb nm (.slice pp pm pc)) 0 (Kept.of_turn HT2.out (by simp))
   ·exact Rd.setCells (g := w.heap.size) lr (exprL kd op' vk vi vs tb nm (.slice pp pm pc)) 0 HR2.out
theorem Kept.drop {B B' : Nat} {ks ks' : List Nat} {w w' : World} (h : Kept B ks w w') (hB : B' ≤ B) (hk : ∀ x, x ∈ ks → x ∈ ks' ∨ B' ≤ x) : Kept B' ks' w w' :=
 ⟨h.os, h.tape, h.output, h.size, fun x h1 h2 h3 => h.block x (Nat.lt_of_lt_of_le h1 hB) h2 (fun e => by
  rcases hk x e with h4 | h4
  ·exact h3 h4
  ·omega)⟩
theorem call_of (br : Nat) (op : Int) (ex : P12.R → Except P12.Er (P12.E × P12.R)) (r : P12.R) (w : World) (h : Rd br r w)
  (hX : ∀ r1 W, r1.deep = r.deep + 1 → Rd br r1 W → Calls Tryz.prog 140 #[rp br] W (Got br W r1 (ExprV W) (ex r1))) :
  Calls Tryz.prog 297 #[rp br, .int .i64 op] w (Got br w r (ExprV w) (P12.call ex op r)) := by
 have HR := Lib.hid h
 have lr := h.lt
 have hmf := mkfun
 obtain ⟨W0, hW0⟩ : ∃ W0, W0 = ((((w.alloc (.cells #[rp br] 67)).alloc (.cells #[.int .i64 op] 3)).alloc (exprO zero10.toList)).alloc (.cells #[.bool false] 4)) := ⟨_, rfl⟩
 have hx0 : Xk.Ext w W0 := by rw [hW0]; exact Xk.xt
 have hs0 : W0.heap.size = w.heap.size + 4 := by rw [hW0]; simp only [World.size_alloc]
 have g2 : W0.heap[w.heap.size]? = some (.cells #[rp br] 67) := by
  rw [hW0]; exact (Turn.alloc (Turn.alloc (Turn.alloc (Turn.refl br _) _) _) _).held (heap_new w _) (by omega)
 have g3 : W0.heap[w.heap.size + 1]? = some (.cells #[.int .i64 op] 3) := by
  rw [hW0]; exact (Turn.alloc (Turn.alloc (Turn.refl br _) _) _).held (by have := heap_new (w.alloc (.cells #[rp br] 67)) (.cells #[.int .i64 op] 3); rwa [World.size_alloc] at this) (by omega)
 have g4 : W0.heap[w.heap.size + 2]? = some (exprO zero10.toList) := by
  rw [hW0]; exact (Turn.alloc (Turn.refl br _) _).held (by have := heap_new ((w.alloc (.cells #[rp br] 67)).alloc (.cells #[.int .i64 op] 3)) (exprO zero10.toList); simpa only [World.size_alloc] using this) (by omega)
 have g5 : W0.heap[w.heap.size + 3]? = some (.cells #[.bool false] 4) := by
  rw [hW0]; have := heap_new (((w.alloc (.cells #[rp br] 67)).alloc (.cells #[.int .i64 op] 3)).alloc (exprO zero10.toList)) (.cells #[.bool false] 4); simpa only [World.size_alloc] using this
 have hE : Ent 300 := ⟨fun _ _ => by go_simp, by decide⟩
 have HW := Lib.hid (within_any (α := Bool × P12.E) br [w.heap.size + 3] (.func (.func 300) #[] #[rp (w.heap.size + 1), rp w.heap.size, rp (w.heap.size + 3)]) 300 #[rp (w.heap.size + 1), rp w.heap.size, rp (w.heap.size + 3)] (.inr rfl) hE
  (P12.callArg ex op) (ArgV W0.heap.size (w.heap.size + 3)) r W0 (h.ext hx0) (fun k hk => by simp only [List.mem_singleton] at hk; omega)
  (fun v x W hv => by
   obtain ⟨l, rfl, he, -⟩ := hv
   obtain ⟨kd, op, vk, vi, vs, tb, nm, pp, pm, pc, rfl⟩ := he.form
   exact ⟨_, _, _, _, _, _, _, _, _, _, rfl⟩)
  (fun v x W W' hv ht => by
   obtain ⟨l, rfl, he, h5⟩ := hv
   exact ⟨l, rfl, he.turn ht (fun b hb => by omega), ht.held h5 (by omega)⟩)
  (fun v x W o u hv => by
   obtain ⟨l, rfl, he, h5⟩ := hv
   exact ⟨l, rfl, he.set (by omega) o u, (heap_setCell_other W ⟨W0.heap.size, o, none⟩ _ u (by show w.heap.size + 3 ≠ W0.heap.size; omega)).trans h5⟩)
  (fun r1 W hd hd2 hr1 ht hlt => arg_any br W0.heap.size w.heap.size (w.heap.size + 1) (w.heap.size + 3) op ex r1 W hr1 (ht.held g2 (by omega)) (ht.held g3 (by omega)) (ht.held g5 (by omega)) (by omega) (by omega) (by omega) hlt (by omega) (fun W' hr' => hX r1 W' hd hr')))
 have G3 := Lib.hid g3
 have G4 := Lib.hid g4
 have HX0 := Lib.hid hx0
 have hc2 : W0.cell? ⟨w.heap.size, 0, none⟩ = some (rp br) := by simp [World.cell?, g2]
 have lc2 := World.block_lt_of_cell? _ _ hc2
 clear h hX g2 g3 g4 g5 hE hx0
 generalize hres : P12.call ex op r = res
 have HRES := Lib.hid hres
 clear hres
 go_enter Tryz.func297, Tryz.ntmps297
 go_wp2_with fail
 rw [← hW0]
 refine HW.out.mono ?_
 intro e w6 h
 cases hw : P12.within (P12.callArg ex op) r with
 | error er =>
  rw [hw] at h
  have hE := HRES.out
  simp only [P12.call, hw] at hE
  subst hE
  obtain ⟨rfl, hk6⟩ := h
  simp only [faults]
  go_wp2
  exact ⟨rfl, rfl, ((Kept.of_ext HX0.out).trans (hk6.drop (B' := w.heap.size) (ks' := [br]) (by omega) (fun x hx => by simp only [List.mem_cons, List.not_mem_nil, or_false] at hx ⊢; omega))).turn⟩
 | ok p =>
  obtain ⟨⟨all, a⟩, r6⟩ := p
  rw [hw] at h
  have hE := HRES.out
  simp only [P12.call, hw] at hE
  obtain ⟨v, rfl, ⟨l, rfl, he, h56⟩, hk6, hr6, hkk⟩ := h
  obtain ⟨kd, op', vk, vi, vs, tb, nm, pp, pm, pc, rfl⟩ := he.form
  have HT6 : Hid (Turn br w w6) := Lib.hid ((Kept.of_ext HX0.out).trans (hk6.drop (B' := w.heap.size) (ks' := [br]) (by omega) (fun x hx => by simp only [List.mem_cons, List.not_mem_nil, or_false] at hx ⊢; omega))).turn
  have hz6 := hk6.held G4.out (by omega) (by simp only [List.mem_cons, List.not_mem_nil, or_false]; omega)
  have ho6 := hk6.held G3.out (by omega) (by simp only [List.mem_cons, List.not_mem_nil, or_false]; omega)
  have c5 : w6.cell? ⟨w.heap.size + 3, 0, none⟩ = some (.bool all) := by simp [World.cell?, h56]
  have c3 : w6.cell? ⟨w.heap.size + 1, 0, none⟩ = some (.int .i64 op) := by simp [World.cell?, ho6]
  have lc5 := World.block_lt_of_cell? _ _ c5
  have lc3 := World.block_lt_of_cell? _ _ c3
  have hl6 := hk6.size
  have HE := Lib.hid he
  have HR6 := Lib.hid hr6
  have lRet := (Array.getElem?_eq_some_iff.1 (hz6)).1
  obtain ⟨d0, d1, d2, d3, d4, d5, d6, d7, d8, d9⟩ := cells_of10 (hz6)
  obtain ⟨f0, f1, f2, f3, f4, f5, f6, f7, f8, f9⟩ := frozen10 (hz6)
  have HZ6 := Lib.hid hz6
  have lRetB : w.heap.size + 2 < w6.heap.size + 1 := by omega
  clear he hr6 hk6 hz6 ho6 h56 hW0
  cases all
  ·simp only [Bool.false_eq_true, if_false] at hE
   subst hE
   go_wp2
   refine bodyPost_ret (v := .agg (exprL 5 op 0 0 [] [] [] (.slice (some ⟨w6.heap.size + 1, 0, none⟩) 1 1)).toArray) (by simp [results, Tryz.results297, go_sem, lRet, lRetB, d0, d1, d2, d3, d4, d5, d6, d7, d8, d9]) rfl ⟨_, rfl, ⟨_, rfl, ?_⟩, ?_, ?_, hkk⟩
   ·refine ⟨w6.heap.size + 1, (exprL kd op' vk vi vs tb nm (.slice pp pm pc)), by omega, rfl, ?_, rfl, ?_⟩
    ·have h := heap_new ((w6.setCells (w.heap.size + 2) 0 (exprL 5 op 0 0 [] [] [] (.slice (some ⟨w6.heap.size + 1, 0, none⟩) 1 1))).alloc (exprO (exprL kd op' vk vi vs tb nm (.slice pp pm pc)))) (exprO (exprL kd op' vk vi vs tb nm (.slice pp pm pc)))
     rw [World.size_alloc, setCells_size] at h
     exact range_of_block h
    ·exact (((ExprAt.sets (g := w.heap.size + 2) (S := fun b => W0.heap.size < b) HE.out (by omega) (exprL 5 op 0 0 [] [] [] (.slice (some ⟨w6.heap.size + 1, 0, none⟩) 1 1)) 0).ext ((Below.refl _ _).alloc (Nat.le_refl _) _)).ext ((Below.refl _ _).alloc (Nat.le_refl _) _)).mono (fun b hb _ => by omega)
   ·exact Turn.alloc (Turn.alloc (Turn.setCells (g := w.heap.size + 2) (.inl (by omega)) (exprL 5 op 0 0 [] [] [] (.slice (some ⟨w6.heap.size + 1, 0, none⟩) 1 1)) 0 HT6.out) _) _
   ·exact Rd.alloc (Rd.alloc (Rd.setCells (g := w.heap.size + 2) (by omega) (exprL 5 op 0 0 [] [] [] (.slice (some ⟨w6.heap.size + 1, 0, none⟩) 1 1)) 0 HR6.out) _) _
  ·simp only [if_true] at hE
   subst hE
   go_wp2
   refine bodyPost_ret (v := .agg (exprL 5 19 0 0 [] [] [] nilS).toArray) (by simp [results, Tryz.results297, go_sem, lRet, lRetB, d0, d1, d2, d3, d4, d5, d6, d7, d8, d9]) rfl ⟨_, rfl, ⟨exprL 5 19 0 0 [] [] [] nilS, rfl, rfl⟩, ?_, ?_, hkk⟩
   ·exact Turn.alloc (Turn.setCells (g := w.heap.size + 2) (.inl (by omega)) (exprL 5 19 0 0 [] [] [] nilS) 0 HT6.out) _
   ·exact Rd.alloc (Rd.setCells (g := w.heap.size + 2) (by omega) (exprL 5 19 0 0 [] [] [] nilS) 0 HR6.out) _
end Go.Proofs.YtkpmclddjkebeaaGreatDoor
namespace Go.Proofs.YtkpmclddjkebeaaGreatDoor
open Go.RowKit Go.WideMaps Go.Maps
theorem fn_found (s : P12.T) : (functionsL.find? fun x => x.1 == s).isSome = (P12.fnOf s).isSome ∧ ∀ op, P12.fnOf s = some op → numOf functionsL s = op := by
 unfold P12.fnOf
 by_cases h1 : s = [67, 79, 85, 78, 84]
 ·subst h1; exact ⟨by decide, fun op h => by rw [if_pos rfl] at h; cases h; decide⟩
 rw [if_neg h1]
 by_cases h2 : s = [83, 85, 77]
 ·subst h2; exact ⟨by decide, fun op h => by rw [if_pos rfl] at h; cases h; decide⟩
 rw [if_neg h2]
 by_cases h3 : s = [77, 73, 78]
 ·subst h3; exact ⟨by decide, fun op h => by rw [if_pos rfl] at h; cases h; decide⟩
 rw [if_neg h3]
 by_cases h4 : s = [77, 65, 88]
 ·subst h4; exact ⟨by decide, fun op h => by rw [if_pos rfl] at h; cases h; decide⟩
 rw [if_neg h4]
 refine ⟨?_, fun op h => by cases h⟩
 have e : ∀ x : P12.T, ¬ s = x → (x == s) = false := fun x h => by simpa using fun e => h e.symm
 unfold functionsL
 simp only [List.find?_cons, List.find?_nil, e _ h1, e _ h2, e _ h3, e _ h4, Option.isSome_none]
theorem preExt : Xe.Pre Xk.Ext := ⟨fun w => Below.refl _ _, fun h k => Xk.Ext.trans h k, fun h => h, fun h => Below.size h⟩
theorem look_fn {w : World} {b n : Nat} (h : mapI w b n (dR functionsL)) (s : P12.T) (hs : s.length ≤ 100000) :
  (Instr.lookup 220 (.map (some b)) (.string ⟨s.toArray⟩) true).run Tryz.prog w = .ok (.tuple #[.int .i64 (numOf functionsL s), .bool (P12.fnOf s).isSome]) w := by
 rw [look_ok h s hs, (fn_found s).1]
theorem wrap_small (n : Nat) (h : n ≤ 9223372036854775807) : wrap64 (n : Int) = (n : Int) := by
 unfold wrap64; omega
theorem primary_of (br : Nat) (ex : P12.R → Except P12.Er (P12.E × P12.R)) (r : P12.R) (w : World) (h : Rd br r w)
  (hX : ∀ r1 W, r1.deep = r.deep + 1 → Rd br r1 W → Calls Tryz.prog 140 #[rp br] W (Got br W r1 (ExprV W) (ex r1))) :
  Calls Tryz.prog 293 #[rp br] w (Got br w r (ExprV w) (P12.primary ex r)) := by
 have HR := Lib.hid h
 have lr := h.lt
 have hok := h.good.nxt_ok
 have HX := Lib.hid hX
 have hmf := mkfun
 have htl := hok.len
 have HOK := Lib.hid hok
 clear h hX hok
 generalize hres : P12.primary ex r = res
 have HRES := Lib.hid hres
 clear hres
 go_enter Tryz.func293, Tryz.ntmps293
 go_wp2_with fail
 go_at_call 21
 refine (next_any br r _ (rdx (HR.out))).mono ?_
 rintro e w1 ⟨rfl, hx1⟩
 have hl1 := hx1.size
 simp only [World.size_alloc] at hl1
 obtain ⟨Wt, hWt⟩ : ∃ W, W = w1.alloc (.cells #[.int .i64 (P12.nxt r).kind, .string ⟨(P12.nxt r).text.toArray⟩, .int .i64 (P12.nxt r).pos] 72) := ⟨_, rfl⟩
 have hw0 : Xk.Ext w ((w.alloc (.cells #[rp br] 67)).alloc (exprO zero10.toList)) := Xk.xt
 have hxw : Xk.Ext w w1 := Xk.Ext.trans hw0 hx1
 have hx1t : Xk.Ext w1 Wt := by rw [hWt]; exact (Below.refl _ _).alloc (Nat.le_refl _) _
 have hxt : Xk.Ext w Wt := Xk.Ext.trans hxw hx1t
 have gb1 : w1.heap[w.heap.size]? = some (.cells #[rp br] 67) := (hx1.block _ (by simp only [World.size_alloc]; omega)).trans ((Turn.alloc (Turn.refl br _) _).held (heap_new w _) (by omega))
 have gz1 : w1.heap[w.heap.size + 1]? = some (exprO zero10.toList) := (hx1.block _ (by simp only [World.size_alloc]; omega)).trans (by have := heap_new (w.alloc (.cells #[rp br] 67)) (exprO zero10.toList); rwa [World.size_alloc] at this)
 have gb : Wt.heap[w.heap.size]? = some (.cells #[rp br] 67) := (hx1t.block _ (by omega)).trans gb1
 have gz : Wt.heap[w.heap.size + 1]? = some (exprO zero10.toList) := (hx1t.block _ (by omega)).trans gz1
 have gt : Wt.heap[w1.heap.size]? = some (.cells #[.int .i64 (P12.nxt r).kind, .string ⟨(P12.nxt r).text.toArray⟩, .int .i64 (P12.nxt r).pos] 72) := by rw [hWt]; exact heap_new w1 _
 have lt2 : w1.heap.size < Wt.heap.size := (Array.getElem?_eq_some_iff.1 gt).1
 have hTt : Turn br w Wt := Turn.of_ext hxt
 have hrt := HR.out.ext hxt
 have c1 : w1.cell? ⟨w.heap.size, 0, none⟩ = some (rp br) := by simp [World.cell?, gb1]
 have lc1 := World.block_lt_of_cell? _ _ c1
 have HWT := Lib.hid hWt
 have GB := Lib.hid gb
 have GZ := Lib.hid gz
 have GT := Lib.hid gt
 have HTT := Lib.hid hTt
 have HRT := Lib.hid hrt
 clear hw0 hxw hx1t hxt gb1 gz1 gb gz gt hTt hrt hWt hx1
 by_cases h3 : (P12.nxt r).kind = 3
 ·have hE := HRES.out
  simp only [P12.primary, h3, if_true] at hE
  have h3b : ((P12.nxt r).kind == 3) = true := by simpa using h3
  have H3 := Lib.hid h3
  clear h3
  go_wp2_with fail
  rw [← HWT.out]
  refine (int_any br 9223372036854775807 r _ HRT.out H3.out (by omega)).mono ?_
  cases hi : P12.int 9223372036854775807 r with
  | error er =>
   intro e w9 h
   try rw [hi] at h
   rw [hi] at hE
   try dsimp only at hE
   subst hE
   obtain ⟨rfl, ht9⟩ := h
   simp only [faults]
   go_wp2
   exact ⟨rfl, rfl, Turn.trans HTT.out ht9⟩
  | ok p =>
   obtain ⟨n, r3⟩ := p
   intro e w3 h
   rw [hi] at hE
   dsimp only at hE
   subst hE
   obtain ⟨v, rfl, rfl, ht3, hr3, hk4⟩ := h
   have hnle : n ≤ 9223372036854775807 := by
    unfold P12.int at hi
    split at hi
    ·cases hi
    ·cases hi; omega
   have hz3 := ht3.held GZ.out (by omega)
   have HT3 := Lib.hid (Turn.trans HTT.out ht3)
   have HR3 := Lib.hid hr3
   have hl3 := ht3.size
   clear ht3 hr3
   go_wp2_with fail
   refine (literal_any _ _).mono ?_
   rintro e w4 ⟨rfl, hx4⟩
   have hz4 := (hx4.block _ (Array.getElem?_eq_some_iff.1 hz3).1).trans hz3
   have HT4 := Lib.hid (Turn.trans HT3.out (Turn.of_ext hx4))
   have HR4 := Lib.hid (HR3.out.ext hx4)
   clear hx4 hz3
   have lRet := (Array.getElem?_eq_some_iff.1 (hz4)).1
   obtain ⟨d0, d1, d2, d3, d4, d5, d6, d7, d8, d9⟩ := cells_of10 (hz4)
   obtain ⟨f0, f1, f2, f3, f4, f5, f6, f7, f8, f9⟩ := frozen10 (hz4)
   go_wp2
   refine bodyPost_ret (v := .agg (exprL 1 0 2 (n : Int) [] [] [] nilS).toArray) (by simp [results, Tryz.results293, go_sem, d0, d1, d2, d3, d4, d5, d6, d7, d8, d9]) rfl ⟨_, rfl, ⟨_, rfl, ?_⟩, ?_, ?_, hk4⟩
   ·exact (ExprAt.sets (g := w.heap.size + 1) ((show ExprAt (fun b => w.heap.size + 1 < b) _ (.val 2 (n : Int) []) _ from rfl)) (by omega) (exprL 1 0 2 (n : Int) [] [] [] nilS) 0).mono (fun b hb _ => by omega)
   ·exact Turn.setCells (g := w.heap.size + 1) (.inl (by omega)) (exprL 1 0 2 (n : Int) [] [] [] nilS) 0 (HT4.out)
   ·exact Rd.setCells (g := w.heap.size + 1) (by omega) (exprL 1 0 2 (n : Int) [] [] [] nilS) 0 (HR4.out)
 have h3b : ((P12.nxt r).kind == 3) = false := by simpa using h3
 have H3 := Lib.hid h3
 clear h3
 by_cases h4 : (P12.nxt r).kind = 4
 ·have h4b : ((P12.nxt r).kind == 4) = true := by simpa using h4
  have h43 : ¬ ((4 : Int) = 3) := by decide
  by_cases hlen : 40 < (P12.nxt r).text.length
  ·have hE := HRES.out
   simp only [P12.primary, h4, h43, hlen, P12.fails, if_true, if_false] at hE
   have hlb : (40 : Int) < ((P12.nxt r).text.length : Int) := by omega
   clear h4
   subst hE
   go_wp2_with fail
   rw [← HWT.out]
   refine (fails_any br r 122 _ HRT.out).mono ?_
   rintro e w9 ⟨rfl, hx9⟩
   simp only [faults]
   go_wp2
   exact ⟨rfl, rfl, Turn.trans HTT.out (Turn.of_ext hx9)⟩
  ·have hE := HRES.out
   simp only [P12.primary, h4, h43, hlen, P12.fails, if_true, if_false] at hE
   have hlb : ¬ (40 : Int) < ((P12.nxt r).text.length : Int) := by omega
   clear h4
   subst hE
   go_wp2_with fail
   rw [← HWT.out]
   refine (value_any br w.heap.size 3 (0) ((P12.nxt r).text) r _ HRT.out GB.out (by omega)).mono ?_
   rintro e w9 ⟨rfl, ht9, hr9⟩
   have hz9 := ht9.held GZ.out (by omega)
   have HT9 := Lib.hid (Turn.trans HTT.out ht9)
   have HR9 := Lib.hid hr9
   clear ht9 hr9
   have lRet := (Array.getElem?_eq_some_iff.1 (hz9)).1
   obtain ⟨d0, d1, d2, d3, d4, d5, d6, d7, d8, d9⟩ := cells_of10 (hz9)
   obtain ⟨f0, f1, f2, f3, f4, f5, f6, f7, f8, f9⟩ := frozen10 (hz9)
   go_wp2
   refine bodyPost_ret (v := .agg (exprL 1 0 3 (0) ((P12.nxt r).text) [] [] nilS).toArray) (by simp [results, Tryz.results293, go_sem, d0, d1, d2, d3, d4, d5, d6, d7, d8, d9]) rfl ⟨_, rfl, ⟨_, rfl, ?_⟩, ?_, ?_, P12.keeps_takes r⟩
   ·exact (ExprAt.sets (g := w.heap.size + 1) ((show ExprAt (fun b => w.heap.size + 1 < b) _ (.val 3 (0) ((P12.nxt r).text)) _ from rfl)) (by omega) (exprL 1 0 3 (0) ((P12.nxt r).text) [] [] nilS) 0).mono (fun b hb _ => by omega)
   ·exact Turn.setCells (g := w.heap.size + 1) (.inl (by omega)) (exprL 1 0 3 (0) ((P12.nxt r).text) [] [] nilS) 0 (HT9.out)
   ·exact Rd.setCells (g := w.heap.size + 1) (by omega) (exprL 1 0 3 (0) ((P12.nxt r).text) [] [] nilS) 0 (HR9.out)
 have h4b : ((P12.nxt r).kind == 4) = false := by simpa using h4
 have H4 := Lib.hid h4
 clear h4
 by_cases h1 : (P12.nxt r).kind = 1
 ·have h1b : ((P12.nxt r).kind == 1) = true := by simpa using h1
  have hE := HRES.out
  simp only [P12.primary, h1, show ¬ ((1 : Int) = 3) by decide, show ¬ ((1 : Int) = 4) by decide, if_true, if_false] at hE
  clear h1
  go_wp2_with fail
  rw [← HWT.out]
  refine (column_any br r _ HRT.out).mono ?_
  cases hc : P12.column r with
  | error er =>
   intro e w9 h
   try rw [hc] at h
   rw [hc] at hE
   try dsimp only at hE
   subst hE
   obtain ⟨rfl, ht9⟩ := h
   simp only [faults]
   go_wp2
   exact ⟨rfl, rfl, Turn.trans HTT.out ht9⟩
  | ok p =>
   obtain ⟨a, r9⟩ := p
   intro e w9 h
   try rw [hc] at h
   rw [hc] at hE
   try dsimp only at hE
   subst hE
   obtain ⟨v9, rfl, ⟨l9, rfl, he9⟩, ht9, hr9, hk9⟩ := h
   obtain ⟨kd, op', vk, vi, vs, tb, nm, pp, pm, pc, rfl⟩ := he9.form
   have hz9 := ht9.held GZ.out (by omega)
   have hl9 := ht9.size
   have HT9 := Lib.hid (Turn.trans HTT.out ht9)
   have HE9 := Lib.hid (he9.mono (S' := fun b => w.heap.size + 1 < b) (fun b hb _ => by omega))
   have HR9 := Lib.hid hr9
   have HK9 := Lib.hid hk9
   clear he9 ht9 hr9 hk9
   have lRet := (Array.getElem?_eq_some_iff.1 (hz9)).1
   obtain ⟨d0, d1, d2, d3, d4, d5, d6, d7, d8, d9⟩ := cells_of10 (hz9)
   obtain ⟨f0, f1, f2, f3, f4, f5, f6, f7, f8, f9⟩ := frozen10 (hz9)
   go_wp2
   refine bodyPost_ret (v := .agg (exprL kd op' vk vi vs tb nm (.slice pp pm pc)).toArray) (by simp [results, Tryz.results293, go_sem, d0, d1, d2, d3, d4, d5, d6, d7, d8, d9]) rfl ⟨_, rfl, ⟨_, rfl, ?_⟩, ?_, ?_, HK9.out⟩
   ·exact (ExprAt.sets (g := w.heap.size + 1) (HE9.out) (by omega) (exprL kd op' vk vi vs tb nm (.slice pp pm pc)) 0).mono (fun b hb _ => by omega)
   ·exact Turn.setCells (g := w.heap.size + 1) (.inl (by omega)) (exprL kd op' vk vi vs tb nm (.slice pp pm pc)) 0 (HT9.out)
   ·exact Rd.setCells (g := w.heap.size + 1) (by omega) (exprL kd op' vk vi vs tb nm (.slice pp pm pc)) 0 (HR9.out)
 have h1b : ((P12.nxt r).kind == 1) = false := by simpa using h1
 have H1 := Lib.hid h1
 clear h1
 go_wp2_with fail
 rw [← HWT.out]
 refine (isT_any br r [40] _ HRT.out).mono ?_
 rintro e w2 ⟨rfl, hx2⟩
 have GB2 := Lib.hid ((hx2.block _ (Array.getElem?_eq_some_iff.1 GB.out).1).trans GB.out)
 have GZ2 := Lib.hid ((hx2.block _ (Array.getElem?_eq_some_iff.1 GZ.out).1).trans GZ.out)
 have gt2 := (hx2.block _ (Array.getElem?_eq_some_iff.1 GT.out).1).trans GT.out
 have HT2 := Lib.hid (Turn.trans HTT.out (Turn.of_ext hx2))
 have HR2 := Lib.hid (HRT.out.ext hx2)
 have ls2 := hx2.size
 have c2 : w2.cell? ⟨w.heap.size, 0, none⟩ = some (rp br) := by have h := GB2.out; simp [World.cell?, h]
 obtain ⟨t0, t1, t2, -⟩ := Xe.cells_of3 gt2
 have lt3 := World.block_lt_of_cell? _ _ t0
 have lc2 := World.block_lt_of_cell? _ _ c2
 have GT2 := Lib.hid gt2
 clear hx2 gt2
 cases hs : P12.isT [40] r
 ·by_cases h2 : (P12.nxt r).kind = 2
  ·have h2b : ((P12.nxt r).kind == 2) = true := by simpa using h2
   have hE := HRES.out
   simp only [P12.primary, if_neg H3.out, if_neg H4.out, if_neg H1.out, hs, if_pos h2, Bool.false_eq_true, if_false] at hE
   have HE := Lib.hid hE
   clear h2 hE HRES
   go_wp2
   refine Xg.wp_region_rel (E := Xk.Ext) preExt (fun _ _ => False) 99 9 (fun _ => none) (fun _ _ h => by cases h) (fun _ _ _ _ h => by cases h) [(0, MapFact w2.heap.size functionsL)] (by kernel_rfl) (by kernel_rfl) (Xg.stable_one ((by
       intro y hy
       simp only [List.mem_cons, List.not_mem_nil, or_false] at hy
       rcases hy with rfl
       rw [if_neg (show ¬ (0 = 99) by decide)]; exact fun v w w' hx h => MapFact.turn (br := br) (by omega) v w w' (Turn.of_ext hx) h))) (fun ch a w' hd hX => hX.elim) ?_
   simp only [List.take_succ_cons, List.take_zero, List.drop_succ_cons, List.drop_zero]
   (refine Xg.rel_make (by rfl) (by rfl) (by decide) (fun W hx hp => ?_) (fun u0 K hK => ?_); (go_simp; exact (functions_any W).mono (fun e w' h => by obtain ⟨rfl, hm, hx'⟩ := h; exact ⟨_, rfl, hx', ⟨W.heap.size, 4, rfl, (by have := hx.size; simpa using this), (by obtain ⟨es, cl, hb, -⟩ := hm; exact (Array.getElem?_eq_some_iff.1 hb).1), hm⟩, fun b hb => by cases hb⟩)); (go_simp; refine hK _ ?_; clear hK K))
   refine Xg.gs ?_
   (refine Xg.rel_det (Xk.wanted_none (by rfl)) (by rfl) (fun K hK => ?_); apply Exists.intro; refine ⟨fun W hx hp => ?_, ?_⟩; (have c := Xk.ext_cell hx (show w2.drew.cell? ⟨w1.heap.size, 1, none⟩ = _ from t1); go_simp; first | exact ⟨rfl, rfl⟩ | ((try refine ⟨by kernel_rfl, ?_⟩); (fail))); (go_simp; refine hK _ ?_; clear hK K))
   (refine Xg.rel_det (Xk.wanted_none (by rfl)) (by rfl) (fun K hK => ?_); apply Exists.intro; refine ⟨fun W hx hp => ?_, ?_⟩; ((obtain ⟨b, n, hu, h1, h2, h3⟩ := Xe.facts_head hp (by kernel_rfl); have hlk := look_fn h3 (P12.nxt r).text (by omega); subst hu); go_simp; first | exact ⟨rfl, rfl⟩ | ((try refine ⟨by kernel_rfl, ?_⟩); (fail))); (go_simp; refine hK _ ?_; clear hK K))
   refine Xg.gs ?_
   refine Xg.rel_nil (fun W hx hp hg => ?_)
   have hxW : Xk.Ext w2 W := Xk.Ext.trans ((Below.refl _ _).drew) hx
   have GBW := Lib.hid ((hxW.block _ (Array.getElem?_eq_some_iff.1 GB2.out).1).trans GB2.out)
   have GZW := Lib.hid ((hxW.block _ (Array.getElem?_eq_some_iff.1 GZ2.out).1).trans GZ2.out)
   have gtW := (hxW.block _ (Array.getElem?_eq_some_iff.1 GT2.out).1).trans GT2.out
   have HTW := Lib.hid (Turn.trans HT2.out (Turn.of_ext hxW))
   have HRW := Lib.hid (HR2.out.ext hxW)
   have lsW := hxW.size
   have cW : W.cell? ⟨w.heap.size, 0, none⟩ = some (rp br) := by have h := GBW.out; simp [World.cell?, h]
   obtain ⟨s0, s1, s2, -⟩ := Xe.cells_of3 gtW
   have ltW := World.block_lt_of_cell? _ _ s0
   have lcW := World.block_lt_of_cell? _ _ cW
   clear hp hg hx hxW gtW c1 c2 t0 t1 t2
   cases hf : P12.fnOf (P12.nxt r).text with
   | some op =>
    have hnum := (fn_found (P12.nxt r).text).2 op hf
    have hE := HE.out
    rw [hf] at hE
    dsimp only at hE
    have HE2 := Lib.hid hE
    have hsm : (P12.fnOf (P12.nxt r).text).isSome = true := by rw [hf]; rfl
    rw [hnum]
    clear hE HE hf
    go_wp2_with fail
    go_at_call 75
    refine (takes_any br _ _ HRW.out).mono ?_
    rintro e w3 ⟨rfl, ht3, hr3⟩
    have hb3 := ht3.held GBW.out (by omega)
    have hz3 := ht3.held GZW.out (by omega)
    have HT3 := Lib.hid (Turn.trans HTW.out ht3)
    have c3 : w3.cell? ⟨w.heap.size, 0, none⟩ = some (rp br) := by simp [World.cell?, hb3]
    have lc3 := World.block_lt_of_cell? _ _ c3
    have hl3 := ht3.size
    have HZ3 := Lib.hid hz3
    have HC := Lib.hid (call_of br op ex (P12.takes r) w3 hr3 (fun r1 W' hd hr' => HX.out r1 W' (by rw [hd, (P12.keeps_takes r).deep]) hr'))
    clear hb3 hz3 ht3 hr3
    go_wp2_with fail
    refine HC.out.mono ?_
    have hE := HE2.out
    cases hc : P12.call ex op (P12.takes r) with
    | error er =>
     intro e w9 h
     try rw [hc] at h
     rw [hc] at hE
     try dsimp only at hE
     subst hE
     obtain ⟨rfl, ht9⟩ := h
     simp only [faults]
     go_wp2
     exact ⟨rfl, rfl, Turn.trans HT3.out ht9⟩
    | ok p =>
     obtain ⟨a, r9⟩ := p
     intro e w9 h
     try rw [hc] at h
     rw [hc] at hE
     try dsimp only at hE
     subst hE
     obtain ⟨v9, rfl, ⟨l9, rfl, he9⟩, ht9, hr9, hk9⟩ := h
     obtain ⟨kd, op', vk, vi, vs, tb, nm, pp, pm, pc, rfl⟩ := he9.form
     have hz9 := ht9.held HZ3.out (by omega)
     have hl9 := ht9.size
     have HT9 := Lib.hid (Turn.trans HT3.out ht9)
     have HE9 := Lib.hid (he9.mono (S' := fun b => w.heap.size + 1 < b) (fun b hb _ => by omega))
     have HR9 := Lib.hid hr9
     have HK9 := Lib.hid hk9
     clear he9 ht9 hr9 hk9
     have lRet := (Array.getElem?_eq_some_iff.1 (hz9)).1
     obtain ⟨d0, d1, d2, d3, d4, d5, d6, d7, d8, d9⟩ := cells_of10 (hz9)
     obtain ⟨f0, f1, f2, f3, f4, f5, f6, f7, f8, f9⟩ := frozen10 (hz9)
     go_wp2
     refine bodyPost_ret (v := .agg (exprL kd op' vk vi vs tb nm (.slice pp pm pc)).toArray) (by simp [results, Tryz.results293, go_sem, d0, d1, d2, d3, d4, d5, d6, d7, d8, d9]) rfl ⟨_, rfl, ⟨_, rfl, ?_⟩, ?_, ?_, ((P12.keeps_takes r).trans HK9.out)⟩
     ·exact (ExprAt.sets (g := w.heap.size + 1) (HE9.out) (by omega) (exprL kd op' vk vi vs tb nm (.slice pp pm pc)) 0).mono (fun b hb _ => by omega)
     ·exact Turn.setCells (g := w.heap.size + 1) (.inl (by omega)) (exprL kd op' vk vi vs tb nm (.slice pp pm pc)) 0 (HT9.out)
     ·exact Rd.setCells (g := w.heap.size + 1) (by omega) (exprL kd op' vk vi vs tb nm (.slice pp pm pc)) 0 (HR9.out)
   | none =>
    have hE := HE.out
    rw [hf] at hE
    dsimp only at hE
    have hsm : (P12.fnOf (P12.nxt r).text).isSome = false := by rw [hf]; rfl
    clear HE hf
    by_cases hN : (P12.nxt r).text = [78, 85, 76, 76]
    ·rw [if_pos hN] at hE
     subst hE
     have hNb : ((P12.nxt r).text == [78, 85, 76, 76]) = true := by simpa using hN
     clear hN
     go_wp2_with fail
     refine (value_any br w.heap.size 0 (0) ([]) r _ HRW.out GBW.out (by omega)).mono ?_
     rintro e w9 ⟨rfl, ht9, hr9⟩
     have hz9 := ht9.held GZW.out (by omega)
     have HT9 := Lib.hid (Turn.trans HTW.out ht9)
     have HR9 := Lib.hid hr9
     clear ht9 hr9
     have lRet := (Array.getElem?_eq_some_iff.1 (hz9)).1
     obtain ⟨d0, d1, d2, d3, d4, d5, d6, d7, d8, d9⟩ := cells_of10 (hz9)
     obtain ⟨f0, f1, f2, f3, f4, f5, f6, f7, f8, f9⟩ := frozen10 (hz9)
     go_wp2
     refine bodyPost_ret (v := .agg (exprL 1 0 0 (0) ([]) [] [] nilS).toArray) (by simp [results, Tryz.results293, go_sem, d0, d1, d2, d3, d4, d5, d6, d7, d8, d9]) rfl ⟨_, rfl, ⟨_, rfl, ?_⟩, ?_, ?_, P12.keeps_takes r⟩
     ·exact (ExprAt.sets (g := w.heap.size + 1) ((show ExprAt (fun b => w.heap.size + 1 < b) _ (.val 0 (0) ([])) _ from rfl)) (by omega) (exprL 1 0 0 (0) ([]) [] [] nilS) 0).mono (fun b hb _ => by omega)
     ·exact Turn.setCells (g := w.heap.size + 1) (.inl (by omega)) (exprL 1 0 0 (0) ([]) [] [] nilS) 0 (HT9.out)
     ·exact Rd.setCells (g := w.heap.size + 1) (by omega) (exprL 1 0 0 (0) ([]) [] [] nilS) 0 (HR9.out)
    rw [if_neg hN] at hE
    have hNb : ((P12.nxt r).text == [78, 85, 76, 76]) = false := by simpa using hN
    clear hN
    by_cases hTr : (P12.nxt r).text = [84, 82, 85, 69]
    ·rw [if_pos hTr] at hE
     subst hE
     have hTb : ((P12.nxt r).text == [84, 82, 85, 69]) = true := by simpa using hTr
     clear hTr
     go_wp2_with fail
     refine (value_any br w.heap.size 1 (1) ([]) r _ (rdx (HRW.out)) ((Turn.alloc (Turn.refl br W) _).held GBW.out (by omega)) (by omega)).mono ?_
     rintro e w9 ⟨rfl, ht9, hr9⟩
     have hz9 := ht9.held ((Turn.alloc (Turn.refl br W) _).held GZW.out (by omega)) (by omega)
     have HT9 := Lib.hid (Turn.trans (Turn.alloc HTW.out _) ht9)
     have HR9 := Lib.hid hr9
     clear ht9 hr9
     have lRet := (Array.getElem?_eq_some_iff.1 (hz9)).1
     obtain ⟨d0, d1, d2, d3, d4, d5, d6, d7, d8, d9⟩ := cells_of10 (hz9)
     obtain ⟨f0, f1, f2, f3, f4, f5, f6, f7, f8, f9⟩ := frozen10 (hz9)
     go_wp2
     refine bodyPost_ret (v := .agg (exprL 1 0 1 (1) ([]) [] [] nilS).toArray) (by simp [results, Tryz.results293, go_sem, d0, d1, d2, d3, d4, d5, d6, d7, d8, d9]) rfl ⟨_, rfl, ⟨_, rfl, ?_⟩, ?_, ?_, P12.keeps_takes r⟩
     ·exact (ExprAt.sets (g := w.heap.size + 1) ((show ExprAt (fun b => w.heap.size + 1 < b) _ (.val 1 (1) ([])) _ from rfl)) (by omega) (exprL 1 0 1 (1) ([]) [] [] nilS) 0).mono (fun b hb _ => by omega)
     ·exact Turn.setCells (g := w.heap.size + 1) (.inl (by omega)) (exprL 1 0 1 (1) ([]) [] [] nilS) 0 (HT9.out)
     ·exact Rd.setCells (g := w.heap.size + 1) (by omega) (exprL 1 0 1 (1) ([]) [] [] nilS) 0 (HR9.out)
    rw [if_neg hTr] at hE
    have hTb : ((P12.nxt r).text == [84, 82, 85, 69]) = false := by simpa using hTr
    clear hTr
    by_cases hFa : (P12.nxt r).text = [70, 65, 76, 83, 69]
    ·rw [if_pos hFa] at hE
     subst hE
     have hFb : ((P12.nxt r).text == [70, 65, 76, 83, 69]) = true := by simpa using hFa
     clear hFa
     go_wp2_with fail
     refine (value_any br w.heap.size 1 (0) ([]) r _ (rdx (HRW.out)) ((Turn.alloc (Turn.refl br W) _).held GBW.out (by omega)) (by omega)).mono ?_
     rintro e w9 ⟨rfl, ht9, hr9⟩
     have hz9 := ht9.held ((Turn.alloc (Turn.refl br W) _).held GZW.out (by omega)) (by omega)
     have HT9 := Lib.hid (Turn.trans (Turn.alloc HTW.out _) ht9)
     have HR9 := Lib.hid hr9
     clear ht9 hr9
     have lRet := (Array.getElem?_eq_some_iff.1 (hz9)).1
     obtain ⟨d0, d1, d2, d3, d4, d5, d6, d7, d8, d9⟩ := cells_of10 (hz9)
     obtain ⟨f0, f1, f2, f3, f4, f5, f6, f7, f8, f9⟩ := frozen10 (hz9)
     go_wp2
     refine bodyPost_ret (v := .agg (exprL 1 0 1 (0) ([]) [] [] nilS).toArray) (by simp [results, Tryz.results293, go_sem, d0, d1, d2, d3, d4, d5, d6, d7, d8, d9]) rfl ⟨_, rfl, ⟨_, rfl, ?_⟩, ?_, ?_, P12.keeps_takes r⟩
     ·exact (ExprAt.sets (g := w.heap.size + 1) ((show ExprAt (fun b => w.heap.size + 1 < b) _ (.val 1 (0) ([])) _ from rfl)) (by omega) (exprL 1 0 1 (0) ([]) [] [] nilS) 0).mono (fun b hb _ => by omega)
     ·exact Turn.setCells (g := w.heap.size + 1) (.inl (by omega)) (exprL 1 0 1 (0) ([]) [] [] nilS) 0 (HT9.out)
     ·exact Rd.setCells (g := w.heap.size + 1) (by omega) (exprL 1 0 1 (0) ([]) [] [] nilS) 0 (HR9.out)
    rw [if_neg hFa] at hE
    have hFb : ((P12.nxt r).text == [70, 65, 76, 83, 69]) = false := by simpa using hFa
    simp only [P12.fails] at hE
    subst hE
    clear hFa
    go_wp2_with fail
    refine (fails_any br r 120 _ HRW.out).mono ?_
    rintro e w9 ⟨rfl, hx9⟩
    simp only [faults]
    go_wp2
    exact ⟨rfl, rfl, Turn.trans HTW.out (Turn.of_ext hx9)⟩
  ·have h2b : ((P12.nxt r).kind == 2) = false := by simpa using h2
   have hE := HRES.out
   simp only [P12.primary, P12.fails, if_neg H3.out, if_neg H4.out, if_neg H1.out, hs, if_neg h2, Bool.false_eq_true, if_false] at hE
   subst hE
   clear h2
   go_wp2_with fail
   refine (fails_any br r 120 _ HR2.out).mono ?_
   rintro e w9 ⟨rfl, hx9⟩
   simp only [faults]
   go_wp2
   exact ⟨rfl, rfl, Turn.trans HT2.out (Turn.of_ext hx9)⟩
 ·have hE := HRES.out
  simp only [P12.primary, if_neg H3.out, if_neg H4.out, if_neg H1.out, hs, if_true] at hE
  have hEnt : Ent 140 := ⟨fun _ _ => by go_simp, by decide⟩
  have HW := Lib.hid (within_any (α := P12.E) br [] (.func (.func 140) #[rp br] #[]) 140 #[rp br] (.inl rfl) hEnt
   ex (fun v e W => ∃ l, v = .agg l.toArray ∧ ExprAt (fun b => w2.heap.size < b) W e l) r w2 HR2.out (fun k hk => by cases hk)
   (fun v x W hv => by
    obtain ⟨l, rfl, he⟩ := hv
    obtain ⟨kd, op, vk, vi, vs, tb, nm, pp, pm, pc, rfl⟩ := he.form
    exact ⟨_, _, _, _, _, _, _, _, _, _, rfl⟩)
   (fun v x W W' hv ht => by
    obtain ⟨l, rfl, he⟩ := hv
    exact ⟨l, rfl, he.turn ht (fun b hb => by omega)⟩)
   (fun v x W o u hv => by
    obtain ⟨l, rfl, he⟩ := hv
    exact ⟨l, rfl, he.set (by omega) o u⟩)
   (fun r1 W hd hd2 hr1 ht hlt => (HX.out r1 W hd hr1).mono (fun e w' h => by
    cases hx : ex r1 with
    | error er =>
     rw [hx] at h
     exact ⟨h.1, Kept.of_turn h.2 (by simp)⟩
    | ok p =>
     obtain ⟨x, r'⟩ := p
     rw [hx] at h
     obtain ⟨v, rfl, ⟨l, rfl, he⟩, ht', hr', hk'⟩ := h
     exact ⟨_, rfl, ⟨l, rfl, he.mono (fun b hb _ => by omega)⟩, Kept.of_turn ht' (by simp), hr', hk'⟩)))
  go_wp2_with fail
  refine HW.out.mono ?_
  cases hw : P12.within ex r with
  | error er =>
   rw [hw] at hE
   subst hE
   rintro e w9 ⟨rfl, hk9⟩
   simp only [faults]
   go_wp2
   exact ⟨rfl, rfl, Turn.trans HT2.out hk9.turn⟩
  | ok p =>
   obtain ⟨a, r9⟩ := p
   rw [hw] at hE
   subst hE
   rintro e w9 ⟨v9, rfl, ⟨l9, rfl, he9⟩, hk9, hr9, hkk9⟩
   obtain ⟨kd, op', vk, vi, vs, tb, nm, pp, pm, pc, rfl⟩ := he9.form
   have ht9 := hk9.turn
   have hz9 := ht9.held GZ2.out (by omega)
   have hl9 := ht9.size
   have HT9 := Lib.hid (Turn.trans HT2.out ht9)
   have HE9 := Lib.hid (he9.mono (S' := fun b => w.heap.size + 1 < b) (fun b hb _ => by omega))
   have HR9 := Lib.hid hr9
   clear he9 ht9 hr9 hk9
   have lRet := (Array.getElem?_eq_some_iff.1 (hz9)).1
   obtain ⟨d0, d1, d2, d3, d4, d5, d6, d7, d8, d9⟩ := cells_of10 (hz9)
   obtain ⟨f0, f1, f2, f3, f4, f5, f6, f7, f8, f9⟩ := frozen10 (hz9)
   go_wp2
   refine bodyPost_ret (v := .agg (exprL kd op' vk vi vs tb nm (.slice pp pm pc)).toArray) (by simp [results, Tryz.results293, go_sem, d0, d1, d2, d3, d4, d5, d6, d7, d8, d9]) rfl ⟨_, rfl, ⟨_, rfl, ?_⟩, ?_, ?_, hkk9⟩
   ·exact (ExprAt.sets (g := w.heap.size + 1) (HE9.out) (by omega) (exprL kd op' vk vi vs tb nm (.slice pp pm pc)) 0).mono (fun b hb _ => by omega)
   ·exact Turn.setCells (g := w.heap.size + 1) (.inl (by omega)) (exprL kd op' vk vi vs tb nm (.slice pp pm pc)) 0 (HT9.out)
   ·exact Rd.setCells (g := w.heap.size + 1) (by omega) (exprL kd op' vk vi vs tb nm (.slice pp pm pc)) 0 (HR9.out)
end Go.Proofs.YtkpmclddjkebeaaGreatDoor
