/- What the claim's proof leans on, part 6: walks of functions and plain laws. -/
import Derived.Test.YtlpcdpkgnfdpeaaGreatDoorSA
import Derived.Test.YtlpcdpkgnfdpeaaGreatDoorProg
import Derived.WalkKit
import Derived.WalkSpells
import Derived.Outline
import Derived.Lib.Hide
import Derived.Deep.Light
import Derived.Test.YtlpcdpkgnfdpeaaGreatDoorSB
import Derived.Deep.MidRow
import Derived.WalkLawsBesides
import Derived.Maps.Own
import Derived.Maps.OwnSet
import Derived.Maps.Views
set_option linter.unusedSimpArgs false
set_option linter.unusedVariables false
set_option maxRecDepth 100000
set_option maxHeartbeats 80000000
namespace Go.Proofs.YtlpcdpkgnfdpeaaGreatDoor
open Go.RowKit
abbrev Turn (br : Nat) (w w' : World) : Prop := Xe.ES [(br, fun _ => True)] w w'
theorem Turn.refl (br : Nat) (w : World) : Turn br w w := (Xe.pre_ES _).refl w
theorem Turn.trans {br : Nat} {w w' w'' : World} (h : Turn br w w') (h' : Turn br w' w'') : Turn br w w'' := (Xe.pre_ES _).trans h h'
theorem Turn.of_ext {br : Nat} {w w' : World} (h : Xk.Ext w w') : Turn br w w' := (Xe.pre_ES _).ext h
theorem Turn.size {br : Nat} {w w' : World} (h : Turn br w w') : w.heap.size ≤ w'.heap.size := h.2.2.2.1
theorem Turn.block {br : Nat} {w w' : World} (h : Turn br w w') {b : Nat} (hb : b < w.heap.size) (hn : b ≠ br) : w'.heap[b]? = w.heap[b]? :=
 Xe.ES.block h hb (fun k hk e => by simp only [List.mem_singleton] at hk; subst hk; exact hn e.symm)
theorem Turn.cell {br : Nat} {w w' : World} (h : Turn br w w') {b o : Nat} {v : Value} (hc : w.cell? ⟨b, o, none⟩ = some v) (hn : b ≠ br) : w'.cell? ⟨b, o, none⟩ = some v :=
 Xe.ES.cell h hc (fun k hk e => by simp only [List.mem_singleton] at hk; subst hk; exact hn e.symm)
theorem Turn.held {br : Nat} {w w' : World} (h : Turn br w w') {b : Nat} {o : Obj} (hc : w.heap[b]? = some o) (hn : b ≠ br) : w'.heap[b]? = some o :=
 (h.block (Array.getElem?_eq_some_iff.1 hc).1 hn).trans hc
theorem Turn.alloc {br : Nat} {w0 w : World} (h : Turn br w0 w) (o : Obj) : Turn br w0 (w.alloc o) := h.trans (Turn.of_ext ((Below.refl _ _).alloc (Nat.le_refl _) _))
theorem Turn.drew {br : Nat} {w0 w : World} (h : Turn br w0 w) : Turn br w0 w.drew := h.trans (Turn.of_ext ((Below.refl _ _).drew))
theorem Turn.exw {br : Nat} {w0 w : World} (h : Turn br w0 w) (p : Regrown) : Turn br w0 (Xk.exw w p) := h.trans (Turn.of_ext (Xk.ext_exw _ _))
theorem Turn.setNew {br : Nat} {w0 w : World} (h : Turn br w0 w) {g : Nat} (hg : w0.heap.size ≤ g ∨ g = br) (o : Nat) (u : Value) : Turn br w0 (w.setCell ⟨g, o, none⟩ u) := by
 obtain ⟨h1, h2, h3, h4, h5⟩ := h
 refine ⟨h1, h2, h3, by rw [World.size_setCell]; exact h4, fun b hb => ?_⟩
 by_cases hbr : b = br
 ·exact .inr ⟨(br, fun _ => True), by simp, hbr.symm, trivial⟩
 ·have hbg : b ≠ g := fun e => by rcases hg with hg | hg <;> omega
  rw [heap_setCell_other w ⟨g, o, none⟩ b u (fun e => hbg (by simpa using e))]
  exact h5 b hb
theorem Turn.setCells {br : Nat} {w0 : World} {g : Nat} (hg : w0.heap.size ≤ g ∨ g = br) : ∀ (vs : List Value) (o : Nat) {w : World}, Turn br w0 w → Turn br w0 (w.setCells g o vs)
 | [], _, _, h => h
 | v :: vs, o, _, h => Turn.setCells hg vs (o + 1) (Turn.setNew h hg o v)
def TkRow (b off : Nat) (l : List P11.Tok) (w : World) : Prop :=
 b < w.heap.size ∧ ∀ (j : Nat) (t : P11.Tok), l[j]? = some t →
  w.cell? ⟨b, off + j * 3, none⟩ = some (.int .i64 t.kind) ∧ w.cell? ⟨b, off + j * 3 + 1, none⟩ = some (.string ⟨t.text.toArray⟩) ∧ w.cell? ⟨b, off + j * 3 + 2, none⟩ = some (.int .i64 t.pos)
theorem TkRow.ext {b off : Nat} {l : List P11.Tok} {w w' : World} (h : TkRow b off l w) (hx : Xk.Ext w w') : TkRow b off l w' :=
 ⟨Nat.lt_of_lt_of_le h.1 hx.size, fun j t hj => by
  obtain ⟨h1, h2, h3⟩ := h.2 j t hj
  exact ⟨Xk.ext_cell hx h1, Xk.ext_cell hx h2, Xk.ext_cell hx h3⟩⟩
structure RdAt (br b off cap : Nat) (r : P12.R) (w : World) : Prop where
 blk : w.heap[br]? = some (.cells #[.slice (some ⟨b, off, none⟩) r.l.length cap, .int .i64 r.deep] 154)
 lo : b < br
 cap : r.l.length ≤ cap
 toks : TkRow b off r.l w
 good : P12.Good r
 glo : 8 < br
 env : ∃ tp p, w.cell? ⟨8, 0, none⟩ = some (.iface tp p)
def Rd (br : Nat) (r : P12.R) (w : World) : Prop := ∃ b off cap, RdAt br b off cap r w
theorem RdAt.ext {br b off cap : Nat} {r : P12.R} {w w' : World} (h : RdAt br b off cap r w) (hx : Xk.Ext w w') : RdAt br b off cap r w' :=
 ⟨(hx.block br (Array.getElem?_eq_some_iff.1 h.blk).1).trans h.blk, h.lo, h.cap, h.toks.ext hx, h.good, h.glo, let ⟨tp, p, hc⟩ := h.env; ⟨tp, p, Xk.ext_cell hx hc⟩⟩
theorem Rd.ext {br : Nat} {r : P12.R} {w w' : World} (h : Rd br r w) (hx : Xk.Ext w w') : Rd br r w' := by
 obtain ⟨b, off, cap, h⟩ := h
 exact ⟨b, off, cap, h.ext hx⟩
theorem Rd.good {br : Nat} {r : P12.R} {w : World} (h : Rd br r w) : P12.Good r := by
 obtain ⟨b, off, cap, h⟩ := h
 exact h.good
theorem Rd.lt {br : Nat} {r : P12.R} {w : World} (h : Rd br r w) : br < w.heap.size := by
 obtain ⟨b, off, cap, h⟩ := h
 exact (Array.getElem?_eq_some_iff.1 h.blk).1
theorem Rd.alloc {br : Nat} {r : P12.R} {w : World} (h : Rd br r w) (o : Obj) : Rd br r (w.alloc o) := h.ext ((Below.refl _ _).alloc (Nat.le_refl _) _)
theorem Rd.drew {br : Nat} {r : P12.R} {w : World} (h : Rd br r w) : Rd br r w.drew := h.ext ((Below.refl _ _).drew)
theorem Rd.exw {br : Nat} {r : P12.R} {w : World} (h : Rd br r w) (p : Regrown) : Rd br r (Xk.exw w p) := h.ext (Xk.ext_exw _ _)
theorem RdAt.setCell {br b off cap : Nat} {r : P12.R} {w : World} (h : RdAt br b off cap r w) {g : Nat} (hg : br < g) (o : Nat) (u : Value) : RdAt br b off cap r (w.setCell ⟨g, o, none⟩ u) := by
 have hk : ∀ {c o' : Nat} {v : Value}, c ≠ g → w.cell? ⟨c, o', none⟩ = some v → (w.setCell ⟨g, o, none⟩ u).cell? ⟨c, o', none⟩ = some v := fun {c o' v} hne hc => by
  rw [World.cell?_setCell_other _ _ _ _ (fun e => hne (by cases e; rfl))]; exact hc
 have hl := h.lo
 have hgl := h.glo
 refine ⟨(heap_setCell_other w ⟨g, o, none⟩ br u (fun e => by have : br = g := (by simpa using e); omega)).trans h.blk, h.lo, h.cap, ⟨by rw [World.size_setCell]; exact h.toks.1, fun j t hj => ?_⟩, h.good, h.glo, let ⟨tp, p, hc⟩ := h.env; ⟨tp, p, hk (by omega) hc⟩⟩
 obtain ⟨h1, h2, h3⟩ := h.toks.2 j t hj
 exact ⟨hk (by omega) h1, hk (by omega) h2, hk (by omega) h3⟩
theorem RdAt.alloc {br b off cap : Nat} {r : P12.R} {w : World} (h : RdAt br b off cap r w) (o : Obj) : RdAt br b off cap r (w.alloc o) := h.ext ((Below.refl _ _).alloc (Nat.le_refl _) _)
theorem RdAt.drew {br b off cap : Nat} {r : P12.R} {w : World} (h : RdAt br b off cap r w) : RdAt br b off cap r w.drew := h.ext ((Below.refl _ _).drew)
theorem RdAt.exw {br b off cap : Nat} {r : P12.R} {w : World} (h : RdAt br b off cap r w) (p : Regrown) : RdAt br b off cap r (Xk.exw w p) := h.ext (Xk.ext_exw _ _)
theorem RdAt.took {br b off cap : Nat} {r : P12.R} {w : World} (h : RdAt br b off cap r w) (hk : (P12.nxt r).kind ≠ 0) :
  RdAt br b (off + 3) (cap - 1) (P12.takes r) (w.setCell ⟨br, 0, none⟩ (.slice (some ⟨b, off + 3, none⟩) (r.l.length - 1) (cap - 1))) := by
 have hl := h.lo
 have hgl := h.glo
 have hg := h.good.takes
 rw [P12.takes_tail hk] at hg ⊢
 have hkp : ∀ {c o' : Nat} {v u : Value}, c ≠ br → w.cell? ⟨c, o', none⟩ = some v → (w.setCell ⟨br, 0, none⟩ u).cell? ⟨c, o', none⟩ = some v := fun {c o' v u} hne hc => by
  rw [World.cell?_setCell_other _ _ _ _ (fun e => hne (by cases e; rfl))]; exact hc
 refine ⟨?_, h.lo, ?_, ⟨by rw [World.size_setCell]; exact h.toks.1, fun j t hj => ?_⟩, hg, h.glo, let ⟨tp, p, hc⟩ := h.env; ⟨tp, p, hkp (by omega) hc⟩⟩
 ·rw [heap_setCell_same w br 0 _ _ _ h.blk]
  simp
 ·have := h.cap
  simp only [List.length_tail]; omega
 ·have hj' : r.l[j + 1]? = some t := by rw [← hj]; simp
  obtain ⟨h1, h2, h3⟩ := h.toks.2 (j + 1) t hj'
  refine ⟨hkp (by omega) ?_, hkp (by omega) ?_, hkp (by omega) ?_⟩
  ·rw [← h1]; congr 2; omega
  ·rw [← h2]; congr 2; omega
  ·rw [← h3]; congr 2; omega
theorem RdAt.cells {br b off cap : Nat} {r : P12.R} {w : World} (h : RdAt br b off cap r w) :
  w.cell? ⟨br, 0, none⟩ = some (.slice (some ⟨b, off, none⟩) r.l.length cap) ∧ w.cell? ⟨br, 1, none⟩ = some (.int .i64 r.deep) ∧ w.frozen? ⟨br, 0, none⟩ = false ∧ w.frozen? ⟨br, 1, none⟩ = false := by
 refine ⟨by simp [World.cell?, h.blk], by simp [World.cell?, h.blk], frozen_of_row w br 0 _ _ h.blk, frozen_of_row w br 1 _ _ h.blk⟩
theorem Rd.setCell {br : Nat} {r : P12.R} {w : World} (h : Rd br r w) {g : Nat} (hg : br < g) (o : Nat) (u : Value) : Rd br r (w.setCell ⟨g, o, none⟩ u) := by
 obtain ⟨b, off, cap, h⟩ := h
 exact ⟨b, off, cap, h.setCell hg o u⟩
theorem Rd.setCells {br : Nat} {r : P12.R} {g : Nat} (hg : br < g) : ∀ (vs : List Value) (o : Nat) {w : World}, Rd br r w → Rd br r (w.setCells g o vs)
 | [], _, _, h => h
 | v :: vs, o, _, h => Rd.setCells hg vs (o + 1) (Rd.setCell h hg o v)
def faults (e : P12.Er) : Ending := .panicked [{ v := .iface 150 (.agg #[.int .i64 e.1, .int .i64 e.2]), recovered := false }]
def Got {α : Type} (br : Nat) (w0 : World) (r : P12.R) (V : Value → α → World → Prop) (res : Except P12.Er (α × P12.R)) (e : Ending) (w' : World) : Prop :=
 match res with
 | .ok (x, r') => ∃ v, e = .returned v ∧ V v x w' ∧ Turn br w0 w' ∧ Rd br r' w' ∧ P12.Keeps r r'
 | .error er => e = faults er ∧ Turn br w0 w'
abbrev rp (br : Nat) : Value := .pointer (some ⟨br, 0, none⟩)
abbrev bs (s : List UInt8) : Value := .string ⟨s.toArray⟩
theorem tu {A P : Prop} (a : A) (h : A → P := by intro a; repeat (first | with_reducible exact a | with_reducible exact Turn.refl _ _ | ((with_reducible refine Turn.setNew ?_ (Or.inl ?_) _ _); rotate_left; exact Go.Xk.sz) | (with_reducible refine Turn.setNew ?_ (Or.inr rfl) _ _) | ((with_reducible refine Turn.setCells (Or.inl ?_) _ _ ?_); exact Go.Xk.sz) | (with_reducible refine Turn.alloc ?_ _) | (with_reducible refine Turn.drew ?_) | (with_reducible refine Turn.exw ?_ _))) : P := h a
theorem rdx {A P : Prop} (a : A) (h : A → P := by intro a; repeat (first | with_reducible exact a | ((with_reducible refine Rd.setCell ?_ ?_ _ _); rotate_left; exact Go.Xk.sz) | ((with_reducible refine Rd.setCells ?_ _ _ ?_); exact Go.Xk.sz) | (with_reducible refine Rd.alloc ?_ _) | (with_reducible refine Rd.drew ?_) | (with_reducible refine Rd.exw ?_ _))) : P := h a
theorem rda {A P : Prop} (a : A) (h : A → P := by intro a; repeat (first | with_reducible exact a | ((with_reducible refine RdAt.setCell ?_ ?_ _ _); rotate_left; exact Go.Xk.sz) | (with_reducible refine RdAt.alloc ?_ _) | (with_reducible refine RdAt.drew ?_) | (with_reducible refine RdAt.exw ?_ _))) : P := h a
theorem mkfun : ∀ (fn : Fn) (first cap : Array Value) (w : World), (Instr.makeFunc fn first cap).run Tryz.prog w = .ok (.func fn first cap) w := fun _ _ _ _ => rfl
theorem notrun : ∀ (x : Bool) (w : World), (Op.unary .not (.bool x)).run Tryz.prog w = .ok (.bool (!x)) w := fun _ _ => rfl
theorem tok_f0 (a b c : Value) (w : World) : (Instr.field 82 (.agg #[a, b, c]) 0).run Tryz.prog w = .ok a w := by kernel_rfl
theorem tok_f1 (a b c : Value) (w : World) : (Instr.field 82 (.agg #[a, b, c]) 1).run Tryz.prog w = .ok b w := by kernel_rfl
theorem tok_f2 (a b c : Value) (w : World) : (Instr.field 82 (.agg #[a, b, c]) 2).run Tryz.prog w = .ok c w := by kernel_rfl
attribute [go_sem] tok_f0 tok_f1 tok_f2
theorem next_any (br : Nat) (r : P12.R) (w : World) (h : Rd br r w) :
  Calls Tryz.prog 101 #[rp br] w fun e w' => e = .returned (.agg #[.int .i64 (P12.nxt r).kind, .string ⟨(P12.nxt r).text.toArray⟩, .int .i64 (P12.nxt r).pos]) ∧ Xk.Ext w w' := by
 obtain ⟨b, off, cap, h⟩ := h
 obtain ⟨c1, c2, c3⟩ := h.toks.2 0 _ (P12.nxt_get h.good)
 simp only [Nat.zero_mul, Nat.add_zero] at c1 c2 c3
 have hn : (0 : Int) < (r.l.length : Int) := by have := h.good.pos; omega
 have hd : w.cell? ⟨br, 0, none⟩ = some (.slice (some ⟨b, off, none⟩) r.l.length cap) := by simp [World.cell?, h.blk]
 have l1 := World.block_lt_of_cell? _ _ hd
 have l2 := World.block_lt_of_cell? _ _ c1
 clear h
 generalize P12.nxt r = t at c1 c2 c3 ⊢
 go_enter Tryz.func101, Tryz.ntmps101
 go_wp2
 refine bodyPost_ret (v := .agg #[.int .i64 (t).kind, .string ⟨(t).text.toArray⟩, .int .i64 (t).pos]) (by simp [results, Tryz.results101, go_sem]) rfl ⟨rfl, Xk.xt⟩
theorem fails_any (br : Nat) (r : P12.R) (n : Int) (w : World) (h : Rd br r w) :
  Calls Tryz.prog 102 #[rp br, .int .i64 n] w fun e w' => e = faults ((P12.nxt r).pos, n) ∧ Xk.Ext w w' := by
 have HN := Lib.hid (next_any br r w h)
 clear h
 go_enter Tryz.func102, Tryz.ntmps102
 go_wp2_with (go_at_call 101; with_reducible refine Xk.cl (HN.out) fun p => ?_)
 go_wp2
 refine ⟨rfl, rfl, ?_⟩
 exact Xk.xt
theorem takes_any (br : Nat) (r : P12.R) (w : World) (h : Rd br r w) :
  Calls Tryz.prog 185 #[rp br] w fun e w' => e = .returned (.agg #[.int .i64 (P12.nxt r).kind, .string ⟨(P12.nxt r).text.toArray⟩, .int .i64 (P12.nxt r).pos]) ∧ Turn br w w' ∧ Rd br (P12.takes r) w' := by
 obtain ⟨b, off, cap, h⟩ := h
 obtain ⟨c1, c2, c3⟩ := h.toks.2 0 _ (P12.nxt_get h.good)
 simp only [Nat.zero_mul, Nat.add_zero] at c1 c2 c3
 have hn : (0 : Int) < (r.l.length : Int) := by have := h.good.pos; omega
 obtain ⟨d1, d2, f1, f2⟩ := h.cells
 have l1 := World.block_lt_of_cell? _ _ d1
 have l2 := World.block_lt_of_cell? _ _ c1
 have hlo := h.lo
 by_cases hk : (P12.nxt r).kind = 0
 ·rw [P12.takes_end hk]
  have HH := Lib.hid h
  clear h
  rw [hk] at c1
  have HK := Lib.hid hk
  clear hk
  generalize P12.nxt r = t at c1 c2 c3 HK ⊢
  go_enter Tryz.func185, Tryz.ntmps185
  go_wp2
  refine bodyPost_ret (v := .agg #[.int .i64 0, .string ⟨t.text.toArray⟩, .int .i64 t.pos]) (by simp [results, Tryz.results185, go_sem]) rfl ⟨by rw [← HK.out], (tu trivial), b, off, cap, (rda (HH.out))⟩
 ·have hcap : (1 : Int) ≤ (cap : Int) := by have := h.cap; omega
  have hl2 := h.good.tail_pos hk
  have hkb : ((P12.nxt r).kind != 0) = true := by simpa using hk
  have HT := Lib.hid fun W (h : RdAt br b off cap r W) => h.took hk
  have HH := Lib.hid h
  have hlen : (1 : Int) < (r.l.length : Int) := by omega
  clear h
  generalize P12.takes r = r' at HT ⊢
  generalize P12.nxt r = t at c1 c2 c3 hk hkb ⊢
  go_enter Tryz.func185, Tryz.ntmps185
  go_wp2
  all_goals first
   | (exfalso; have := HH.out.cap; omega)
   | (refine bodyPost_ret (v := .agg #[.int .i64 (t).kind, .string ⟨(t).text.toArray⟩, .int .i64 (t).pos]) (by simp [results, Tryz.results185, go_sem]) rfl ⟨rfl, (tu trivial), b, off + 3, cap - 1, (rda ((HT.out _ HH.out)))⟩)
theorem isT_any (br : Nat) (r : P12.R) (s : List UInt8) (w : World) (h : Rd br r w) :
  Calls Tryz.prog 187 #[rp br, .string ⟨s.toArray⟩] w fun e w' => e = .returned (.bool (P12.isT s r)) ∧ Xk.Ext w w' := by
 have HN := Lib.hid (next_any br r w h)
 clear h
 unfold P12.isT
 generalize P12.nxt r = t at HN ⊢
 obtain ⟨kd, tx, ps⟩ := t
 simp only at HN ⊢
 by_cases h2 : kd = 2
 ·subst h2
  go_enter Tryz.func187, Tryz.ntmps187
  go_wp2_with (go_at_call 101; with_reducible refine Xk.cl (HN.out) fun p => ?_)
  go_wp2
  go_ret
  exact ⟨rfl, Xk.xt⟩
 ·by_cases h5 : kd = 5
  ·subst h5
   go_enter Tryz.func187, Tryz.ntmps187
   go_wp2_with (go_at_call 101; with_reducible refine Xk.cl (HN.out) fun p => ?_)
   go_wp2
   go_ret
   exact ⟨rfl, Xk.xt⟩
  ·have e2 : (kd == 2) = false := by simpa using h2
   have e5 : (kd == 5) = false := by simpa using h5
   rw [e2, e5]
   go_enter Tryz.func187, Tryz.ntmps187
   go_wp2_with (go_at_call 101; with_reducible refine Xk.cl (HN.out) fun p => ?_)
   go_wp2
   go_ret
   exact ⟨rfl, Xk.xt⟩
theorem has_no (br : Nat) (r : P12.R) (s : List UInt8) (w : World) (h : Rd br r w) (hs : P12.isT s r = false) :
  Calls Tryz.prog 100 #[rp br, .string ⟨s.toArray⟩] w fun e w' => e = .returned (.bool false) ∧ Xk.Ext w w' := by
 have HI := Lib.hid fun w h => isT_any br r s w h
 have HH := Lib.hid h
 rw [hs] at HI
 clear h hs
 go_enter Tryz.func100, Tryz.ntmps100
 go_wp2_with (go_at_call 187; with_reducible refine Xk.cl (HI.out _ (rdx (HH.out))) fun p => ?_)
 go_ret
 exact ⟨rfl, Xk.xt⟩
theorem has_yes (br : Nat) (r : P12.R) (s : List UInt8) (w : World) (h : Rd br r w) (hs : P12.isT s r = true) :
  Calls Tryz.prog 100 #[rp br, .string ⟨s.toArray⟩] w fun e w' => e = .returned (.bool true) ∧ Turn br w w' ∧ Rd br (P12.takes r) w' := by
 have HI := Lib.hid fun w h => isT_any br r s w h
 have HT := Lib.hid fun w h => takes_any br r w h
 have HH := Lib.hid h
 rw [hs] at HI
 clear h hs
 go_enter Tryz.func100, Tryz.ntmps100
 go_wp2_with (go_at_call 187; with_reducible refine Xk.cl (HI.out _ (rdx (HH.out))) fun p => ?_)
 go_at_call 185
 refine (HT.out _ (rdx (HH.out))).mono ?_
 rintro e w1 ⟨rfl, ht, hr⟩
 go_wp2
 go_ret
 exact ⟨rfl, (by repeat (first | with_reducible exact (Turn.trans (tu trivial) ht) | with_reducible exact Turn.refl _ _ | ((with_reducible refine Turn.setNew ?_ (Or.inl ?_) _ _); rotate_left; exact Xk.sz) | (with_reducible refine Turn.setNew ?_ (Or.inr rfl) _ _) | ((with_reducible refine Turn.setCells (Or.inl ?_) _ _ ?_); exact Xk.sz) | (with_reducible refine Turn.alloc ?_ _) | (with_reducible refine Turn.drew ?_) | (with_reducible refine Turn.exw ?_ _))), (rdx (hr))⟩
abbrev exprL (kind op k i : Int) (s t n : P12.T) (args : Value) : List Value :=
 [.int .i64 kind, .int .i64 op, .int .i64 k, .int .i64 i, bs s, bs t, bs n, .int .i64 0, .int .i64 0, args]
abbrev nilS : Value := .slice none 0 0
def ExprAt (S : Nat → Prop) (w : World) : P12.E → List Value → Prop
 | .none, l => l = exprL 0 0 0 0 [] [] [] nilS
 | .val k i s, l => l = exprL 1 0 k i s [] [] nilS
 | .col t n, l => l = exprL 2 0 0 0 [] t n nilS
 | .all, l => l = exprL 5 19 0 0 [] [] [] nilS
 | .una op a, l => ∃ g u, S g ∧ l = exprL 3 op 0 0 [] [] [] (.slice (some ⟨g, 0, none⟩) 1 1) ∧ w.rangeAt g 0 u ∧ u.length = 10 ∧ ExprAt S w a u
 | .call op a, l => ∃ g u, S g ∧ l = exprL 5 op 0 0 [] [] [] (.slice (some ⟨g, 0, none⟩) 1 1) ∧ w.rangeAt g 0 u ∧ u.length = 10 ∧ ExprAt S w a u
 | .bin op a b, l => ∃ g u v, S g ∧ l = exprL 4 op 0 0 [] [] [] (.slice (some ⟨g, 0, none⟩) 2 2) ∧ w.rangeAt g 0 (u ++ v) ∧ u.length = 10 ∧ v.length = 10 ∧ ExprAt S w a u ∧ ExprAt S w b v
theorem ExprAt.length {S : Nat → Prop} {w : World} : ∀ {e : P12.E} {l : List Value}, ExprAt S w e l → l.length = 10
 | .none, _, h | .val _ _ _, _, h | .col _ _, _, h | .all, _, h => by unfold ExprAt at h; rw [h]; rfl
 | .una _ _, _, h | .call _ _, _, h => by unfold ExprAt at h; obtain ⟨g, u, -, rfl, -⟩ := h; rfl
 | .bin _ _ _, _, h => by unfold ExprAt at h; obtain ⟨g, u, v, -, rfl, -⟩ := h; rfl
theorem ExprAt.form {S : Nat → Prop} {w : World} : ∀ {e : P12.E} {l : List Value}, ExprAt S w e l → ∃ kind op k i s t n p m c, l = exprL kind op k i s t n (.slice p m c)
 | .none, _, h | .val _ _ _, _, h | .col _ _, _, h | .all, _, h => by unfold ExprAt at h; exact ⟨_, _, _, _, _, _, _, _, _, _, h⟩
 | .una _ _, _, h | .call _ _, _, h => by unfold ExprAt at h; obtain ⟨g, u, -, h, -⟩ := h; exact ⟨_, _, _, _, _, _, _, _, _, _, h⟩
 | .bin _ _ _, _, h => by unfold ExprAt at h; obtain ⟨g, u, v, -, h, -⟩ := h; exact ⟨_, _, _, _, _, _, _, _, _, _, h⟩
theorem range_lt {w : World} {g o : Nat} {l : List Value} (h : w.rangeAt g o l) (hl : 0 < l.length) : g < w.heap.size := by
 have := h 0 l[0] (by simp [hl])
 exact World.block_lt_of_cell? _ _ this
theorem range_same {w w' : World} {g o : Nat} {l : List Value} (h : w.rangeAt g o l) (hb : w'.heap[g]? = w.heap[g]?) : w'.rangeAt g o l := fun j v hj => by
 have := h j v hj
 unfold World.cell? at this ⊢
 simp only at this ⊢
 rw [hb]; exact this
theorem ExprAt.keep {S S' : Nat → Prop} {w w' : World} (hb : ∀ b, S b → b < w.heap.size → w'.heap[b]? = w.heap[b]?) (hS : ∀ b, S b → b < w.heap.size → S' b) : ∀ {e : P12.E} {l : List Value}, ExprAt S w e l → ExprAt S' w' e l
 | .none, _, h | .val _ _ _, _, h | .col _ _, _, h | .all, _, h => by unfold ExprAt at h ⊢; exact h
 | .una _ a, _, h | .call _ a, _, h => by
  unfold ExprAt at h ⊢
  obtain ⟨g, u, h1, h2, h3, h4, h5⟩ := h
  have hlt := range_lt h3 (by omega)
  exact ⟨g, u, hS g h1 hlt, h2, range_same h3 (hb g h1 hlt), h4, ExprAt.keep hb hS h5⟩
 | .bin _ a b, _, h => by
  unfold ExprAt at h ⊢
  obtain ⟨g, u, v, h1, h2, h3, h4, h4', h5, h6⟩ := h
  have hlt := range_lt h3 (by simp; omega)
  exact ⟨g, u, v, hS g h1 hlt, h2, range_same h3 (hb g h1 hlt), h4, h4', ExprAt.keep hb hS h5, ExprAt.keep hb hS h6⟩
def P12.mustU (s : P12.T) (r : P12.R) : Except P12.Er (Unit × P12.R) := if P12.isT s r then .ok ((), P12.takes r) else .error ((P12.nxt r).pos, 120)
theorem must_any (br : Nat) (r : P12.R) (s : List UInt8) (g : Nat) (w : World) (h : Rd br r w) (hg : w.cell? ⟨g, 0, none⟩ = some (.string ⟨s.toArray⟩)) (hgr : br < g) :
  Calls Tryz.prog 224 #[rp br, .slice (some ⟨g, 0, none⟩) 1 1] w (Got br w r (fun v _ _ => v = .tuple #[]) (P12.mustU s r)) := by
 have HR := Lib.hid h
 have lg := World.block_lt_of_cell? _ _ hg
 have lr := h.lt
 clear h
 cases hs : P12.isT s r
 ·rw [show P12.mustU s r = .error ((P12.nxt r).pos, 120) by unfold P12.mustU; rw [hs]; rfl]
  have HI := Lib.hid fun w h => has_no br r s w h hs
  go_enter Tryz.func224, Tryz.ntmps224
  go_wp2
  go_loopw [8] (fun x wr => x = .int .i64 0 ∧ wr = w) (fun _ _ => 0)
  case atStart => exact ⟨rfl, rfl⟩
  case round =>
   obtain ⟨rfl, rfl⟩ := hrel
   go_wp2_with (go_at_call 100; with_reducible refine Xk.cl (HI.out _ (rdx (HR.out))) fun p => ?_)
   go_at_call 102
   refine (fails_any br (r) 120 _ (rdx (HR.out))).mono ?_
   rintro e wF ⟨rfl, hxF⟩
   simp only [faults]
   go_wp2
   exact ⟨rfl, rfl, Turn.trans (tu ((Turn.refl _ _))) (Turn.of_ext hxF)⟩
 ·rw [show P12.mustU s r = .ok ((), P12.takes r) by unfold P12.mustU; rw [hs]; rfl]
  have HI := Lib.hid fun w h => has_yes br r s w h hs
  go_enter Tryz.func224, Tryz.ntmps224
  go_wp2
  go_loopw [8] (fun x wr => (x = .int .i64 0 ∧ wr = w) ∨ (x = .int .i64 1 ∧ Turn br w wr ∧ Rd br (P12.takes r) wr)) (fun x _ => 1 - (intOf x).toNat)
  case atStart => exact .inl ⟨rfl, rfl⟩
  case round =>
   rcases hrel with ⟨rfl, rfl⟩ | ⟨rfl, ht, hr⟩
   ·go_wp2_with fail
    go_at_call 100
    refine (HI.out _ HR.out).mono ?_
    rintro e w1 ⟨rfl, ht, hr⟩
    go_wp2
    go_roundw
    case rel => exact .inr ⟨by go_num, ht, hr⟩
    case measure => simp [intOf]
   ·go_wp2
    go_end0
    exact ⟨_, rfl, rfl, ht, hr, P12.keeps_takes r⟩
theorem name_any (br : Nat) (r : P12.R) (w : World) (h : Rd br r w) :
  Calls Tryz.prog 223 #[rp br] w (Got br w r (fun v x _ => v = bs x) (P12.name r)) := by
 have HR := Lib.hid h
 have HN := Lib.hid (next_any br r w h)
 have lr := h.lt
 have hok := h.good.nxt_ok
 have hl := hok.len
 clear h hok
 unfold P12.name
 by_cases hk : (P12.nxt r).kind = 1
 ·rw [if_neg (by simpa using hk)]
  rw [hk] at HN
  by_cases hlen : 24 < (P12.nxt r).text.length
  ·rw [if_pos hlen]
   have hlb : (24 : Int) < ((P12.nxt r).text.length : Int) := by omega
   go_enter Tryz.func223, Tryz.ntmps223
   go_wp2_with (go_at_call 101; with_reducible refine Xk.cl (HN.out) fun p => ?_)
   go_at_call 102
   refine (fails_any br (r) 124 _ (rdx (HR.out))).mono ?_
   rintro e wF ⟨rfl, hxF⟩
   simp only [faults]
   go_wp2
   exact ⟨rfl, rfl, Turn.trans (tu ((Turn.refl _ _))) (Turn.of_ext hxF)⟩
  ·rw [if_neg hlen]
   have hlb : ¬ (24 : Int) < ((P12.nxt r).text.length : Int) := by omega
   go_enter Tryz.func223, Tryz.ntmps223
   go_wp2_with (go_at_call 101; with_reducible refine Xk.cl (HN.out) fun p => ?_)
   go_at_call 185
   refine (takes_any br r _ (rdx (HR.out))).mono ?_
   rintro e w1 ⟨rfl, ht, hr⟩
   go_wp2
   go_ret
   exact ⟨_, rfl, rfl, Turn.trans (tu trivial) ht, hr, P12.keeps_takes r⟩
 ·rw [if_pos (by simpa using hk)]
  have hkb : ((P12.nxt r).kind != 1) = true := by simpa using hk
  go_enter Tryz.func223, Tryz.ntmps223
  go_wp2_with (go_at_call 101; with_reducible refine Xk.cl (HN.out) fun p => ?_)
  go_at_call 102
  refine (fails_any br (r) 120 _ (rdx (HR.out))).mono ?_
  rintro e wF ⟨rfl, hxF⟩
  simp only [faults]
  go_wp2
  exact ⟨rfl, rfl, Turn.trans (tu ((Turn.refl _ _))) (Turn.of_ext hxF)⟩
theorem named_any (br : Nat) (r : P12.R) (w : World) (h : Rd br r w) :
  Calls Tryz.prog 233 #[rp br] w fun e w' => e = .returned (.bool (P12.named r)) ∧ Xk.Ext w w' := by
 have HN := Lib.hid (next_any br r w h)
 have hl := h.good.nxt_ok.len
 clear h
 unfold P12.named
 by_cases hk : (P12.nxt r).kind = 1
 ·rw [hk] at HN ⊢
  by_cases hlen : (P12.nxt r).text.length ≤ 24
  ·have hlb : ((P12.nxt r).text.length : Int) ≤ 24 := by omega
   rw [show decide ((P12.nxt r).text.length ≤ 24) = true by simpa using hlen]
   go_enter Tryz.func233, Tryz.ntmps233
   go_wp2_with (go_at_call 101; with_reducible refine Xk.cl (HN.out) fun p => ?_)
   go_wp2
   go_ret
   exact ⟨rfl, Xk.xt⟩
  ·have hlb : decide (((P12.nxt r).text.length : Int) ≤ 24) = false := by simp; omega
   rw [show decide ((P12.nxt r).text.length ≤ 24) = false by simpa using hlen]
   go_enter Tryz.func233, Tryz.ntmps233
   go_wp2_with (go_at_call 101; with_reducible refine Xk.cl (HN.out) fun p => ?_)
   go_wp2
   go_ret
   exact ⟨rfl, Xk.xt⟩
 ·have hkb : ((P12.nxt r).kind == 1) = false := by simpa using hk
  rw [hkb]
  go_enter Tryz.func233, Tryz.ntmps233
  go_wp2_with (go_at_call 101; with_reducible refine Xk.cl (HN.out) fun p => ?_)
  go_wp2
  go_ret
  exact ⟨rfl, Xk.xt⟩
def Bears1 (v : Value) (f : FuncId) (x : Value) : Prop := v = .func (.func f) #[x] #[] ∨ v = .func (.func f) #[] #[x]
structure Ent (f : FuncId) : Prop where
 run : ∀ args W, (callFunc f args).run Tryz.prog W = .ok (.enter f args) W
 no : ¬ 2 = f
theorem ent_named : Ent 233 := ⟨fun _ _ => by go_simp, by decide⟩
abbrev manyO (br : Nat) (n most : Nat) : Obj := .cells #[rp br, .int .i64 n, .int .i64 most] 252
theorem counts_few (br n most gm : Nat) (cv : Value) (w : World) (hm : w.heap[gm]? = some (manyO br n most)) (hn : n + 1 ≤ most) (hb : most ≤ 1000) :
  Calls Tryz.prog 267 #[rp gm, cv] w fun e w' => e = .returned (.tuple #[]) ∧ Xk.Ext (w.setCell ⟨gm, 1, none⟩ (.int .i64 ((n : Int) + 1))) w' := by
 obtain ⟨c0, c1, c2, f0, f1, f2⟩ := Xe.cells_of3 hm
 have hlt := (Array.getElem?_eq_some_iff.1 hm).1
 have hnb : decide ((most : Int) < (n : Int) + 1) = false := by simp; omega
 clear hm
 go_enter Tryz.func267, Tryz.ntmps267
 go_wp2
 refine Xk.reg 13 (Xk.w0 fun p => ?_)
 go_wp2
 go_end0
 exact ⟨rfl, Xk.xt⟩
theorem counts_no (br n most gm : Nat) (r : P12.R) (cv x : Value) (CF : FuncId) (w : World) (h : Rd br r w) (hm : w.heap[gm]? = some (manyO br n most)) (hgm : br < gm) (hn : most < n + 1) (hb : n ≤ 100000)
  (hcv : Bears1 cv CF x) (he : Ent CF) (hC : ∀ W, Rd br r W → Xk.Ext (w.setCell ⟨gm, 1, none⟩ (.int .i64 ((n : Int) + 1))) W → Calls Tryz.prog CF #[x] W fun e w' => e = .returned (.bool false) ∧ Xk.Ext W w') :
  Calls Tryz.prog 267 #[rp gm, cv] w fun e w' => e = .returned (.tuple #[]) ∧ Xk.Ext (w.setCell ⟨gm, 1, none⟩ (.int .i64 ((n : Int) + 1))) w' := by
 obtain ⟨c0, c1, c2, f0, f1, f2⟩ := Xe.cells_of3 hm
 have hlt := (Array.getElem?_eq_some_iff.1 hm).1
 have hnb : (most : Int) < (n : Int) + 1 := by omega
 have HR := Lib.hid h
 have HC := Lib.hid hC
 have hcf := he.run
 have hci := he.no
 clear hm h hC he
 rcases hcv with rfl | rfl
 ·go_enter Tryz.func267, Tryz.ntmps267
  go_wp2
  refine Xk.wp_region_rel' 13 [] trivial (by kernel_rfl) (by kernel_rfl) ?_
  simp only [List.take_succ_cons, List.take_zero, List.drop_succ_cons, List.drop_zero]
  repeat (first
   | ((first | refine Xk.rel_det (Xk.wanted_none (by rfl)) (by rfl) (fun K hK => ?_) | refine Xk.rel_det (by rfl) (by rfl) (fun K hK => ?_)); apply Exists.intro; refine ⟨fun p hp => ?_, ?_⟩; (go_simp; first | exact ⟨rfl, rfl⟩ | ((try refine ⟨by kernel_rfl, ?_⟩); (first | ((try refine ⟨hci, ?_⟩); (with_reducible refine (HC.out _ (rdx (HR.out)) Xk.xt).mono ?_); exact fun e w' h => h)))); (go_simp; refine hK _ ?_; clear hK K))
   | (refine Xk.rel_skip (by rfl) (fun K hK => ?_); go_simp; refine hK _ ?_; clear hK K))
  refine Xk.rel_nil (fun p _ => ?_)
  go_wp2
  go_end0
  exact ⟨rfl, Xk.xt⟩
 ·go_enter Tryz.func267, Tryz.ntmps267
  go_wp2
  refine Xk.wp_region_rel' 13 [] trivial (by kernel_rfl) (by kernel_rfl) ?_
  simp only [List.take_succ_cons, List.take_zero, List.drop_succ_cons, List.drop_zero]
  repeat (first
   | ((first | refine Xk.rel_det (Xk.wanted_none (by rfl)) (by rfl) (fun K hK => ?_) | refine Xk.rel_det (by rfl) (by rfl) (fun K hK => ?_)); apply Exists.intro; refine ⟨fun p hp => ?_, ?_⟩; (go_simp; first | exact ⟨rfl, rfl⟩ | ((try refine ⟨by kernel_rfl, ?_⟩); (first | ((try refine ⟨hci, ?_⟩); (with_reducible refine (HC.out _ (rdx (HR.out)) Xk.xt).mono ?_); exact fun e w' h => h)))); (go_simp; refine hK _ ?_; clear hK K))
   | (refine Xk.rel_skip (by rfl) (fun K hK => ?_); go_simp; refine hK _ ?_; clear hK K))
  refine Xk.rel_nil (fun p _ => ?_)
  go_wp2
  go_end0
  exact ⟨rfl, Xk.xt⟩
def rdLen (br : Nat) (w : World) : Nat := match w.cell? ⟨br, 0, none⟩ with
 | some (.slice _ n _) => n
 | _ => 0
theorem Rd.len {br : Nat} {r : P12.R} {w : World} (h : Rd br r w) : rdLen br w = r.l.length := by
 obtain ⟨b, off, cap, h⟩ := h
 unfold rdLen
 rw [h.cells.1]
theorem counts_yes (br n most gm : Nat) (r : P12.R) (cv x : Value) (CF : FuncId) (w : World) (h : Rd br r w) (hm : w.heap[gm]? = some (manyO br n most)) (hgm : br < gm) (hn : most < n + 1) (hb : n ≤ 100000)
  (hcv : Bears1 cv CF x) (he : Ent CF) (hC : ∀ W, Rd br r W → Xk.Ext (w.setCell ⟨gm, 1, none⟩ (.int .i64 ((n : Int) + 1))) W → Calls Tryz.prog CF #[x] W fun e w' => e = .returned (.bool true) ∧ Xk.Ext W w') :
  Calls Tryz.prog 267 #[rp gm, cv] w fun e w' => e = faults ((P12.nxt r).pos, 122) ∧ Xk.Ext (w.setCell ⟨gm, 1, none⟩ (.int .i64 ((n : Int) + 1))) w' := by
 obtain ⟨c0, c1, c2, f0, f1, f2⟩ := Xe.cells_of3 hm
 have hlt := (Array.getElem?_eq_some_iff.1 hm).1
 have hnb : (most : Int) < (n : Int) + 1 := by omega
 have HR := Lib.hid h
 have HC := Lib.hid hC
 have hcf := he.run
 have hci := he.no
 clear hm h hC he
 rcases hcv with rfl | rfl
 ·go_enter Tryz.func267, Tryz.ntmps267
  go_wp2
  refine Xk.wp_region_rel' 13 [] trivial (by kernel_rfl) (by kernel_rfl) ?_
  simp only [List.take_succ_cons, List.take_zero, List.drop_succ_cons, List.drop_zero]
  repeat (first
   | ((first | refine Xk.rel_det (Xk.wanted_none (by rfl)) (by rfl) (fun K hK => ?_) | refine Xk.rel_det (by rfl) (by rfl) (fun K hK => ?_)); apply Exists.intro; refine ⟨fun p hp => ?_, ?_⟩; (go_simp; first | exact ⟨rfl, rfl⟩ | ((try refine ⟨by kernel_rfl, ?_⟩); (first | ((try refine ⟨hci, ?_⟩); (with_reducible refine (HC.out _ (rdx (HR.out)) Xk.xt).mono ?_); exact fun e w' h => h)))); (go_simp; refine hK _ ?_; clear hK K))
   | (refine Xk.rel_skip (by rfl) (fun K hK => ?_); go_simp; refine hK _ ?_; clear hK K))
  refine Xk.rel_nil (fun p _ => ?_)
  go_wp2_with fail
  go_at_call 102
  refine (fails_any br r 122 _ (rdx (HR.out))).mono ?_
  rintro e wF ⟨rfl, hxF⟩
  simp only [faults]
  go_wp2
  exact ⟨rfl, rfl, Xk.Ext.trans Xk.xt hxF⟩
 ·go_enter Tryz.func267, Tryz.ntmps267
  go_wp2
  refine Xk.wp_region_rel' 13 [] trivial (by kernel_rfl) (by kernel_rfl) ?_
  simp only [List.take_succ_cons, List.take_zero, List.drop_succ_cons, List.drop_zero]
  repeat (first
   | ((first | refine Xk.rel_det (Xk.wanted_none (by rfl)) (by rfl) (fun K hK => ?_) | refine Xk.rel_det (by rfl) (by rfl) (fun K hK => ?_)); apply Exists.intro; refine ⟨fun p hp => ?_, ?_⟩; (go_simp; first | exact ⟨rfl, rfl⟩ | ((try refine ⟨by kernel_rfl, ?_⟩); (first | ((try refine ⟨hci, ?_⟩); (with_reducible refine (HC.out _ (rdx (HR.out)) Xk.xt).mono ?_); exact fun e w' h => h)))); (go_simp; refine hK _ ?_; clear hK K))
   | (refine Xk.rel_skip (by rfl) (fun K hK => ?_); go_simp; refine hK _ ?_; clear hK K))
  refine Xk.rel_nil (fun p _ => ?_)
  go_wp2_with fail
  go_at_call 102
  refine (fails_any br r 122 _ (rdx (HR.out))).mono ?_
  rintro e wF ⟨rfl, hxF⟩
  simp only [faults]
  go_wp2
  exact ⟨rfl, rfl, Xk.Ext.trans Xk.xt hxF⟩
def CountsPost (r : P12.R) (gm n most : Nat) (c : Bool) (w : World) (e : Ending) (w' : World) : Prop :=
 Xk.Ext (w.setCell ⟨gm, 1, none⟩ (.int .i64 ((n : Int) + 1))) w' ∧ if (decide (most < n + 1) && c) = true then e = faults ((P12.nxt r).pos, 122) else e = .returned (.tuple #[])
theorem counts_any (br n most gm : Nat) (r : P12.R) (cv x : Value) (CF : FuncId) (c : Bool) (w : World) (h : Rd br r w) (hm : w.heap[gm]? = some (manyO br n most)) (hgm : br < gm) (hb : n ≤ 100000) (hb2 : most ≤ 1000)
  (hcv : Bears1 cv CF x) (he : Ent CF) (hC : ∀ W, Rd br r W → Xk.Ext (w.setCell ⟨gm, 1, none⟩ (.int .i64 ((n : Int) + 1))) W → Calls Tryz.prog CF #[x] W fun e w' => e = .returned (.bool c) ∧ Xk.Ext W w') :
  Calls Tryz.prog 267 #[rp gm, cv] w (CountsPost r gm n most c w) := by
 by_cases hn : most < n + 1
 ·cases c
  ·exact (counts_no br n most gm r cv x CF w h hm hgm hn hb hcv he hC).mono fun e w' ⟨h1, h2⟩ => ⟨h2, by rw [if_neg (by simp)]; exact h1⟩
  ·exact (counts_yes br n most gm r cv x CF w h hm hgm hn hb hcv he hC).mono fun e w' ⟨h1, h2⟩ => ⟨h2, by rw [if_pos (by simpa using hn)]; exact h1⟩
 ·exact (counts_few br n most gm cv w hm (by omega) hb2).mono fun e w' ⟨h1, h2⟩ => ⟨h2, by rw [if_neg (by simp; omega)]; exact h1⟩
theorem heap_new (w : World) (o : Obj) : (w.alloc o).heap[w.heap.size]? = some o := by
 show (w.heap.push o)[w.heap.size]? = some o
 simp
def RowPost {α : Type} (br : Nat) (r : P12.R) (J : α → World → Prop) (Z : World → Prop) (res : Except P12.Er (α × P12.R)) (e : Ending) (w' : World) : Prop :=
 match res with
 | .ok (x, r') => e = .returned (.tuple #[]) ∧ J x w' ∧ Rd br r' w' ∧ P12.Keeps r r'
 | .error er => e = faults er ∧ Z w'
def P12.onto {α : Type} (xs : List α) : Except P12.Er (List α × P12.R) → Except P12.Er (List α × P12.R)
 | .ok (ys, r) => .ok (xs ++ ys, r)
 | .error e => .error e
theorem row_any {α : Type} (br most : Nat) (r0 : P12.R) (w : World) (cv rv cx ra rb : Value) (CF RF : FuncId) (could : P12.R → Bool) (read : P12.R → Except P12.Er (α × P12.R)) (J : List α → World → Prop) (Z : World → Prop)
  (hmost : most ≤ 1000) (hr : Rd br r0 w) (hcv : Bears1 cv CF cx) (hce : Ent CF) (hC : ∀ xs r W, Rd br r W → J xs W → Calls Tryz.prog CF #[cx] W fun e w' => e = .returned (.bool (could r)) ∧ Xk.Ext W w')
  (hrv : rv = .func (.func RF) #[] #[ra, rb]) (hre : Ent RF)
  (hR : ∀ xs r W, P12.Keeps r0 r → xs.length + r.l.length ≤ r0.l.length → Rd br r W → J xs W → Calls Tryz.prog RF #[ra, rb] W fun e w' => RowPost br r (fun x w' => J (xs ++ [x]) w' ∧ w'.heap[w.heap.size]? = W.heap[w.heap.size]?) Z (read r) e w')
  (hJ : J [] (w.alloc (manyO br 0 most))) (hJm : ∀ xs W v, J xs W → J xs (W.setCell ⟨w.heap.size, 1, none⟩ v)) (hJt : ∀ xs W W', J xs W → Turn br W W' → J xs W') (hZ : ∀ xs W, J xs W → Z W) :
  Calls Tryz.prog 227 #[rp br, .int .i64 most, cv, rv] w (RowPost br r0 J Z (P12.rowF most could read r0.l.length 0 r0)) := by
 subst hrv
 have lr := hr.lt
 have HR := Lib.hid hr
 have HRR := Lib.hid hR
 have HC := Lib.hid hC
 have HJ := Lib.hid hJ
 have HJm := Lib.hid hJm
 have HJt := Lib.hid hJt
 have HZ := Lib.hid hZ
 have hcf := hre.run
 have hci := hre.no
 clear hr hR hC hJ hJm hJt hZ
 generalize hres : P12.rowF most could read r0.l.length 0 r0 = res
 have HRES := Lib.hid hres
 clear hres
 go_enter Tryz.func227, Tryz.ntmps227
 go_wp2
 go_loopw [20] (fun _ wr => ∃ (xs : List α) (r1 : P12.R) (f : Nat), Rd br r1 wr ∧ P12.Keeps r0 r1 ∧ wr.heap[w.heap.size]? = some (manyO br xs.length most) ∧ J xs wr ∧ r1.l.length ≤ f ∧ xs.length + r1.l.length ≤ r0.l.length ∧ P12.onto xs (P12.rowF most could read f xs.length r1) = res) (fun _ wr => rdLen br wr)
 case atStart => exact ⟨[], r0, r0.l.length, (rdx (HR.out)), P12.Keeps.refl _, heap_new w _, HJ.out, Nat.le_refl _, by simp, by
  have := HRES.out
  show P12.onto [] (P12.rowF most could read r0.l.length 0 r0) = res
  rw [this]
  rcases res with e | ⟨ys, r⟩ <;> rfl⟩
 case round =>
  obtain ⟨xs, r1, f, hr1, hk1, hm, hJ, hf, hxl, hres⟩ := hrel
  have hgood := hr1.good
  have hpos := hgood.pos
  have h0len := HR.out.good.len
  have hlen1 := hr1.len
  obtain ⟨f, rfl⟩ : ∃ k, f = k + 1 := ⟨f - 1, by omega⟩
  have HR1 := Lib.hid hr1
  have HM := Lib.hid hm
  have HJ1 := Lib.hid hJ
  have HK1 := Lib.hid hk1
  have HE := Lib.hid hres
  have hlw := (Array.getElem?_eq_some_iff.1 hm).1
  clear hr1 hm hJ hk1 hres
  go_wp2_with fail
  go_at_call 267
  refine (counts_any br xs.length most w.heap.size r1 cv cx CF (could r1) wr HR1.out HM.out (by omega) (by omega) hmost hcv hce (fun W h hx => HC.out xs r1 W h (HJt.out _ _ _ (HJm.out _ _ _ HJ1.out) (Turn.of_ext hx)))).mono ?_
  rintro e w1 ⟨hx, hce1⟩
  have hr1 : Rd br r1 w1 := (Rd.setCell HR1.out (by omega) 1 _).ext hx
  have hj1 : J xs w1 := HJt.out _ _ _ (HJm.out _ _ _ HJ1.out) (Turn.of_ext hx)
  cases hmc : decide (most < xs.length + 1) && could r1
  ·rw [if_neg (by rw [hmc]; simp)] at hce1
   subst hce1
   have hm1 : w1.heap[w.heap.size]? = some (manyO br (xs.length + 1) most) := by
    rw [hx.block _ (by rw [World.size_setCell]; exact hlw), heap_setCell_same wr w.heap.size 1 _ _ _ HM.out]
    simp
   have HE1 := HE.out
   rw [P12.rowF, hmc, if_neg (by simp)] at HE1
   have HRd := HRR.out xs r1 w1 HK1.out hxl hr1 hj1
   have HM1 := Lib.hid hm1
   clear hx hm1
   go_wp2_with fail
   refine HRd.mono ?_
   intro e w2 h
   cases hrd : read r1 with
   | error er =>
    rw [hrd] at h HE1
    obtain ⟨rfl, hz⟩ := h
    simp only [faults]
    go_wp2
    refine ⟨rfl, ?_⟩
    rw [← HE1]
    exact ⟨rfl, hz⟩
   | ok p =>
    obtain ⟨x, r2⟩ := p
    rw [hrd] at h HE1
    obtain ⟨rfl, ⟨hj2, hm2⟩, hr2, hk2⟩ := h
    dsimp only at HE1
    have HR2 := Lib.hid hr2
    have hm2 := hm2.trans HM1.out
    have HK2 := Lib.hid hk2
    cases hs : P12.isT [44] r2
    ·rw [hs, if_neg (by simp)] at HE1
     go_wp2_with fail
     go_at_call 100
     refine (has_no br r2 [44] w2 HR2.out hs).mono ?_
     rintro e w3 ⟨rfl, hx3⟩
     go_wp2
     refine bodyPost_ret (results_none rfl _ _ _) rfl ?_
     rw [← HE1]
     exact ⟨rfl, HJt.out _ _ _ hj2 (Turn.of_ext hx3), HR2.out.ext hx3, HK1.out.trans HK2.out⟩
    ·rw [hs, if_pos rfl] at HE1
     go_wp2_with fail
     go_at_call 100
     refine (has_yes br r2 [44] w2 HR2.out hs).mono ?_
     rintro e w3 ⟨rfl, ht3, hr3⟩
     have hlt := P12.takes_lt HR2.out.good (P12.isT_kind hs)
     have hle := HK2.out.le
     have hm3 := ht3.held hm2 (by omega)
     have hl3 := hr3.len
     go_wp2
     go_roundw
     case rel => exact ⟨xs ++ [x], P12.takes r2, f, hr3, HK1.out.trans (HK2.out.trans (P12.keeps_takes r2)), by simpa using hm3, HJt.out _ _ _ hj2 ht3, by omega, by simp; omega, by
      rw [← HE1]
      simp only [List.length_append, List.length_singleton]
      rcases P12.rowF most could read f (xs.length + 1) (P12.takes r2) with e | ⟨ys, r⟩
      ·rfl
      ·simp [P12.onto]⟩
     case measure => (rw [hl3, hlen1]; omega)
  ·rw [if_pos hmc] at hce1
   subst hce1
   simp only [faults]
   go_wp2
   refine ⟨rfl, ?_⟩
   have HE1 := HE.out
   rw [P12.rowF, hmc, if_pos rfl] at HE1
   rw [← HE1]
   exact ⟨rfl, HZ.out _ _ hj1⟩
end Go.Proofs.YtlpcdpkgnfdpeaaGreatDoor
namespace Go.Xo
open Go.RowKit Go.Xk
theorem wpList_appb {P : Program} {w : World} {ops : Array Oper} {rest : List Oper} {o : Oper} {a : Act} {Q : Exit → Act → World → Prop} (B : Nat) (hgd : o.guard = none) (s x : Operand) (t : TypeId)
  (ho : o.op = .call { callee := .builtin .append, args := #[s, x], argTypes := #[t, t] })
  (e : TypeId) (i : TypeInfo) (z : Value) (size bytes : Nat) (ht : P.underlying t = some (.slice e)) (hi : P.info? e = some i) (hz : i.zero = some z)
  (hsize : i.size = size) (hby : i.bytes = bytes) (hzs : z.cells.size = size) (hsz : 0 < size)
  (v : Value) (n : Nat) (xs : List Value) (hs : a.eval s = v) (hown : w.ownsRow B e size v n xs)
  (g goff m c : Nat) (news : List Value) (hx : a.eval x = .slice (some ⟨g, goff, none⟩) m c) (hm : 0 < m) (hl : news.length = m * size) (hnews0 : ∀ j u, news[j]? = some u → w.cell? ⟨g, goff + j, none⟩ = some u) (h1 : ∀ u ∈ news, u.oneCell' = true)
  (hb : n ≤ 4000000 ∧ m ≤ 4000000 ∧ bytes ≤ 1000) (hbel : B ≤ w.heap.size)
  (h : ∀ v' w', w'.ownsRow B e size v' (n + m) (xs ++ news) → w.grownBy w' v.ownBlock → (∀ b, v'.ownBlock = some b → v.ownBlock = some b ∨ w.heap.size ≤ b) → wpList P ops Q rest (a.put o.dst v') w') : wpList P ops Q (o :: rest) a w := by
 have hnews : ∀ j u, news[j]? = some u → w.cell? (Addr.add ⟨g, goff, none⟩ j) = some u := fun j u hj => by rw [addr_add]; exact hnews0 j u hj
 obtain ⟨v', w', hrun, r1, r2⟩ := run_app (P := P) w B t o.type e i z size bytes ht hi hz hsize hby hzs hsz v n xs hown _ m c news hm hl hnews h1 hb hbel
 refine wpList_plain hgd fun K hK' => ?_
 have hg : w.grownBy w' v.ownBlock ∧ (∀ b, v'.ownBlock = some b → v.ownBlock = some b ∨ w.heap.size ≤ b) := by
  rcases r2 with ⟨g, cap, rfl, rfl, hg⟩ | ⟨hg, b, hb', e1⟩
  ·exact ⟨hg, fun b h => .inl h⟩
  ·exact ⟨⟨hg.os, hg.tape, hg.output, hg.size, fun k hk _ => hg.block k hk (by simp)⟩, fun c h => by rw [e1] at h; cases h; exact .inr hb'⟩
 unfold Oper.wp
 simp [execOp, ho, resolve, invoke, builtin, hs, hx, hrun, Result.andThen]
 exact hK' _ _ (h v' w' r1 hg.1 hg.2)
end Go.Xo
namespace Go.Proofs.YtlpcdpkgnfdpeaaGreatDoor
open Go.RowKit
structure Kept (B : Nat) (ks : List Nat) (w w' : World) : Prop where
 os : w'.os = w.os
 tape : w'.tape = w.tape
 output : w'.output = w.output
 size : w.heap.size ≤ w'.heap.size
 block : ∀ b, b < B → b < w.heap.size → b ∉ ks → w'.heap[b]? = w.heap[b]?
theorem Kept.refl (B : Nat) (ks : List Nat) (w : World) : Kept B ks w w := ⟨rfl, rfl, rfl, Nat.le_refl _, fun _ _ _ _ => rfl⟩
theorem Kept.trans {B : Nat} {ks : List Nat} {a b c : World} (h : Kept B ks a b) (k : Kept B ks b c) : Kept B ks a c :=
 ⟨k.os.trans h.os, k.tape.trans h.tape, k.output.trans h.output, Nat.le_trans h.size k.size, fun x h1 h2 h3 => (k.block x h1 (Nat.lt_of_lt_of_le h2 h.size) h3).trans (h.block x h1 h2 h3)⟩
theorem Kept.of_ext {B : Nat} {ks : List Nat} {w w' : World} (h : Xk.Ext w w') : Kept B ks w w' :=
 let t : Turn 0 w w' := Turn.of_ext h
 ⟨t.1, t.2.1, t.2.2.1, h.size, fun x _ h2 _ => h.block x h2⟩
theorem Kept.of_turn {B br : Nat} {ks : List Nat} {w w' : World} (h : Turn br w w') (hk : br ∈ ks) : Kept B ks w w' :=
 ⟨h.1, h.2.1, h.2.2.1, h.size, fun x _ h2 h3 => h.block h2 (fun e => h3 (e ▸ hk))⟩
theorem Kept.mono {B B' : Nat} {ks ks' : List Nat} {w w' : World} (h : Kept B ks w w') (hB : B' ≤ B) (hk : ∀ x, x ∈ ks → x ∈ ks') : Kept B' ks' w w' :=
 ⟨h.os, h.tape, h.output, h.size, fun x h1 h2 h3 => h.block x (Nat.lt_of_lt_of_le h1 hB) h2 (fun e => h3 (hk x e))⟩
theorem Kept.alloc {B : Nat} {ks : List Nat} {w0 w : World} (h : Kept B ks w0 w) (o : Obj) : Kept B ks w0 (w.alloc o) := h.trans (Kept.of_ext ((Below.refl _ _).alloc (Nat.le_refl _) _))
theorem Kept.setCell {B : Nat} {ks : List Nat} {w0 w : World} (h : Kept B ks w0 w) {g : Nat} (hg : B ≤ g ∨ g ∈ ks ∨ w0.heap.size ≤ g) (o : Nat) (u : Value) : Kept B ks w0 (w.setCell ⟨g, o, none⟩ u) :=
 ⟨h.os, h.tape, h.output, by rw [World.size_setCell]; exact h.size, fun x h1 h2 h3 => by
  have hne : x ≠ g := fun e => by
   subst e
   rcases hg with hg | hg | hg
   ·omega
   ·exact h3 hg
   ·omega
  rw [heap_setCell_other w ⟨g, o, none⟩ x u (fun e => hne (by simpa using e))]
  exact h.block x h1 h2 h3⟩
theorem Kept.grown {B : Nat} {ks : List Nat} {w0 w w' : World} {k : Option Nat} (h : Kept B ks w0 w) (hg : w.grownBy w' k) (hk : ∀ b, k = some b → B ≤ b) : Kept B ks w0 w' :=
 ⟨hg.os.trans h.os, hg.tape.trans h.tape, hg.output.trans h.output, Nat.le_trans h.size hg.size, fun x h1 h2 h3 => (hg.block x (Nat.lt_of_lt_of_le h2 h.size) (fun e => by have := hk x e.symm; omega)).trans (h.block x h1 h2 h3)⟩
theorem Kept.turn {br : Nat} {w w' : World} (h : Kept w.heap.size [br] w w') : Turn br w w' :=
 ⟨h.os, h.tape, h.output, h.size, fun b hb => by
  by_cases hbr : b = br
  ·exact .inr ⟨(br, fun _ => True), by simp, hbr.symm, trivial⟩
  ·exact .inl (h.block b hb hb (by simpa using hbr))⟩
theorem Kept.held {B : Nat} {ks : List Nat} {w w' : World} (h : Kept B ks w w') {b : Nat} {o : Obj} (hc : w.heap[b]? = some o) (hB : b < B) (hn : b ∉ ks) : w'.heap[b]? = some o :=
 (h.block b hB (Array.getElem?_eq_some_iff.1 hc).1 hn).trans hc
theorem own_same {w w' : World} {B : Nat} {e : TypeId} {size n : Nat} {v : Value} {xs : List Value} (h : w.ownsRow B e size v n xs) (hb : ∀ b, v.ownBlock = some b → w'.heap[b]? = w.heap[b]?) : w'.ownsRow B e size v n xs := by
 refine ⟨h.1, ?_⟩
 rcases h.2 with h2 | ⟨g, cap, cur, rfl, h3, h4, h5⟩
 ·exact .inl h2
 ·exact .inr ⟨g, cap, cur, rfl, h3, (hb g rfl).trans h4, h5⟩
theorem own_turn {br : Nat} {w w' : World} {B : Nat} {e : TypeId} {size n : Nat} {v : Value} {xs : List Value} (h : w.ownsRow B e size v n xs) (ht : Turn br w w') (hB : br < B) : w'.ownsRow B e size v n xs :=
 own_same h fun b hb => ht.block (h.lt b hb).2 (by have := (h.lt b hb).1; omega)
theorem own_set {w : World} {B : Nat} {e : TypeId} {size n : Nat} {v : Value} {xs : List Value} (h : w.ownsRow B e size v n xs) {g : Nat} (hg : g < B) (o : Nat) (u : Value) : (w.setCell ⟨g, o, none⟩ u).ownsRow B e size v n xs :=
 own_same h fun b hb => heap_setCell_other w ⟨g, o, none⟩ b u (fun e => by
  have h1 := (h.lt b hb).1
  have e' : b = g := by simpa using e
  omega)
theorem ownForm {w : World} {B : Nat} {e : TypeId} {size n : Nat} {v : Value} {xs : List Value} (h : w.ownsRow B e size v n xs) (hn : 0 < n) : ∃ g cap, v = .slice (some ⟨g, 0, none⟩) n cap := by
 rcases h.2 with ⟨-, h2⟩ | ⟨g, cap, cur, h2, -⟩
 ·omega
 ·exact ⟨g, cap, h2⟩
theorem Rd.grown {br : Nat} {r : P12.R} {w w' : World} {k : Option Nat} (h : Rd br r w) (hg : w.grownBy w' k) (hk : ∀ b, k = some b → br < b) : Rd br r w' := by
 obtain ⟨b, off, cap, h⟩ := h
 have hl := h.lo
 have hgl := h.glo
 have hb : ∀ x, x ≤ br → x < w.heap.size → w'.heap[x]? = w.heap[x]? := fun x hx hlt => hg.block x hlt (fun e => by have := hk x e.symm; omega)
 have hc : ∀ {c o : Nat} {v : Value}, c ≤ br → w.cell? ⟨c, o, none⟩ = some v → w'.cell? ⟨c, o, none⟩ = some v := fun {c o v} hle hc => by
  rw [World.cell?_of_block (hb c hle (World.block_lt_of_cell? _ _ hc))]; exact hc
 refine ⟨b, off, cap, (hb br (Nat.le_refl _) (Array.getElem?_eq_some_iff.1 h.blk).1).trans h.blk, h.lo, h.cap, ⟨Nat.lt_of_lt_of_le h.toks.1 hg.size, fun j t hj => ?_⟩, h.good, h.glo, let ⟨tp, p, h1⟩ := h.env; ⟨tp, p, hc (by omega) h1⟩⟩
 obtain ⟨h1, h2, h3⟩ := h.toks.2 j t hj
 exact ⟨hc (by omega) h1, hc (by omega) h2, hc (by omega) h3⟩
def BoxAt (gb : Nat) (T e : TypeId) (sz B n : Nat) (xs : List Value) (w : World) : Prop := ∃ v, w.heap[gb]? = some (.cells #[v] T) ∧ w.ownsRow B e sz v n xs
theorem Tryz.infoStr : (Tryz.prog.info? 9).map (fun i => (i.zero, i.size, i.bytes)) = some (some (.string ⟨#[]⟩), 1, 16) := by kernel_rfl
theorem infoParts {o : Option TypeInfo} {z : Option Value} {n b : Nat} (h : o.map (fun i => (i.zero, i.size, i.bytes)) = some (z, n, b)) : ∃ i, o = some i ∧ i.zero = z ∧ i.size = n ∧ i.bytes = b := by
 cases o with
 | none => cases h
 | some i =>
  simp only [Option.map_some, Option.some.injEq, Prod.mk.injEq] at h
  exact ⟨i, rfl, h.1, h.2.1, h.2.2⟩
abbrev strsC (l : List (List UInt8)) : List Value := l.map fun s => bs s
theorem names1_any (br gout grb B : Nat) (xs : List P12.T) (r : P12.R) (w : World) (h : Rd br r w) (hb : BoxAt gout 35 9 1 B xs.length (strsC xs) w) (hrb : w.heap[grb]? = some (.cells #[rp br] 152))
  (h1 : br < gout) (h2 : br < grb) (h3 : gout < B) (h4 : grb < B) (h5 : B ≤ w.heap.size) (h6 : xs.length ≤ 100000) :
  Calls Tryz.prog 268 #[rp gout, rp grb] w (RowPost br r (fun x w' => BoxAt gout 35 9 1 B (xs ++ [x]).length (strsC (xs ++ [x])) w' ∧ Kept B [br, gout] w w') (Turn br w) (P12.name r)) := by
 obtain ⟨v, hbx, hown⟩ := hb
 have HR := Lib.hid h
 have hg1 : w.cell? ⟨gout, 0, none⟩ = some v := by simp [World.cell?, hbx]
 have hg2 : w.cell? ⟨grb, 0, none⟩ = some (rp br) := by simp [World.cell?, hrb]
 have G1 := Lib.hid hg1
 have G2 := Lib.hid hg2
 have HB := Lib.hid hbx
 have HO := Lib.hid hown
 clear h hbx hrb hown hg1 hg2
 obtain ⟨i0, hi, hz0, hz1, hz2⟩ := infoParts Tryz.infoStr
 have Hi := Lib.hid hi
 have Hz0 := Lib.hid hz0
 have Hz1 := Lib.hid hz1
 have Hz2 := Lib.hid hz2
 clear hi hz0 hz1 hz2
 rcases hn : P12.name r with er | ⟨x, r1⟩
 ·go_enter Tryz.func268, Tryz.ntmps268
  go_wp2
  refine Xg.wp_region_rel (E := Turn br) (Xe.pre_ES _) (fun ch W => Ending.panicked ch = faults er ∧ Turn br w W) 2 4 (fun _ => none) (fun _ _ h => by cases h) (fun _ _ _ _ h => by cases h) [(2, fun _ _ => False), (3, fun _ _ => False)] (by kernel_rfl) (by kernel_rfl) (Xg.stable_one ((by
     intro y hy
     simp only [List.mem_cons, List.not_mem_nil, or_false] at hy
     rcases hy with rfl | rfl
     ·rw [if_pos rfl]; exact fun _ _ _ _ h => h
     ·rw [if_neg (by decide)]; exact fun _ _ _ _ h => h))) ((fun ch a w' hd hX => by exact ⟨hd, hX.1, hX.2⟩)) ?_
  simp only [List.take_succ_cons, List.take_zero, List.drop_succ_cons, List.drop_zero]
  refine Xs.gf (show w.drew.cell? ⟨gout, 0, none⟩ = some v from G1.out) ?_
  refine Xs.gf (show w.drew.cell? ⟨grb, 0, none⟩ = some (rp br) from G2.out) ?_
  (refine Xg.rel_loud (by rfl) (by rfl) rfl (fun W hx hp => ?_) (fun u K hK => ?_); (go_simp; ((refine (name_any br r _ (HR.out.drew.ext hx)).mono ?_); intro e w2 h; rw [hn] at h; obtain ⟨h1, h2⟩ := h; exact Or.inr ⟨_, h1, by exact ⟨rfl, (Turn.drew (Turn.refl _ _)).trans ((Turn.of_ext hx).trans h2)⟩⟩)); (go_simp; refine hK _ ?_; clear hK K))
  (refine Xg.rel_make (by rfl) (by rfl) (by decide) (fun W hx hp => ?_) (fun u2 K hK => ?_); (exact (Xe.facts_head hp (by kernel_rfl)).elim); (go_simp; refine hK _ ?_; clear hK K))
  refine Xg.rel_nil (fun W hx hp hg => ?_)
  exact hp.1.elim
 ·go_enter Tryz.func268, Tryz.ntmps268
  go_wp2
  refine Xg.wp_region_rel (E := Turn br) (Xe.pre_ES _) (fun ch W => False) 2 4 (fun _ => none) (fun _ _ h => by cases h) (fun _ _ _ _ h => by cases h) [(2, fun u W => u = bs x ∧ Rd br r1 W ∧ P12.Keeps r r1), (3, Xe.newFact w.heap.size (bs x))] (by kernel_rfl) (by kernel_rfl) (Xg.stable_one ((by
     intro y hy
     simp only [List.mem_cons, List.not_mem_nil, or_false] at hy
     rcases hy with rfl | rfl
     ·rw [if_pos rfl]; exact fun _ _ _ hx h => ⟨h.1, h.2.1.ext hx, h.2.2⟩
     ·rw [if_neg (show ¬ (3 = 2) by decide)]; exact Xe.newFact.es (by intro k hk; simp only [List.mem_singleton] at hk; subst hk; show br < w.heap.size; omega)))) ((fun ch a w' hd hX => hX.elim)) ?_
  simp only [List.take_succ_cons, List.take_zero, List.drop_succ_cons, List.drop_zero]
  refine Xs.gf (show w.drew.cell? ⟨gout, 0, none⟩ = some v from G1.out) ?_
  refine Xs.gf (show w.drew.cell? ⟨grb, 0, none⟩ = some (rp br) from G2.out) ?_
  (refine Xg.rel_loud (by rfl) (by rfl) rfl (fun W hx hp => ?_) (fun u K hK => ?_); (go_simp; ((refine (name_any br r _ (HR.out.drew.ext hx)).mono ?_); intro e w2 h; rw [hn] at h; obtain ⟨v', rfl, rfl, h1, h2, h3⟩ := h; exact Or.inl ⟨_, rfl, h1, ⟨rfl, h2, h3⟩, fun b hb => by cases hb⟩)); (go_simp; refine hK _ ?_; clear hK K))
  (refine Xg.rel_make (by rfl) (by rfl) (by decide) (fun W hx hp => ?_) (fun u2 K hK => ?_); ((obtain ⟨rfl, -⟩ := Xe.facts_head hp (by kernel_rfl)); go_simp; exact ⟨(Below.refl _ _).alloc (Nat.le_refl _) _, ⟨W.heap.size, rfl, by simpa using hx.size, by simp⟩, fun b hb => by cases hb; exact ⟨.inr (Nat.le_refl _), by simp⟩⟩); (go_simp; refine hK _ ?_; clear hK K))
  refine Xg.rel_nil (fun W hx hp hg => ?_)
  obtain ⟨⟨g, rfl, hge, hgc⟩, ⟨rfl, hr1, hk1⟩, -⟩ := hp
  have hx' : Turn br w W := (Turn.drew (Turn.refl _ _)).trans hx
  have hsz := hx'.size
  have hoW := own_turn HO.out hx' (by omega)
  have hbW := hx'.held HB.out (by omega)
  go_wp2_with (at_builtin; refine Xo.wpList_appb B rfl _ _ 35 rfl 9 i0 _ 1 16 Tryz.underlying35 Hi.out Hz0.out Hz1.out Hz2.out rfl (by decide) v xs.length (strsC xs) rfl hoW g 0 1 1 [bs x] rfl (by decide) rfl (fun j u hj => by match j, hj with | 0, hj => (simp at hj; subst hj; exact hgc)) (Xo.one1 rfl) (by omega) (by omega) ?_; intro v' w' ho' hg' hk'; obtain ⟨z, cz, rfl⟩ := ownForm ho' (by omega); have hlt := hoW.lt; have hbW' := (hg'.block gout (Array.getElem?_eq_some_iff.1 hbW).1 (fun e => by have := (hlt gout e.symm).1; omega)).trans hbW; have hgc' : w'.cell? ⟨gout, 0, none⟩ = some v := (by simp [World.cell?, hbW']); have hgf := frozen_of_row w' gout 0 _ _ hbW'; have HK := Lib.hid ((Kept.of_turn (B := B) (ks := [br, gout]) hx' (by simp)).grown hg' (fun b hb => (hlt b hb).1)); have HR1 := Lib.hid (hr1.grown hg' (fun b hb => by have := (hlt b hb).1; omega)); have HO' := Lib.hid ho'; have HB' := Lib.hid hbW'; clear hg' hk' ho' hbW' hx hx' hbW hoW hlt hr1)
  go_wp2
  go_end0
  refine ⟨rfl, ⟨⟨.slice (some ⟨z, 0, none⟩) (xs.length + 1) cz, ?_, ?_⟩, HK.out.setCell (by simp) _ _⟩, Rd.setCell HR1.out h1 _ _, hk1⟩
  ·rw [heap_setCell_same w' gout 0 _ _ _ HB'.out]; simp
  ·have := own_set HO'.out h3 0 (.slice (some ⟨z, 0, none⟩) (xs.length + 1) cz)
   simpa [strsC] using this
end Go.Proofs.YtlpcdpkgnfdpeaaGreatDoor
namespace Go.Proofs.YtlpcdpkgnfdpeaaGreatDoor
open Go.RowKit Go.WideMaps Go.Maps
def dR : List (P12.T × Int) → DataW Unit
 | [] => .map []
 | x :: l => (dR l).put (.string x.1) (.lit (.int .i64 x.2))
theorem dR_map : ∀ l, IsMap (dR l)
 | [] => isMap_empty
 | x :: l => (dR_map l).put _ _
theorem dR_has (s : P12.T) : ∀ l, Maps.has (dR l) (.string s) = (l.find? fun x => x.1 == s).isSome
 | [] => rfl
 | x :: l => by
  rw [dR, List.find?_cons]
  by_cases h : x.1 = s
  ·subst h
   rw [has_put_same (dR_map l) (by trivial)]
   simp only [beq_self_eq_true, Option.isSome_some]
  ·rw [has_put_other (by intro e; cases e; exact h rfl), dR_has s l, show (x.1 == s) = false by simpa using h]
theorem lawS : Keyed Tryz.prog 9 := string_keyed Tryz.underlying9
def numOf (l : List (P12.T × Int)) (s : P12.T) : Int := ((l.find? fun x => x.1 == s).map (·.2)).getD 0
theorem ext_of_grown {B : Nat} {w w' w'' : World} (h : Below B w w') (hs : B ≤ w'.heap.size) (hg : w'.grownBy w'' (some B)) : Below B w w'' :=
 h.grown hg hs (fun j hj => by cases hj; exact Nat.le_refl _)
theorem setCells_size (g : Nat) : ∀ (vs : List Value) (o : Nat) (W : World), (W.setCells g o vs).heap.size = W.heap.size
 | [], _, _ => rfl
 | v :: vs, o, W => by rw [World.setCells, setCells_size g vs, World.size_setCell]
theorem setCells_other (g : Nat) : ∀ (vs : List Value) (o : Nat) (W : World) {b : Nat}, b ≠ g → (W.setCells g o vs).heap[b]? = W.heap[b]?
 | [], _, _, _, _ => rfl
 | v :: vs, o, W, b, hb => by rw [World.setCells, setCells_other g vs _ _ hb, heap_setCell_other W ⟨g, o, none⟩ b v (fun e => hb (by simpa using e))]
theorem setCells_same {g : Nat} {T : TypeId} : ∀ (vs : List Value) (o : Nat) (W : World) (c : Array Value), W.heap[g]? = some (.cells c T) → o + vs.length ≤ c.size →
  ∃ c', (W.setCells g o vs).heap[g]? = some (.cells c' T) ∧ c'.size = c.size ∧ (∀ j, j < vs.length → c'[o + j]? = vs[j]?) ∧ ∀ j, (j < o ∨ o + vs.length ≤ j) → c'[j]? = c[j]?
 | [], o, W, c, h, _ => ⟨c, h, rfl, fun j hj => absurd hj (by simp), fun _ _ => rfl⟩
 | v :: vs, o, W, c, h, hl => by
  simp only [List.length_cons] at hl
  have h1 := heap_setCell_same W g o c T v h
  obtain ⟨c', e1, e2, e3, e4⟩ := setCells_same vs (o + 1) (W.setCell ⟨g, o, none⟩ v) _ h1 (by simp; omega)
  refine ⟨c', e1, by rw [e2]; simp, fun j hj => ?_, fun j hj => ?_⟩
  ·cases j with
   | zero =>
    rw [Nat.add_zero, e4 o (by omega)]
    simp [show o < c.size by omega]
   | succ j =>
    have := e3 j (by simpa using hj)
    rw [show o + (j + 1) = o + 1 + j by omega, this]
    simp
  ·simp only [List.length_cons] at hj
   rw [e4 j (by omega)]
   rw [Array.getElem?_setIfInBounds_ne (by omega)]
theorem setCells_all {g : Nat} {T : TypeId} {W : World} {c : Array Value} (h : W.heap[g]? = some (.cells c T)) (vs : List Value) (hl : vs.length = c.size) : (W.setCells g 0 vs).heap[g]? = some (.cells vs.toArray T) := by
 obtain ⟨c', e1, e2, e3, -⟩ := setCells_same vs 0 W c h (by omega)
 rw [e1]
 congr 2
 apply Array.ext_getElem?
 intro i
 by_cases hi : i < vs.length
 ·have := e3 i hi
  rw [Nat.zero_add] at this
  rw [this]; simp
 ·rw [Array.getElem?_eq_none (by omega), Array.getElem?_eq_none (by simp; omega)]
abbrev exprO (l : List Value) : Obj := .cells l.toArray 41
theorem cells_of10 {W : World} {b : Nat} {a0 a1 a2 a3 a4 a5 a6 a7 a8 a9 : Value} {T : TypeId} (h : W.heap[b]? = some (.cells #[a0, a1, a2, a3, a4, a5, a6, a7, a8, a9] T)) :
  W.cell? ⟨b, 0, none⟩ = some a0 ∧ W.cell? ⟨b, 1, none⟩ = some a1 ∧ W.cell? ⟨b, 2, none⟩ = some a2 ∧ W.cell? ⟨b, 3, none⟩ = some a3 ∧ W.cell? ⟨b, 4, none⟩ = some a4 ∧
  W.cell? ⟨b, 5, none⟩ = some a5 ∧ W.cell? ⟨b, 6, none⟩ = some a6 ∧ W.cell? ⟨b, 7, none⟩ = some a7 ∧ W.cell? ⟨b, 8, none⟩ = some a8 ∧ W.cell? ⟨b, 9, none⟩ = some a9 := by
 refine ⟨?_, ?_, ?_, ?_, ?_, ?_, ?_, ?_, ?_, ?_⟩ <;> simp [World.cell?, h]
end Go.Proofs.YtlpcdpkgnfdpeaaGreatDoor
namespace Go.Proofs.YtlpcdpkgnfdpeaaGreatDoor
open Go.RowKit Go.WideMaps Go.Maps
end Go.Proofs.YtlpcdpkgnfdpeaaGreatDoor
namespace Go
theorem results_row {P : Program} {fn : Func} {k : Tmp} {t : TypeId} (h : fn.results = #[.cell k t]) {tmps : Array Value} {w : World} {g : Nat} {cs : Array Value} {T : TypeId} {fr : Nat × Nat} {d : TypeDesc}
  (ht : tmps.getD k undef = .pointer (some ⟨g, 0, none⟩)) (hg : w.heap[g]? = some (.cells cs T fr)) (hu : P.underlying t = some d) (hd : (match d with | .struct _ | .array _ _ => true | _ => false) = true) (hi : (P.info? t).map (·.size) = some cs.size) :
  (results fn tmps).run P w = .ok (.agg cs) w := by
 have hl := run_loadVar_row (P := P) w g T t cs fr d hg hu hd hi
 simp only [Array.getD_eq_getD_getElem?] at ht
 simp [results, h, ht, asAddr, hl]
theorem wpList_loadRow {P : Program} {ops : Array Oper} {rest : List Oper} {o : Oper} {a : Act} {w : World} {Q : Exit → Act → World → Prop} (hgd : o.guard = none) (t : TypeId) (x : Operand) (ho : o.op = .load t x)
  (g : Nat) (cs : Array Value) (T : TypeId) (fr : Nat × Nat) (d : TypeDesc) (hx : a.eval x = .pointer (some ⟨g, 0, none⟩)) (hg : w.heap[g]? = some (.cells cs T fr))
  (hu : P.underlying t = some d) (hd : (match d with | .struct _ | .array _ _ => true | _ => false) = true) (hi : (P.info? t).map (·.size) = some cs.size)
  (h : wpList P ops Q rest (a.put o.dst (.agg cs)) w) : wpList P ops Q (o :: rest) a w :=
 wpList_plain hgd fun _ hK => by
  unfold Oper.wp execOp
  simp only [ho, hx, Instr.loadAt, Instr.sureAddr, Sem.run_bind, Sem.run_pure, Result.andThen_ok, run_loadVar_row (P := P) w g T t cs fr d hg hu hd hi]
  exact hK _ _ h
theorem lw {P : Program} {ops : Array Oper} {rest : List Oper} {o : Oper} {a : Act} {w : World} {Q : Exit → Act → World → Prop} {t : TypeId} {x : Operand} {g : Nat} {cs : Array Value} {T : TypeId} {fr : Nat × Nat} {d : TypeDesc} (hg : w.heap[g]? = some (.cells cs T fr)) (hu : P.underlying t = some d) (h : wpList P ops Q rest (a.put o.dst (.agg cs)) w)
  (hgd : o.guard = none := by rfl) (ho : o.op = .load t x := by rfl) (hx : a.eval x = .pointer (some ⟨g, 0, none⟩) := by rfl) (hd : (match d with | .struct _ | .array _ _ => true | _ => false) = true := by rfl) (hi : (P.info? t).map (·.size) = some cs.size := by kernel_rfl) : wpList P ops Q (o :: rest) a w :=
 wpList_loadRow hgd t x ho g cs T fr d hx hg hu hd hi h
structure Puts (g : Nat) (c : Array Value) (T : TypeId) (w w' : World) : Prop where
 blk : w'.heap[g]? = some (.cells c T)
 rest : ∀ b, b ≠ g → w'.heap[b]? = w.heap[b]?
 size : w'.heap.size = w.heap.size
 os : w'.os = w.os
 tape : w'.tape = w.tape
 output : w'.output = w.output
def writeAt (c : Array Value) : Nat → List Value → Array Value
 | _, [] => c
 | o, v :: vs => writeAt (c.setIfInBounds o v) (o + 1) vs
end Go
namespace Go.Proofs.YtlpcdpkgnfdpeaaGreatDoor
open Go.RowKit
theorem setCells_write {g : Nat} {T : TypeId} : ∀ (vs : List Value) (o : Nat) {W : World} {c : Array Value}, W.heap[g]? = some (.cells c T) → (W.setCells g o vs).heap[g]? = some (.cells (writeAt c o vs) T)
 | [], _, _, _, h => h
 | v :: vs, o, W, c, h => setCells_write vs (o + 1) (heap_setCell_same W g o c T v h)
theorem setCells_os (g : Nat) : ∀ (vs : List Value) (o : Nat) (W : World), (W.setCells g o vs).os = W.os ∧ (W.setCells g o vs).tape = W.tape ∧ (W.setCells g o vs).output = W.output
 | [], _, _ => ⟨rfl, rfl, rfl⟩
 | v :: vs, o, W => setCells_os g vs (o + 1) (W.setCell ⟨g, o, none⟩ v)
theorem puts_set {g : Nat} {T : TypeId} {W : World} {c : Array Value} (h : W.heap[g]? = some (.cells c T)) (vs : List Value) (o : Nat) : Puts g (writeAt c o vs) T W (W.setCells g o vs) :=
 ⟨setCells_write vs o h, fun b hb => setCells_other g vs o W hb, setCells_size g vs o W, (setCells_os g vs o W).1, (setCells_os g vs o W).2.1, (setCells_os g vs o W).2.2⟩
theorem wpList_putRow {P : Program} {ops : Array Oper} {rest : List Oper} {o : Oper} {a : Act} {w : World} {Q : Exit → Act → World → Prop} (hgd : o.guard = none) (t : TypeId) (x y : Operand) (ho : o.op = .store t x y)
  (g : Nat) (c c' : Array Value) (T : TypeId) (hx : a.eval x = .pointer (some ⟨g, 0, none⟩)) (hy : a.eval y = .agg c') (hg : w.heap[g]? = some (.cells c T)) (hs : c.size = c'.size)
  (hi : (P.info? t).map (·.size) = some c'.size) (h1 : c'.all (·.oneCell') = true)
  (h : ∀ w', Puts g c' T w w' → wpList P ops Q rest (a.put o.dst undef) w') : wpList P ops Q (o :: rest) a w := by
 refine wpList_store_mid hgd t x y ho g 0 c' hx hy (fun j hj => ?_) hi h1 (h _ ?_)
 ·rw [Nat.zero_add]
  exact ⟨by simp [World.cell?, hg, show j < c.size by omega], frozen_of_row w g j _ _ hg⟩
 ·have hp := puts_set hg c'.toList 0
  have hw := setCells_all hg c'.toList (by simpa using hs.symm)
  exact ⟨by simpa using hw, hp.rest, hp.size, hp.os, hp.tape, hp.output⟩
theorem pw {P : Program} {ops : Array Oper} {rest : List Oper} {o : Oper} {a : Act} {w : World} {Q : Exit → Act → World → Prop} {t : TypeId} {x y : Operand} {g : Nat} {c c' : Array Value} {T : TypeId} (hg : w.heap[g]? = some (.cells c T)) (h : ∀ w', Puts g c' T w w' → wpList P ops Q rest (a.put o.dst undef) w')
  (hgd : o.guard = none := by rfl) (ho : o.op = .store t x y := by rfl) (hx : a.eval x = .pointer (some ⟨g, 0, none⟩) := by rfl) (hy : a.eval y = .agg c' := by rfl) (hs : c.size = c'.size := by kernel_rfl) (hi : (P.info? t).map (·.size) = some c'.size := by kernel_rfl) (h1 : c'.all (·.oneCell') = true := by kernel_rfl) : wpList P ops Q (o :: rest) a w :=
 wpList_putRow hgd t x y ho g c c' T hx hy hg hs hi h1 h
theorem ste {A P : Prop} (a : A) (q : A → P := by
 intro a
 rw [hn] at h
 have hE := HE.out
 rw [hn] at hE
 dsimp only at hE
 subst hE
 obtain ⟨rfl, ht⟩ := h
 simp only [faults]
 go_wp2
 exact ⟨rfl, rfl, a ht⟩) : P := q a
theorem Puts.turn {g br : Nat} {c : Array Value} {T : TypeId} {w0 w w' : World} (h : Puts g c T w w') (ht : Turn br w0 w) (hg : w0.heap.size ≤ g) : Turn br w0 w' := by
 obtain ⟨h1, h2, h3, h4, h5⟩ := ht
 refine ⟨h.os.trans h1, h.tape.trans h2, h.output.trans h3, by rw [h.size]; exact h4, fun b hb => ?_⟩
 by_cases hbr : b = br
 ·exact .inr ⟨(br, fun _ => True), by simp, hbr.symm, trivial⟩
 ·rw [h.rest b (by omega)]; exact h5 b hb
theorem Puts.rd {g br : Nat} {c : Array Value} {T : TypeId} {r : P12.R} {w w' : World} (h : Puts g c T w w') (hr : Rd br r w) (hg : br < g) : Rd br r w' := by
 obtain ⟨b, off, cap, hr⟩ := hr
 have hl := hr.lo
 have hgl := hr.glo
 have hk : ∀ {c o' : Nat} {v : Value}, c ≠ g → w.cell? ⟨c, o', none⟩ = some v → w'.cell? ⟨c, o', none⟩ = some v := fun {c o' v} hne hc => by
  rw [World.cell?_of_block (h.rest c hne)]; exact hc
 refine ⟨b, off, cap, (h.rest br (by omega)).trans hr.blk, hr.lo, hr.cap, ⟨by rw [h.size]; exact hr.toks.1, fun j t hj => ?_⟩, hr.good, hr.glo, let ⟨tp, p, hc⟩ := hr.env; ⟨tp, p, hk (by omega) hc⟩⟩
 obtain ⟨h1, h2, h3⟩ := hr.toks.2 j t hj
 exact ⟨hk (by omega) h1, hk (by omega) h2, hk (by omega) h3⟩
theorem cell_new (W : World) (x : Value) (T : TypeId) : (W.alloc (.cells #[x] T)).cell? ⟨W.heap.size, 0, none⟩ = some x := by
 have h := heap_new W (.cells #[x] T)
 simp only [World.cell?, h]
 rfl
end Go.Proofs.YtlpcdpkgnfdpeaaGreatDoor
namespace P12
open Go.Lib (parseUintM parseUintB parseIntB)
end P12
namespace Go.Proofs.YtlpcdpkgnfdpeaaGreatDoor
open Go.RowKit
end Go.Proofs.YtlpcdpkgnfdpeaaGreatDoor
namespace Go.Proofs.YtlpcdpkgnfdpeaaGreatDoor
open Go.RowKit Go.WideMaps Go.Maps
end Go.Proofs.YtlpcdpkgnfdpeaaGreatDoor
namespace Go.Proofs.YtlpcdpkgnfdpeaaGreatDoor
open Go.RowKit Go.WideMaps Go.Maps
theorem preExt : Xe.Pre Xk.Ext := ⟨fun w => Below.refl _ _, fun h k => Xk.Ext.trans h k, fun h => h, fun h => Below.size h⟩
end Go.Proofs.YtlpcdpkgnfdpeaaGreatDoor
