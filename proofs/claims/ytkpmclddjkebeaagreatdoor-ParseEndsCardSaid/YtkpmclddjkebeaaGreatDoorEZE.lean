/- Walks: pantileref12's sameTexts, sameAll, Same, SameTable and SameStmt, of two that are the same. -/
import Derived.Test.YtkpmclddjkebeaaGreatDoorEI
set_option linter.unusedSimpArgs false
set_option linter.unusedVariables false
set_option maxRecDepth 100000
set_option maxHeartbeats 8000000
namespace Go.Xk
open Go.RowKit
theorem detRun_loadMid {P : Program} {o : Oper} {a : Act} {w : World} (t : TypeId) (x : Operand) (ho : o.op = .load t x) (b off : Nat) (cs : List Value) (d : TypeDesc) (hx : a.eval x = .pointer (some ⟨b, off, none⟩)) (hc : w.rangeAt b off cs)
  (hu : P.underlying t = some d) (hd : d.isRow = true) (hi : (P.info? t).map (·.size) = some cs.length) : detRun P o a w (.agg cs.toArray) := by
 unfold detRun execOp
 simp only [ho, hx, Instr.loadAt, Instr.sureAddr, Sem.run_bind, Sem.run_pure, Result.andThen_ok, run_loadVar_mid (P := P) w b off t cs d hc hu hd hi]
 exact ⟨rfl, rfl⟩
theorem s0 {P Q : Prop} (k : Q) (h : Q → P := by
 intro k
 have KQ := Lib.hid k
 clear k
 try simp only [List.take_succ_cons, List.take_zero, List.drop_succ_cons, List.drop_zero]
 repeat (first
  | (refine Go.Xk.rel_det (Go.Xk.wanted_none (by rfl)) (by rfl) (fun K hK => ?_); apply Exists.intro; refine ⟨fun p hp => ?_, ?_⟩; (go_simp; exact ⟨rfl, rfl⟩); (go_simp; refine hK _ ?_; clear hK K))
  | (refine Go.Xk.rel_skip (by rfl) (fun K hK => ?_); go_simp; refine hK _ ?_; clear hK K)
  | (refine Go.Xk.rel_det (by rfl) (by rfl) (fun K hK => ?_); apply Exists.intro; refine ⟨fun p hp => ?_, ?_⟩; (go_simp; exact ⟨rfl, rfl⟩); (go_simp; refine hK _ ?_; clear hK K)))
 exact KQ.out) : P := h k
theorem ld {P : Program} {ops : Array Oper} {w0 : World} {Ψ : List (Nat × Fct)} {Q : Act → World → Prop} {o : Oper} {r : List Oper} {i : Nat} {a : Act} {F : Facts} (t : TypeId) (b off : Nat) (cs : List Value) {d : TypeDesc} (hu : P.underlying t = some d) (hc : w0.rangeAt b off cs) (hb : b < w0.heap.size) {x : Operand} (k : wpRel P ops w0 Ψ Q r (i + 1) (a.put o.dst (.agg cs.toArray)) F)
  (hg : Region.wanted o (yielded ops a.tmps) = true := by first | exact Go.Xk.wanted_none (by rfl) | rfl) (ho : o.op = .load t x := by rfl) (ht : tells Ψ i = none := by rfl) (hx : a.eval x = .pointer (some ⟨b, off, none⟩) := by rfl) (hd : d.isRow = true := by rfl) (hi : (P.info? t).map (·.size) = some cs.length := by kernel_rfl) : wpRel P ops w0 Ψ Q (o :: r) i a F :=
 rel_det hg ht fun K hK => ⟨.agg cs.toArray, fun p _ => detRun_loadMid t x ho b off cs d hx (fun j v hj => ext_cell (ext_exw w0 p) (hc j v hj)) hu hd hi, hK _ k⟩
theorem dp {P : Program} {f : FuncId} {args : Array Value} {w : World} {v : Value} (h : Calls P f args w fun e w' => e = .returned v ∧ Ext w w') : Calls P f args w (detPost w v) := h
theorem s1 {A P Q : Prop} (a : A) (k : Q) (h : A → Q → P := by
 intro a k
 have AH := Lib.hid a
 have KQ := Lib.hid k
 clear a k
 try simp only [List.take_succ_cons, List.take_zero, List.drop_succ_cons, List.drop_zero]
 repeat (first
  | (refine Go.Xk.rel_det (Go.Xk.wanted_none (by rfl)) (by rfl) (fun K hK => ?_); apply Exists.intro; refine ⟨fun p hp => ?_, ?_⟩; (go_simp; first | exact ⟨rfl, rfl⟩ | ((try refine ⟨by kernel_rfl, ?_⟩); first | (with_reducible exact Go.Xk.dp (AH.out _)) | (with_reducible exact Go.Xk.dp (AH.out _ Go.Xk.xt)))); (go_simp; refine hK _ ?_; clear hK K))
  | (refine Go.Xk.rel_skip (by rfl) (fun K hK => ?_); go_simp; refine hK _ ?_; clear hK K)
  | (refine Go.Xk.rel_det (by rfl) (by rfl) (fun K hK => ?_); apply Exists.intro; refine ⟨fun p hp => ?_, ?_⟩; (go_simp; first | exact ⟨rfl, rfl⟩ | ((try refine ⟨by kernel_rfl, ?_⟩); first | (with_reducible exact Go.Xk.dp (AH.out _)) | (with_reducible exact Go.Xk.dp (AH.out _ Go.Xk.xt)))); (go_simp; refine hK _ ?_; clear hK K)))
 exact KQ.out) : P := h a k
end Go.Xk
namespace Go.Proofs.YtkpmclddjkebeaaGreatDoor
open Go.RowKit
theorem slc_nth {α : Type} {S : Nat → Prop} {w wr : World} {sz : Nat} {R : α → List Value → Prop} {l : List α} {p : Option Addr} {n c q : Nat} (h : SlcAt S w sz R l (.slice p n c)) (hq : q < l.length) (hx : Xk.Ext w wr) :
  ∃ g u, p = some ⟨g, 0, none⟩ ∧ g < wr.heap.size ∧ R l[q] u ∧ wr.rangeAt g (q * sz) u := by
 obtain ⟨g, rfl⟩ := h.root (by omega)
 obtain ⟨-, -, he⟩ := h.elem
 obtain ⟨u, hu, hul, hr⟩ := he q _ (List.getElem?_eq_getElem hq)
 have hsz : 0 < sz := by
  rcases h with ⟨-, h⟩ | ⟨g', c', us, h1, h2, h3, h4, h5, h6, h7, h8, h9⟩
  ·cases h
  ·exact h7
 have hg := World.block_lt_of_cell? _ _ (hr 0 _ (List.getElem?_eq_getElem (by omega)))
 exact ⟨g, u, rfl, Nat.lt_of_lt_of_le hg hx.size, hu, range_same hr (hx.block g hg)⟩
theorem range_tail {w : World} {g o : Nat} {a b : List Value} (h : w.rangeAt g o (a ++ b)) : w.rangeAt g (o + a.length) b := fun j v hj => by
 have := h (a.length + j) v (by rw [List.getElem?_append_right (by omega)]; simpa using hj)
 rwa [← Nat.add_assoc] at this
theorem range_head {w : World} {g o : Nat} {a b : List Value} (h : w.rangeAt g o (a ++ b)) : w.rangeAt g o a := fun j v hj => h j v (by rw [List.getElem?_append_left (List.getElem?_eq_some_iff.1 hj).1]; exact hj)
theorem sameTexts_any {S S' : Nat → Prop} {w : World} {l : List P12.T} {v v' : Value} (h : SlcAt S w 1 strR l v) (h' : SlcAt S' w 1 strR l v') (hl : l.length ≤ 1000000) :
  Calls Tryz.prog 29 #[v, v'] w fun e w' => e = .returned (.bool true) ∧ Xk.Ext w w' := by
 have HS := Lib.hid h
 have HS' := Lib.hid h'
 obtain ⟨p, c, rfl⟩ := h.len
 obtain ⟨p', c', rfl⟩ := h'.len
 clear h h'
 go_enter Tryz.func29, Tryz.ntmps29
 go_wp2_with fail
 go_loopw [5] (fun x wr => ∃ q : Nat, q ≤ l.length ∧ x = .int .i64 q ∧ Xk.Ext w wr) (fun x _ => l.length - (intOf x).toNat)
 case atStart => exact ⟨0, by omega, rfl, Below.refl _ _⟩
 case round =>
  obtain ⟨q, hq, rfl, hx⟩ := hrel
  have HX := Lib.hid hx
  by_cases hlt : q < l.length
  ·obtain ⟨g, u, rfl, hg, rfl, hr⟩ := slc_nth HS.out hlt hx
   obtain ⟨g', u', rfl, hg', rfl, hr'⟩ := slc_nth HS'.out hlt hx
   have hlb : (q : Int) < (l.length : Int) := by omega
   have c1 : wr.cell? ⟨g, q, none⟩ = some (bs l[q]) := by have := hr 0 _ rfl; rwa [Nat.mul_one, Nat.add_zero] at this
   have c2 : wr.cell? ⟨g', q, none⟩ = some (bs l[q]) := by have := hr' 0 _ rfl; rwa [Nat.mul_one, Nat.add_zero] at this
   clear hr hr' hx
   go_wp2_with fail
   refine Xk.reg 9 (Xk.w0 fun p => ?_)
   go_wp2_with fail
   go_roundw
   case rel => exact ⟨q + 1, by omega, by go_num, Xk.Ext.trans HX.out (Xk.ext_exw _ _)⟩
   case measure => simp [intOf]; omega
  ·have hlb : ¬ (q : Int) < (l.length : Int) := by omega
   go_wp2_with fail
   go_ret
   exact ⟨rfl, HX.out⟩
def subE : P12.E → List P12.E
 | .una _ a => [a]
 | .call _ a => [a]
 | .bin _ a b => [a, b]
 | _ => []
theorem ExprAt.parts (e : P12.E) : ∃ (kd op k i : Int) (s t n : P12.T), ∀ (S : Nat → Prop) (w : World) (l : List Value), ExprAt S w e l → ∃ v, l = exprL kd op k i s t n v ∧ SlcAt S w 10 (exprR S w) (subE e) v := by
 cases e with
 | none => exact ⟨_, _, _, _, _, _, _, fun S w l h => ⟨_, h, SlcAt.nil _ _ _ _⟩⟩
 | val k i s => exact ⟨_, _, _, _, _, _, _, fun S w l h => ⟨_, h, SlcAt.nil _ _ _ _⟩⟩
 | col t n => exact ⟨_, _, _, _, _, _, _, fun S w l h => ⟨_, h, SlcAt.nil _ _ _ _⟩⟩
 | all => exact ⟨_, _, _, _, _, _, _, fun S w l h => ⟨_, h, SlcAt.nil _ _ _ _⟩⟩
 | una op a => exact ⟨3, op, 0, 0, [], [], [], fun S w l h => by
   unfold ExprAt at h
   obtain ⟨g, u, hg, rfl, hr, hl, he⟩ := h
   exact ⟨_, rfl, args1 hg hr hl he⟩⟩
 | call op a => exact ⟨5, op, 0, 0, [], [], [], fun S w l h => by
   unfold ExprAt at h
   obtain ⟨g, u, hg, rfl, hr, hl, he⟩ := h
   exact ⟨_, rfl, args1 hg hr hl he⟩⟩
 | bin op a b => exact ⟨4, op, 0, 0, [], [], [], fun S w l h => by
   unfold ExprAt at h
   obtain ⟨g, u, v, hg, rfl, hr, hl, hl2, he, he2⟩ := h
   exact ⟨_, rfl, args2 hg hr hl hl2 he he2⟩⟩
abbrev SameE (e : P12.E) : Prop := ∀ (S S' : Nat → Prop) (w : World) (l l' : List Value), ExprAt S w e l → ExprAt S' w e l' → Calls Tryz.prog 31 #[.agg l.toArray, .agg l'.toArray] w fun e w' => e = .returned (.bool true) ∧ Xk.Ext w w'
theorem sameAll_of {S S' : Nat → Prop} {w : World} {l : List P12.E} {v v' : Value} (h : SlcAt S w 10 (exprR S w) l v) (h' : SlcAt S' w 10 (exprR S' w) l v') (hl : l.length ≤ 1000000) (hE : ∀ e ∈ l, SameE e) :
  Calls Tryz.prog 30 #[v, v'] w fun e w' => e = .returned (.bool true) ∧ Xk.Ext w w' := by
 have HS := Lib.hid h
 have HS' := Lib.hid h'
 have HE := Lib.hid hE
 obtain ⟨p, c, rfl⟩ := h.len
 obtain ⟨p', c', rfl⟩ := h'.len
 clear h h' hE
 go_enter Tryz.func30, Tryz.ntmps30
 go_wp2_with fail
 go_loopw [5] (fun x wr => ∃ q : Nat, q ≤ l.length ∧ x = .int .i64 q ∧ Xk.Ext w wr) (fun x _ => l.length - (intOf x).toNat)
 case atStart => exact ⟨0, by omega, rfl, Below.refl _ _⟩
 case round =>
  obtain ⟨q, hq, rfl, hx⟩ := hrel
  have HX := Lib.hid hx
  by_cases hlt : q < l.length
  ·obtain ⟨g, u, rfl, hg, hu, hr⟩ := slc_nth HS.out hlt hx
   obtain ⟨g', u', rfl, hg', hu', hr'⟩ := slc_nth HS'.out hlt hx
   have hlb : (q : Int) < (l.length : Int) := by omega
   have HC := Lib.hid fun W (hxw : Xk.Ext wr W) => HE.out _ (List.getElem_mem hlt) S S' W u u' (ExprAt.extS hu (Xk.Ext.trans hx hxw)) (ExprAt.extS hu' (Xk.Ext.trans hx hxw))
   have hul := ExprAt.length hu
   have hul' := ExprAt.length hu'
   obtain ⟨kd, op, vk, vi, vs, tb, nm, pp, pm, pc, rfl⟩ := ExprAt.form hu
   obtain ⟨kd', op', vk', vi', vs', tb', nm', pp', pm', pc', rfl⟩ := ExprAt.form hu'
   have HR := Lib.hid hr
   have HR' := Lib.hid hr'
   have hq10 : (q : Int) * 10 = ((q * 10 : Nat) : Int) := by omega
   clear hr hr' hx hu hu' hul hul'
   go_wp2_with fail
   refine Xk.reg 9 (Xk.s0 ?_)
   refine Xk.ld 35 g (q * 10) _ Tryz.underlying35 HR.out (by simpa using hg) ?_
   go_simp
   refine Xk.s0 ?_
   refine Xk.ld 35 g' (q * 10) _ Tryz.underlying35 HR'.out (by simpa using hg') ?_
   go_simp
   refine Xk.s1 HC.out ?_
   refine Xk.rel_nil fun p _ => ?_
   go_wp2_with fail
   go_roundw
   case rel => exact ⟨q + 1, by omega, by go_num, Xk.Ext.trans HX.out (Xk.ext_exw _ _)⟩
   case measure => simp [intOf]; omega
  ·have hlb : ¬ (q : Int) < (l.length : Int) := by omega
   go_wp2_with fail
   go_ret
   exact ⟨rfl, HX.out⟩
theorem same_of (kd op k i : Int) (s t n : P12.T) (p p' : Option Addr) (m m' c c' : Nat) (w : World) (hA : ∀ W, Xk.Ext w W → Calls Tryz.prog 30 #[.slice p m c, .slice p' m' c'] W fun e w' => e = .returned (.bool true) ∧ Xk.Ext W w') :
  Calls Tryz.prog 31 #[.agg (exprL kd op k i s t n (.slice p m c)).toArray, .agg (exprL kd op k i s t n (.slice p' m' c')).toArray] w fun e w' => e = .returned (.bool true) ∧ Xk.Ext w w' := by
 have HA := Lib.hid hA
 clear hA
 go_enter Tryz.func31, Tryz.ntmps31
 go_wp2_with fail
 refine (HA.out _ Xk.xt).mono ?_
 rintro e w' ⟨rfl, hx⟩
 go_wp2_with fail
 go_ret
 exact ⟨rfl, Xk.Ext.trans Xk.xt hx⟩
theorem same_go (e : P12.E) (h : ∀ x ∈ subE e, SameE x) : SameE e := by
 intro S S' w l l' h1 h2
 obtain ⟨kd, op, k, i, s, t, n, hp⟩ := ExprAt.parts e
 obtain ⟨v, rfl, hv⟩ := hp _ _ _ h1
 obtain ⟨v', rfl, hv'⟩ := hp _ _ _ h2
 have hl : (subE e).length ≤ 1000000 := by cases e <;> simp [subE]
 have hA := fun W (hx : Xk.Ext w W) => sameAll_of (hv.extE hx) (hv'.extE hx) hl h
 obtain ⟨p, c, rfl⟩ := hv.len
 obtain ⟨p', c', rfl⟩ := hv'.len
 exact same_of kd op k i s t n p p' _ _ c c' w hA
theorem same_any (e : P12.E) : SameE e := by
 induction e with
 | una op a h => exact same_go _ fun x hx => by rw [show x = a by simpa [subE] using hx]; exact h
 | call op a h => exact same_go _ fun x hx => by rw [show x = a by simpa [subE] using hx]; exact h
 | bin op a b h h' =>
  refine same_go _ fun x hx => ?_
  ·rcases (show x = a ∨ x = b by simpa [subE] using hx) with e | e
   ·rw [e]; exact h
   ·rw [e]; exact h'
 | _ => exact same_go _ (by simp [subE])
end Go.Proofs.YtkpmclddjkebeaaGreatDoor
