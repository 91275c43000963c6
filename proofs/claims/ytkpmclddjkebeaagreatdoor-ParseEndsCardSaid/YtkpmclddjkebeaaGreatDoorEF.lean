/- What the claim's proof leans on, part 6: walks of functions and plain laws. -/
import Derived.Test.YtkpmclddjkebeaaGreatDoorEE
import Derived.Deep.DeepCutAuto
import Derived.Test.YtkpmclddjkebeaaGreatDoorEB
set_option linter.unusedSimpArgs false
set_option linter.unusedVariables false
set_option maxRecDepth 100000
set_option maxHeartbeats 8000000
namespace Go.Proofs.YtkpmclddjkebeaaGreatDoor
open Go.RowKit
theorem expr_all (br : Nat) : ∀ f, ReadsE 140 br (fun r => 101 ≤ f + r.deep) (P12.exprF f) := by
 intro f
 induction f with
 | zero =>
  intro r w hp hr
  have := hr.good.deep
  omega
 | succ f ih =>
  have hK : ∀ r r' : P12.R, 101 ≤ f + 1 + r.deep → P12.Keeps r r' → 101 ≤ f + 1 + r'.deep := fun r r' h hk => by rw [hk.deep]; exact h
  have hD : ∀ r r' : P12.R, 101 ≤ f + 1 + r.deep → r.deep ≤ r'.deep → 101 ≤ f + 1 + r'.deep := fun r r' h hk => by omega
  have h1 : ReadsE 293 br (fun r => 101 ≤ f + 1 + r.deep) (P12.primary (P12.exprF f)) := fun r w hp hr =>
   primary_of br (P12.exprF f) r w hr (fun r1 W hd hr1 => ih r1 W (by omega) hr1)
  have h2 : ReadsE 291 br (fun r => 101 ≤ f + 1 + r.deep) (P12.factorF (P12.exprF f) (f + 1)) := fun r w hp hr =>
   factor_of (fun r => 101 ≤ f + 1 + r.deep) hD br (P12.exprF f) h1 (f + 1) r w hp hp hr
  have h3 := product_of (fun r => 101 ≤ f + 1 + r.deep) hK br _ h2
  have h4 := sum_of (fun r => 101 ≤ f + 1 + r.deep) hK br _ h3
  have h5 := test_of (fun r => 101 ≤ f + 1 + r.deep) hK br _ h4
  have h6 : ReadsE 238 br (fun r => 101 ≤ f + 1 + r.deep) (P12.notF (P12.testF (P12.exprF f) (f + 1)) (f + 1)) := fun r w hp hr =>
   not_of (fun r => 101 ≤ f + 1 + r.deep) hD br _ h5 (f + 1) r w hp hp hr
  have h7 := and_of (fun r => 101 ≤ f + 1 + r.deep) hK br _ h6
  exact expr_of (fun r => 101 ≤ f + 1 + r.deep) hK br _ h7
theorem expr_any (br : Nat) (r : P12.R) (w : World) (h : Rd br r w) : Calls Tryz.prog 140 #[rp br] w (Got br w r (ExprV w) (P12.expr r)) :=
 expr_all br 101 r w (Nat.le_add_right _ _) h
end Go.Proofs.YtkpmclddjkebeaaGreatDoor
namespace Go.Proofs.YtkpmclddjkebeaaGreatDoor
open Go.RowKit Go.WideMaps Go.Maps
theorem where_any (br : Nat) (r : P12.R) (w : World) (h : Rd br r w) : Calls Tryz.prog 143 #[rp br] w (Got br w r (ExprV w) (P12.wher r)) := by
 have HR := Lib.hid h
 have lr := h.lt
 clear h
 unfold P12.wher
 cases hs : P12.isT [87, 72, 69, 82, 69] r
 ·rw [if_neg (by simp)]
  go_enter Tryz.func143, Tryz.ntmps143
  go_wp2_with fail
  go_at_call 20
  refine (has_no br r [87, 72, 69, 82, 69] _ (rdx (HR.out)) hs).mono ?_
  rintro e w1 ⟨rfl, hx1⟩
  have hz1 : w1.heap[w.heap.size]? = some (exprO zero10.toList) := (hx1.block _ (by rw [World.size_alloc]; omega)).trans (heap_new w _)
  have hT1 : Turn br w w1 := Turn.trans (tu trivial) (Turn.of_ext hx1)
  have HT1 := Lib.hid hT1
  have HR1 := Lib.hid ((HR.out.alloc _).ext hx1)
  clear hx1 hT1
  have lRet := (Array.getElem?_eq_some_iff.1 (hz1)).1
  obtain ⟨d0, d1, d2, d3, d4, d5, d6, d7, d8, d9⟩ := cells_of10 (hz1)
  obtain ⟨f0, f1, f2, f3, f4, f5, f6, f7, f8, f9⟩ := frozen10 (hz1)
  go_wp2
  refine bodyPost_ret (v := .agg (exprL 0 0 0 0 [] [] [] nilS).toArray) (by simp [results, Tryz.results143, go_sem, d0, d1, d2, d3, d4, d5, d6, d7, d8, d9]) rfl ⟨_, rfl, ⟨_, rfl, ?_⟩, ?_, ?_, P12.Keeps.refl r⟩
  ·exact (ExprAt.sets (g := w.heap.size) ((show ExprAt (fun b => w.heap.size < b) _ .none _ from rfl)) (by omega) (exprL 0 0 0 0 [] [] [] nilS) 0).mono (fun b hb _ => by omega)
  ·exact Turn.setCells (g := w.heap.size) (.inl (by omega)) (exprL 0 0 0 0 [] [] [] nilS) 0 (HT1.out)
  ·exact Rd.setCells (g := w.heap.size) (by omega) (exprL 0 0 0 0 [] [] [] nilS) 0 (HR1.out)
 ·rw [if_pos rfl]
  cases hx : P12.expr (P12.takes r) with
  | error er =>
   go_enter Tryz.func143, Tryz.ntmps143
   go_wp2_with fail
   go_at_call 20
   refine (has_yes br r [87, 72, 69, 82, 69] _ (rdx (HR.out)) hs).mono ?_
   rintro e w1 ⟨rfl, ht1, hr1⟩
   have hT1 : Turn br w w1 := Turn.trans (tu trivial) ht1
   go_wp2_with fail
   refine (expr_any br _ _ hr1).mono ?_
   rw [hx]
   rintro e w2 ⟨rfl, ht2⟩
   simp only [faults]
   go_wp2
   exact ⟨rfl, rfl, Turn.trans hT1 ht2⟩
  | ok p =>
   obtain ⟨e9, r9⟩ := p
   go_enter Tryz.func143, Tryz.ntmps143
   go_wp2_with fail
   go_at_call 20
   refine (has_yes br r [87, 72, 69, 82, 69] _ (rdx (HR.out)) hs).mono ?_
   rintro e w1 ⟨rfl, ht1, hr1⟩
   have hT1 : Turn br w w1 := Turn.trans (tu trivial) ht1
   have hz1 : w1.heap[w.heap.size]? = some (exprO zero10.toList) := ht1.held (heap_new w _) (by omega)
   have hl1 := ht1.size
   simp only [World.size_alloc] at hl1
   go_wp2_with fail
   refine (expr_any br _ _ hr1).mono ?_
   rw [hx]
   rintro e w2 ⟨v, rfl, ⟨l, rfl, he⟩, ht2, hr2, hk2⟩
   obtain ⟨kd, op', vk, vi, vs, tb, nm, pp, pm, pc, rfl⟩ := he.form
   have hz2 := ht2.held hz1 (by omega)
   have hl2 := ht2.size
   have HT2 := Lib.hid (Turn.trans hT1 ht2)
   have HE2 := Lib.hid (he.mono (S' := fun b => w.heap.size < b) (fun b hb _ => by omega))
   have HR2 := Lib.hid hr2
   have HK2 := Lib.hid ((P12.keeps_takes r).trans hk2)
   clear he ht2 hr2 hk2 ht1 hr1 hT1 hz1
   have lRet := (Array.getElem?_eq_some_iff.1 (hz2)).1
   obtain ⟨d0, d1, d2, d3, d4, d5, d6, d7, d8, d9⟩ := cells_of10 (hz2)
   obtain ⟨f0, f1, f2, f3, f4, f5, f6, f7, f8, f9⟩ := frozen10 (hz2)
   go_wp2
   refine bodyPost_ret (v := .agg (exprL kd op' vk vi vs tb nm (.slice pp pm pc)).toArray) (by simp [results, Tryz.results143, go_sem, d0, d1, d2, d3, d4, d5, d6, d7, d8, d9]) rfl ⟨_, rfl, ⟨_, rfl, ?_⟩, ?_, ?_, HK2.out⟩
   ·exact (ExprAt.sets (g := w.heap.size) (HE2.out) (by omega) (exprL kd op' vk vi vs tb nm (.slice pp pm pc)) 0).mono (fun b hb _ => by omega)
   ·exact Turn.setCells (g := w.heap.size) (.inl (by omega)) (exprL kd op' vk vi vs tb nm (.slice pp pm pc)) 0 (HT2.out)
   ·exact Rd.setCells (g := w.heap.size) (by omega) (exprL kd op' vk vi vs tb nm (.slice pp pm pc)) 0 (HR2.out)
theorem begins_any (br : Nat) (r : P12.R) (w : World) (h : Rd br r w) :
  Calls Tryz.prog 145 #[rp br] w fun e w' => e = .returned (.bool (P12.begins r)) ∧ Xk.Ext w w' := by
 have HR := Lib.hid h
 have HN := Lib.hid (next_any br r w h)
 have hok := h.good.nxt_ok
 have htl := hok.len
 have lr := h.lt
 have HOK := Lib.hid hok
 clear h hok
 generalize hb : P12.begins r = bb
 have HB := Lib.hid hb
 clear hb
 by_cases h1 : (P12.nxt r).kind = 1
 ·have hE := HB.out
  simp only [P12.begins, h1, if_true] at hE
  have h1b : ((P12.nxt r).kind == 1) = true := by simpa using h1
  clear h1
  go_enter Tryz.func145, Tryz.ntmps145
  go_wp2_with (first | (go_at_call 21; with_reducible refine Xk.cl (HN.out) fun p => ?_) | (go_at_call 141; with_reducible refine Xk.cl (named_any br r _ (rdx (HR.out))) fun p => ?_))
  go_wp2
  go_ret
  rw [← hE]
  exact ⟨rfl, Xk.xt⟩
 have h1b : ((P12.nxt r).kind == 1) = false := by simpa using h1
 have H1 := Lib.hid h1
 clear h1
 by_cases h3 : (P12.nxt r).kind = 3
 ·obtain ⟨hne, hdg⟩ := HOK.out.digits h3
  have hE := HB.out
  simp only [P12.begins, h3, if_neg (show ¬ ((3 : Int) = 1) by decide), if_true] at hE
  have h3b : ((P12.nxt r).kind == 3) = true := by simpa using h3
  clear h3
  by_cases hle : P12.dec (P12.nxt r).text ≤ 9223372036854775807
  ·have HU := Lib.hid fun W => int_good _ hne hdg (by omega) hle W
   rw [show decide (P12.dec (P12.nxt r).text ≤ 9223372036854775807) = true by simpa using hle] at hE
   subst hE
   go_enter Tryz.func145, Tryz.ntmps145
   go_wp2_with (first | (go_at_call 21; with_reducible refine Xk.cl (HN.out) fun p => ?_) | (go_at_call 204; with_reducible refine Xk.cl (HU.out _) fun p => ?_))
   go_wp2
   go_ret
   exact ⟨rfl, Xk.xt⟩
  ·have HU := Lib.hid fun W hr => int_bad _ hne hdg (by omega) hle br r W hr
   rw [show decide (P12.dec (P12.nxt r).text ≤ 9223372036854775807) = false by simpa using hle] at hE
   subst hE
   go_enter Tryz.func145, Tryz.ntmps145
   go_wp2_with (first | (go_at_call 21; with_reducible refine Xk.cl (HN.out) fun p => ?_) | (go_at_call 204; (with_reducible refine (HU.out _ (rdx (HR.out))).mono ?_); rintro e w' ⟨nn, tp, ad, rfl, hb⟩; obtain ⟨p, rfl⟩ := Xk.exw_of hb; clear hb))
   go_wp2
   go_ret
   exact ⟨rfl, Xk.xt⟩
 have h3b : ((P12.nxt r).kind == 3) = false := by simpa using h3
 have H3 := Lib.hid h3
 clear h3
 by_cases h4 : (P12.nxt r).kind = 4
 ·have hE := HB.out
  simp only [P12.begins, h4, if_neg (show ¬ ((4 : Int) = 1) by decide), if_neg (show ¬ ((4 : Int) = 3) by decide), if_true] at hE
  have h4b : ((P12.nxt r).kind == 4) = true := by simpa using h4
  clear h4
  subst hE
  go_enter Tryz.func145, Tryz.ntmps145
  go_wp2_with (go_at_call 21; with_reducible refine Xk.cl (HN.out) fun p => ?_)
  go_wp2
  go_ret
  exact ⟨rfl, Xk.xt⟩
 have h4b : ((P12.nxt r).kind == 4) = false := by simpa using h4
 have H4 := Lib.hid h4
 clear h4
 by_cases h5 : (P12.nxt r).kind = 5
 ·have hE := HB.out
  simp only [P12.begins, h5, if_neg (show ¬ ((5 : Int) = 1) by decide), if_neg (show ¬ ((5 : Int) = 3) by decide), if_neg (show ¬ ((5 : Int) = 4) by decide), if_true] at hE
  have h5b : ((P12.nxt r).kind == 5) = true := by simpa using h5
  clear h5
  cases hp : (P12.nxt r).text == [40]
  ·rw [hp, Bool.false_or] at hE
   subst hE
   go_enter Tryz.func145, Tryz.ntmps145
   go_wp2_with (go_at_call 21; with_reducible refine Xk.cl (HN.out) fun p => ?_)
   go_wp2
   go_ret
   exact ⟨rfl, Xk.xt⟩
  ·rw [hp, Bool.true_or] at hE
   subst hE
   go_enter Tryz.func145, Tryz.ntmps145
   go_wp2_with (go_at_call 21; with_reducible refine Xk.cl (HN.out) fun p => ?_)
   go_wp2
   go_ret
   exact ⟨rfl, Xk.xt⟩
 have h5b : ((P12.nxt r).kind == 5) = false := by simpa using h5
 have H5 := Lib.hid h5
 clear h5
 by_cases h2 : (P12.nxt r).kind = 2
 ·have h2b : ((P12.nxt r).kind == 2) = true := by simpa using h2
  have hE := HB.out
  simp only [P12.begins, if_neg H1.out, if_neg H3.out, if_neg H4.out, if_neg H5.out, if_pos h2] at hE
  clear h2
  go_enter Tryz.func145, Tryz.ntmps145
  go_wp2_with fail
  go_at_call 21
  refine HN.out.mono ?_
  rintro e w1 ⟨rfl, hx1⟩
  obtain ⟨Wt, hWt⟩ : ∃ W, W = w1.alloc (.cells #[.int .i64 (P12.nxt r).kind, .string ⟨(P12.nxt r).text.toArray⟩, .int .i64 (P12.nxt r).pos] 72) := ⟨_, rfl⟩
  have hxt : Xk.Ext w Wt := by rw [hWt]; exact Xk.Ext.trans hx1 ((Below.refl _ _).alloc (Nat.le_refl _) _)
  have gt : Wt.heap[w1.heap.size]? = some (.cells #[.int .i64 (P12.nxt r).kind, .string ⟨(P12.nxt r).text.toArray⟩, .int .i64 (P12.nxt r).pos] 72) := by rw [hWt]; exact heap_new w1 _
  obtain ⟨t0, t1, t2, -⟩ := Xe.cells_of3 gt
  have lt1 := World.block_lt_of_cell? _ _ t0
  have HXT := Lib.hid hxt
  have HWT := Lib.hid hWt
  have GT := Lib.hid gt
  have lr2 : br < Wt.heap.size := Nat.lt_of_lt_of_le lr hxt.size
  clear hxt hWt gt hx1
  go_wp2
  rw [← HWT.out]
  refine Xg.wp_region_rel (E := Xk.Ext) preExt (fun _ _ => False) 99 9 (fun _ => none) (fun _ _ h => by cases h) (fun _ _ _ _ h => by cases h) [(0, MapFact Wt.heap.size functionsL)] (by kernel_rfl) (by kernel_rfl) (Xg.stable_one ((by
     intro y hy
     simp only [List.mem_cons, List.not_mem_nil, or_false] at hy
     rcases hy with rfl
     rw [if_neg (show ¬ (0 = 99) by decide)]; exact fun v w w' hx h => MapFact.turn (br := br) (by omega) v w w' (Turn.of_ext hx) h))) (fun ch a w' hd hX => hX.elim) ?_
  simp only [List.take_succ_cons, List.take_zero, List.drop_succ_cons, List.drop_zero]
  (refine Xg.rel_make (by rfl) (by rfl) (by decide) (fun W hx hp => ?_) (fun u0 K hK => ?_); (go_simp; exact (functions_any W).mono (fun e w' h => by obtain ⟨rfl, hm, hx'⟩ := h; exact ⟨_, rfl, hx', ⟨W.heap.size, 4, rfl, (by have := hx.size; simpa using this), (by obtain ⟨es, cl, hb, -⟩ := hm; exact (Array.getElem?_eq_some_iff.1 hb).1), hm⟩, fun b hb => by cases hb⟩)); (go_simp; refine hK _ ?_; clear hK K))
  refine Xg.gs ?_
  (refine Xg.rel_det (Xk.wanted_none (by rfl)) (by rfl) (fun K hK => ?_); apply Exists.intro; refine ⟨fun W hx hp => ?_, ?_⟩; (have c := Xk.ext_cell hx (show Wt.drew.cell? ⟨w1.heap.size, 1, none⟩ = _ from t1); go_simp; first | exact ⟨rfl, rfl⟩ | ((try refine ⟨by kernel_rfl, ?_⟩); (fail))); (go_simp; refine hK _ ?_; clear hK K))
  (refine Xg.rel_det (Xk.wanted_none (by rfl)) (by rfl) (fun K hK => ?_); apply Exists.intro; refine ⟨fun W hx hp => ?_, ?_⟩; ((obtain ⟨b, n, hu, h1, h2, h3⟩ := Xe.facts_head hp (by kernel_rfl); have hlk := look_fn h3 (P12.nxt r).text (by omega); subst hu); go_simp; first | exact ⟨rfl, rfl⟩ | ((try refine ⟨by kernel_rfl, ?_⟩); (fail))); (go_simp; refine hK _ ?_; clear hK K))
  refine Xg.gs ?_
  refine Xg.rel_nil (fun W hx hp hg => ?_)
  have hxW : Xk.Ext Wt W := Xk.Ext.trans ((Below.refl _ _).drew) hx
  obtain ⟨s0, s1, s2, -⟩ := Xe.cells_of3 ((hxW.block _ (Array.getElem?_eq_some_iff.1 GT.out).1).trans GT.out)
  have ltW := World.block_lt_of_cell? _ _ s0
  have HXW := Lib.hid (Xk.Ext.trans HXT.out hxW)
  clear hp hg hx hxW t0 t1 t2
  cases hf : (P12.fnOf (P12.nxt r).text).isSome
  ·cases ha : (P12.nxt r).text == [78, 79, 84]
   ·cases hb : (P12.nxt r).text == [78, 85, 76, 76]
    ·cases hc : (P12.nxt r).text == [84, 82, 85, 69]
     ·cases hd : (P12.nxt r).text == [70, 65, 76, 83, 69]
      all_goals
       rw [hf, ha, hb, hc, hd] at hE
       simp only [Bool.or_false, Bool.or_true, Bool.false_or, Bool.true_or] at hE
       subst hE
       go_wp2
       go_ret
       exact ⟨rfl, HXW.out⟩
     ·rw [hf, ha, hb, hc] at hE
      simp only [Bool.or_false, Bool.or_true, Bool.false_or, Bool.true_or] at hE
      subst hE
      go_wp2
      go_ret
      exact ⟨rfl, HXW.out⟩
    ·rw [hf, ha, hb] at hE
     simp only [Bool.or_false, Bool.or_true, Bool.false_or, Bool.true_or] at hE
     subst hE
     go_wp2
     go_ret
     exact ⟨rfl, HXW.out⟩
   ·rw [hf, ha] at hE
    simp only [Bool.or_false, Bool.or_true, Bool.false_or, Bool.true_or] at hE
    subst hE
    go_wp2
    go_ret
    exact ⟨rfl, HXW.out⟩
  ·rw [hf] at hE
   simp only [Bool.or_false, Bool.or_true, Bool.false_or, Bool.true_or] at hE
   subst hE
   go_wp2
   go_ret
   exact ⟨rfl, HXW.out⟩
 ·have h2b : ((P12.nxt r).kind == 2) = false := by simpa using h2
  have hE := HB.out
  simp only [P12.begins, if_neg H1.out, if_neg H3.out, if_neg H4.out, if_neg H5.out, if_neg h2] at hE
  subst hE
  clear h2
  go_enter Tryz.func145, Tryz.ntmps145
  go_wp2_with (go_at_call 21; with_reducible refine Xk.cl (HN.out) fun p => ?_)
  go_wp2
  go_ret
  exact ⟨rfl, Xk.xt⟩
end Go.Proofs.YtkpmclddjkebeaaGreatDoor
namespace Go
theorem results_row {P : Program} {fn : Func} {k : Tmp} {t : TypeId} (h : fn.results = #[.cell k t]) {tmps : Array Value} {w : World} {g : Nat} {cs : Array Value} {T : TypeId} {fr : Nat × Nat} {d : TypeDesc}
  (ht : tmps.getD k undef = .pointer (some ⟨g, 0, none⟩)) (hg : w.heap[g]? = some (.cells cs T fr)) (hu : P.underlying t = some d) (hd : (match d with | .struct _ | .array _ _ => true | _ => false) = true) (hi : (P.info? t).map (·.size) = some cs.size) :
  (results fn tmps).run P w = .ok (.agg cs) w := by
 have hl := run_loadVar_row (P := P) w g T t cs fr d hg hu hd hi
 simp only [Array.getD_eq_getD_getElem?] at ht
 simp [results, h, ht, asAddr, hl]
theorem wpList_loadRow {P : Program} {ops : Array Oper} {rest : List Oper} {o : Oper} {a : Act} {w : World} {Q : Exit → Act → World → Prop} (hgd : o.guard = none) (t : TypeId) (x : Operand) (ho : o.op = .load t x)
  (g : Nat) (cs : Array Value) (T : TypeId) (fr : Nat × Nat) (d : TypeDesc) (hx : a.eval x = .pointer (some ⟨g, 0, none⟩)) (hg : w.heap[g]? = some (.cells cs T fr))
  (hu : P.underlying t = some d) (hd : (match d with | .struct _ | .array _ _ => true | _ => false) = true) (hi : (P.info? t).map (·.size) = some cs.size)
  (h : wpList P ops Q rest (a.put o.dst (.agg cs)) w) : wpList P ops Q (o :: rest) a w :=
 wpList_plain hgd fun _ hK => by
  unfold Oper.wp execOp
  simp only [ho, hx, Instr.loadAt, Instr.sureAddr, Sem.run_bind, Sem.run_pure, Result.andThen_ok, run_loadVar_row (P := P) w g T t cs fr d hg hu hd hi]
  exact hK _ _ h
structure Puts (g : Nat) (c : Array Value) (T : TypeId) (w w' : World) : Prop where
 blk : w'.heap[g]? = some (.cells c T)
 rest : ∀ b, b ≠ g → w'.heap[b]? = w.heap[b]?
 size : w'.heap.size = w.heap.size
 os : w'.os = w.os
 tape : w'.tape = w.tape
 output : w'.output = w.output
def writeAt (c : Array Value) : Nat → List Value → Array Value
 | _, [] => c
 | o, v :: vs => writeAt (c.setIfInBounds o v) (o + 1) vs
end Go
namespace Go.Proofs.YtkpmclddjkebeaaGreatDoor
open Go.RowKit
theorem setCells_write {g : Nat} {T : TypeId} : ∀ (vs : List Value) (o : Nat) {W : World} {c : Array Value}, W.heap[g]? = some (.cells c T) → (W.setCells g o vs).heap[g]? = some (.cells (writeAt c o vs) T)
 | [], _, _, _, h => h
 | v :: vs, o, W, c, h => setCells_write vs (o + 1) (heap_setCell_same W g o c T v h)
theorem setCells_os (g : Nat) : ∀ (vs : List Value) (o : Nat) (W : World), (W.setCells g o vs).os = W.os ∧ (W.setCells g o vs).tape = W.tape ∧ (W.setCells g o vs).output = W.output
 | [], _, _ => ⟨rfl, rfl, rfl⟩
 | v :: vs, o, W => setCells_os g vs (o + 1) (W.setCell ⟨g, o, none⟩ v)
theorem puts_set {g : Nat} {T : TypeId} {W : World} {c : Array Value} (h : W.heap[g]? = some (.cells c T)) (vs : List Value) (o : Nat) : Puts g (writeAt c o vs) T W (W.setCells g o vs) :=
 ⟨setCells_write vs o h, fun b hb => setCells_other g vs o W hb, setCells_size g vs o W, (setCells_os g vs o W).1, (setCells_os g vs o W).2.1, (setCells_os g vs o W).2.2⟩
theorem wpList_putRow {P : Program} {ops : Array Oper} {rest : List Oper} {o : Oper} {a : Act} {w : World} {Q : Exit → Act → World → Prop} (hgd : o.guard = none) (t : TypeId) (x y : Operand) (ho : o.op = .store t x y)
  (g : Nat) (c c' : Array Value) (T : TypeId) (hx : a.eval x = .pointer (some ⟨g, 0, none⟩)) (hy : a.eval y = .agg c') (hg : w.heap[g]? = some (.cells c T)) (hs : c.size = c'.size)
  (hi : (P.info? t).map (·.size) = some c'.size) (h1 : c'.all (·.oneCell') = true)
  (h : ∀ w', Puts g c' T w w' → wpList P ops Q rest (a.put o.dst undef) w') : wpList P ops Q (o :: rest) a w := by
 refine wpList_store_mid hgd t x y ho g 0 c' hx hy (fun j hj => ?_) hi h1 (h _ ?_)
 ·rw [Nat.zero_add]
  exact ⟨by simp [World.cell?, hg, show j < c.size by omega], frozen_of_row w g j _ _ hg⟩
 ·have hp := puts_set hg c'.toList 0
  have hw := setCells_all hg c'.toList (by simpa using hs.symm)
  exact ⟨by simpa using hw, hp.rest, hp.size, hp.os, hp.tape, hp.output⟩
theorem Puts.turn {g br : Nat} {c : Array Value} {T : TypeId} {w0 w w' : World} (h : Puts g c T w w') (ht : Turn br w0 w) (hg : w0.heap.size ≤ g) : Turn br w0 w' := by
 obtain ⟨h1, h2, h3, h4, h5⟩ := ht
 refine ⟨h.os.trans h1, h.tape.trans h2, h.output.trans h3, by rw [h.size]; exact h4, fun b hb => ?_⟩
 by_cases hbr : b = br
 ·exact .inr ⟨(br, fun _ => True), by simp, hbr.symm, trivial⟩
 ·rw [h.rest b (by omega)]; exact h5 b hb
theorem Puts.rd {g br : Nat} {c : Array Value} {T : TypeId} {r : P12.R} {w w' : World} (h : Puts g c T w w') (hr : Rd br r w) (hg : br < g) : Rd br r w' := by
 obtain ⟨b, off, cap, hr⟩ := hr
 have hl := hr.lo
 have hgl := hr.glo
 have hk : ∀ {c o' : Nat} {v : Value}, c ≠ g → w.cell? ⟨c, o', none⟩ = some v → w'.cell? ⟨c, o', none⟩ = some v := fun {c o' v} hne hc => by
  rw [World.cell?_of_block (h.rest c hne)]; exact hc
 refine ⟨b, off, cap, (h.rest br (by omega)).trans hr.blk, hr.lo, hr.cap, ⟨by rw [h.size]; exact hr.toks.1, fun j t hj => ?_⟩, hr.good, hr.glo, let ⟨tp, p, hc⟩ := hr.env; ⟨tp, p, hk (by omega) hc⟩⟩
 obtain ⟨h1, h2, h3⟩ := hr.toks.2 j t hj
 exact ⟨hk (by omega) h1, hk (by omega) h2, hk (by omega) h3⟩
theorem Puts.expr {g : Nat} {c : Array Value} {T : TypeId} {S : Nat → Prop} {w w' : World} {e : P12.E} {l : List Value} (h : Puts g c T w w') (he : ExprAt S w e l) (hg : ¬ S g) : ExprAt S w' e l :=
 he.keep (fun b hb _ => h.rest b (fun e => hg (e ▸ hb))) (fun b hb _ => hb)
abbrev stmt0 (k lim : Int) : List Value :=
  [.int .i64 k, .string ⟨#[]⟩, nilS, nilS, nilS, nilS, .string ⟨#[]⟩, .string ⟨#[]⟩, .bool false, nilS, nilS, nilS,
   .int .i64 0, .int .i64 0, .int .i64 0, .int .i64 0, .string ⟨#[]⟩, .string ⟨#[]⟩, .string ⟨#[]⟩, .int .i64 0, .int .i64 0, nilS,
   nilS, nilS,
   .int .i64 0, .int .i64 0, .int .i64 0, .int .i64 0, .string ⟨#[]⟩, .string ⟨#[]⟩, .string ⟨#[]⟩, .int .i64 0, .int .i64 0, nilS,
   nilS, nilS, .int .i64 lim]
theorem puts_ext {g : Nat} {c : Array Value} {T : TypeId} {w0 w w' : World} (h : Puts g c T w w') (hx : Xk.Ext w0 w) (hg : w0.heap.size ≤ g) : Xk.Ext w0 w' :=
 ⟨h.os.trans hx.os, h.tape.trans hx.tape, h.output.trans hx.output, by rw [h.size]; exact hx.size, fun k hk => (h.rest k (by omega)).trans (hx.block k hk)⟩
theorem made_any (k : Int) (w : World) : Calls Tryz.prog 76 #[.int .i64 k] w fun e w' => e = .returned (.agg (stmt0 k (if k = 8 then -1 else 0)).toArray) ∧ Xk.Ext w w' := by
 have HL : Hid (∀ W, Calls Tryz.prog 153 #[.int .i64 k] W fun e w' => e = .returned (.int .i64 (if k = 8 then -1 else 0)) ∧ W = w') := Lib.hid fun W => by
  by_cases h : k = 8
  ·subst h
   go_enter Tryz.func153, Tryz.ntmps153
   go_wp2
   go_ret
   exact ⟨rfl, rfl⟩
  ·rw [if_neg h]
   have hb : (k == 8) = false := by simpa using h
   go_enter Tryz.func153, Tryz.ntmps153
   go_wp2
   go_ret
   exact ⟨rfl, rfl⟩
 generalize (if k = 8 then (-1 : Int) else 0) = lim at HL ⊢
 have hbd : ∀ (lim : Int) (W : World), (Instr.build 40 #[(0, Value.int .i64 k), (15, Value.int .i64 lim)]).run Tryz.prog W = .ok (.agg (stmt0 k lim).toArray) W := fun lim W => by kernel_rfl
 go_enter Tryz.func76, Tryz.ntmps76
 go_wp2_with (first | (go_at_call 153; (with_reducible refine (HL.out _).mono ?_); rintro e w' ⟨rfl, rfl⟩) | (refine wpList_putRow rfl 40 _ _ rfl (w.heap.size) _ _ 40 rfl rfl (heap_new w _) rfl (by kernel_rfl) (by kernel_rfl) ?_; intro w3 hp3))
 go_wp2
 refine bodyPost_ret (v := .agg (stmt0 k lim).toArray) (results_row (fn := Tryz.f76) rfl rfl hp3.blk Tryz.underlying40 rfl (by kernel_rfl)) rfl ⟨rfl, ?_⟩
 exact puts_ext hp3 ((Below.refl _ _).alloc (Nat.le_refl _) _) (Nat.le_refl _)
def SlcAt {α : Type} (S : Nat → Prop) (w : World) (sz : Nat) (R : α → List Value → Prop) (l : List α) (v : Value) : Prop :=
 (l = [] ∧ v = nilS) ∨ ∃ (g c : Nat) (us : List (List Value)), v = .slice (some ⟨g, 0, none⟩) l.length c ∧ S g ∧ 0 < l.length ∧ l.length ≤ c ∧ us.length = l.length ∧ (∀ u ∈ us, u.length = sz) ∧ 0 < sz ∧ w.rangeAt g 0 us.flatten ∧ ∀ (j : Nat) x u, l[j]? = some x → us[j]? = some u → R x u
theorem SlcAt.nil {α : Type} (S : Nat → Prop) (w : World) (sz : Nat) (R : α → List Value → Prop) : SlcAt S w sz R [] nilS := .inl ⟨rfl, rfl⟩
theorem flatten_pos {us : List (List Value)} {sz : Nat} (h : ∀ u ∈ us, u.length = sz) (hp : 0 < us.length) (hs : 0 < sz) : 0 < us.flatten.length := by
 cases us with
 | nil => simp at hp
 | cons u us => simp; have := h u (by simp); omega
theorem SlcAt.keep {α : Type} {S S' : Nat → Prop} {w w' : World} {sz : Nat} {R R' : α → List Value → Prop} {l : List α} {v : Value} (h : SlcAt S w sz R l v) (hb : ∀ b, S b → b < w.heap.size → w'.heap[b]? = w.heap[b]?) (hS : ∀ b, S b → b < w.heap.size → S' b)
  (hR : ∀ x u, R x u → R' x u) : SlcAt S' w' sz R' l v := by
 rcases h with h | ⟨g, c, us, h1, h2, h3, h4, h5, h6, h7, h8, h9⟩
 ·exact .inl h
 ·have hlt := range_lt h8 (flatten_pos h6 (by omega) h7)
  exact .inr ⟨g, c, us, h1, hS g h2 hlt, h3, h4, h5, h6, h7, range_same h8 (hb g h2 hlt), fun j x u hx hu => hR x u (h9 j x u hx hu)⟩
def strR (s : P12.T) (u : List Value) : Prop := u = [bs s]
def srcR (s : P12.T × P12.T) (u : List Value) : Prop := u = [bs s.1, bs s.2]
def colR (c : P12.T × Int × Bool) (u : List Value) : Prop := u = [bs c.1, .int .i64 c.2.1, .bool c.2.2]
def keyR (p : Bool) (u : List Value) : Prop := u = [.string ⟨#[]⟩, nilS, .bool true, .bool p]
def exprR (S : Nat → Prop) (w : World) (e : P12.E) (u : List Value) : Prop := ExprAt S w e u
def setR (S : Nat → Prop) (w : World) (x : P12.T × P12.E) (u : List Value) : Prop := ∃ l, u = [bs x.1, .int .i64 0] ++ l ∧ ExprAt S w x.2 l
def itemR (S : Nat → Prop) (w : World) (x : Bool × P12.E × P12.T) (u : List Value) : Prop := ∃ l, u = [.bool x.1] ++ (l ++ [bs x.2.2]) ∧ ExprAt S w x.2.1 l
def ordR (S : Nat → Prop) (w : World) (x : P12.E × Bool) (u : List Value) : Prop := ∃ l, u = l ++ [.bool x.2] ∧ ExprAt S w x.1 l
def rowR (S : Nat → Prop) (w : World) (x : List P12.E) (u : List Value) : Prop := ∃ v, u = [v] ∧ SlcAt S w 10 (exprR S w) x v
def strsR (S : Nat → Prop) (w : World) (x : List P12.T) (u : List Value) : Prop := ∃ v, u = [v] ∧ SlcAt S w 1 strR x v
abbrev stmtL (kind : Int) (tn : P12.T) (tc tk tq kc : Value) (nm on : P12.T) (un : Bool) (cols rows sets : Value) (wh : List Value) (items frm : Value) (jn : List Value) (grp ord : Value) (lim : Int) : List Value :=
 .int .i64 kind :: bs tn :: tc :: tk :: tq :: kc :: bs nm :: bs on :: .bool un :: cols :: rows :: sets :: (wh ++ (items :: frm :: (jn ++ [grp, ord, .int .i64 lim])))
structure StmtAt (S : Nat → Prop) (w : World) (x : P12.St) (l : List Value) (tc tk tq kc cols rows sets : Value) (wh : List Value) (items frm : Value) (jn : List Value) (grp ord : Value) : Prop where
 form : l = stmtL x.kind x.tb.name tc tk tq kc x.name x.on x.unique cols rows sets wh items frm jn grp ord x.limit
 tc : SlcAt S w 3 colR x.tb.cols tc
 tk : SlcAt S w 4 keyR x.tb.keys tk
 tq : SlcAt S w 10 (exprR S w) x.tb.checks tq
 kc : SlcAt S w 1 (strsR S w) x.keyCols kc
 cols : SlcAt S w 1 strR x.cols cols
 rows : SlcAt S w 1 (rowR S w) x.rows rows
 sets : SlcAt S w 12 (setR S w) x.sets sets
 wh : ExprAt S w x.wher wh
 items : SlcAt S w 12 (itemR S w) x.items items
 frm : SlcAt S w 2 srcR x.frm frm
 jn : ExprAt S w x.join jn
 grp : SlcAt S w 10 (exprR S w) x.group grp
 ord : SlcAt S w 11 (ordR S w) x.order ord
def StmtIn (S : Nat → Prop) (w : World) (x : P12.St) (l : List Value) : Prop := ∃ tc tk tq kc cols rows sets wh items frm jn grp ord, StmtAt S w x l tc tk tq kc cols rows sets wh items frm jn grp ord
theorem StmtIn.length {S : Nat → Prop} {w : World} {x : P12.St} {l : List Value} (h : StmtIn S w x l) : l.length = 37 := by
 obtain ⟨tc, tk, tq, kc, cols, rows, sets, wh, items, frm, jn, grp, ord, h⟩ := h
 rw [h.form]
 simp [h.wh.length, h.jn.length]
theorem StmtIn.keep {S S' : Nat → Prop} {w w' : World} {x : P12.St} {l : List Value} (h : StmtIn S w x l) (hb : ∀ b, S b → b < w.heap.size → w'.heap[b]? = w.heap[b]?) (hS : ∀ b, S b → b < w.heap.size → S' b) : StmtIn S' w' x l := by
 obtain ⟨tc, tk, tq, kc, cols, rows, sets, wh, items, frm, jn, grp, ord, h⟩ := h
 have hE : ∀ e u, exprR S w e u → exprR S' w' e u := fun e u h => ExprAt.keep hb hS h
 exact ⟨tc, tk, tq, kc, cols, rows, sets, wh, items, frm, jn, grp, ord, h.form, h.tc.keep hb hS (fun _ _ h => h), h.tk.keep hb hS (fun _ _ h => h), h.tq.keep hb hS hE,
  h.kc.keep hb hS (fun x u ⟨v, h1, h2⟩ => ⟨v, h1, h2.keep hb hS (fun _ _ h => h)⟩), h.cols.keep hb hS (fun _ _ h => h), h.rows.keep hb hS (fun x u ⟨v, h1, h2⟩ => ⟨v, h1, h2.keep hb hS hE⟩),
  h.sets.keep hb hS (fun x u ⟨l, h1, h2⟩ => ⟨l, h1, h2.keep hb hS⟩), h.wh.keep hb hS, h.items.keep hb hS (fun x u ⟨l, h1, h2⟩ => ⟨l, h1, h2.keep hb hS⟩), h.frm.keep hb hS (fun _ _ h => h), h.jn.keep hb hS,
  h.grp.keep hb hS hE, h.ord.keep hb hS (fun x u ⟨l, h1, h2⟩ => ⟨l, h1, h2.keep hb hS⟩)⟩
abbrev StmtV (w : World) : Value → P12.St → World → Prop := fun v x w' => ∃ l, v = .agg l.toArray ∧ StmtIn (fun b => w.heap.size ≤ b) w' x l
theorem stmt0_in (S : Nat → Prop) (w : World) (k : Int) : StmtIn S w (P12.made k) (stmt0 k (if k = 8 then -1 else 0)) :=
 ⟨nilS, nilS, nilS, nilS, nilS, nilS, nilS, exprL 0 0 0 0 [] [] [] nilS, nilS, nilS, exprL 0 0 0 0 [] [] [] nilS, nilS, nilS, rfl, SlcAt.nil _ _ _ _, SlcAt.nil _ _ _ _, SlcAt.nil _ _ _ _, SlcAt.nil _ _ _ _, SlcAt.nil _ _ _ _, SlcAt.nil _ _ _ _, SlcAt.nil _ _ _ _, rfl, SlcAt.nil _ _ _ _, SlcAt.nil _ _ _ _, rfl, SlcAt.nil _ _ _ _, SlcAt.nil _ _ _ _⟩
theorem writeAt_size : ∀ (vs : List Value) (o : Nat) (c : Array Value), (writeAt c o vs).size = c.size
 | [], _, _ => rfl
 | v :: vs, o, c => by rw [writeAt, writeAt_size vs]; simp
theorem wpList_putMid {P : Program} {ops : Array Oper} {rest : List Oper} {o : Oper} {a : Act} {w : World} {Q : Exit → Act → World → Prop} (hgd : o.guard = none) (t : TypeId) (x y : Operand) (ho : o.op = .store t x y)
  (g off : Nat) (c c' : Array Value) (T : TypeId) (hx : a.eval x = .pointer (some ⟨g, off, none⟩)) (hy : a.eval y = .agg c') (hg : w.heap[g]? = some (.cells c T)) (hs : off + c'.size ≤ c.size)
  (hi : (P.info? t).map (·.size) = some c'.size) (h1 : c'.all (·.oneCell') = true)
  (h : ∀ w', Puts g (writeAt c off c'.toList) T w w' → wpList P ops Q rest (a.put o.dst undef) w') : wpList P ops Q (o :: rest) a w := by
 refine wpList_store_mid hgd t x y ho g off c' hx hy (fun j hj => ?_) hi h1 (h _ (puts_set hg c'.toList off))
 exact ⟨by simp [World.cell?, hg, show off + j < c.size by omega], frozen_of_row w g (off + j) _ _ hg⟩
theorem Puts.held {g b : Nat} {c : Array Value} {T : TypeId} {w w' : World} {o : Obj} (h : Puts g c T w w') (hb : w.heap[b]? = some o) (hne : b ≠ g) : w'.heap[b]? = some o := (h.rest b hne).trans hb
abbrev zero37 : List Value := stmt0 0 0
abbrev stmtO (l : List Value) : Obj := .cells l.toArray 40
theorem deletes_any (br : Nat) (r : P12.R) (w : World) (h : Rd br r w) : Calls Tryz.prog 73 #[rp br] w (Got br w r (StmtV w) (P12.deletes r)) := by
 have HR := Lib.hid h
 have lr := h.lt
 clear h
 generalize hres : P12.deletes r = res
 have HRES := Lib.hid hres
 clear hres
 have HM := Lib.hid fun W => made_any 7 W
 rw [if_neg (by decide)] at HM
 go_enter Tryz.func73, Tryz.ntmps73
 go_wp2_with fail
 go_at_call 76
 refine (HM.out _).mono ?_
 rintro e w1 ⟨rfl, hx1⟩
 have hl1 := hx1.size
 simp only [World.size_alloc] at hl1
 have hz1 : w1.heap[w.heap.size]? = some (stmtO zero37) := (hx1.block _ (by rw [World.size_alloc]; omega)).trans (heap_new w _)
 have hT1 : Turn br w w1 := Turn.trans (tu trivial) (Turn.of_ext hx1)
 have hr1 := (HR.out.alloc _).ext hx1
 clear hx1
 go_wp2_with (refine wpList_putRow rfl 40 _ _ rfl (w1.heap.size) _ _ 40 rfl rfl (heap_new w1 _) rfl (by kernel_rfl) (by kernel_rfl) ?_; intro w2 hp2)
 have hl2 : w2.heap.size = w1.heap.size + 1 := by have := hp2.size; rwa [World.size_alloc] at this
 have hT2 : Turn br w w2 := Puts.turn hp2 (Turn.alloc hT1 _) (by omega)
 have hr2 : Rd br r w2 := Puts.rd hp2 (hr1.alloc _) (by omega)
 have hz2 : w2.heap[w.heap.size]? = some (stmtO zero37) := Puts.held hp2 ((Turn.alloc (Turn.refl br w1) _).held hz1 (by omega)) (by omega)
 have hb2 := hp2.blk
 have hMu := must_any br r [70, 82, 79, 77] w2.heap.size (w2.alloc (.cells #[bs [70, 82, 79, 77]] 9)) (rdx (hr2)) (cell_new w2 _ _) (by omega)
 clear hp2 hz1 hT1 hr1
 cases hm : P12.isT [70, 82, 79, 77] r
 ·rw [show P12.mustU [70, 82, 79, 77] r = .error ((P12.nxt r).pos, 120) by unfold P12.mustU; rw [hm]; rfl] at hMu
  have hE := HRES.out
  simp only [P12.deletes, P12.must, hm, P12.fails, bind, Except.bind, Bool.false_eq_true, if_false] at hE
  subst hE
  refine hMu.mono ?_
  rintro e w3 ⟨rfl, ht3⟩
  simp only [faults]
  go_wp2
  exact ⟨rfl, rfl, Turn.trans (Turn.alloc hT2 _) ht3⟩
 rw [show P12.mustU [70, 82, 79, 77] r = .ok ((), P12.takes r) by unfold P12.mustU; rw [hm]; rfl] at hMu
 have hE := HRES.out
 simp only [P12.deletes, P12.must, hm, bind, Except.bind, if_true] at hE
 have HE := Lib.hid hE
 clear hE HRES
 refine hMu.mono ?_
 rintro e w3 ⟨v3, rfl, rfl, ht3, hr3, hk3⟩
 have hz3 := ht3.held ((Turn.alloc (Turn.refl br w2) _).held hz2 (by omega)) (by omega)
 have hb3 := ht3.held ((Turn.alloc (Turn.refl br w2) _).held hb2 (by omega)) (by omega)
 have hl3 := ht3.size
 simp only [World.size_alloc] at hl3
 have hT3 := Turn.trans (Turn.alloc hT2 _) ht3
 clear hMu hz2 hb2 ht3 hT2 hr2
 go_wp2_with fail
 go_at_call 131
 refine (name_any br _ _ hr3).mono ?_
 intro e w4 h
 cases hn : P12.name (P12.takes r) with
 | error er =>
  rw [hn] at h
  have hE := HE.out
  rw [hn] at hE
  dsimp only at hE
  subst hE
  obtain ⟨rfl, ht4⟩ := h
  simp only [faults]
  go_wp2
  exact ⟨rfl, rfl, Turn.trans hT3 ht4⟩
 | ok p =>
  obtain ⟨a, r4⟩ := p
  rw [hn] at h
  have hE := HE.out
  rw [hn] at hE
  dsimp only at hE
  have HE2 := Lib.hid hE
  clear hE HE
  obtain ⟨v4, rfl, rfl, ht4, hr4, hk4⟩ := h
  have hz4 := ht4.held hz3 (by omega)
  have hb4 := ht4.held hb3 (by omega)
  have hl4 := ht4.size
  have hT4 := Turn.trans hT3 ht4
  have c6 : w4.cell? ⟨w1.heap.size, 6, none⟩ = some (.string ⟨#[]⟩) := by simp [World.cell?, hb4]
  have f6 := frozen_of_row w4 w1.heap.size 6 _ _ hb4
  have l6 := World.block_lt_of_cell? _ _ c6
  have hb5 := heap_setCell_same w4 w1.heap.size 6 _ _ (bs a) hb4
  have hz5 := (heap_setCell_other w4 ⟨w1.heap.size, 6, none⟩ w.heap.size (bs a) (by show w.heap.size ≠ w1.heap.size; omega)).trans hz4
  have hT5 := hT4.setNew (g := w1.heap.size) (.inl (by omega)) 6 (bs a)
  have hr5 := Rd.setCell hr4 (g := w1.heap.size) (by omega) 6 (bs a)
  have hk5 : P12.Keeps r r4 := (P12.keeps_takes r).trans hk4
  have HB5 := Lib.hid hb5
  have HZ5 := Lib.hid hz5
  clear hb4 hz4 hb3 hz3 ht4 hr4 hT4 hb5 hz5 hT3 hr3
  go_wp2_with fail
  go_at_call 143
  refine (where_any br _ _ hr5).mono ?_
  intro e w6 h
  cases hx : P12.wher r4 with
  | error er =>
   rw [hx] at h
   have hE := HE2.out
   rw [hx] at hE
   dsimp only at hE
   subst hE
   obtain ⟨rfl, ht6⟩ := h
   simp only [faults]
   go_wp2
   exact ⟨rfl, rfl, Turn.trans hT5 ht6⟩
  | ok p =>
   obtain ⟨x, r6⟩ := p
   rw [hx] at h
   have hE := HE2.out
   rw [hx] at hE
   dsimp only at hE
   obtain ⟨v6, rfl, ⟨l, rfl, he⟩, ht6, hr6, hk6⟩ := h
   obtain ⟨kd, op', vk, vi, vs, tb, nm, pp, pm, pc, rfl⟩ := he.form
   have hb6 := ht6.held HB5.out (by omega)
   have hz6 := ht6.held HZ5.out (by omega)
   have hl6 := ht6.size
   simp only [World.size_setCell] at hl6
   have HT6 := Lib.hid (Turn.trans hT5 ht6)
   have HX6 := Lib.hid (he.mono (S' := fun b => w1.heap.size < b) (fun b hb _ => by simp only [World.size_setCell] at hb; omega))
   have HR6 := Lib.hid hr6
   have HK6 := Lib.hid (hk5.trans hk6)
   clear ht6 hr6 he hT5 hr5
   go_wp2_with (first | ((refine wpList_putMid rfl 35 _ _ rfl (w1.heap.size) (12) _ _ 40 rfl rfl (hb6) ((by simp)) ((by kernel_rfl)) ((by kernel_rfl)) ?_; intro w7 hp7); have hb7 : w7.heap[w1.heap.size]? = some (stmtO (stmtL 7 [] nilS nilS nilS nilS a [] false nilS nilS nilS (exprL kd op' vk vi vs tb nm (.slice pp pm pc)) nilS nilS (exprL 0 0 0 0 [] [] [] nilS) nilS nilS 0)) := (by refine hp7.blk.trans (congrArg (fun c => some (Obj.cells c 40)) ?_); kernel_rfl); have hz7 := Puts.held hp7 hz6 (by omega)) | (refine wpList_loadRow rfl 40 _ rfl (w1.heap.size) _ 40 (0, 0) _ rfl (hb7) Tryz.underlying40 rfl ((by kernel_rfl)) ?_) | (refine wpList_putRow rfl 40 _ _ rfl (w.heap.size) _ _ 40 rfl rfl (hz7) ((by kernel_rfl)) ((by kernel_rfl)) ((by kernel_rfl)) ?_; intro w8 hp8))
   refine bodyPost_ret (results_row (fn := Tryz.f73) rfl rfl hp8.blk Tryz.underlying40 rfl (by kernel_rfl)) rfl ?_
   subst hE
   have hx := Puts.expr hp8 (Puts.expr hp7 HX6.out (by omega)) (by omega)
   refine ⟨_, rfl, ⟨_, rfl, nilS, nilS, nilS, nilS, nilS, nilS, nilS, _, nilS, nilS, exprL 0 0 0 0 [] [] [] nilS, nilS, nilS, rfl, SlcAt.nil _ _ _ _, SlcAt.nil _ _ _ _, SlcAt.nil _ _ _ _, SlcAt.nil _ _ _ _, SlcAt.nil _ _ _ _, SlcAt.nil _ _ _ _, SlcAt.nil _ _ _ _, hx.mono (fun b hb _ => (by omega)), SlcAt.nil _ _ _ _, SlcAt.nil _ _ _ _, rfl, SlcAt.nil _ _ _ _, SlcAt.nil _ _ _ _⟩, Puts.turn hp8 (Puts.turn hp7 HT6.out (by omega)) (by omega), Puts.rd hp8 (Puts.rd hp7 HR6.out (by omega)) (by omega), HK6.out⟩
abbrev Stab {α : Type} (R : (Nat → Prop) → World → α → List Value → Prop) : Prop :=
 ∀ S S' w w' x u, R S w x u → (∀ b, S b → b < w.heap.size → w'.heap[b]? = w.heap[b]?) → (∀ b, S b → b < w.heap.size → S' b) → R S' w' x u
theorem stab_str : Stab (fun _ _ => strR) := fun _ _ _ _ _ _ h _ _ => h
theorem stab_expr : Stab exprR := fun _ _ _ _ _ _ h hb hS => ExprAt.keep hb hS h
theorem stab_set : Stab setR := fun _ _ _ _ _ _ ⟨l, h1, h2⟩ hb hS => ⟨l, h1, h2.keep hb hS⟩
theorem stab_item : Stab itemR := fun _ _ _ _ _ _ ⟨l, h1, h2⟩ hb hS => ⟨l, h1, h2.keep hb hS⟩
theorem stab_ord : Stab ordR := fun _ _ _ _ _ _ ⟨l, h1, h2⟩ hb hS => ⟨l, h1, h2.keep hb hS⟩
theorem stab_row : Stab rowR := fun _ _ _ _ _ _ ⟨v, h1, h2⟩ hb hS => ⟨v, h1, h2.keep hb hS (fun _ _ h => ExprAt.keep hb hS h)⟩
def Gath {α : Type} (B : Nat) (e : TypeId) (sz : Nat) (R : (Nat → Prop) → World → α → List Value → Prop) (xs : List α) (v : Value) (w : World) : Prop :=
 ∃ us : List (List Value), w.ownsRow B e sz v xs.length us.flatten ∧ us.length = xs.length ∧ (∀ u ∈ us, u.length = sz) ∧ ∀ (j : Nat) x u, xs[j]? = some x → us[j]? = some u → R (fun b => B ≤ b ∧ ¬ v.ownBlock = some b) w x u
section
variable {α : Type} {B : Nat} {e : TypeId} {sz : Nat} {R : (Nat → Prop) → World → α → List Value → Prop} {xs : List α} {v : Value} {w w' : World}
theorem Gath.nil : Gath B e sz R [] nilS w := ⟨[], World.ownsRow_nil _ _ _ _, rfl, by simp, by simp⟩
theorem Gath.lt (h : Gath B e sz R xs v w) : ∀ b, v.ownBlock = some b → B ≤ b ∧ b < w.heap.size := by
 obtain ⟨us, h1, -⟩ := h
 exact h1.lt
theorem Gath.same (h : Gath B e sz R xs v w) (hR : Stab R) (hb : ∀ b, B ≤ b → b < w.heap.size → w'.heap[b]? = w.heap[b]?) : Gath B e sz R xs v w' := by
 obtain ⟨us, h1, h2, h3, h4⟩ := h
 exact ⟨us, own_same h1 fun b hb' => hb b (h1.lt b hb').1 (h1.lt b hb').2, h2, h3, fun j x u hx hu => hR _ _ _ _ _ _ (h4 j x u hx hu) (fun b hs => hb b hs.1) (fun b hs _ => hs)⟩
theorem Gath.turn {br : Nat} (h : Gath B e sz R xs v w) (hR : Stab R) (ht : Turn br w w') (hB : br < B) : Gath B e sz R xs v w' :=
 h.same hR fun b h1 h2 => ht.block h2 (by omega)
theorem Gath.set (h : Gath B e sz R xs v w) (hR : Stab R) {g : Nat} (hg : g < B) (o : Nat) (u : Value) : Gath B e sz R xs v (w.setCell ⟨g, o, none⟩ u) :=
 h.same hR fun b h1 h2 => heap_setCell_other w ⟨g, o, none⟩ b u (fun e => by (have h : b = g := (by simpa using e)); omega)
theorem Gath.push {us : List (List Value)} {v' : Value} {x : α} {u : List Value} (hR : Stab R) (h2 : us.length = xs.length) (h3 : ∀ u ∈ us, u.length = sz)
  (h4 : ∀ (j : Nat) x u, xs[j]? = some x → us[j]? = some u → R (fun b => B ≤ b ∧ ¬ v.ownBlock = some b) w x u) (hg : w.grownBy w' v.ownBlock) (ho : w'.ownsRow B e sz v' (xs.length + 1) (us.flatten ++ u))
  (hk : ∀ b, v'.ownBlock = some b → v.ownBlock = some b ∨ w.heap.size ≤ b) (hu : u.length = sz) (hx : R (fun b => B ≤ b ∧ ¬ v.ownBlock = some b) w x u) : Gath B e sz R (xs ++ [x]) v' w' := by
 have hmv : ∀ x u, R (fun b => B ≤ b ∧ ¬ v.ownBlock = some b) w x u → R (fun b => B ≤ b ∧ ¬ v'.ownBlock = some b) w' x u := fun x u h =>
  hR _ _ _ _ _ _ h (fun b hb hl => hg.block b hl (fun e => hb.2 e.symm)) (fun b hb hl => ⟨hb.1, fun e => by
   rcases hk b e with h | h
   ·exact hb.2 h
   ·omega⟩)
 refine ⟨us ++ [u], by simpa using ho, by simp [h2], fun y hy => ?_, fun j y c hy hc => hmv _ _ ?_⟩
 ·rcases List.mem_append.1 hy with hy | hy
  ·exact h3 y hy
  ·rw [List.mem_singleton.1 hy]; exact hu
 ·rcases Nat.lt_or_ge j xs.length with hj | hj
  ·rw [List.getElem?_append_left hj] at hy
   rw [List.getElem?_append_left (by omega)] at hc
   exact h4 j y c hy hc
  ·rw [List.getElem?_append_right hj] at hy
   rw [List.getElem?_append_right (by omega), h2] at hc
   obtain ⟨rfl, rfl⟩ : x = y ∧ u = c := by
    rcases hj0 : j - xs.length with _ | k
    ·rw [hj0] at hy hc
     simp at hy hc
     exact ⟨hy, hc⟩
    ·rw [hj0] at hy
     simp at hy
   exact hx
theorem Gath.slc (h : Gath B e sz R xs v w) (hR : Stab R) (hp : 0 < xs.length) (hs : 0 < sz) : SlcAt (fun b => B ≤ b) w sz (R (fun b => B ≤ b) w) xs v := by
 obtain ⟨us, h1, h2, h3, h4⟩ := h
 rcases h1.2 with ⟨-, h0⟩ | ⟨g, cap, cur, rfl, h5, h6, h7, h8, h9, h10⟩
 ·omega
 ·refine .inr ⟨g, cap, us, rfl, h5, hp, h7, h2, h3, hs, fun j v hj => ?_, fun j x u hx hu => hR _ _ _ _ _ _ (h4 j x u hx hu) (fun _ _ _ => rfl) (fun b hb _ => hb.1)⟩
  rw [← h10] at hj
  have hj' : cur.toList[j]? = some v := by
   rw [List.getElem?_take] at hj
   split at hj
   ·exact hj
   ·cases hj
  simp [World.cell?, h6]
  simpa using hj'
end
theorem gath_strs {B : Nat} {e : TypeId} {xs : List P12.T} {v : Value} {w : World} (h : Gath B e 1 (fun _ _ => strR) xs v w) : w.ownsRow B e 1 v xs.length (strsC xs) := by
 obtain ⟨us, h1, h2, h3, h4⟩ := h
 have : us = xs.map fun s => [bs s] := List.ext_getElem? fun j => by
  rcases hx : xs[j]? with _ | x
  ·rw [List.getElem?_eq_none (by rw [h2]; exact List.getElem?_eq_none_iff.1 hx)]
   simp [hx]
  ·obtain ⟨u, hu⟩ : ∃ u, us[j]? = some u := by
    have := (List.getElem?_eq_some_iff.1 hx).1
    exact ⟨us[j], List.getElem?_eq_getElem (by omega)⟩
   rw [hu, List.getElem?_map, hx, h4 j x u hx hu]
   rfl
 rw [this] at h1
 have h5 : ∀ xs : List P12.T, (xs.map fun s => [bs s]).flatten = strsC xs := fun xs => by
  induction xs with
  | nil => rfl
  | cons x xs ih => simp [strsC] at ih ⊢; exact ih
 rwa [h5] at h1
theorem strs_gath {B : Nat} {e : TypeId} {xs : List P12.T} {v : Value} {w : World} (h : w.ownsRow B e 1 v xs.length (strsC xs)) : Gath B e 1 (fun _ _ => strR) xs v w := by
 have h5 : ∀ xs : List P12.T, (xs.map fun s => [bs s]).flatten = strsC xs := fun xs => by
  induction xs with
  | nil => rfl
  | cons x xs ih => simp [strsC] at ih ⊢; exact ih
 refine ⟨xs.map fun s => [bs s], by rw [h5]; exact h, by simp, fun u hu => ?_, fun j x u hx hu => ?_⟩
 ·obtain ⟨s, -, rfl⟩ := List.mem_map.1 hu; rfl
 ·rw [List.getElem?_map, hx] at hu
  simp at hu
  exact hu.symm
theorem P12.rowF_ne {α : Type} {most : Nat} {could : P12.R → Bool} {read : P12.R → Except P12.Er (α × P12.R)} : ∀ {f n : Nat} {r : P12.R} {xs : List α} {r' : P12.R}, P12.rowF most could read f n r = .ok (xs, r') → 0 < xs.length
 | 0, _, _, _, _, h => by simp [P12.rowF, P12.fails] at h
 | f + 1, n, r, xs, r', h => by
  rw [P12.rowF] at h
  split at h
  ·simp [P12.fails] at h
  ·split at h
   ·cases h
   ·split at h
    ·split at h
     ·cases h
     ·cases h; simp
    ·cases h; simp
theorem row_gath {α : Type} (br most gx : Nat) (T e : TypeId) (sz : Nat) (mk : Value → Array Value) (R : (Nat → Prop) → World → α → List Value → Prop) (hR : Stab R) (hsz : 0 < sz) (r0 : P12.R) (w : World) (cv cx ra rb : Value) (CF RF : FuncId)
  (could : P12.R → Bool) (read : P12.R → Except P12.Er (α × P12.R)) (hmost : most ≤ 1000) (h : Rd br r0 w) (hbx : w.heap[gx]? = some (.cells (mk nilS) T)) (hbg : br < gx) (hcv : Bears1 cv CF cx) (hce : Ent CF) (hre : Ent RF)
  (hC : ∀ r W, Rd br r W → Kept w.heap.size [br, gx] w W → Calls Tryz.prog CF #[cx] W fun e w' => e = .returned (.bool (could r)) ∧ Xk.Ext W w')
  (hRd : ∀ (xs : List α) v r W, xs.length ≤ 100000 → Rd br r W → W.heap[gx]? = some (.cells (mk v) T) → Gath (w.heap.size + 1) e sz R xs v W → Kept w.heap.size [br, gx] w W → w.heap.size < W.heap.size →
   Calls Tryz.prog RF #[ra, rb] W (RowPost br r (fun x w' => ∃ v', w'.heap[gx]? = some (.cells (mk v') T) ∧ Gath (w.heap.size + 1) e sz R (xs ++ [x]) v' w' ∧ Kept (w.heap.size + 1) [br, gx] W w') (Kept w.heap.size [br, gx] W) (read r))) :
  Calls Tryz.prog 135 #[rp br, .int .i64 most, cv, .func (.func RF) #[] #[ra, rb]] w
   (RowPost br r0 (fun xs w' => ∃ v, w'.heap[gx]? = some (.cells (mk v) T) ∧ SlcAt (fun b => w.heap.size < b) w' sz (R (fun b => w.heap.size < b) w') xs v ∧ 0 < xs.length ∧ Kept w.heap.size [br, gx] w w') (Kept w.heap.size [br, gx] w) (P12.rowF most could read r0.l.length 0 r0)) := by
 have hlt := (Array.getElem?_eq_some_iff.1 hbx).1
 have hlen := h.good.len
 refine (row_any br most r0 w cv _ cx ra rb CF RF could read (fun xs W => w.heap.size < W.heap.size ∧ (∃ v, W.heap[gx]? = some (.cells (mk v) T) ∧ Gath (w.heap.size + 1) e sz R xs v W) ∧ Kept w.heap.size [br, gx] w W) (Kept w.heap.size [br, gx] w)
  hmost h hcv hce (fun xs r W hr hJ => hC r W hr hJ.2.2) rfl hre (fun xs r W hk hl hr hJ => ?_) ?_ (fun xs W v hJ => ?_) (fun xs W W' hJ ht => ?_) (fun xs W hJ => hJ.2.2)).mono ?_
 ·obtain ⟨j1, ⟨v, j2, j3⟩, j4⟩ := hJ
  refine (hRd xs v r W (by omega) hr j2 j3 j4 j1).mono ?_
  intro e w' hp
  unfold RowPost at hp ⊢
  split at hp
  ·obtain ⟨p1, ⟨v', p2, p3, p4⟩, p5, p6⟩ := hp
   exact ⟨p1, ⟨⟨Nat.lt_of_lt_of_le j1 p4.size, ⟨v', p2, p3⟩, j4.trans (p4.mono (by omega) (fun _ h => h))⟩, p4.block _ (by omega) j1 (by simp; omega)⟩, p5, p6⟩
  ·exact ⟨hp.1, j4.trans hp.2⟩
 ·exact ⟨by rw [World.size_alloc]; omega, ⟨nilS, by rw [← hbx]; exact (((Below.refl _ _).alloc (Nat.le_refl _) _ : Below w.heap.size w (w.alloc _))).block gx hlt, Gath.nil⟩, (Kept.refl _ _ _).alloc _⟩
 ·obtain ⟨j1, ⟨u, j2, j3⟩, j4⟩ := hJ
  exact ⟨by rw [World.size_setCell]; exact j1, ⟨u, by rw [← j2]; exact heap_setCell_other W ⟨w.heap.size, 1, none⟩ gx v (fun e => by (have h : gx = w.heap.size := (by simpa using e)); omega), j3.set hR (by omega) _ _⟩, j4.setCell (.inl (Nat.le_refl _)) _ _⟩
 ·obtain ⟨j1, ⟨u, j2, j3⟩, j4⟩ := hJ
  exact ⟨Nat.lt_of_lt_of_le j1 ht.size, ⟨u, ht.held j2 (by omega), j3.turn hR ht (by have := h.lt; omega)⟩, j4.trans (Kept.of_turn ht (by simp))⟩
 ·intro e w' hp
  unfold RowPost at hp ⊢
  split at hp
  ·rename_i xs r' heq
   have hne := P12.rowF_ne heq
   obtain ⟨p1, ⟨p2, ⟨v, p3, p4⟩, p5⟩, p6, p7⟩ := hp
   exact ⟨p1, ⟨v, p3, p4.slc hR hne hsz, hne, p5⟩, p6, p7⟩
  ·exact hp
theorem cell_at {g : Nat} (W : World) (x : Value) (T : TypeId) (h : g = W.heap.size) : (W.alloc (.cells #[x] T)).cell? ⟨g, 0, none⟩ = some x := by
 subst h
 exact cell_new W x T
theorem must_got (br : Nat) (s : P12.T) (r : P12.R) (g : Nat) (w : World) (h : Rd br r w) (hc : w.cell? ⟨g, 0, none⟩ = some (bs s)) (hg : br < g) :
  Calls Tryz.prog 132 #[rp br, .slice (some ⟨g, 0, none⟩) 1 1] w fun e w' => match P12.must s r with | .error er => e = faults er ∧ Turn br w w' | .ok r' => e = .returned (.tuple #[]) ∧ Turn br w w' ∧ Rd br r' w' ∧ P12.Keeps r r' := by
 refine (must_any br r s g w h hc hg).mono ?_
 intro e w' h
 unfold P12.mustU at h
 unfold P12.must
 cases hm : P12.isT s r
 ·rw [hm] at h
  exact h
 ·rw [hm] at h
  obtain ⟨v, rfl, rfl, h1, h2, h3⟩ := h
  exact ⟨rfl, h1, h2, h3⟩
theorem ent_names1 : Ent 201 := ⟨fun _ _ => by go_simp, by decide⟩
theorem Kept.at_end {br gx : Nat} {w0 w w' : World} (h : Kept w.heap.size [br, gx] w w') (ht : Turn br w0 w) (hg : w0.heap.size ≤ gx) : Turn br w0 w' := by
 obtain ⟨h1, h2, h3, h4, h5⟩ := ht
 refine ⟨h.os.trans h1, h.tape.trans h2, h.output.trans h3, Nat.le_trans h4 h.size, fun b hb => ?_⟩
 by_cases hbr : b = br
 ·exact .inr ⟨(br, fun _ => True), by simp, hbr.symm, trivial⟩
 ·rw [h.block b (by omega) (by omega) (by simp; omega)]; exact h5 b hb
theorem row_names (br gout grb : Nat) (r : P12.R) (w : World) (h : Rd br r w) (hgr : w.heap[grb]? = some (.cells #[rp br] 67)) (hgo : w.heap[gout]? = some (.cells #[nilS] 29)) (h1 : br < gout) (h2 : br < grb) (hne : grb ≠ gout) :
  Calls Tryz.prog 135 #[rp br, .int .i64 16, .func (.func 141) #[rp br] #[], .func (.func 201) #[] #[rp gout, rp grb]] w
   (RowPost br r (fun xs w' => ∃ v, w'.heap[gout]? = some (.cells #[v] 29) ∧ SlcAt (fun b => w.heap.size < b) w' 1 strR xs v ∧ 0 < xs.length ∧ Kept w.heap.size [br, gout] w w') (Kept w.heap.size [br, gout] w) (P12.rowF 16 P12.named P12.name r.l.length 0 r)) := by
 have hlg := (Array.getElem?_eq_some_iff.1 hgo).1
 have hlr := (Array.getElem?_eq_some_iff.1 hgr).1
 refine row_gath br 16 gout 29 9 1 (fun v => #[v]) (fun _ _ => strR) stab_str (by decide) r w _ (rp br) (rp gout) (rp grb) 141 201 P12.named P12.name (by decide) h hgo (by omega) (.inl rfl) ent_named ent_names1 (fun r W hr _ => named_any br r W hr) (fun xs v r W hl hr hb hg hk hlt => ?_)
 refine (names1_any br gout grb (w.heap.size + 1) xs r W hr ⟨v, hb, gath_strs hg⟩ (hk.held hgr hlr (by simp; omega)) h1 h2 (by omega) (by omega) (by omega) hl).mono ?_
 intro e w' hp
 unfold RowPost at hp ⊢
 split at hp
 ·obtain ⟨p1, ⟨⟨v', p2, p3⟩, p4⟩, p5, p6⟩ := hp
  exact ⟨p1, ⟨v', p2, strs_gath p3, p4⟩, p5, p6⟩
 ·exact ⟨hp.1, Kept.of_turn hp.2 (by simp)⟩
theorem names_any (br : Nat) (r : P12.R) (w : World) (h : Rd br r w) : Calls Tryz.prog 134 #[rp br] w (Got br w r (fun v x w' => 0 < x.length ∧ SlcAt (fun b => w.heap.size ≤ b) w' 1 strR x v) (P12.names r)) := by
 have HR := Lib.hid h
 have lr := h.lt
 clear h
 generalize hres : P12.names r = res
 have hE := hres
 simp only [P12.names, bind, Except.bind, pure, Except.pure] at hE
 have HE := Lib.hid hE
 clear hE hres
 go_enter Tryz.func134, Tryz.ntmps134
 go_wp2_with fail
 go_at_call 132
 refine (must_got br [40] r _ _ (rdx (HR.out)) (cell_at _ _ _ (by simp only [World.size_alloc])) (by omega)).mono ?_
 intro e w1 h
 cases hn : P12.must [40] r
 case error er =>
  rw [hn] at h
  have hE := HE.out
  rw [hn] at hE
  dsimp only at hE
  subst hE
  obtain ⟨rfl, ht⟩ := h
  simp only [faults]
  go_wp2
  exact ⟨rfl, rfl, Turn.trans (tu trivial) ht⟩
 rename_i p
 rw [hn] at h HE
 dsimp only at HE
 obtain ⟨rfl, ht1, hr1, hk1⟩ := h
 have hgr := ht1.held ((Turn.alloc (Turn.alloc (Turn.refl br (w.alloc (.cells #[rp br] 67))) (.cells #[nilS] 29)) _).held (heap_new w _) (by simp [World.size_alloc]; omega)) (by omega)
 have hgo := ht1.held ((Turn.alloc (Turn.refl br ((w.alloc (.cells #[rp br] 67)).alloc (.cells #[nilS] 29))) _).held (heap_new (w.alloc (.cells #[rp br] 67)) _) (by simp [World.size_alloc]; omega)) (by simp [World.size_alloc]; omega)
 rw [World.size_alloc] at hgo
 have hl1 := ht1.size
 simp only [World.size_alloc] at hl1
 have hT1 : Turn br w w1 := Turn.trans (tu trivial) ht1
 clear ht1
 have c1 : w1.cell? ⟨w.heap.size, 0, none⟩ = some (rp br) := by simp [World.cell?, hgr]
 go_wp2_with fail
 go_at_call 135
 refine (row_names br (w.heap.size + 1) w.heap.size p w1 hr1 hgr hgo (by omega) (by omega) (by omega)).mono ?_
 intro e w2 h
 cases hn : P12.rowF 16 P12.named P12.name p.l.length 0 p
 case error er =>
  rw [hn] at h
  have hE := HE.out
  rw [hn] at hE
  dsimp only at hE
  subst hE
  obtain ⟨rfl, ht⟩ := h
  simp only [faults]
  go_wp2
  exact ⟨rfl, rfl, ht.at_end hT1 (by omega)⟩
 rename_i p
 rw [hn] at h HE
 dsimp only at HE
 rename P12.R => r1
 obtain ⟨xs, r2⟩ := p
 obtain ⟨rfl, ⟨v, hgo2, hs2, hne2, hK2⟩, hr2, hk2⟩ := h
 have hgr2 := hK2.held hgr (by omega) (by simp; omega)
 have hl2 := hK2.size
 have hT2 := hK2.at_end hT1 (by omega)
 have c2 : w2.cell? ⟨w.heap.size, 0, none⟩ = some (rp br) := by simp [World.cell?, hgr2]
 clear hK2 hT1 hgo c1
 go_wp2_with fail
 go_at_call 132
 refine (must_got br [41] r2 _ _ (rdx (hr2)) (cell_at _ _ _ rfl) (by omega)).mono ?_
 intro e w3 h
 cases hn : P12.must [41] r2
 case error er =>
  rw [hn] at h
  have hE := HE.out
  rw [hn] at hE
  dsimp only at hE
  subst hE
  obtain ⟨rfl, ht⟩ := h
  simp only [faults]
  go_wp2
  exact ⟨rfl, rfl, Turn.trans (Turn.alloc hT2 _) ht⟩
 rename_i p
 rw [hn] at h HE
 dsimp only at HE
 obtain ⟨rfl, ht3, hr3, hk3⟩ := h
 have hgo3 := ht3.held ((Turn.alloc (Turn.refl br w2) _).held hgo2 (by omega)) (by omega)
 have c3 : w3.cell? ⟨w.heap.size + 1, 0, none⟩ = some v := by simp [World.cell?, hgo3]
 have hs3 := hs2.keep (S' := fun b => w.heap.size ≤ b) (w' := w3) (R' := strR) (fun b hb hl => (ht3.block (by rw [World.size_alloc]; omega) (by omega)).trans (((Below.refl _ _).alloc (Nat.le_refl _) _ : Below w2.heap.size w2 (w2.alloc _)).block b hl)) (fun b hb _ => by omega) (fun _ _ h => h)
 go_wp2
 go_ret
 have hE := HE.out
 subst hE
 exact ⟨_, rfl, ⟨hne2, hs3⟩, Turn.trans (Turn.alloc hT2 _) ht3, hr3, hk1.trans (hk2.trans hk3)⟩
abbrev noE : List Value := exprL 0 0 0 0 [] [] [] nilS
theorem cells_list {g : Nat} (W : World) (l : List Value) (T : TypeId) (h : g = W.heap.size) (j : Nat) (u : Value) (hu : l[j]? = some u) : (W.alloc (.cells l.toArray T)).cell? ⟨g, 0 + j, none⟩ = some u := by
 subst h
 have hb := heap_new W (.cells l.toArray T)
 unfold World.cell?
 rw [hb]
 simpa using hu
theorem Tryz.infoSet : (Tryz.prog.info? 85).map (fun i => (i.zero, i.size, i.bytes)) = some (some (.agg (.string ⟨#[]⟩ :: .int .i64 0 :: noE).toArray), 12, 144) := by kernel_rfl
theorem one_all {l : List Value} (h : l.all (·.oneCell') = true) : ∀ u ∈ l, u.oneCell' = true := by simpa using h
theorem update1_any (br gx grb B : Nat) (c : Array Value) (v : Value) (xs : List (P12.T × P12.E)) (r : P12.R) (w : World) (h : Rd br r w) (hx : w.heap[gx]? = some (.cells c 40)) (hc : c[11]? = some v) (hrb : w.heap[grb]? = some (.cells #[rp br] 67))
  (hg : Gath B 85 12 setR xs v w) (h1 : br < gx) (h2 : br < grb) (h3 : gx < B) (h4 : grb < B) (h5 : B ≤ w.heap.size) (h6 : xs.length ≤ 100000) (hne : grb ≠ gx) :
  Calls Tryz.prog 142 #[rp grb, rp gx] w (RowPost br r (fun x w' => ∃ v', w'.heap[gx]? = some (.cells (c.setIfInBounds 11 v') 40) ∧ Gath B 85 12 setR (xs ++ [x]) v' w' ∧ Kept B [br, gx] w w') (Turn br w) (P12.setOf r)) := by
 have HR := Lib.hid h
 have lr := h.lt
 clear h
 generalize hres : P12.setOf r = res
 have hE := hres
 simp only [P12.setOf, bind, Except.bind, pure, Except.pure] at hE
 have HE := Lib.hid hE
 clear hE hres
 have c0 : w.cell? ⟨grb, 0, none⟩ = some (rp br) := by simp [World.cell?, hrb]
 have hbd : ∀ (a : P12.T) (W : World), (Instr.build 85 #[(0, bs a)]).run Tryz.prog W = .ok (.agg (bs a :: .int .i64 0 :: noE).toArray) W := fun a W => by kernel_rfl
 go_enter Tryz.func142, Tryz.ntmps142
 go_wp2_with fail
 go_at_call 131
 refine (name_any br _ _ HR.out).mono ?_
 intro e w1 h
 cases hn : P12.name r
 case error er =>
  rw [hn] at h
  have hE := HE.out
  rw [hn] at hE
  dsimp only at hE
  subst hE
  obtain ⟨rfl, ht⟩ := h
  simp only [faults]
  go_wp2
  exact ⟨rfl, rfl, ht⟩
 rename_i p
 rw [hn] at h HE
 dsimp only at HE
 obtain ⟨a, r1⟩ := p
 obtain ⟨_, rfl, rfl, ht1, hr1, hk1⟩ := h
 have hl1 := ht1.size
 have hx1 := ht1.held hx (by omega)
 have hrb1 := ht1.held hrb (by omega)
 have hg1 := hg.turn stab_set ht1 (by omega)
 have HG1 := Lib.hid hg1
 have HX1 := Lib.hid hx1
 have HB1 := Lib.hid hrb1
 clear hg1 hx1 hrb1 hx hrb hg c0
 go_wp2_with ((refine wpList_putRow rfl 85 _ _ rfl (w1.heap.size) _ _ 85 rfl rfl (heap_new w1 _) (rfl) ((by kernel_rfl)) ((by kernel_rfl)) ?_; intro w2 hp2); have hrb2 := Puts.held hp2 ((Turn.alloc (Turn.refl br w1) _).held HB1.out (by omega)) (by omega); have c2 : w2.cell? ⟨grb, 0, none⟩ = some (rp br) := (by simp [World.cell?, hrb2]))
 have hl2 : w2.heap.size = w1.heap.size + 1 := by have := hp2.size; rwa [World.size_alloc] at this
 have hT2 : Turn br w w2 := Puts.turn hp2 (Turn.alloc ht1 _) (by omega)
 have hT12 : Turn br w1 w2 := Puts.turn hp2 (Turn.alloc (Turn.refl _ _) _) (by omega)
 have hr2 : Rd br r1 w2 := Puts.rd hp2 (hr1.alloc _) (by omega)
 have hb2 := hp2.blk
 clear hp2
 go_wp2_with fail
 go_at_call 132
 refine (must_got br [61] r1 _ _ (rdx (hr2)) (cell_at _ _ _ rfl) (by omega)).mono ?_
 intro e w3 h
 cases hn : P12.must [61] r1
 case error er =>
  rw [hn] at h
  have hE := HE.out
  rw [hn] at hE
  dsimp only at hE
  subst hE
  obtain ⟨rfl, ht⟩ := h
  simp only [faults]
  go_wp2
  exact ⟨rfl, rfl, Turn.trans (Turn.alloc hT2 _) ht⟩
 rename_i p
 rw [hn] at h HE
 dsimp only at HE
 rename P12.R => r3
 obtain ⟨rfl, ht3, hr3, hk3⟩ := h
 have hl3 := ht3.size
 simp only [World.size_alloc] at hl3
 have hrb3 := ht3.held ((Turn.alloc (Turn.refl br w2) _).held hrb2 (by omega)) (by omega)
 have hb3 := ht3.held ((Turn.alloc (Turn.refl br w2) _).held hb2 (by omega)) (by omega)
 have hT3 := Turn.trans (Turn.alloc hT2 _) ht3
 have hT13 := Turn.trans (Turn.alloc hT12 _) ht3
 have c3 : w3.cell? ⟨grb, 0, none⟩ = some (rp br) := by simp [World.cell?, hrb3]
 clear hb2 hrb2 c2 ht3 hT2 hT12 hr2
 go_wp2_with fail
 go_at_call 140
 refine (expr_any br _ _ hr3).mono ?_
 intro e w4 h
 cases hn : P12.expr r3
 case error er =>
  rw [hn] at h
  have hE := HE.out
  rw [hn] at hE
  dsimp only at hE
  subst hE
  obtain ⟨rfl, ht⟩ := h
  simp only [faults]
  go_wp2
  exact ⟨rfl, rfl, Turn.trans hT3 ht⟩
 rename_i p
 rw [hn] at h HE
 dsimp only at HE
 obtain ⟨e, r4⟩ := p
 obtain ⟨_, rfl, ⟨l, rfl, he⟩, ht4, hr4, hk4⟩ := h
 obtain ⟨kd, op', vk, vi, vs, tb, nm, pp, pm, pc, rfl⟩ := he.form
 have hl4 := ht4.size
 have hb4 := ht4.held hb3 (by omega)
 have hT4 := Turn.trans hT3 ht4
 have hT14 := Turn.trans hT13 ht4
 clear hT3 hT13 ht4 c3 hb3 hrb3
 obtain ⟨us, hown, hu2, hu3, hu4⟩ := HG1.out
 have HO := Lib.hid hown
 have HU := Lib.hid hu4
 have hlt := hown.lt
 clear hown hu4 HG1
 obtain ⟨i0, hi, hz0, hz1, hz2⟩ := infoParts Tryz.infoSet
 have Hi := Lib.hid hi
 have Hz0 := Lib.hid hz0
 have Hz1 := Lib.hid hz1
 have Hz2 := Lib.hid hz2
 clear hi hz0 hz1 hz2
 go_wp2_with (first | ((refine wpList_putMid rfl 35 _ _ rfl (w1.heap.size) (2) _ _ 85 rfl rfl (hb4) (by simp) (by kernel_rfl) (by kernel_rfl) ?_; intro w5 hp5); have hb5 : w5.heap[w1.heap.size]? = some (.cells (bs a :: .int .i64 0 :: exprL kd op' vk vi vs tb nm (.slice pp pm pc)).toArray 85) := (by refine hp5.blk.trans (congrArg (fun c => some (Obj.cells c 85)) ?_); kernel_rfl); have hT15 : Turn br w1 w5 := Puts.turn hp5 hT14 (by omega); have hx5 := hT15.held HX1.out (by omega); have c5 : w5.cell? ⟨gx, 11, none⟩ = some v := (by simp [World.cell?, hx5, hc])) | (refine wpList_loadRow rfl 85 _ rfl (w1.heap.size) _ 85 (0, 0) _ rfl (hb5) Tryz.underlying85 rfl ((by kernel_rfl)) ?_) | (at_builtin; have hl5 := hT15.size; refine Xo.wpList_appb B rfl _ _ 31 rfl 85 i0 _ 12 144 Tryz.underlying31 Hi.out Hz0.out Hz1.out Hz2.out rfl (by decide) v xs.length us.flatten rfl (own_turn HO.out (Turn.alloc hT15 _) (by omega)) w5.heap.size 0 1 1 (bs a :: .int .i64 0 :: exprL kd op' vk vi vs tb nm (.slice pp pm pc)) rfl (by decide) rfl (cells_list w5 _ _ rfl) (one_all (by kernel_rfl)) (by omega) (by rw [World.size_alloc]; omega) ?_; intro v' w7 ho' hg' hk'; obtain ⟨z, cz, rfl⟩ := ownForm ho' (by omega); have hx7 := (hg'.block gx (by rw [World.size_alloc]; have := (Array.getElem?_eq_some_iff.1 hx5).1; omega) (fun e => by have := (hlt gx e.symm).1; omega)).trans ((Turn.alloc (Turn.refl br w5) _).held hx5 (by omega)); have c7 : w7.cell? ⟨gx, 11, none⟩ = some v := (by simp [World.cell?, hx7, hc]); have f7 := frozen_of_row w7 gx 11 _ _ hx7; have HO7 := Lib.hid ho'; have HG7 := Lib.hid hg'; have HK7 := Lib.hid hk'; have HX7 := Lib.hid hx7; clear ho' hg' hk' hx7 hx5 c5))
 go_end0
 have hE := HE.out
 subst hE
 have hl5 := hT15.size
 have he5 := Puts.expr hp5 he (by omega)
 have hr5 := Puts.rd hp5 hr4 (by omega)
 have hk : P12.Keeps r r4 := hk1.trans (hk3.trans hk4)
 have hTx : ∀ o, Turn br w (w5.alloc o) := fun o => Turn.alloc (Turn.trans ht1 hT15) _
 refine ⟨rfl, ⟨.slice (some ⟨z, 0, none⟩) (xs.length + 1) cz, ?_, ?_, ?_⟩, Rd.setCell ((hr5.alloc _).grown HG7.out (fun b hb => by have := (hlt b hb).1; omega)) h1 _ _, hk⟩
 ·rw [heap_setCell_same w7 gx 11 _ _ _ HX7.out]
 ·refine (Gath.push stab_set hu2 hu3 (fun j x u hx hu => stab_set _ _ _ _ _ _ (HU.out j x u hx hu) (fun b hb hl => (Turn.alloc hT15 _).block hl (by omega)) (fun b hb _ => hb)) HG7.out HO7.out HK7.out rfl ⟨_, rfl, he5.keep (fun b hb hl => ((Below.refl _ _).alloc (Nat.le_refl _) _ : Below w5.heap.size w5 (w5.alloc _)).block b hl) (fun b hb _ => ⟨by omega, fun e => by have := (hlt b e).2; omega⟩)⟩).set stab_set h3 _ _
 ·exact ((Kept.of_turn (hTx _) (by simp)).grown HG7.out (fun b hb => (hlt b hb).1)).setCell (.inr (.inl (by simp))) _ _
abbrev StabP (K : (Nat → Prop) → World → Prop) : Prop := ∀ S S' w w', K S w → (∀ b, S b → b < w.heap.size → w'.heap[b]? = w.heap[b]?) → (∀ b, S b → b < w.heap.size → S' b) → K S' w'
theorem stabP_slc {α : Type} {R : (Nat → Prop) → World → α → List Value → Prop} (hR : Stab R) (sz : Nat) (l : List α) (v : Value) : StabP fun S w => SlcAt S w sz (R S w) l v :=
 fun S S' w w' h hb hS => h.keep hb hS fun x u h => hR _ _ _ _ _ _ h hb hS
theorem stabP_strs (l : List P12.T) (v : Value) : StabP fun S w => SlcAt S w 1 strR l v := fun S S' w w' h hb hS => h.keep hb hS fun _ _ h => h
theorem stabP_srcs (l : List (P12.T × P12.T)) (v : Value) : StabP fun S w => SlcAt S w 2 srcR l v := fun S S' w w' h hb hS => h.keep hb hS fun _ _ h => h
theorem stabP_expr (e : P12.E) (l : List Value) : StabP fun S w => ExprAt S w e l := fun S S' w w' h hb hS => ExprAt.keep hb hS h
structure Fq (br gb gz gx : Nat) (w0 : World) (r0 : P12.R) (K : (Nat → Prop) → World → Prop) (r : P12.R) (c : Array Value) (w : World) : Prop where
 box : w.heap[gb]? = some (.cells #[rp br] 67)
 zero : w.heap[gz]? = some (.cells zero37.toArray 40)
 blk : w.heap[gx]? = some (.cells c 40)
 turn : Turn br w0 w
 rd : Rd br r w
 keeps : P12.Keeps r0 r
 stab : StabP K
 piece : K (fun b => gx < b) w
 lo : br < w0.heap.size
 gbge : w0.heap.size ≤ gb
 gzge : w0.heap.size ≤ gz
 bx : gb < gx
 zx : gz < gx
 bz : gb ≠ gz
section
variable {br gb gz gx : Nat} {w0 : World} {r0 : P12.R} {K : (Nat → Prop) → World → Prop} {r r' : P12.R} {c c' : Array Value} {w w' : World}
theorem Fq.size (F : Fq br gb gz gx w0 r0 K r c w) : gx < w.heap.size := (Array.getElem?_eq_some_iff.1 F.blk).1
theorem Fq.step (F : Fq br gb gz gx w0 r0 K r c w) (ht : Turn br w w') (hr : Rd br r' w') (hk : P12.Keeps r r') : Fq br gb gz gx w0 r0 K r' c w' := by
 obtain ⟨h1, h2, h3, h4, h5, h6, h7, h8, h9, h10, h11, h12, h13, h14⟩ := F
 exact ⟨ht.held h1 (by omega), ht.held h2 (by omega), ht.held h3 (by omega), Turn.trans h4 ht, hr, h6.trans hk, h7, h7 _ _ _ _ h8 (fun b hb hl => ht.block hl (by omega)) (fun b hb _ => hb), h9, h10, h11, h12, h13, h14⟩
theorem Fq.ext (F : Fq br gb gz gx w0 r0 K r c w) (hx : Xk.Ext w w') : Fq br gb gz gx w0 r0 K r c w' := F.step (Turn.of_ext hx) (F.rd.ext hx) (P12.Keeps.refl _)
theorem Fq.alloc (F : Fq br gb gz gx w0 r0 K r c w) (o : Obj) : Fq br gb gz gx w0 r0 K r c (w.alloc o) := F.ext ((Below.refl _ _).alloc (Nat.le_refl _) _)
theorem Fq.puts (F : Fq br gb gz gx w0 r0 K r c w) (hp : Puts gx c' 40 w w') : Fq br gb gz gx w0 r0 K r c' w' := by
 obtain ⟨h1, h2, h3, h4, h5, h6, h7, h8, h9, h10, h11, h12, h13, h14⟩ := F
 exact ⟨(hp.rest _ (by omega)).trans h1, (hp.rest _ (by omega)).trans h2, hp.blk, Puts.turn hp h4 (by omega), Puts.rd hp h5 (by omega), h6, h7, h7 _ _ _ _ h8 (fun b hb hl => hp.rest b (by omega)) (fun b hb _ => hb), h9, h10, h11, h12, h13, h14⟩
theorem Fq.set (F : Fq br gb gz gx w0 r0 K r c w) (o : Nat) (u : Value) : Fq br gb gz gx w0 r0 K r (c.setIfInBounds o u) (w.setCell ⟨gx, o, none⟩ u) :=
 F.puts (puts_set F.blk [u] o)
theorem Fq.row (F : Fq br gb gz gx w0 r0 K r c w) (hk : Kept w.heap.size [br, gx] w w') (hb : w'.heap[gx]? = some (.cells c' 40)) (hr : Rd br r' w') (hkp : P12.Keeps r r') : Fq br gb gz gx w0 r0 K r' c' w' := by
 have hsz := F.size
 obtain ⟨h1, h2, h3, h4, h5, h6, h7, h8, h9, h10, h11, h12, h13, h14⟩ := F
 exact ⟨hk.held h1 (by omega) (by simp; omega), hk.held h2 (by omega) (by simp; omega), hb, hk.at_end h4 (by omega), hr, h6.trans hkp, h7, h7 _ _ _ _ h8 (fun b hb hl => hk.block b hl hl (by simp; omega)) (fun b hb _ => hb), h9, h10, h11, h12, h13, h14⟩
theorem Fq.add (F : Fq br gb gz gx w0 r0 K r c w) {A : (Nat → Prop) → World → Prop} (hs : StabP A) (ha : A (fun b => gx < b) w) : Fq br gb gz gx w0 r0 (fun S w => K S w ∧ A S w) r c w := by
 obtain ⟨h1, h2, h3, h4, h5, h6, h7, h8, h9, h10, h11, h12, h13, h14⟩ := F
 exact ⟨h1, h2, h3, h4, h5, h6, fun S S' w w' h hb hS => ⟨h7 _ _ _ _ h.1 hb hS, hs _ _ _ _ h.2 hb hS⟩, ⟨h8, ha⟩, h9, h10, h11, h12, h13, h14⟩
theorem Fq.cells (F : Fq br gb gz gx w0 r0 K r c w) (h : c = c') : Fq br gb gz gx w0 r0 K r c' w := h ▸ F
theorem Fq.cbox (F : Fq br gb gz gx w0 r0 K r c w) : w.cell? ⟨gb, 0, none⟩ = some (rp br) := by simp [World.cell?, F.box]
theorem Fq.cell (F : Fq br gb gz gx w0 r0 K r c w) {o : Nat} {v : Value} (h : c[o]? = some v) : w.cell? ⟨gx, o, none⟩ = some v := by simp [World.cell?, F.blk, h]
theorem Fq.free (F : Fq br gb gz gx w0 r0 K r c w) (o : Nat) : w.frozen? ⟨gx, o, none⟩ = false := frozen_of_row w gx o _ _ F.blk
theorem Fq.after (F : Fq br gb gz gx w0 r0 K r c w) (ht : Turn br w w') : Turn br w0 w' := Turn.trans F.turn ht
theorem Fq.rowAfter (F : Fq br gb gz gx w0 r0 K r c w) (hk : Kept w.heap.size [br, gx] w w') : Turn br w0 w' := hk.at_end F.turn (by have := F.gbge; have := F.bx; omega)
theorem Fq.up (F : Fq br gb gz gx w0 r0 K r c w) {A : (Nat → Prop) → World → Prop} (hs : StabP A) (ha : A (fun b => w.heap.size ≤ b) w') : A (fun b => gx < b) w' :=
 hs _ _ _ _ ha (fun _ _ _ => rfl) (fun b hb _ => by have := F.size; omega)
theorem Fq.start {br : Nat} {r : P12.R} {w w1 w2 : World} {c : Array Value} {o : Obj} (h : Rd br r w) (hx : Xk.Ext ((w.alloc (.cells #[rp br] 67)).alloc (.cells zero37.toArray 40)) w1) (hp : Puts w1.heap.size c 40 (w1.alloc o) w2) :
  Fq br w.heap.size (w.heap.size + 1) w1.heap.size w r (fun _ _ => True) r c w2 := by
 have hlt := h.lt
 have hl := hx.size
 simp only [World.size_alloc] at hl
 have hb := heap_new w (.cells #[rp br] 67)
 have hz := heap_new (w.alloc (.cells #[rp br] 67)) (.cells zero37.toArray 40)
 rw [World.size_alloc] at hz
 have ht : Turn br (w.alloc (.cells #[rp br] 67)) ((w.alloc (.cells #[rp br] 67)).alloc (.cells zero37.toArray 40)) := Turn.alloc (Turn.refl _ _) _
 have h1 := ((Turn.alloc (Turn.refl br w1) o).held ((Turn.of_ext hx : Turn br _ _).held (ht.held hb (by omega)) (by omega)) (by omega))
 have h2 := ((Turn.alloc (Turn.refl br w1) o).held ((Turn.of_ext hx : Turn br _ _).held hz (by omega)) (by omega))
 refine ⟨(hp.rest _ (by omega)).trans h1, (hp.rest _ (by omega)).trans h2, hp.blk, Puts.turn hp (Turn.alloc (Turn.trans (Turn.alloc (Turn.alloc (Turn.refl br w) _) _) (Turn.of_ext hx)) _) (by omega), Puts.rd hp ((((h.alloc _).alloc _).ext hx).alloc _) (by omega), P12.Keeps.refl _, fun _ _ _ _ _ _ _ => trivial, trivial, hlt, Nat.le_refl _, by omega, by omega, by omega, by omega⟩
theorem Fq.finish {l : List Value} {x : P12.St} (F : Fq br gb gz gx w0 r0 K r c w) (hp : Puts gz l.toArray 40 w w') (hst : K (fun b => w0.heap.size ≤ b) w' → StmtIn (fun b => w0.heap.size ≤ b) w' x l) :
  Got br w0 r0 (StmtV w0) (.ok (x, r)) (.returned (.agg l.toArray)) w' := by
 obtain ⟨h1, h2, h3, h4, h5, h6, h7, h8, h9, h10, h11, h12, h13, h14⟩ := F
 exact ⟨_, rfl, ⟨l, rfl, hst (h7 _ _ _ _ h8 (fun b hb hl => hp.rest b (by omega)) (fun b hb _ => by omega))⟩, Puts.turn hp h4 h11, Puts.rd hp h5 (by omega), h6⟩
end
theorem ent_update1 : Ent 142 := ⟨fun _ _ => by go_simp, by decide⟩
theorem row_sets (br gx grb : Nat) (mk : Value → Array Value) (hmk : ∀ v, (mk v)[11]? = some v) (hmk2 : ∀ v v', (mk v).setIfInBounds 11 v' = mk v') (r : P12.R) (w : World) (h : Rd br r w) (hgr : w.heap[grb]? = some (.cells #[rp br] 67)) (hgo : w.heap[gx]? = some (.cells (mk nilS) 40)) (h1 : br < gx) (h2 : br < grb) (hne : grb ≠ gx) :
  Calls Tryz.prog 135 #[rp br, .int .i64 16, .func (.func 141) #[rp br] #[], .func (.func 142) #[] #[rp grb, rp gx]] w
   (RowPost br r (fun xs w' => ∃ v, w'.heap[gx]? = some (.cells (mk v) 40) ∧ SlcAt (fun b => w.heap.size < b) w' 12 (setR (fun b => w.heap.size < b) w') xs v ∧ 0 < xs.length ∧ Kept w.heap.size [br, gx] w w') (Kept w.heap.size [br, gx] w) (P12.rowF 16 P12.named P12.setOf r.l.length 0 r)) := by
 have hlg := (Array.getElem?_eq_some_iff.1 hgo).1
 have hlr := (Array.getElem?_eq_some_iff.1 hgr).1
 refine row_gath br 16 gx 40 85 12 mk setR stab_set (by decide) r w _ (rp br) (rp grb) (rp gx) 141 142 P12.named P12.setOf (by decide) h hgo h1 (.inl rfl) ent_named ent_update1 (fun r W hr _ => named_any br r W hr) (fun xs v r W hl hr hb hg hk hlt => ?_)
 refine (update1_any br gx grb (w.heap.size + 1) (mk v) v xs r W hr hb (hmk v) (hk.held hgr hlr (by simp; omega)) hg h1 h2 (by omega) (by omega) (by omega) hl hne).mono ?_
 intro e w' hp
 unfold RowPost at hp ⊢
 split at hp
 ·obtain ⟨p1, ⟨v', p2, p3, p4⟩, p5, p6⟩ := hp
  exact ⟨p1, ⟨v', by rw [p2, hmk2], p3, p4⟩, p5, p6⟩
 ·exact ⟨hp.1, Kept.of_turn hp.2 (by simp)⟩
theorem slc_one {α : Type} {S : Nat → Prop} {w : World} {sz : Nat} {R : α → List Value → Prop} {l : List α} {v : Value} (h : SlcAt S w sz R l v) : ∃ p n c, v = .slice p n c := by
 rcases h with ⟨-, rfl⟩ | ⟨g, c, us, rfl, -⟩
 ·exact ⟨_, _, _, rfl⟩
 ·exact ⟨_, _, _, rfl⟩
theorem update_any (br : Nat) (r : P12.R) (w : World) (h : Rd br r w) : Calls Tryz.prog 72 #[rp br] w (Got br w r (StmtV w) (P12.update r)) := by
 have HR := Lib.hid h
 have lr := h.lt
 clear h
 generalize hres : P12.update r = res
 have hE := hres
 simp only [P12.update, bind, Except.bind, pure, Except.pure] at hE
 have HE := Lib.hid hE
 clear hE hres
 have HM := Lib.hid fun W => made_any 6 W
 rw [if_neg (by decide)] at HM
 go_enter Tryz.func72, Tryz.ntmps72
 go_wp2_with fail
 go_at_call 76
 refine (HM.out _).mono ?_
 rintro e w1 ⟨rfl, hx1⟩
 go_wp2_with ((refine wpList_putRow rfl 40 _ _ rfl (w1.heap.size) _ _ 40 rfl rfl (heap_new w1 _) rfl (by kernel_rfl) (by kernel_rfl) ?_; intro w2 hp2); have F2 := Fq.start HR.out hx1 hp2; have c2 := F2.cbox)
 have hbx := F2.bx
 go_at_call 131
 refine (name_any br _ _ F2.rd).mono ?_
 intro e w3 h
 cases hn : P12.name r
 case error er =>
  rw [hn] at h
  have hE := HE.out
  rw [hn] at hE
  dsimp only at hE
  subst hE
  obtain ⟨rfl, ht⟩ := h
  simp only [faults]
  go_wp2
  exact ⟨rfl, rfl, F2.after ht⟩
 rename_i p
 rw [hn] at h HE
 dsimp only at HE
 obtain ⟨a, r3⟩ := p
 obtain ⟨_, rfl, rfl, ht, hr, hk⟩ := h
 have F3 := F2.step ht hr hk
 have c3 := F3.cell (o := 6) rfl
 have f3 := F3.free 6
 have F4 := F3.set 6 (bs a)
 have c4 := F4.cbox
 clear ht hr hk c2 F2 hp2 hx1
 have hW := F3.size
 go_wp2_with fail
 go_at_call 132
 refine (must_got br [83, 69, 84] r3 _ _ (F4.alloc _).rd (cell_at _ _ _ (by rw [World.size_setCell])) (by omega)).mono ?_
 intro e w5 h
 cases hn : P12.must [83, 69, 84] r3
 case error er =>
  rw [hn] at h
  have hE := HE.out
  rw [hn] at hE
  dsimp only at hE
  subst hE
  obtain ⟨rfl, ht⟩ := h
  simp only [faults]
  go_wp2
  exact ⟨rfl, rfl, (F4.alloc _).after ht⟩
 rename_i p
 rw [hn] at h HE
 dsimp only at HE
 rename P12.R => r5
 obtain ⟨rfl, ht, hr, hk⟩ := h
 have F5 := ((F4.alloc _).step ht hr hk).cells (c' := (stmtL 6 [] nilS nilS nilS nilS a [] false nilS nilS nilS noE nilS nilS noE nilS nilS 0).toArray) rfl
 have c5 := F5.cbox
 clear ht hr hk c4 F4 F3 c3 f3 hW
 go_wp2_with fail
 go_at_call 135
 refine (row_sets br w1.heap.size w.heap.size (fun v => (stmtL 6 [] nilS nilS nilS nilS a [] false nilS nilS v noE nilS nilS noE nilS nilS 0).toArray) (fun _ => rfl) (fun _ _ => rfl) r5 w5 F5.rd F5.box F5.blk (by omega) (by omega) (by have := F5.bx; omega)).mono ?_
 intro e w6 h
 cases hn : P12.rowF 16 P12.named P12.setOf r5.l.length 0 r5
 case error er =>
  rw [hn] at h
  have hE := HE.out
  rw [hn] at hE
  dsimp only at hE
  subst hE
  obtain ⟨rfl, ht⟩ := h
  simp only [faults]
  go_wp2
  exact ⟨rfl, rfl, F5.rowAfter ht⟩
 rename_i p
 rw [hn] at h HE
 dsimp only at HE
 obtain ⟨xs, r6⟩ := p
 obtain ⟨rfl, ⟨v, hb, hs, hn6, hkt⟩, hr, hk⟩ := h
 obtain ⟨q1, q2, q3, rfl⟩ := slc_one hs
 have F6 := (F5.row hkt hb hr hk)
 have F7 := F6.add (stabP_slc stab_set 12 xs (.slice q1 q2 q3)) (stabP_slc stab_set 12 xs (.slice q1 q2 q3) _ _ _ _ hs (fun _ _ _ => rfl) (fun b hb _ => by have := F5.size; omega))
 have c7 := F7.cbox
 clear hkt hb hs hr hk c5 F5 F6
 go_wp2_with fail
 go_at_call 143
 refine (where_any br _ _ F7.rd).mono ?_
 intro e w8 h
 cases hn : P12.wher r6
 case error er =>
  rw [hn] at h
  have hE := HE.out
  rw [hn] at hE
  dsimp only at hE
  subst hE
  obtain ⟨rfl, ht⟩ := h
  simp only [faults]
  go_wp2
  exact ⟨rfl, rfl, F7.after ht⟩
 rename_i p
 rw [hn] at h HE
 dsimp only at HE
 obtain ⟨x, r8⟩ := p
 obtain ⟨_, rfl, ⟨l, rfl, he⟩, ht, hr, hk⟩ := h
 obtain ⟨kd, op', vk, vi, vs, tb, nm, pp, pm, pc, rfl⟩ := he.form
 have F8 := (F7.step ht hr hk).add (stabP_expr x _) (F7.up (stabP_expr x _) he)
 have hb8 := F8.blk
 clear ht hr hk he c7
 go_wp2_with (first | ((refine wpList_putMid rfl 35 _ _ rfl (w1.heap.size) (12) _ _ 40 rfl rfl (hb8) ((by simp)) ((by kernel_rfl)) ((by kernel_rfl)) ?_; intro w9 hp9); have F9 := (F8.puts hp9).cells (c' := (stmtL 6 [] nilS nilS nilS nilS a [] false nilS nilS (.slice q1 q2 q3) (exprL kd op' vk vi vs tb nm (.slice pp pm pc)) nilS nilS noE nilS nilS 0).toArray) (by kernel_rfl); have hb9 := F9.blk; have hz9 := F9.zero) | (refine wpList_loadRow rfl 40 _ rfl (w1.heap.size) _ 40 (0, 0) _ rfl (hb9) Tryz.underlying40 rfl ((by kernel_rfl)) ?_) | (refine wpList_putRow rfl 40 _ _ rfl ((w.heap.size + 1)) _ _ 40 rfl rfl (hz9) ((by kernel_rfl)) ((by kernel_rfl)) ((by kernel_rfl)) ?_; intro w10 hp10))
 refine bodyPost_ret (results_row (fn := Tryz.f72) rfl rfl hp10.blk Tryz.underlying40 rfl (by kernel_rfl)) rfl ?_
 have hE := HE.out
 subst hE
 refine Fq.finish F9 hp10 (fun ⟨⟨_, hs⟩, hx⟩ => ?_)
 exact ⟨nilS, nilS, nilS, nilS, nilS, nilS, _, _, nilS, nilS, noE, nilS, nilS, rfl, SlcAt.nil _ _ _ _, SlcAt.nil _ _ _ _, SlcAt.nil _ _ _ _, SlcAt.nil _ _ _ _, SlcAt.nil _ _ _ _, SlcAt.nil _ _ _ _, hs, hx, SlcAt.nil _ _ _ _, SlcAt.nil _ _ _ _, rfl, SlcAt.nil _ _ _ _, SlcAt.nil _ _ _ _⟩
theorem writeAt_list : ∀ (vs : List Value) (o : Nat) (c : Array Value), o + vs.length ≤ c.size → (writeAt c o vs).toList = c.toList.take o ++ vs ++ c.toList.drop (o + vs.length)
 | [], o, c, h => by simp [writeAt]
 | v :: vs, o, c, h => by
  simp only [List.length_cons] at h
  rw [writeAt, writeAt_list vs (o + 1) _ (by simp; omega)]
  have h1 : o < c.toList.length := by simp; omega
  simp only [Array.toList_setIfInBounds, List.length_cons]
  rw [List.take_add_one, List.getElem?_set_self h1, List.take_set_of_le (Nat.le_refl _), List.drop_set_of_lt (by omega)]
  simp [Nat.add_assoc, Nat.add_comm 1]
theorem Gath.putLast {α : Type} {B : Nat} {e : TypeId} {sz : Nat} {R : (Nat → Prop) → World → α → List Value → Prop} {xs : List α} {x0 x : α} {z cz : Nat} {w w' : World} {cur : Array Value} {l : List Value} (hR : Stab R)
  (h : Gath B e sz R (xs ++ [x0]) (.slice (some ⟨z, 0, none⟩) (xs.length + 1) cz) w) (hc : w.heap[z]? = some (.cells cur e)) (hp : Puts z (writeAt cur (xs.length * sz) l) e w w') (hl : l.length = sz)
  (hx : R (fun b => B ≤ b ∧ ¬ z = b) w x l) : Gath B e sz R (xs ++ [x]) (.slice (some ⟨z, 0, none⟩) (xs.length + 1) cz) w' := by
 obtain ⟨us, h1, h2, h3, h4⟩ := h
 have hS : ∀ b, (B ≤ b ∧ ¬ (Value.slice (some ⟨z, 0, none⟩) (xs.length + 1) cz).ownBlock = some b) → w'.heap[b]? = w.heap[b]? := fun b hb => hp.rest b (fun e => hb.2 (by simp [Value.ownBlock, e]))
 rw [List.length_append, List.length_singleton] at h1 h2
 obtain ⟨ul, uz, rfl⟩ : ∃ a b, us = a ++ [b] := ⟨us.dropLast, us.getLast (fun e => by simp [e] at h2), (List.dropLast_concat_getLast _).symm⟩
 rw [List.length_append, List.length_singleton] at h2
 have hul : ul.length = xs.length := by omega
 have huz : uz.length = sz := h3 uz (by simp)
 have hfl : ∀ (L : List (List Value)), (∀ u ∈ L, u.length = sz) → L.flatten.length = L.length * sz := fun L => by
  induction L with
  | nil => simp
  | cons a L ih =>
   intro hL
   simp only [List.flatten_cons, List.length_append, List.length_cons]
   rw [ih (fun u hu => hL u (by simp [hu])), hL a (by simp), Nat.succ_mul, Nat.add_comm]
 have hful := hfl ul (fun u hu => h3 u (by simp [hu]))
 rw [hul] at hful
 refine ⟨ul ++ [l], ?_, by simp [hul], fun u hu => ?_, fun j y u hy hu => ?_⟩
 ·rw [List.length_append, List.length_singleton]
  refine ⟨by simp [hful, hl, Nat.succ_mul], ?_⟩
  rcases h1.2 with ⟨hv, -⟩ | ⟨g, cap, cur', hv, h5, h6, h7, h8, h9, h10⟩
  ·cases hv
  ·cases hv
   obtain rfl : cur' = cur := by rw [hc] at h6; cases h6; rfl
   refine .inr ⟨z, cz, _, rfl, h5, hp.blk, h7, h8, by rw [writeAt_size]; exact h9, ?_⟩
   have hle : xs.length * sz + sz ≤ cur'.size := by
    rw [h9]
    calc xs.length * sz + sz = (xs.length + 1) * sz := by rw [Nat.succ_mul]
     _ ≤ cz * sz := Nat.mul_le_mul_right _ h7
   rw [writeAt_list _ _ _ (by omega), hl]
   have ht : cur'.toList.take (xs.length * sz) = ul.flatten := by
    have := congrArg (List.take (xs.length * sz)) h10
    rw [List.take_take, Nat.min_eq_left (by rw [Nat.succ_mul]; omega), List.flatten_append, List.take_left' hful] at this
    exact this
   rw [ht, Nat.succ_mul, List.append_assoc, List.take_append, hful, List.take_of_length_le (by omega), Nat.add_sub_cancel_left, List.take_left' hl]
   simp
 ·rcases List.mem_append.1 hu with hu | hu
  ·exact h3 u (by simp [hu])
  ·rw [List.mem_singleton.1 hu]; exact hl
 ·rcases Nat.lt_or_ge j xs.length with hj | hj
  ·rw [List.getElem?_append_left hj] at hy
   rw [List.getElem?_append_left (by omega)] at hu
   exact hR _ _ _ _ _ _ (h4 j y u (by rw [List.getElem?_append_left hj]; exact hy) (by rw [List.getElem?_append_left (by omega)]; exact hu)) (fun b hb _ => hS b hb) (fun b hb _ => hb)
  ·rw [List.getElem?_append_right hj] at hy
   rw [List.getElem?_append_right (by omega), hul] at hu
   obtain ⟨rfl, rfl⟩ : x = y ∧ l = u := by
    rcases hj0 : j - xs.length with _ | k
    ·rw [hj0] at hy hu
     simp at hy hu
     exact ⟨hy, hu⟩
    ·rw [hj0] at hy
     simp at hy
   exact hR _ _ _ _ _ _ hx (fun b hb _ => hp.rest b (fun e => hb.2 e.symm)) (fun b hb _ => ⟨hb.1, fun e => hb.2 (by simpa [Value.ownBlock] using e)⟩)
theorem Tryz.infoExpr10 : (Tryz.prog.info? 35).map (fun i => (i.zero, i.size, i.bytes)) = some (some (.agg noE.toArray), 10, 120) := by kernel_rfl
theorem cells_blk {g : Nat} {W : World} {l : List Value} {T : TypeId} (h : W.heap[g]? = some (.cells l.toArray T)) (j : Nat) (u : Value) (hu : l[j]? = some u) : W.cell? ⟨g, 0 + j, none⟩ = some u := by
 unfold World.cell?
 rw [h]
 simpa using hu
theorem Kept.of_puts {B z : Nat} {ks : List Nat} {c : Array Value} {T : TypeId} {w w' : World} (hp : Puts z c T w w') (hz : B ≤ z) : Kept B ks w w' :=
 ⟨hp.os, hp.tape, hp.output, Nat.le_of_eq hp.size.symm, fun b hb _ _ => hp.rest b (by omega)⟩
def newE (w : World) (u : Value) (W : World) : Prop := ∃ g, u = .slice (some ⟨g, 0, none⟩) 1 1 ∧ w.heap.size ≤ g ∧ W.heap[g]? = some (.cells noE.toArray 35)
theorem newE.turn {br : Nat} {w : World} (hb : br < w.heap.size) : ∀ u W W', Turn br W W' → newE w u W → newE w u W' := by
 rintro u W W' ht ⟨g, rfl, hg, hc⟩
 exact ⟨g, rfl, hg, ht.held hc (by omega)⟩
def gotE (br : Nat) (w : World) (r : P12.R) (e : P12.E) (r1 : P12.R) (u : Value) (W : World) : Prop := ∃ l, u = .agg l.toArray ∧ ExprAt (fun b => w.heap.size ≤ b) W e l ∧ Rd br r1 W ∧ P12.Keeps r r1
theorem gotE.ext {br : Nat} {w : World} {r : P12.R} {e : P12.E} {r1 : P12.R} : ∀ u W W', Xk.Ext W W' → gotE br w r e r1 u W → gotE br w r e r1 u W' := by
 rintro u W W' hx ⟨l, rfl, h1, h2, h3⟩
 exact ⟨l, rfl, h1.keep (fun b _ hl => hx.block b hl) (fun b hb _ => hb), h2.ext hx, h3⟩
theorem exprs1_any (br gr grb B : Nat) (v : Value) (xs : List P12.E) (r : P12.R) (w : World) (h : Rd br r w) (hbx : w.heap[gr]? = some (.cells #[v] 25)) (hrb : w.heap[grb]? = some (.cells #[rp br] 67))
  (hg : Gath B 35 10 exprR xs v w) (h1 : br < gr) (h2 : br < grb) (h3 : gr < B) (h4 : grb < B) (h5 : B ≤ w.heap.size) (h6 : xs.length ≤ 100000) (hne : grb ≠ gr) :
  Calls Tryz.prog 139 #[rp gr, rp grb] w (RowPost br r (fun x w' => ∃ v', w'.heap[gr]? = some (.cells #[v'] 25) ∧ Gath B 35 10 exprR (xs ++ [x]) v' w' ∧ Kept B [br, gr] w w') (Turn br w) (P12.expr r)) := by
 have HR := Lib.hid h
 have lr := h.lt
 have hg1 : w.cell? ⟨gr, 0, none⟩ = some v := by simp [World.cell?, hbx]
 have hg2 : w.cell? ⟨grb, 0, none⟩ = some (rp br) := by simp [World.cell?, hrb]
 have G1 := Lib.hid hg1
 have G2 := Lib.hid hg2
 have HB := Lib.hid hbx
 have HG := Lib.hid hg
 clear h hbx hrb hg1 hg2
 obtain ⟨q1, c1, rfl⟩ : ∃ q c, v = .slice q xs.length c := by
  obtain ⟨us, ho, -⟩ := hg
  rcases ho.2 with ⟨rfl, h0⟩ | ⟨g, cap, cur, rfl, -⟩
  ·exact ⟨none, 0, by rw [h0]⟩
  ·exact ⟨_, _, rfl⟩
 clear hg
 obtain ⟨i0, hi, hz0, hz1, hz2⟩ := infoParts Tryz.infoExpr10
 have Hi := Lib.hid hi
 have Hz0 := Lib.hid hz0
 have Hz1 := Lib.hid hz1
 have Hz2 := Lib.hid hz2
 clear hi hz0 hz1 hz2
 rcases hn : P12.expr r with er | ⟨x, r1⟩
 ·go_enter Tryz.func139, Tryz.ntmps139
  go_wp2
  refine Xg.wp_region_rel_any (E := Turn br) (Xe.pre_ES _) (fun ch W => Ending.panicked ch = faults er ∧ Turn br w W) 2 5 (fun _ => none) (fun _ _ h => by cases h) (fun _ _ _ _ h => by cases h) [(2, fun _ _ => False), (4, newE w)] (by kernel_rfl) (by kernel_rfl) (Xg.stable_one ((by
     intro y hy
     simp only [List.mem_cons, List.not_mem_nil, or_false] at hy
     rcases hy with rfl | rfl
     ·rw [if_pos rfl]; exact fun _ _ _ _ h => h
     ·rw [if_neg (show ¬ (4 = 2) by decide)]; exact newE.turn lr))) ((fun ch a w' hd hX => by exact ⟨hd, hX.1, hX.2⟩)) 4 rfl ?_
  simp only [List.take_succ_cons, List.take_zero, List.drop_succ_cons, List.drop_zero]
  (refine Xg.rel_det (Xk.wanted_none (by rfl)) (by rfl) (fun K hK => ?_); apply Exists.intro; refine ⟨fun W hx hp => ?_, ?_⟩; (have c := hx.cell (show w.drew.cell? ⟨gr, 0, none⟩ = some (.slice q1 xs.length c1) from G1.out) (by omega); go_simp; first | exact ⟨rfl, rfl⟩ | ((try refine ⟨by kernel_rfl, ?_⟩); (fail))); (go_simp; refine hK _ ?_; clear hK K))
  (refine Xg.rel_det (Xk.wanted_none (by rfl)) (by rfl) (fun K hK => ?_); apply Exists.intro; refine ⟨fun W hx hp => ?_, ?_⟩; (have c := hx.cell (show w.drew.cell? ⟨grb, 0, none⟩ = some (rp br) from G2.out) (by omega); go_simp; first | exact ⟨rfl, rfl⟩ | ((try refine ⟨by kernel_rfl, ?_⟩); (fail))); (go_simp; refine hK _ ?_; clear hK K))
  (refine Xg.rel_loud (by rfl) (by rfl) rfl (fun W hx hp => ?_) (fun u K hK => ?_); (go_simp; ((refine (expr_any br r _ (HR.out.drew.ext hx)).mono ?_); intro e w2 h; rw [hn] at h; obtain ⟨h1, h2⟩ := h; exact Or.inr ⟨_, h1, by exact ⟨rfl, (Turn.drew (Turn.refl _ _)).trans ((Turn.of_ext hx).trans h2)⟩⟩)); (go_simp; refine hK _ ?_; clear hK K))
  refine Xg.gs ?_
  (refine Xg.rel_make (by rfl) (by rfl) (by decide) (fun W hx hp => ?_) (fun u2 K hK => ?_); ((go_simp; exact ⟨(Below.refl _ _).alloc (Nat.le_refl _) _, ⟨W.heap.size, rfl, by simpa using hx.size, heap_new W _⟩, fun b hb => by cases hb; exact ⟨.inr (Nat.le_refl _), by simp⟩⟩)); (go_simp; refine hK _ ?_; clear hK K))
  refine Xg.rel_nil (fun W hx hp hg => ?_)
  exact hp.2.1.elim
 ·go_enter Tryz.func139, Tryz.ntmps139
  go_wp2
  refine Xg.wp_region_rel_any (E := Turn br) (Xe.pre_ES _) (fun ch W => False) 2 5 (fun _ => none) (fun _ _ h => by cases h) (fun _ _ _ _ h => by cases h) [(2, gotE br w r x r1), (4, newE w)] (by kernel_rfl) (by kernel_rfl) (Xg.stable_one ((by
     intro y hy
     simp only [List.mem_cons, List.not_mem_nil, or_false] at hy
     rcases hy with rfl | rfl
     ·rw [if_pos rfl]; exact gotE.ext
     ·rw [if_neg (show ¬ (4 = 2) by decide)]; exact newE.turn lr))) ((fun ch a w' hd hX => hX.elim)) 4 rfl ?_
  simp only [List.take_succ_cons, List.take_zero, List.drop_succ_cons, List.drop_zero]
  (refine Xg.rel_det (Xk.wanted_none (by rfl)) (by rfl) (fun K hK => ?_); apply Exists.intro; refine ⟨fun W hx hp => ?_, ?_⟩; (have c := hx.cell (show w.drew.cell? ⟨gr, 0, none⟩ = some (.slice q1 xs.length c1) from G1.out) (by omega); go_simp; first | exact ⟨rfl, rfl⟩ | ((try refine ⟨by kernel_rfl, ?_⟩); (fail))); (go_simp; refine hK _ ?_; clear hK K))
  (refine Xg.rel_det (Xk.wanted_none (by rfl)) (by rfl) (fun K hK => ?_); apply Exists.intro; refine ⟨fun W hx hp => ?_, ?_⟩; (have c := hx.cell (show w.drew.cell? ⟨grb, 0, none⟩ = some (rp br) from G2.out) (by omega); go_simp; first | exact ⟨rfl, rfl⟩ | ((try refine ⟨by kernel_rfl, ?_⟩); (fail))); (go_simp; refine hK _ ?_; clear hK K))
  (refine Xg.rel_loud (by rfl) (by rfl) rfl (fun W hx hp => ?_) (fun u K hK => ?_); (go_simp; ((refine (expr_any br r _ (HR.out.drew.ext hx)).mono ?_); intro e w2 h; rw [hn] at h; obtain ⟨v', rfl, ⟨l, rfl, he⟩, h1, h2, h3⟩ := h; exact Or.inl ⟨_, rfl, h1, ⟨l, rfl, he.mono (fun b hb _ => Nat.le_trans hx.size hb), h2, h3⟩, fun b hb => by cases hb⟩)); (go_simp; refine hK _ ?_; clear hK K))
  refine Xg.gs ?_
  (refine Xg.rel_make (by rfl) (by rfl) (by decide) (fun W hx hp => ?_) (fun u2 K hK => ?_); ((go_simp; exact ⟨(Below.refl _ _).alloc (Nat.le_refl _) _, ⟨W.heap.size, rfl, by simpa using hx.size, heap_new W _⟩, fun b hb => by cases hb; exact ⟨.inr (Nat.le_refl _), by simp⟩⟩)); (go_simp; refine hK _ ?_; clear hK K))
  refine Xg.rel_nil (fun W hx hp hg => ?_)
  obtain ⟨⟨g, rfl, hge, hgc⟩, ⟨l, rfl, he, hr1, hk1⟩, -⟩ := hp
  have hx' : Turn br w W := (Turn.drew (Turn.refl _ _)).trans hx
  have hsz := hx'.size
  have HGW := Lib.hid (HG.out.turn stab_expr hx' (by omega))
  have hbW := hx'.held HB.out (by omega)
  obtain ⟨us, hown, hu2, hu3, hu4⟩ := HGW.out
  have HU := Lib.hid hu4
  have hlt := hown.lt
  clear hu4 hx hg
  refine Xg.any_one (k := 5) (by kernel_rfl) rfl ?_
  refine Xo.wpList_appb B rfl _ _ 25 rfl 35 i0 _ 10 120 Tryz.underlying25 Hi.out Hz0.out Hz1.out Hz2.out rfl (by decide) (.slice q1 xs.length c1) xs.length us.flatten rfl hown g 0 1 1 noE rfl (by decide) rfl (cells_blk hgc) (one_all (by kernel_rfl)) (by omega) (by omega) ?_
  intro v' w7 ho' hg' hk'
  obtain ⟨z, cz, rfl⟩ := ownForm ho' (by omega)
  have HG7 := Lib.hid (Gath.push (x := P12.E.none) stab_expr hu2 hu3 HU.out hg' ho' hk' rfl rfl)
  have HB7 := Lib.hid ((hg'.block gr (by omega) (fun e => by have := (hlt gr e.symm).1; omega)).trans hbW)
  have hown0 := HG.out.lt
  have HE7 := Lib.hid (he.keep (S' := fun b => w.heap.size ≤ b ∧ b < W.heap.size) (w' := w7) (fun b hb hl => hg'.block b hl (fun e => by have := (hown0 b e.symm).2; omega)) (fun b hb hl => ⟨hb, hl⟩))
  have HR7 := Lib.hid (hr1.grown hg' (fun b hb => by have := (hlt b hb).1; omega))
  have HK7 := Lib.hid ((Kept.of_turn (B := B) (ks := [br, gr]) hx' (by simp)).grown hg' (fun b hb => (hlt b hb).1))
  have hzB : B ≤ z ∧ z < w7.heap.size := ho'.lt z rfl
  have hzW : ∀ b, w.heap.size ≤ b → b < W.heap.size → ¬ z = b := fun b h1 h2 e => by
   subst e
   rcases hk' z rfl with h | h
   ·have := (hown0 z h).2; omega
   ·omega
  obtain ⟨cur, hcur, hcs⟩ : ∃ cur, w7.heap[z]? = some (.cells cur 35) ∧ xs.length * 10 + 10 ≤ cur.size := by
   rcases ho'.2 with ⟨hv, -⟩ | ⟨g, cap, cur, hv, -, h6, h7, h8, h9, -⟩
   ·cases hv
   ·cases hv; exact ⟨cur, h6, by omega⟩
  have HC7 := Lib.hid hcur
  have hb7 : w7.cell? ⟨gr, 0, none⟩ = some (.slice q1 xs.length c1) := by simp [World.cell?, HB7.out]
  have f7 := frozen_of_row w7 gr 0 _ _ HB7.out
  clear ho' hg' hk' hlt hown hu2 hu3 HU us HGW hbW hx' hgc hge hr1 he hcur
  show wpAny _ _ _ _ _ _ _ _
  obtain ⟨kd, op', vk, vi, vs, tb, nm, pp, pm, pc, rfl⟩ := HE7.out.form
  refine Xg.any_two (j := 6) (k := 8) (by kernel_rfl) rfl rfl ?_ ?_
  ·go_wp2
   show wpAny _ _ _ _ _ _ _ _
   refine Xg.any_two (j := 7) (k := 8) (by kernel_rfl) rfl rfl ?_ ?_
   ·refine wpList_putMid rfl 35 _ _ rfl z (xs.length * 10) cur _ 35 rfl rfl HC7.out hcs (by kernel_rfl) (by kernel_rfl) ?_
    intro w8 hp8
    show wpAny _ _ _ _ _ _ _ _
    have hB8 := (hp8.rest gr (by omega)).trans HB7.out
    have hb8 : w8.cell? ⟨gr, 0, none⟩ = some (.slice q1 xs.length c1) := by simp [World.cell?, hB8]
    have f8 := frozen_of_row w8 gr 0 _ _ hB8
    have HG8 := Lib.hid ((Gath.putLast stab_expr HG7.out HC7.out hp8 rfl (HE7.out.keep (fun _ _ _ => rfl) (fun b hb _ => ⟨by omega, hzW b hb.1 hb.2⟩))).set stab_expr h3 0 (.slice (some ⟨z, 0, none⟩) (xs.length + 1) cz))
    have HX8 := Lib.hid hB8
    have HP8 := Lib.hid hp8
    clear hB8 hp8
    refine Xg.any_one (k := 8) (by kernel_rfl) rfl ?_
    go_wp2
    show wpAny _ _ _ _ _ _ _ _
    refine Xg.any_nil (by kernel_rfl) ?_
    go_end0
    exact ⟨rfl, ⟨_, (by rw [heap_setCell_same w8 gr 0 _ _ _ HX8.out]; simp), HG8.out, ((HK7.out.trans (Kept.of_puts HP8.out hzB.1)).setCell (.inr (.inl (by simp))) _ _)⟩, Rd.setCell (Puts.rd HP8.out HR7.out (by omega)) h1 _ _, hk1⟩
   ·go_wp2
    show wpAny _ _ _ _ _ _ _ _
    refine Xg.any_one (k := 7) (by kernel_rfl) rfl ?_
    refine wpList_putMid rfl 35 _ _ rfl z (xs.length * 10) cur _ 35 rfl rfl ((heap_setCell_other w7 ⟨gr, 0, none⟩ z _ (fun e => by (have h : z = gr := (by simpa using e)); omega)).trans HC7.out) hcs (by kernel_rfl) (by kernel_rfl) ?_
    intro w8 hp8
    show wpAny _ _ _ _ _ _ _ _
    refine Xg.any_nil (by kernel_rfl) ?_
    go_end0
    have hrst : ∀ b, b ≠ gr → (w7.setCell ⟨gr, 0, none⟩ (.slice (some ⟨z, 0, none⟩) (xs.length + 1) cz)).heap[b]? = w7.heap[b]? := fun b hb => heap_setCell_other w7 ⟨gr, 0, none⟩ b _ (fun e => hb (by simpa using e))
    exact ⟨rfl, ⟨_, ((hp8.rest gr (by omega)).trans (by rw [heap_setCell_same w7 gr 0 _ _ _ HB7.out]; simp)), Gath.putLast stab_expr (HG7.out.set stab_expr h3 0 _) ((hrst z (by omega)).trans HC7.out) hp8 rfl (HE7.out.keep (fun b hb hl => hrst b (by omega)) (fun b hb _ => ⟨by omega, hzW b hb.1 hb.2⟩)), ((HK7.out.setCell (.inr (.inl (by simp))) _ _).trans (Kept.of_puts hp8 hzB.1))⟩, Puts.rd hp8 (Rd.setCell HR7.out h1 _ _) (by omega), hk1⟩
  ·go_wp2
   show wpAny _ _ _ _ _ _ _ _
   refine Xg.any_one (k := 6) (by kernel_rfl) rfl ?_
   go_wp2
   show wpAny _ _ _ _ _ _ _ _
   refine Xg.any_one (k := 7) (by kernel_rfl) rfl ?_
   refine wpList_putMid rfl 35 _ _ rfl z (xs.length * 10) cur _ 35 rfl rfl ((heap_setCell_other w7 ⟨gr, 0, none⟩ z _ (fun e => by (have h : z = gr := (by simpa using e)); omega)).trans HC7.out) hcs (by kernel_rfl) (by kernel_rfl) ?_
   intro w8 hp8
   show wpAny _ _ _ _ _ _ _ _
   refine Xg.any_nil (by kernel_rfl) ?_
   go_end0
   have hrst : ∀ b, b ≠ gr → (w7.setCell ⟨gr, 0, none⟩ (.slice (some ⟨z, 0, none⟩) (xs.length + 1) cz)).heap[b]? = w7.heap[b]? := fun b hb => heap_setCell_other w7 ⟨gr, 0, none⟩ b _ (fun e => hb (by simpa using e))
   exact ⟨rfl, ⟨_, ((hp8.rest gr (by omega)).trans (by rw [heap_setCell_same w7 gr 0 _ _ _ HB7.out]; simp)), Gath.putLast stab_expr (HG7.out.set stab_expr h3 0 _) ((hrst z (by omega)).trans HC7.out) hp8 rfl (HE7.out.keep (fun b hb hl => hrst b (by omega)) (fun b hb _ => ⟨by omega, hzW b hb.1 hb.2⟩)), ((HK7.out.setCell (.inr (.inl (by simp))) _ _).trans (Kept.of_puts hp8 hzB.1))⟩, Puts.rd hp8 (Rd.setCell HR7.out h1 _ _) (by omega), hk1⟩
theorem ent_begins : Ent 145 := ⟨fun _ _ => by go_simp, by decide⟩
theorem ent_exprs1 : Ent 139 := ⟨fun _ _ => by go_simp, by decide⟩
theorem exprs_of {α : Type} (br : Nat) (r : P12.R) (w : World) (rv : Value) (J : α → World → Prop) (Z : World → Prop) (res : Except P12.Er (α × P12.R))
  (h : Calls Tryz.prog 135 #[rp br, .int .i64 16, .func (.func 145) #[rp br] #[], rv] w (RowPost br r J Z res)) :
  Calls Tryz.prog 138 #[rp br, rv] w (RowPost br r J Z res) := by
 have H := Lib.hid h
 clear h
 rcases res with er | ⟨x, r'⟩
 ·go_enter Tryz.func138, Tryz.ntmps138
  go_wp2_with fail
  go_at_call 135
  refine H.out.mono ?_
  intro e w1 h
  obtain ⟨rfl, hz⟩ := h
  simp only [faults]
  go_wp2
  exact ⟨rfl, rfl, hz⟩
 ·go_enter Tryz.func138, Tryz.ntmps138
  go_wp2_with fail
  go_at_call 135
  refine H.out.mono ?_
  intro e w1 h
  obtain ⟨rfl, hz⟩ := h
  go_wp2
  go_end0
  exact ⟨rfl, hz⟩
theorem exprs_rows (br gr grb : Nat) (r : P12.R) (w : World) (h : Rd br r w) (hgr : w.heap[grb]? = some (.cells #[rp br] 67)) (hgo : w.heap[gr]? = some (.cells #[nilS] 25)) (h1 : br < gr) (h2 : br < grb) (hne : grb ≠ gr) :
  Calls Tryz.prog 138 #[rp br, .func (.func 139) #[] #[rp gr, rp grb]] w
   (RowPost br r (fun xs w' => ∃ v, w'.heap[gr]? = some (.cells #[v] 25) ∧ SlcAt (fun b => w.heap.size < b) w' 10 (exprR (fun b => w.heap.size < b) w') xs v ∧ 0 < xs.length ∧ Kept w.heap.size [br, gr] w w') (Kept w.heap.size [br, gr] w) (P12.exprs P12.expr r)) := by
 have hlg := (Array.getElem?_eq_some_iff.1 hgo).1
 have hlr := (Array.getElem?_eq_some_iff.1 hgr).1
 unfold P12.exprs
 refine exprs_of br r w _ _ _ _ (row_gath br 16 gr 25 35 10 (fun v => #[v]) exprR stab_expr (by decide) r w _ (rp br) (rp gr) (rp grb) 145 139 P12.begins P12.expr (by decide) h hgo (by omega) (.inl rfl) ent_begins ent_exprs1 (fun r W hr _ => begins_any br r W hr) (fun xs v r W hl hr hb hg hk hlt => ?_))
 refine (exprs1_any br gr grb (w.heap.size + 1) v xs r W hr hb (hk.held hgr hlr (by simp; omega)) hg h1 h2 (by omega) (by omega) (by omega) hl hne).mono ?_
 intro e w' hp
 unfold RowPost at hp ⊢
 split at hp
 ·exact hp
 ·exact ⟨hp.1, Kept.of_turn hp.2 (by simp)⟩
theorem Tryz.infoExprs : (Tryz.prog.info? 25).map (fun i => (i.zero, i.size, i.bytes)) = some (some nilS, 1, 24) := by kernel_rfl
theorem insert2_any (br gx grb B : Nat) (c : Array Value) (v : Value) (xs : List (List P12.E)) (r : P12.R) (w : World) (h : Rd br r w) (hx : w.heap[gx]? = some (.cells c 40)) (hc : c[10]? = some v) (hrb : w.heap[grb]? = some (.cells #[rp br] 67))
  (hg : Gath B 25 1 rowR xs v w) (h1 : br < gx) (h2 : br < grb) (h3 : gx < B) (h4 : grb < B) (h5 : B ≤ w.heap.size) (h6 : xs.length ≤ 100000) (hne : grb ≠ gx) :
  Calls Tryz.prog 137 #[rp grb, rp gx] w (RowPost br r (fun x w' => ∃ v', w'.heap[gx]? = some (.cells (c.setIfInBounds 10 v') 40) ∧ Gath B 25 1 rowR (xs ++ [x]) v' w' ∧ Kept B [br, gx] w w') (Turn br w) (P12.valuesRow r)) := by
 have HR := Lib.hid h
 have lr := h.lt
 clear h
 generalize hres : P12.valuesRow r = res
 have hE := hres
 simp only [P12.valuesRow, bind, Except.bind, pure, Except.pure] at hE
 have HE := Lib.hid hE
 clear hE hres
 have c0 : w.cell? ⟨grb, 0, none⟩ = some (rp br) := by simp [World.cell?, hrb]
 have hlr := (Array.getElem?_eq_some_iff.1 hrb).1
 have hlx := (Array.getElem?_eq_some_iff.1 hx).1
 go_enter Tryz.func137, Tryz.ntmps137
 go_wp2_with fail
 go_at_call 132
 refine (must_got br [40] r _ _ (rdx (HR.out)) (cell_at _ _ _ (by simp only [World.size_alloc])) (by omega)).mono ?_
 intro e w1 h
 cases hn : P12.must [40] r
 case error er =>
  rw [hn] at h
  have hE := HE.out
  rw [hn] at hE
  dsimp only at hE
  subst hE
  obtain ⟨rfl, ht⟩ := h
  simp only [faults]
  go_wp2
  exact ⟨rfl, rfl, Turn.trans (tu trivial) ht⟩
 rename_i p
 rw [hn] at h HE
 dsimp only at HE
 rename P12.R => r1
 obtain ⟨rfl, ht1, hr1, hk1⟩ := h
 have hT1 : Turn br w w1 := Turn.trans (tu trivial) ht1
 have hb1 := ht1.held ((Turn.alloc (Turn.refl br (w.alloc (.cells #[nilS] 25))) _).held (heap_new w _) (by omega)) (by omega)
 have hl1 := ht1.size
 simp only [World.size_alloc] at hl1
 have hrb1 := hT1.held hrb (by omega)
 have c1 : w1.cell? ⟨grb, 0, none⟩ = some (rp br) := by simp [World.cell?, hrb1]
 clear ht1 c0
 go_wp2_with fail
 go_at_call 138
 refine (exprs_rows br w.heap.size grb r1 w1 hr1 hrb1 hb1 (by omega) h2 (by omega)).mono ?_
 intro e w2 h
 cases hn : P12.exprs P12.expr r1
 case error er =>
  rw [hn] at h
  have hE := HE.out
  rw [hn] at hE
  dsimp only at hE
  subst hE
  obtain ⟨rfl, ht⟩ := h
  simp only [faults]
  go_wp2
  exact ⟨rfl, rfl, ht.at_end hT1 (Nat.le_refl _)⟩
 rename_i p
 rw [hn] at h HE
 dsimp only at HE
 obtain ⟨es, r2⟩ := p
 obtain ⟨rfl, ⟨v2, hb2, hs2, hn2, hK2⟩, hr2, hk2⟩ := h
 obtain ⟨q1, q2, q3, rfl⟩ := slc_one hs2
 have hrb2 := hK2.held hrb1 (by omega) (by simp; omega)
 have c2 : w2.cell? ⟨grb, 0, none⟩ = some (rp br) := by simp [World.cell?, hrb2]
 have hl2 := hK2.size
 have hT2 := hK2.at_end hT1 (Nat.le_refl _)
 clear hK2 hb1 hrb1 c1
 go_wp2_with fail
 go_at_call 132
 refine (must_got br [41] r2 _ _ (rdx (hr2)) (cell_at _ _ _ rfl) (by omega)).mono ?_
 intro e w3 h
 cases hn : P12.must [41] r2
 case error er =>
  rw [hn] at h
  have hE := HE.out
  rw [hn] at hE
  dsimp only at hE
  subst hE
  obtain ⟨rfl, ht⟩ := h
  simp only [faults]
  go_wp2
  exact ⟨rfl, rfl, Turn.trans (Turn.alloc hT2 _) ht⟩
 rename_i p
 rw [hn] at h HE
 dsimp only at HE
 rename P12.R => r3
 obtain ⟨rfl, ht3, hr3, hk3⟩ := h
 have hl3 := ht3.size
 simp only [World.size_alloc] at hl3
 have hb3 := ht3.held ((Turn.alloc (Turn.refl br w2) _).held hb2 (by omega)) (by omega)
 have hT3 := Turn.trans (Turn.alloc hT2 _) ht3
 have hs3 := hs2.keep (S' := fun b => w1.heap.size < b ∧ b < w2.heap.size) (w' := w3) (R' := exprR (fun b => w1.heap.size < b ∧ b < w2.heap.size) w3) (fun b hb hl => (ht3.block (by rw [World.size_alloc]; omega) (by omega)).trans (((Below.refl _ _).alloc (Nat.le_refl _) _ : Below w2.heap.size w2 (w2.alloc _)).block b hl)) (fun b hb hl => ⟨hb, hl⟩) (fun e u h => h.keep (fun b hb hl => (ht3.block (by rw [World.size_alloc]; omega) (by omega)).trans (((Below.refl _ _).alloc (Nat.le_refl _) _ : Below w2.heap.size w2 (w2.alloc _)).block b hl)) (fun b hb hl => ⟨hb, hl⟩))
 have hx3 := hT3.held hx (by omega)
 have c3 : w3.cell? ⟨w.heap.size, 0, none⟩ = some (.slice q1 q2 q3) := by simp [World.cell?, hb3]
 have c4 : w3.cell? ⟨gx, 10, none⟩ = some v := by simp [World.cell?, hx3, hc]
 obtain ⟨us, hown, hu2, hu3, hu4⟩ := hg
 have HO := Lib.hid hown
 have HU := Lib.hid hu4
 have hlt := hown.lt
 clear hown hu4 ht3 hT2 hs2 hb2 c2 hrb2
 obtain ⟨i0, hi, hz0, hz1, hz2⟩ := infoParts Tryz.infoExprs
 have Hi := Lib.hid hi
 have Hz0 := Lib.hid hz0
 have Hz1 := Lib.hid hz1
 have Hz2 := Lib.hid hz2
 clear hi hz0 hz1 hz2
 go_wp2_with (at_builtin; refine Xo.wpList_appb B rfl _ _ 30 rfl 25 i0 _ 1 24 Tryz.underlying30 Hi.out Hz0.out Hz1.out Hz2.out rfl (by decide) v xs.length us.flatten rfl (own_turn HO.out (Turn.alloc hT3 _) (by omega)) w3.heap.size 0 1 1 [.slice q1 q2 q3] rfl (by decide) rfl (cells_list w3 _ _ rfl) (one_all (by kernel_rfl)) (by omega) (by rw [World.size_alloc]; omega) ?_; intro v' w7 ho' hg' hk'; obtain ⟨z, cz, rfl⟩ := ownForm ho' (by omega); have hx7 := (hg'.block gx (by rw [World.size_alloc]; omega) (fun e => by have := (hlt gx e.symm).1; omega)).trans ((Turn.alloc (Turn.refl br w3) _).held hx3 (by omega)); have c7 : w7.cell? ⟨gx, 10, none⟩ = some v := (by simp [World.cell?, hx7, hc]); have f7 := frozen_of_row w7 gx 10 _ _ hx7; have HO7 := Lib.hid ho'; have HG7 := Lib.hid hg'; have HK7 := Lib.hid hk'; have HX7 := Lib.hid hx7; clear ho' hg' hk' hx7)
 go_end0
 have hE := HE.out
 subst hE
 refine ⟨rfl, ⟨.slice (some ⟨z, 0, none⟩) (xs.length + 1) cz, ?_, ?_, ?_⟩, Rd.setCell ((hr3.alloc _).grown HG7.out (fun b hb => by have := (hlt b hb).1; omega)) h1 _ _, hk1.trans (hk2.trans hk3)⟩
 ·rw [heap_setCell_same w7 gx 10 _ _ _ HX7.out]
 ·have hal : ∀ b, b < w3.heap.size → (w3.alloc (.cells #[.slice q1 q2 q3] 25)).heap[b]? = w3.heap[b]? := fun b hl => ((Below.refl _ _).alloc (Nat.le_refl _) _ : Below w3.heap.size w3 (w3.alloc _)).block b hl
  refine (Gath.push stab_row hu2 hu3 (fun j x u hx hu => stab_row _ _ _ _ _ _ (HU.out j x u hx hu) (fun b hb hl => (Turn.alloc hT3 _).block hl (by omega)) (fun b hb _ => hb)) HG7.out HO7.out HK7.out rfl (stab_row _ _ _ _ _ _ ⟨_, rfl, hs3⟩ (fun b hb hl => hal b hl) (fun b hb _ => ⟨by omega, fun e => by have := (hlt b e).2; omega⟩))).set stab_row h3 _ _
 ·exact ((Kept.of_turn (Turn.alloc hT3 _) (by simp)).grown HG7.out (fun b hb => (hlt b hb).1)).setCell (.inr (.inl (by simp))) _ _
theorem ent_insert1 : Ent 136 := ⟨fun _ _ => by go_simp, by decide⟩
theorem ent_insert2 : Ent 137 := ⟨fun _ _ => by go_simp, by decide⟩
theorem insert1_any (br grb : Nat) (r : P12.R) (w : World) (h : Rd br r w) (hrb : w.heap[grb]? = some (.cells #[rp br] 67)) :
  Calls Tryz.prog 136 #[rp grb] w fun e w' => e = .returned (.bool (P12.isT [40] r)) ∧ Xk.Ext w w' := by
 have HI := Lib.hid (isT_any br r [40] w h)
 have c0 : w.cell? ⟨grb, 0, none⟩ = some (rp br) := by simp [World.cell?, hrb]
 clear h hrb
 go_enter Tryz.func136, Tryz.ntmps136
 go_wp2_with fail
 go_at_call 77
 refine HI.out.mono ?_
 rintro e w1 ⟨rfl, hx⟩
 go_wp2
 go_ret
 exact ⟨rfl, hx⟩
theorem row_values (br gx grb : Nat) (mk : Value → Array Value) (hmk : ∀ v, (mk v)[10]? = some v) (hmk2 : ∀ v v', (mk v).setIfInBounds 10 v' = mk v') (r : P12.R) (w : World) (h : Rd br r w) (hgr : w.heap[grb]? = some (.cells #[rp br] 67)) (hgo : w.heap[gx]? = some (.cells (mk nilS) 40)) (h1 : br < gx) (h2 : br < grb) (hne : grb ≠ gx) :
  Calls Tryz.prog 135 #[rp br, .int .i64 32, .func (.func 136) #[] #[rp grb], .func (.func 137) #[] #[rp grb, rp gx]] w
   (RowPost br r (fun xs w' => ∃ v, w'.heap[gx]? = some (.cells (mk v) 40) ∧ SlcAt (fun b => w.heap.size < b) w' 1 (rowR (fun b => w.heap.size < b) w') xs v ∧ 0 < xs.length ∧ Kept w.heap.size [br, gx] w w') (Kept w.heap.size [br, gx] w) (P12.rowF 32 (P12.isT [40]) P12.valuesRow r.l.length 0 r)) := by
 have hlg := (Array.getElem?_eq_some_iff.1 hgo).1
 have hlr := (Array.getElem?_eq_some_iff.1 hgr).1
 refine row_gath br 32 gx 40 25 1 mk rowR stab_row (by decide) r w _ (rp grb) (rp grb) (rp gx) 136 137 (P12.isT [40]) P12.valuesRow (by decide) h hgo h1 (.inr rfl) ent_insert1 ent_insert2 (fun r W hr hk => insert1_any br grb r W hr (hk.held hgr hlr (by simp; omega))) (fun xs v r W hl hr hb hg hk hlt => ?_)
 refine (insert2_any br gx grb (w.heap.size + 1) (mk v) v xs r W hr hb (hmk v) (hk.held hgr hlr (by simp; omega)) hg h1 h2 (by omega) (by omega) (by omega) hl hne).mono ?_
 intro e w' hp
 unfold RowPost at hp ⊢
 split at hp
 ·obtain ⟨p1, ⟨v', p2, p3, p4⟩, p5, p6⟩ := hp
  exact ⟨p1, ⟨v', by rw [p2, hmk2], p3, p4⟩, p5, p6⟩
 ·exact ⟨hp.1, Kept.of_turn hp.2 (by simp)⟩
theorem insert_any (br : Nat) (r : P12.R) (w : World) (h : Rd br r w) : Calls Tryz.prog 71 #[rp br] w (Got br w r (StmtV w) (P12.insert r)) := by
 have HR := Lib.hid h
 have lr := h.lt
 clear h
 generalize hres : P12.insert r = res
 have hE := hres
 simp only [P12.insert, bind, Except.bind, pure, Except.pure] at hE
 have HE := Lib.hid hE
 clear hE hres
 have HM := Lib.hid fun W => made_any 5 W
 rw [if_neg (by decide)] at HM
 go_enter Tryz.func71, Tryz.ntmps71
 go_wp2_with fail
 go_at_call 76
 refine (HM.out _).mono ?_
 rintro e w1 ⟨rfl, hx1⟩
 go_wp2_with ((refine wpList_putRow rfl 40 _ _ rfl (w1.heap.size) _ _ 40 rfl rfl (heap_new w1 _) rfl (by kernel_rfl) (by kernel_rfl) ?_; intro w2 hp2); have F2 := Fq.start HR.out hx1 hp2; have c2 := F2.cbox)
 have hbx := F2.bx
 have hW := F2.size
 go_wp2_with fail
 go_at_call 132
 refine (must_got br [73, 78, 84, 79] r _ _ (F2.alloc _).rd (cell_at _ _ _ rfl) (by omega)).mono ?_
 intro e w3 h
 cases hn : P12.must [73, 78, 84, 79] r
 case error er =>
  rw [hn] at h
  have hE := HE.out
  rw [hn] at hE
  dsimp only at hE
  subst hE
  obtain ⟨rfl, ht⟩ := h
  simp only [faults]
  go_wp2
  exact ⟨rfl, rfl, (F2.alloc _).after ht⟩
 rename_i p
 rw [hn] at h HE
 dsimp only at HE
 rename P12.R => r3
 obtain ⟨rfl, ht, hr, hk⟩ := h
 have F3 := (F2.alloc _).step ht hr hk
 have c3 := F3.cbox
 clear ht hr hk c2 F2 hp2 hx1 hW
 go_wp2_with fail
 go_at_call 131
 refine (name_any br _ _ F3.rd).mono ?_
 intro e w4 h
 cases hn : P12.name r3
 case error er =>
  rw [hn] at h
  have hE := HE.out
  rw [hn] at hE
  dsimp only at hE
  subst hE
  obtain ⟨rfl, ht⟩ := h
  simp only [faults]
  go_wp2
  exact ⟨rfl, rfl, F3.after ht⟩
 rename_i p
 rw [hn] at h HE
 dsimp only at HE
 obtain ⟨a, r4⟩ := p
 obtain ⟨_, rfl, rfl, ht, hr, hk⟩ := h
 have F4 := F3.step ht hr hk
 have c4 := F4.cell (o := 6) rfl
 have f4 := F4.free 6
 have F5 := (F4.set 6 (bs a)).cells (c' := (stmtL 5 [] nilS nilS nilS nilS a [] false nilS nilS nilS noE nilS nilS noE nilS nilS 0).toArray) rfl
 have c5 := F5.cbox
 clear ht hr hk c3 F3
 go_wp2_with fail
 go_at_call 77
 refine (isT_any br _ [40] _ F5.rd).mono ?_
 rintro e w6 ⟨rfl, hx6⟩
 have F6 := F5.ext hx6
 have c6 := F6.cbox
 clear hx6 c5 F5 F4 c4 f4
 cases hb : P12.isT [40] r4
 ·have hE := HE.out
  rw [hb] at hE
  clear HE
  simp only [Bool.false_eq_true, if_false] at hE
  have HE := Lib.hid hE
  clear hE
  have hW := F6.size
  have F7 := F6.add (stabP_strs [] nilS) (SlcAt.nil _ _ _ _)
  have c7 := F7.cbox
  go_wp2_with fail
  go_at_call 132
  refine (must_got br [86, 65, 76, 85, 69, 83] r4 _ _ (F7.alloc _).rd (cell_at _ _ _ rfl) (by omega)).mono ?_
  intro e w8 h
  cases hn : P12.must [86, 65, 76, 85, 69, 83] r4
  case error er =>
   rw [hn] at h
   have hE := HE.out
   rw [hn] at hE
   dsimp only at hE
   subst hE
   obtain ⟨rfl, ht⟩ := h
   simp only [faults]
   go_wp2
   exact ⟨rfl, rfl, (F7.alloc _).after ht⟩
  rename_i p
  rw [hn] at h HE
  dsimp only at HE
  rename P12.R => r8
  obtain ⟨rfl, ht, hr, hk⟩ := h
  have F8 := (F7.alloc _).step ht hr hk
  have c8 := F8.cbox
  clear ht hr hk c7 F7
  go_wp2_with fail
  go_at_call 135
  refine (row_values br w1.heap.size w.heap.size (fun v => (stmtL 5 [] nilS nilS nilS nilS a [] false nilS v nilS noE nilS nilS noE nilS nilS 0).toArray) (fun _ => rfl) (fun _ _ => rfl) r8 w8 F8.rd F8.box F8.blk (by omega) (by omega) (by omega)).mono ?_
  intro e w9 h
  cases hn : P12.rowF 32 (P12.isT [40]) P12.valuesRow r8.l.length 0 r8
  case error er =>
   rw [hn] at h
   have hE := HE.out
   rw [hn] at hE
   dsimp only at hE
   subst hE
   obtain ⟨rfl, ht⟩ := h
   simp only [faults]
   go_wp2
   exact ⟨rfl, rfl, F8.rowAfter ht⟩
  rename_i p
  rw [hn] at h HE
  dsimp only at HE
  obtain ⟨xs, r9⟩ := p
  obtain ⟨rfl, ⟨v, hb9, hs, hn9, hkt⟩, hr, hk⟩ := h
  obtain ⟨q1, q2, q3, rfl⟩ := slc_one hs
  have F9 := (F8.row hkt hb9 hr hk).add (stabP_slc stab_row 1 xs (.slice q1 q2 q3)) (stabP_slc stab_row 1 xs (.slice q1 q2 q3) _ _ _ _ hs (fun _ _ _ => rfl) (fun b hb _ => by have := F8.size; omega))
  have hb := F9.blk
  have hz := F9.zero
  clear hkt hb9 hs hr hk c8 F8
  go_wp2_with (first | (refine wpList_loadRow rfl 40 _ rfl (w1.heap.size) _ 40 (0, 0) _ rfl (hb) Tryz.underlying40 rfl ((by kernel_rfl)) ?_) | (refine wpList_putRow rfl 40 _ _ rfl ((w.heap.size + 1)) _ _ 40 rfl rfl (hz) ((by kernel_rfl)) ((by kernel_rfl)) ((by kernel_rfl)) ?_; intro w10 hp10))
  refine bodyPost_ret (results_row (fn := Tryz.f71) rfl rfl hp10.blk Tryz.underlying40 rfl (by kernel_rfl)) rfl ?_
  have hE := HE.out
  subst hE
  refine Fq.finish F9 hp10 (fun ⟨⟨_, hcl⟩, hrw⟩ => ?_)
  exact ⟨nilS, nilS, nilS, nilS, _, _, nilS, noE, nilS, nilS, noE, nilS, nilS, rfl, SlcAt.nil _ _ _ _, SlcAt.nil _ _ _ _, SlcAt.nil _ _ _ _, SlcAt.nil _ _ _ _, hcl, hrw, SlcAt.nil _ _ _ _, rfl, SlcAt.nil _ _ _ _, SlcAt.nil _ _ _ _, rfl, SlcAt.nil _ _ _ _, SlcAt.nil _ _ _ _⟩
 ·have hE := HE.out
  rw [hb] at hE
  clear HE
  simp only [if_true] at hE
  have HE := Lib.hid hE
  clear hE
  go_wp2_with fail
  go_at_call 134
  refine (names_any br _ _ F6.rd).mono ?_
  intro e w7 h
  cases hn : P12.names r4
  case error er =>
   rw [hn] at h
   have hE := HE.out
   rw [hn] at hE
   dsimp only at hE
   subst hE
   obtain ⟨rfl, ht⟩ := h
   simp only [faults]
   go_wp2
   exact ⟨rfl, rfl, F6.after ht⟩
  rename_i p
  rw [hn] at h HE
  dsimp only at HE
  obtain ⟨cl, r7⟩ := p
  obtain ⟨_, rfl, ⟨hpos, hs⟩, ht, hr, hk⟩ := h
  obtain ⟨p1, p2, p3, rfl⟩ := slc_one hs
  have F7 := (F6.step ht hr hk).add (stabP_strs cl (.slice p1 p2 p3)) (F6.up (stabP_strs cl (.slice p1 p2 p3)) hs)
  have cc7 := F7.cell (o := 9) rfl
  have ff7 := F7.free 9
  have hW := F7.size
  have F7s := (F7.set 9 (.slice p1 p2 p3)).cells (c' := (stmtL 5 [] nilS nilS nilS nilS a [] false (.slice p1 p2 p3) nilS nilS noE nilS nilS noE nilS nilS 0).toArray) rfl
  clear ht hr hk hs c6 F6
  have c7 := F7s.cbox
  go_wp2_with fail
  go_at_call 132
  refine (must_got br [86, 65, 76, 85, 69, 83] r7 _ _ (F7s.alloc _).rd (cell_at _ _ _ (by rw [World.size_setCell])) (by omega)).mono ?_
  intro e w8 h
  cases hn : P12.must [86, 65, 76, 85, 69, 83] r7
  case error er =>
   rw [hn] at h
   have hE := HE.out
   rw [hn] at hE
   dsimp only at hE
   subst hE
   obtain ⟨rfl, ht⟩ := h
   simp only [faults]
   go_wp2
   exact ⟨rfl, rfl, (F7s.alloc _).after ht⟩
  rename_i p
  rw [hn] at h HE
  dsimp only at HE
  rename P12.R => r8
  obtain ⟨rfl, ht, hr, hk⟩ := h
  have F8 := (F7s.alloc _).step ht hr hk
  have c8 := F8.cbox
  clear ht hr hk c7 F7s
  go_wp2_with fail
  go_at_call 135
  refine (row_values br w1.heap.size w.heap.size (fun v => (stmtL 5 [] nilS nilS nilS nilS a [] false (.slice p1 p2 p3) v nilS noE nilS nilS noE nilS nilS 0).toArray) (fun _ => rfl) (fun _ _ => rfl) r8 w8 F8.rd F8.box F8.blk (by omega) (by omega) (by omega)).mono ?_
  intro e w9 h
  cases hn : P12.rowF 32 (P12.isT [40]) P12.valuesRow r8.l.length 0 r8
  case error er =>
   rw [hn] at h
   have hE := HE.out
   rw [hn] at hE
   dsimp only at hE
   subst hE
   obtain ⟨rfl, ht⟩ := h
   simp only [faults]
   go_wp2
   exact ⟨rfl, rfl, F8.rowAfter ht⟩
  rename_i p
  rw [hn] at h HE
  dsimp only at HE
  obtain ⟨xs, r9⟩ := p
  obtain ⟨rfl, ⟨v, hb9, hs, hn9, hkt⟩, hr, hk⟩ := h
  obtain ⟨q1, q2, q3, rfl⟩ := slc_one hs
  have F9 := (F8.row hkt hb9 hr hk).add (stabP_slc stab_row 1 xs (.slice q1 q2 q3)) (stabP_slc stab_row 1 xs (.slice q1 q2 q3) _ _ _ _ hs (fun _ _ _ => rfl) (fun b hb _ => by have := F8.size; omega))
  have hb := F9.blk
  have hz := F9.zero
  clear hkt hb9 hs hr hk c8 F8
  go_wp2_with (first | (refine wpList_loadRow rfl 40 _ rfl (w1.heap.size) _ 40 (0, 0) _ rfl (hb) Tryz.underlying40 rfl ((by kernel_rfl)) ?_) | (refine wpList_putRow rfl 40 _ _ rfl ((w.heap.size + 1)) _ _ 40 rfl rfl (hz) ((by kernel_rfl)) ((by kernel_rfl)) ((by kernel_rfl)) ?_; intro w10 hp10))
  refine bodyPost_ret (results_row (fn := Tryz.f71) rfl rfl hp10.blk Tryz.underlying40 rfl (by kernel_rfl)) rfl ?_
  have hE := HE.out
  subst hE
  refine Fq.finish F9 hp10 (fun ⟨⟨_, hcl⟩, hrw⟩ => ?_)
  exact ⟨nilS, nilS, nilS, nilS, _, _, nilS, noE, nilS, nilS, noE, nilS, nilS, rfl, SlcAt.nil _ _ _ _, SlcAt.nil _ _ _ _, SlcAt.nil _ _ _ _, SlcAt.nil _ _ _ _, hcl, hrw, SlcAt.nil _ _ _ _, rfl, SlcAt.nil _ _ _ _, SlcAt.nil _ _ _ _, rfl, SlcAt.nil _ _ _ _, SlcAt.nil _ _ _ _⟩
abbrev itemL (b : Bool) (l : List Value) (n : P12.T) : List Value := .bool b :: (l ++ [bs n])
theorem item_any (br : Nat) (r : P12.R) (w : World) (h : Rd br r w) : Calls Tryz.prog 147 #[rp br] w (Got br w r (fun v x w' => ∃ l, v = .agg l.toArray ∧ itemR (fun b => w.heap.size ≤ b) w' x l) (P12.item r)) := by
 have hbd1 : ∀ (W : World), (Instr.build 88 #[(0, Value.bool true)]).run Tryz.prog W = .ok (.agg (itemL true noE []).toArray) W := fun W => by kernel_rfl
 have hbd2 : ∀ (kd op' vk vi : Int) (vs tb nm : P12.T) (pp : Option Addr) (pm pc : Nat) (W : World), (Instr.build 88 #[(1, Value.agg (exprL kd op' vk vi vs tb nm (.slice pp pm pc)).toArray)]).run Tryz.prog W = .ok (.agg (itemL false (exprL kd op' vk vi vs tb nm (.slice pp pm pc)) []).toArray) W := fun kd op' vk vi vs tb nm pp pm pc W => by kernel_rfl
 cases hs : P12.isT [42] r
 ·have HR := Lib.hid h
  have lr := h.lt
  clear h
  generalize hres : P12.item r = res
  have hE := hres
  simp only [P12.item, hs, Bool.false_eq_true, if_false, bind, Except.bind, pure, Except.pure] at hE
  have HE := Lib.hid hE
  clear hE hres
  go_enter Tryz.func147, Tryz.ntmps147
  go_wp2_with fail
  go_at_call 20
  refine (has_no br r [42] _ (rdx (HR.out)) hs).mono ?_
  rintro e w1 ⟨rfl, hx1⟩
  have hz1 := hx1.block w.heap.size (by rw [World.size_alloc]; omega)
  rw [heap_new w _] at hz1
  have hr1 : Rd br r w1 := (HR.out.alloc _).ext hx1
  have hT1 : Turn br w w1 := Turn.trans (Turn.alloc (Turn.refl _ _) _) (Turn.of_ext hx1)
  have hl1 := hx1.size
  rw [World.size_alloc] at hl1
  clear hx1
  go_wp2_with fail
  go_at_call 140
  refine (expr_any br _ _ hr1).mono ?_
  intro e w2 h
  cases hn : P12.expr r
  case error er =>
   rw [hn] at h
   have hE := HE.out
   rw [hn] at hE
   dsimp only at hE
   subst hE
   obtain ⟨rfl, ht⟩ := h
   simp only [faults]
   go_wp2
   exact ⟨rfl, rfl, Turn.trans hT1 ht⟩
  rename_i p
  rw [hn] at h HE
  dsimp only at HE
  obtain ⟨e, r2⟩ := p
  obtain ⟨_, rfl, ⟨l, rfl, he⟩, ht2, hr2, hk2⟩ := h
  obtain ⟨kd, op', vk, vi, vs, tb, nm, pp, pm, pc, rfl⟩ := he.form
  have hz2 := ht2.held hz1 (by omega)
  have hT2 := Turn.trans hT1 ht2
  have hl2 := ht2.size
  clear ht2 hr1 hT1 hz1
  go_wp2_with ((refine wpList_putRow rfl 88 _ _ rfl (w2.heap.size) _ _ 88 rfl rfl (heap_new w2 _) (rfl) ((by kernel_rfl)) ((by kernel_rfl)) ?_; intro w3 hp3))
  have hl3 : w3.heap.size = w2.heap.size + 1 := by have := hp3.size; rwa [World.size_alloc] at this
  have hT3 : Turn br w w3 := Puts.turn hp3 (Turn.alloc hT2 _) (by omega)
  have hr3 : Rd br r2 w3 := Puts.rd hp3 (hr2.alloc _) (by omega)
  have hz3 := Puts.held hp3 ((Turn.alloc (Turn.refl br w2) _).held hz2 (by omega)) (by omega)
  have he3 := Puts.expr hp3 (he.keep (S' := fun b => w1.heap.size ≤ b ∧ b < w2.heap.size) (w' := w2.alloc _) (fun b hb hl => ((Below.refl _ _).alloc (Nat.le_refl _) _ : Below w2.heap.size w2 (w2.alloc _)).block b hl) (fun b hb hl => ⟨hb, hl⟩)) (by omega)
  have hb3 := hp3.blk
  have hb0 : ∀ b, (w1.heap.size ≤ b ∧ b < w2.heap.size) → w.heap.size < b := fun b hb => by omega
  clear hp3 hz2 hT2 hr2 he
  cases ha : P12.isT [65, 83] r2
  ·have hE := HE.out
   rw [ha] at hE
   clear HE
   simp only [Bool.false_eq_true, if_false] at hE
   go_at_call 20
   refine (has_no br r2 [65, 83] _ hr3 ha).mono ?_
   rintro e4 w4 ⟨rfl, hx4⟩
   have hT4 := Turn.trans hT3 (Turn.of_ext hx4)
   have hr4 := hr3.ext hx4
   have hb4 := (hx4.block w2.heap.size (by omega)).trans hb3
   have hz4 := (hx4.block w.heap.size (by omega)).trans hz3
   have he4 := he3.keep (S' := fun b => w.heap.size < b) (w' := w4) (fun b _ hl => hx4.block b hl) (fun b hb _ => hb0 b hb)
   go_wp2_with (first | (refine wpList_loadRow rfl 88 _ rfl (w2.heap.size) _ 88 (0, 0) _ rfl (hb4) Tryz.underlying88 rfl ((by kernel_rfl)) ?_) | (refine wpList_putRow rfl 88 _ _ rfl (w.heap.size) _ _ 88 rfl rfl (hz4) ((by kernel_rfl)) ((by kernel_rfl)) ((by kernel_rfl)) ?_; intro w5 hp5))
   refine bodyPost_ret (results_row (fn := Tryz.f147) rfl rfl hp5.blk Tryz.underlying88 rfl (by kernel_rfl)) rfl ?_
   subst hE
   exact ⟨_, rfl, ⟨_, rfl, _, rfl, (Puts.expr hp5 he4 (by omega)).mono (fun b hb _ => Nat.le_of_lt hb)⟩, Puts.turn hp5 hT4 (Nat.le_refl _), Puts.rd hp5 hr4 lr, hk2⟩
  ·have hE := HE.out
   rw [ha] at hE
   clear HE
   simp only [if_true] at hE
   have HE := Lib.hid hE
   clear hE
   go_at_call 20
   refine (has_yes br r2 [65, 83] _ hr3 ha).mono ?_
   rintro e4 w4 ⟨rfl, ht4, hr4⟩
   have hT4 := Turn.trans hT3 ht4
   have hb4 := ht4.held hb3 (by omega)
   have hz4 := ht4.held hz3 (by omega)
   have he4 := he3.keep (S' := fun b => w.heap.size < b ∧ b ≠ w2.heap.size) (w' := w4) (fun b hb hl => ht4.block hl (by have := hb0 b hb; omega)) (fun b hb _ => ⟨hb0 b hb, by omega⟩)
   have hl4 := ht4.size
   clear ht4 hb3 hz3 he3
   go_wp2_with fail
   go_at_call 131
   refine (name_any br _ _ hr4).mono ?_
   intro e w5 h
   cases hn : P12.name (P12.takes r2)
   case error er =>
    rw [hn] at h
    have hE := HE.out
    rw [hn] at hE
    dsimp only at hE
    subst hE
    obtain ⟨rfl, ht⟩ := h
    simp only [faults]
    go_wp2
    exact ⟨rfl, rfl, Turn.trans hT4 ht⟩
   rename_i p
   rw [hn] at h HE
   dsimp only at HE
   obtain ⟨n, r5⟩ := p
   obtain ⟨_, rfl, rfl, ht5, hr5, hk5⟩ := h
   have hT5 := Turn.trans hT4 ht5
   have hb5 := ht5.held hb4 (by omega)
   have hz5 := ht5.held hz4 (by omega)
   have he5 := he4.keep (S' := fun b => w.heap.size < b ∧ b ≠ w2.heap.size) (w' := w5) (fun b hb hl => ht5.block hl (by omega)) (fun b hb _ => hb)
   have hl5 := ht5.size
   have c5 : w5.cell? ⟨w2.heap.size, 11, none⟩ = some (.string ⟨#[]⟩) := by simp [World.cell?, hb5]
   have f5 := frozen_of_row w5 w2.heap.size 11 _ _ hb5
   have hp6 := puts_set hb5 [bs n] 11
   have hp6 : Puts w2.heap.size (itemL false (exprL kd op' vk vi vs tb nm (.slice pp pm pc)) n).toArray 88 w5 (w5.setCell ⟨w2.heap.size, 11, none⟩ (bs n)) := hp6
   have hb6 := hp6.blk
   have hz6 := Puts.held hp6 hz5 (by omega)
   have hT6 := Puts.turn hp6 hT5 (by omega)
   have hr6 := Puts.rd hp6 hr5 (by omega)
   have he6 := Puts.expr hp6 he5 (by omega)
   clear hp6 hb5 hz5 hb4 hz4 hT5 hr5 he5 he4 ht5
   go_wp2_with (first | (refine wpList_loadRow rfl 88 _ rfl (w2.heap.size) _ 88 (0, 0) _ rfl (hb6) Tryz.underlying88 rfl ((by kernel_rfl)) ?_) | (refine wpList_putRow rfl 88 _ _ rfl (w.heap.size) _ _ 88 rfl rfl (hz6) ((by kernel_rfl)) ((by kernel_rfl)) ((by kernel_rfl)) ?_; intro w7 hp7))
   refine bodyPost_ret (results_row (fn := Tryz.f147) rfl rfl hp7.blk Tryz.underlying88 rfl (by kernel_rfl)) rfl ?_
   have hE := HE.out
   subst hE
   exact ⟨_, rfl, ⟨_, rfl, _, rfl, (Puts.expr hp7 he6 (by omega)).mono (fun b hb _ => Nat.le_of_lt hb.1)⟩, Puts.turn hp7 hT6 (Nat.le_refl _), Puts.rd hp7 hr6 lr, hk2.trans ((P12.keeps_takes r2).trans hk5)⟩
 ·have hI : P12.item r = .ok ((true, P12.E.none, []), P12.takes r) := by simp [P12.item, hs]
  rw [hI]
  have HR := Lib.hid h
  have lr := h.lt
  clear h
  go_enter Tryz.func147, Tryz.ntmps147
  go_wp2_with fail
  go_at_call 20
  refine (has_yes br r [42] _ (rdx (HR.out)) hs).mono ?_
  rintro e w1 ⟨rfl, ht1, hr1⟩
  have hz1 := ht1.held (heap_new w _) (by omega)
  have hT1 : Turn br w w1 := Turn.trans (Turn.alloc (Turn.refl _ _) _) ht1
  go_wp2_with ((refine wpList_putRow rfl 88 _ _ rfl (w.heap.size) _ _ 88 rfl rfl (hz1) (rfl) ((by kernel_rfl)) ((by kernel_rfl)) ?_; intro w3 hp3))
  refine bodyPost_ret (results_row (fn := Tryz.f147) rfl rfl hp3.blk Tryz.underlying88 rfl (by kernel_rfl)) rfl ?_
  exact ⟨_, rfl, ⟨_, rfl, _, rfl, rfl⟩, Puts.turn hp3 hT1 (Nat.le_refl _), Puts.rd hp3 hr1 lr, P12.keeps_takes r⟩
theorem Tryz.infoItem : (Tryz.prog.info? 88).map (fun i => (i.zero, i.size, i.bytes)) = some (some (.agg (itemL false noE []).toArray), 12, 144) := by kernel_rfl
theorem ent_selects1 : Ent 144 := ⟨fun _ _ => by go_simp, by decide⟩
theorem ent_selects2 : Ent 146 := ⟨fun _ _ => by go_simp, by decide⟩
theorem selects1_any (br grb : Nat) (r : P12.R) (w : World) (h : Rd br r w) (hrb : w.heap[grb]? = some (.cells #[rp br] 67)) :
  Calls Tryz.prog 144 #[rp grb] w fun e w' => e = .returned (.bool (P12.isT [42] r || P12.begins r)) ∧ Xk.Ext w w' := by
 have HR := Lib.hid h
 have HI := Lib.hid (isT_any br r [42] w h)
 have c0 : w.cell? ⟨grb, 0, none⟩ = some (rp br) := by simp [World.cell?, hrb]
 have C0 := Lib.hid c0
 clear h hrb
 cases hs : P12.isT [42] r
 ·rw [hs] at HI
  go_enter Tryz.func144, Tryz.ntmps144
  go_wp2_with fail
  go_at_call 77
  refine HI.out.mono ?_
  rintro e w1 ⟨rfl, hx⟩
  have c1 := (hx.cell (World.block_lt_of_cell? _ _ C0.out)).trans C0.out
  go_wp2_with fail
  go_at_call 145
  refine (begins_any br r _ (HR.out.ext hx)).mono ?_
  rintro e w2 ⟨rfl, hx2⟩
  go_wp2
  go_ret
  exact ⟨by simp, Xk.Ext.trans hx hx2⟩
 ·rw [hs] at HI
  go_enter Tryz.func144, Tryz.ntmps144
  go_wp2_with fail
  go_at_call 77
  refine HI.out.mono ?_
  rintro e w1 ⟨rfl, hx⟩
  go_wp2
  go_ret
  exact ⟨by simp, hx⟩
def gotI (br : Nat) (w : World) (r : P12.R) (x : Bool × P12.E × P12.T) (r1 : P12.R) (u : Value) (W : World) : Prop := ∃ l, u = .agg l.toArray ∧ itemR (fun b => w.heap.size ≤ b) W x l ∧ Rd br r1 W ∧ P12.Keeps r r1
theorem gotI.ext {br : Nat} {w : World} {r : P12.R} {x : Bool × P12.E × P12.T} {r1 : P12.R} : ∀ u W W', Xk.Ext W W' → gotI br w r x r1 u W → gotI br w r x r1 u W' := by
 rintro u W W' hx ⟨l, rfl, h1, h2, h3⟩
 exact ⟨l, rfl, stab_item _ _ _ _ _ _ h1 (fun b _ hl => hx.block b hl) (fun b hb _ => hb), h2.ext hx, h3⟩
def newI (w : World) (x : Bool × P12.E × P12.T) (u : Value) (W : World) : Prop := ∃ g l, u = .slice (some ⟨g, 0, none⟩) 1 1 ∧ w.heap.size ≤ g ∧ W.heap[g]? = some (.cells l.toArray 88) ∧ l.length = 12 ∧ (∀ u ∈ l, u.oneCell' = true) ∧ itemR (fun b => w.heap.size ≤ b ∧ b ≠ g) W x l
theorem newI.turn {br : Nat} {w : World} {x : Bool × P12.E × P12.T} (hb : br < w.heap.size) : ∀ u W W', Turn br W W' → newI w x u W → newI w x u W' := by
 rintro u W W' ht ⟨g, l, rfl, hg, hc, hl, h1, hi⟩
 exact ⟨g, l, rfl, hg, ht.held hc (by omega), hl, h1, stab_item _ _ _ _ _ _ hi (fun b hb' hl => ht.block hl (by omega)) (fun b hb _ => hb)⟩
theorem selects2_any (br gx grb B : Nat) (c : Array Value) (v : Value) (xs : List (Bool × P12.E × P12.T)) (r : P12.R) (w : World) (h : Rd br r w) (hx : w.heap[gx]? = some (.cells c 40)) (hc : c[22]? = some v) (hrb : w.heap[grb]? = some (.cells #[rp br] 67))
  (hg : Gath B 88 12 itemR xs v w) (h1 : br < gx) (h2 : br < grb) (h3 : gx < B) (h4 : grb < B) (h5 : B ≤ w.heap.size) (h6 : xs.length ≤ 100000) (hne : grb ≠ gx) :
  Calls Tryz.prog 146 #[rp gx, rp grb] w (RowPost br r (fun x w' => ∃ v', w'.heap[gx]? = some (.cells (c.setIfInBounds 22 v') 40) ∧ Gath B 88 12 itemR (xs ++ [x]) v' w' ∧ Kept B [br, gx] w w') (Turn br w) (P12.item r)) := by
 have HR := Lib.hid h
 have lr := h.lt
 have hg1 : w.cell? ⟨gx, 22, none⟩ = some v := by simp [World.cell?, hx, hc]
 have hg2 : w.cell? ⟨grb, 0, none⟩ = some (rp br) := by simp [World.cell?, hrb]
 have G1 := Lib.hid hg1
 have G2 := Lib.hid hg2
 have HB := Lib.hid hx
 have HG := Lib.hid hg
 have HC := Lib.hid hc
 clear h hx hrb hg1 hg2 hg hc
 obtain ⟨i0, hi, hz0, hz1, hz2⟩ := infoParts Tryz.infoItem
 have Hi := Lib.hid hi
 have Hz0 := Lib.hid hz0
 have Hz1 := Lib.hid hz1
 have Hz2 := Lib.hid hz2
 clear hi hz0 hz1 hz2
 rcases hn : P12.item r with er | ⟨x, r1⟩
 ·go_enter Tryz.func146, Tryz.ntmps146
  go_wp2
  refine Xg.wp_region_rel (E := Turn br) (Xe.pre_ES _) (fun ch W => Ending.panicked ch = faults er ∧ Turn br w W) 3 5 (fun _ => none) (fun _ _ h => by cases h) (fun _ _ _ _ h => by cases h) [(3, fun _ _ => False), (4, fun _ _ => False)] (by kernel_rfl) (by kernel_rfl) (Xg.stable_one ((by
     intro y hy
     simp only [List.mem_cons, List.not_mem_nil, or_false] at hy
     rcases hy with rfl | rfl
     ·rw [if_pos rfl]; exact fun _ _ _ _ h => h
     ·rw [if_neg (by decide)]; exact fun _ _ _ _ h => h))) ((fun ch a w' hd hX => by exact ⟨hd, hX.1, hX.2⟩)) ?_
  simp only [List.take_succ_cons, List.take_zero, List.drop_succ_cons, List.drop_zero]
  refine Xg.gs ?_
  (refine Xg.rel_det (Xk.wanted_none (by rfl)) (by rfl) (fun K hK => ?_); apply Exists.intro; refine ⟨fun W hx hp => ?_, ?_⟩; (have c := hx.cell (show w.drew.cell? ⟨gx, 22, none⟩ = some v from G1.out) (by omega); go_simp; first | exact ⟨rfl, rfl⟩ | ((try refine ⟨by kernel_rfl, ?_⟩); (fail))); (go_simp; refine hK _ ?_; clear hK K))
  (refine Xg.rel_det (Xk.wanted_none (by rfl)) (by rfl) (fun K hK => ?_); apply Exists.intro; refine ⟨fun W hx hp => ?_, ?_⟩; (have c := hx.cell (show w.drew.cell? ⟨grb, 0, none⟩ = some (rp br) from G2.out) (by omega); go_simp; first | exact ⟨rfl, rfl⟩ | ((try refine ⟨by kernel_rfl, ?_⟩); (fail))); (go_simp; refine hK _ ?_; clear hK K))
  (refine Xg.rel_loud (by rfl) (by rfl) rfl (fun W hx hp => ?_) (fun u K hK => ?_); (go_simp; ((refine (item_any br r _ (HR.out.drew.ext hx)).mono ?_); intro e w2 h; rw [hn] at h; obtain ⟨h1, h2⟩ := h; exact Or.inr ⟨_, h1, by exact ⟨rfl, (Turn.drew (Turn.refl _ _)).trans ((Turn.of_ext hx).trans h2)⟩⟩)); (go_simp; refine hK _ ?_; clear hK K))
  (refine Xg.rel_make (by rfl) (by rfl) (by decide) (fun W hx hp => ?_) (fun u2 K hK => ?_); (exact (Xe.facts_head hp (by kernel_rfl)).elim); (go_simp; refine hK _ ?_; clear hK K))
  refine Xg.rel_nil (fun W hx hp hg => ?_)
  exact hp.1.elim
 ·go_enter Tryz.func146, Tryz.ntmps146
  go_wp2
  refine Xg.wp_region_rel (E := Turn br) (Xe.pre_ES _) (fun ch W => False) 3 5 (fun _ => none) (fun _ _ h => by cases h) (fun _ _ _ _ h => by cases h) [(3, gotI br w r x r1), (4, newI w x)] (by kernel_rfl) (by kernel_rfl) (Xg.stable_one ((by
     intro y hy
     simp only [List.mem_cons, List.not_mem_nil, or_false] at hy
     rcases hy with rfl | rfl
     ·rw [if_pos rfl]; exact gotI.ext
     ·rw [if_neg (show ¬ (4 = 3) by decide)]; exact newI.turn lr))) ((fun ch a w' hd hX => hX.elim)) ?_
  simp only [List.take_succ_cons, List.take_zero, List.drop_succ_cons, List.drop_zero]
  refine Xg.gs ?_
  (refine Xg.rel_det (Xk.wanted_none (by rfl)) (by rfl) (fun K hK => ?_); apply Exists.intro; refine ⟨fun W hx hp => ?_, ?_⟩; (have c := hx.cell (show w.drew.cell? ⟨gx, 22, none⟩ = some v from G1.out) (by omega); go_simp; first | exact ⟨rfl, rfl⟩ | ((try refine ⟨by kernel_rfl, ?_⟩); (fail))); (go_simp; refine hK _ ?_; clear hK K))
  (refine Xg.rel_det (Xk.wanted_none (by rfl)) (by rfl) (fun K hK => ?_); apply Exists.intro; refine ⟨fun W hx hp => ?_, ?_⟩; (have c := hx.cell (show w.drew.cell? ⟨grb, 0, none⟩ = some (rp br) from G2.out) (by omega); go_simp; first | exact ⟨rfl, rfl⟩ | ((try refine ⟨by kernel_rfl, ?_⟩); (fail))); (go_simp; refine hK _ ?_; clear hK K))
  (refine Xg.rel_loud (by rfl) (by rfl) rfl (fun W hx hp => ?_) (fun u K hK => ?_); (go_simp; ((refine (item_any br r _ (HR.out.drew.ext hx)).mono ?_); intro e w2 h; rw [hn] at h; obtain ⟨v', rfl, ⟨l, rfl, hi⟩, h1, h2, h3⟩ := h; exact Or.inl ⟨_, rfl, h1, ⟨l, rfl, stab_item _ _ _ _ _ _ hi (fun _ _ _ => rfl) (fun b hb _ => Nat.le_trans hx.size hb), h2, h3⟩, fun b hb => by cases hb⟩)); (go_simp; refine hK _ ?_; clear hK K))
  (refine Xg.rel_make (by rfl) (by rfl) (by decide) (fun W hx hp => ?_) (fun u2 K hK => ?_); ((obtain ⟨l, rfl, ⟨l0, rfl, he⟩, hr1, hk1⟩ := Xe.facts_head hp (by kernel_rfl)); (obtain ⟨kd, op', vk, vi, vs, tb, nm, pp, pm, pc, rfl⟩ := he.form); go_simp; exact ⟨(Below.refl _ _).alloc (Nat.le_refl _) _, ⟨W.heap.size, _, rfl, by simpa using hx.size, heap_new W _, rfl, one_all (by kernel_rfl), ⟨_, rfl, he.keep (fun b hb hl => ((Below.refl _ _).alloc (Nat.le_refl _) _ : Below W.heap.size W (W.alloc _)).block b hl) (fun b hb hl => ⟨hb, by omega⟩)⟩⟩, fun b hb => by cases hb; exact ⟨.inr (Nat.le_refl _), by simp⟩⟩); (go_simp; refine hK _ ?_; clear hK K))
  refine Xg.rel_nil (fun W hx hp hg => ?_)
  obtain ⟨⟨g, l, rfl, hge, hgc, hl12, hl1, hi⟩, ⟨l', rfl, -, hr1, hk1⟩, -⟩ := hp
  have hx' : Turn br w W := (Turn.drew (Turn.refl _ _)).trans hx
  have hsz := hx'.size
  have hbW := hx'.held HB.out (by omega)
  have HGW := Lib.hid (HG.out.turn stab_item hx' (by omega))
  obtain ⟨us, hown, hu2, hu3, hu4⟩ := HGW.out
  have HU := Lib.hid hu4
  have hlt := hown.lt
  have hown0 := HG.out.lt
  clear hu4
  go_wp2_with (at_builtin; refine Xo.wpList_appb B rfl _ _ 36 rfl 88 i0 _ 12 144 Tryz.underlying36 Hi.out Hz0.out Hz1.out Hz2.out rfl (by decide) v xs.length us.flatten rfl hown g 0 1 1 l rfl (by decide) hl12 (cells_blk hgc) hl1 (by omega) (by omega) ?_; intro v' w7 ho' hg' hk'; obtain ⟨z, cz, rfl⟩ := ownForm ho' (by omega); have hx7 := (hg'.block gx (by omega) (fun e => by have := (hlt gx e.symm).1; omega)).trans hbW; have c7 : w7.cell? ⟨gx, 22, none⟩ = some v := (by simp [World.cell?, hx7, HC.out]); have f7 := frozen_of_row w7 gx 22 _ _ hx7; have HO7 := Lib.hid ho'; have HG7 := Lib.hid hg'; have HK7 := Lib.hid hk'; have HX7 := Lib.hid hx7; clear ho' hg' hk' hx7 hx)
  go_wp2
  go_end0
  refine ⟨rfl, ⟨.slice (some ⟨z, 0, none⟩) (xs.length + 1) cz, ?_, ?_, ?_⟩, Rd.setCell (hr1.grown HG7.out (fun b hb => by have := (hlt b hb).1; omega)) h1 _ _, hk1⟩
  ·rw [heap_setCell_same w7 gx 22 _ _ _ HX7.out]
  ·exact (Gath.push stab_item hu2 hu3 HU.out HG7.out HO7.out HK7.out hl12 (stab_item _ _ _ _ _ _ hi (fun _ _ _ => rfl) (fun b hb _ => ⟨by omega, fun e => by have := (hown0 b e).2; omega⟩))).set stab_item h3 _ _
  ·exact ((Kept.of_turn hx' (by simp)).grown HG7.out (fun b hb => (hlt b hb).1)).setCell (.inr (.inl (by simp))) _ _
theorem row_items (br gx grb : Nat) (mk : Value → Array Value) (hmk : ∀ v, (mk v)[22]? = some v) (hmk2 : ∀ v v', (mk v).setIfInBounds 22 v' = mk v') (r : P12.R) (w : World) (h : Rd br r w) (hgr : w.heap[grb]? = some (.cells #[rp br] 67)) (hgo : w.heap[gx]? = some (.cells (mk nilS) 40)) (h1 : br < gx) (h2 : br < grb) (hne : grb ≠ gx) :
  Calls Tryz.prog 135 #[rp br, .int .i64 16, .func (.func 144) #[] #[rp grb], .func (.func 146) #[] #[rp gx, rp grb]] w
   (RowPost br r (fun xs w' => ∃ v, w'.heap[gx]? = some (.cells (mk v) 40) ∧ SlcAt (fun b => w.heap.size < b) w' 12 (itemR (fun b => w.heap.size < b) w') xs v ∧ 0 < xs.length ∧ Kept w.heap.size [br, gx] w w') (Kept w.heap.size [br, gx] w) (P12.rowF 16 (fun r => P12.isT [42] r || P12.begins r) P12.item r.l.length 0 r)) := by
 have hlg := (Array.getElem?_eq_some_iff.1 hgo).1
 have hlr := (Array.getElem?_eq_some_iff.1 hgr).1
 refine row_gath br 16 gx 40 88 12 mk itemR stab_item (by decide) r w _ (rp grb) (rp gx) (rp grb) 144 146 (fun r => P12.isT [42] r || P12.begins r) P12.item (by decide) h hgo h1 (.inr rfl) ent_selects1 ent_selects2 (fun r W hr hk => selects1_any br grb r W hr (hk.held hgr hlr (by simp; omega))) (fun xs v r W hl hr hb hg hk hlt => ?_)
 refine (selects2_any br gx grb (w.heap.size + 1) (mk v) v xs r W hr hb (hmk v) (hk.held hgr hlr (by simp; omega)) hg h1 h2 (by omega) (by omega) (by omega) hl hne).mono ?_
 intro e w' hp
 unfold RowPost at hp ⊢
 split at hp
 ·obtain ⟨p1, ⟨v', p2, p3, p4⟩, p5, p6⟩ := hp
  exact ⟨p1, ⟨v', by rw [p2, hmk2], p3, p4⟩, p5, p6⟩
 ·exact ⟨hp.1, Kept.of_turn hp.2 (by simp)⟩
theorem ent_selects3 : Ent 149 := ⟨fun _ _ => by go_simp, by decide⟩
theorem selects3_any (br gx grb B : Nat) (c : Array Value) (v : Value) (xs : List P12.E) (r : P12.R) (w : World) (h : Rd br r w) (hx : w.heap[gx]? = some (.cells c 40)) (hc : c[34]? = some v) (hrb : w.heap[grb]? = some (.cells #[rp br] 67))
  (hg : Gath B 35 10 exprR xs v w) (h1 : br < gx) (h2 : br < grb) (h3 : gx < B) (h4 : grb < B) (h5 : B ≤ w.heap.size) (h6 : xs.length ≤ 100000) (hne : grb ≠ gx) :
  Calls Tryz.prog 149 #[rp gx, rp grb] w (RowPost br r (fun x w' => ∃ v', w'.heap[gx]? = some (.cells (c.setIfInBounds 34 v') 40) ∧ Gath B 35 10 exprR (xs ++ [x]) v' w' ∧ Kept B [br, gx] w w') (Turn br w) (P12.column r)) := by
 have HR := Lib.hid h
 have lr := h.lt
 have hg1 : w.cell? ⟨gx, 34, none⟩ = some v := by simp [World.cell?, hx, hc]
 have hg2 : w.cell? ⟨grb, 0, none⟩ = some (rp br) := by simp [World.cell?, hrb]
 have G1 := Lib.hid hg1
 have G2 := Lib.hid hg2
 have HB := Lib.hid hx
 have HG := Lib.hid hg
 obtain ⟨q1, c1, rfl⟩ : ∃ q c, v = .slice q xs.length c := by
  obtain ⟨us, ho, -⟩ := hg
  rcases ho.2 with ⟨rfl, h0⟩ | ⟨g, cap, cur, rfl, -⟩
  ·exact ⟨none, 0, by rw [h0]⟩
  ·exact ⟨_, _, rfl⟩
 have HCC := Lib.hid hc
 clear h hx hrb hg1 hg2 hg hc
 obtain ⟨i0, hi, hz0, hz1, hz2⟩ := infoParts Tryz.infoExpr10
 have Hi := Lib.hid hi
 have Hz0 := Lib.hid hz0
 have Hz1 := Lib.hid hz1
 have Hz2 := Lib.hid hz2
 clear hi hz0 hz1 hz2
 rcases hn : P12.column r with er | ⟨x, r1⟩
 ·go_enter Tryz.func149, Tryz.ntmps149
  go_wp2
  refine Xg.wp_region_rel_any (E := Turn br) (Xe.pre_ES _) (fun ch W => Ending.panicked ch = faults er ∧ Turn br w W) 3 6 (fun _ => none) (fun _ _ h => by cases h) (fun _ _ _ _ h => by cases h) [(3, fun _ _ => False), (5, newE w)] (by kernel_rfl) (by kernel_rfl) (Xg.stable_one ((by
     intro y hy
     simp only [List.mem_cons, List.not_mem_nil, or_false] at hy
     rcases hy with rfl | rfl
     ·rw [if_pos rfl]; exact fun _ _ _ _ h => h
     ·rw [if_neg (show ¬ (5 = 3) by decide)]; exact newE.turn lr))) ((fun ch a w' hd hX => by exact ⟨hd, hX.1, hX.2⟩)) 5 rfl ?_
  simp only [List.take_succ_cons, List.take_zero, List.drop_succ_cons, List.drop_zero]
  refine Xg.gs ?_
  (refine Xg.rel_det (Xk.wanted_none (by rfl)) (by rfl) (fun K hK => ?_); apply Exists.intro; refine ⟨fun W hx hp => ?_, ?_⟩; (have c := hx.cell (show w.drew.cell? ⟨gx, 34, none⟩ = some (.slice q1 xs.length c1) from G1.out) (by omega); go_simp; first | exact ⟨rfl, rfl⟩ | ((try refine ⟨by kernel_rfl, ?_⟩); (fail))); (go_simp; refine hK _ ?_; clear hK K))
  (refine Xg.rel_det (Xk.wanted_none (by rfl)) (by rfl) (fun K hK => ?_); apply Exists.intro; refine ⟨fun W hx hp => ?_, ?_⟩; (have c := hx.cell (show w.drew.cell? ⟨grb, 0, none⟩ = some (rp br) from G2.out) (by omega); go_simp; first | exact ⟨rfl, rfl⟩ | ((try refine ⟨by kernel_rfl, ?_⟩); (fail))); (go_simp; refine hK _ ?_; clear hK K))
  (refine Xg.rel_loud (by rfl) (by rfl) rfl (fun W hx hp => ?_) (fun u K hK => ?_); (go_simp; ((refine (column_any br r _ (HR.out.drew.ext hx)).mono ?_); intro e w2 h; rw [hn] at h; obtain ⟨h1, h2⟩ := h; exact Or.inr ⟨_, h1, by exact ⟨rfl, (Turn.drew (Turn.refl _ _)).trans ((Turn.of_ext hx).trans h2)⟩⟩)); (go_simp; refine hK _ ?_; clear hK K))
  refine Xg.gs ?_
  (refine Xg.rel_make (by rfl) (by rfl) (by decide) (fun W hx hp => ?_) (fun u2 K hK => ?_); ((go_simp; exact ⟨(Below.refl _ _).alloc (Nat.le_refl _) _, ⟨W.heap.size, rfl, by simpa using hx.size, heap_new W _⟩, fun b hb => by cases hb; exact ⟨.inr (Nat.le_refl _), by simp⟩⟩)); (go_simp; refine hK _ ?_; clear hK K))
  refine Xg.rel_nil (fun W hx hp hg => ?_)
  exact hp.2.1.elim
 ·go_enter Tryz.func149, Tryz.ntmps149
  go_wp2
  refine Xg.wp_region_rel_any (E := Turn br) (Xe.pre_ES _) (fun ch W => False) 3 6 (fun _ => none) (fun _ _ h => by cases h) (fun _ _ _ _ h => by cases h) [(3, gotE br w r x r1), (5, newE w)] (by kernel_rfl) (by kernel_rfl) (Xg.stable_one ((by
     intro y hy
     simp only [List.mem_cons, List.not_mem_nil, or_false] at hy
     rcases hy with rfl | rfl
     ·rw [if_pos rfl]; exact gotE.ext
     ·rw [if_neg (show ¬ (5 = 3) by decide)]; exact newE.turn lr))) ((fun ch a w' hd hX => hX.elim)) 5 rfl ?_
  simp only [List.take_succ_cons, List.take_zero, List.drop_succ_cons, List.drop_zero]
  refine Xg.gs ?_
  (refine Xg.rel_det (Xk.wanted_none (by rfl)) (by rfl) (fun K hK => ?_); apply Exists.intro; refine ⟨fun W hx hp => ?_, ?_⟩; (have c := hx.cell (show w.drew.cell? ⟨gx, 34, none⟩ = some (.slice q1 xs.length c1) from G1.out) (by omega); go_simp; first | exact ⟨rfl, rfl⟩ | ((try refine ⟨by kernel_rfl, ?_⟩); (fail))); (go_simp; refine hK _ ?_; clear hK K))
  (refine Xg.rel_det (Xk.wanted_none (by rfl)) (by rfl) (fun K hK => ?_); apply Exists.intro; refine ⟨fun W hx hp => ?_, ?_⟩; (have c := hx.cell (show w.drew.cell? ⟨grb, 0, none⟩ = some (rp br) from G2.out) (by omega); go_simp; first | exact ⟨rfl, rfl⟩ | ((try refine ⟨by kernel_rfl, ?_⟩); (fail))); (go_simp; refine hK _ ?_; clear hK K))
  (refine Xg.rel_loud (by rfl) (by rfl) rfl (fun W hx hp => ?_) (fun u K hK => ?_); (go_simp; ((refine (column_any br r _ (HR.out.drew.ext hx)).mono ?_); intro e w2 h; rw [hn] at h; obtain ⟨v', rfl, ⟨l, rfl, he⟩, h1, h2, h3⟩ := h; exact Or.inl ⟨_, rfl, h1, ⟨l, rfl, he.mono (fun b hb _ => Nat.le_trans hx.size hb), h2, h3⟩, fun b hb => by cases hb⟩)); (go_simp; refine hK _ ?_; clear hK K))
  refine Xg.gs ?_
  (refine Xg.rel_make (by rfl) (by rfl) (by decide) (fun W hx hp => ?_) (fun u2 K hK => ?_); ((go_simp; exact ⟨(Below.refl _ _).alloc (Nat.le_refl _) _, ⟨W.heap.size, rfl, by simpa using hx.size, heap_new W _⟩, fun b hb => by cases hb; exact ⟨.inr (Nat.le_refl _), by simp⟩⟩)); (go_simp; refine hK _ ?_; clear hK K))
  refine Xg.rel_nil (fun W hx hp hg => ?_)
  obtain ⟨⟨g, rfl, hge, hgc⟩, ⟨l, rfl, he, hr1, hk1⟩, -⟩ := hp
  have hx' : Turn br w W := (Turn.drew (Turn.refl _ _)).trans hx
  have hsz := hx'.size
  have HGW := Lib.hid (HG.out.turn stab_expr hx' (by omega))
  have hbW := hx'.held HB.out (by omega)
  obtain ⟨us, hown, hu2, hu3, hu4⟩ := HGW.out
  have HU := Lib.hid hu4
  have hlt := hown.lt
  clear hu4 hx hg
  refine Xg.any_one (k := 6) (by kernel_rfl) rfl ?_
  refine Xo.wpList_appb B rfl _ _ 25 rfl 35 i0 _ 10 120 Tryz.underlying25 Hi.out Hz0.out Hz1.out Hz2.out rfl (by decide) (.slice q1 xs.length c1) xs.length us.flatten rfl hown g 0 1 1 noE rfl (by decide) rfl (cells_blk hgc) (one_all (by kernel_rfl)) (by omega) (by omega) ?_
  intro v' w7 ho' hg' hk'
  obtain ⟨z, cz, rfl⟩ := ownForm ho' (by omega)
  have HG7 := Lib.hid (Gath.push (x := P12.E.none) stab_expr hu2 hu3 HU.out hg' ho' hk' rfl rfl)
  have HB7 := Lib.hid ((hg'.block gx (by omega) (fun e => by have := (hlt gx e.symm).1; omega)).trans hbW)
  have hown0 := HG.out.lt
  have HE7 := Lib.hid (he.keep (S' := fun b => w.heap.size ≤ b ∧ b < W.heap.size) (w' := w7) (fun b hb hl => hg'.block b hl (fun e => by have := (hown0 b e.symm).2; omega)) (fun b hb hl => ⟨hb, hl⟩))
  have HR7 := Lib.hid (hr1.grown hg' (fun b hb => by have := (hlt b hb).1; omega))
  have HK7 := Lib.hid ((Kept.of_turn (B := B) (ks := [br, gx]) hx' (by simp)).grown hg' (fun b hb => (hlt b hb).1))
  have hzB : B ≤ z ∧ z < w7.heap.size := ho'.lt z rfl
  have hzW : ∀ b, w.heap.size ≤ b → b < W.heap.size → ¬ z = b := fun b h1 h2 e => by
   subst e
   rcases hk' z rfl with h | h
   ·have := (hown0 z h).2; omega
   ·omega
  obtain ⟨cur, hcur, hcs⟩ : ∃ cur, w7.heap[z]? = some (.cells cur 35) ∧ xs.length * 10 + 10 ≤ cur.size := by
   rcases ho'.2 with ⟨hv, -⟩ | ⟨g, cap, cur, hv, -, h6, h7, h8, h9, -⟩
   ·cases hv
   ·cases hv; exact ⟨cur, h6, by omega⟩
  have HC7 := Lib.hid hcur
  have hb7 : w7.cell? ⟨gx, 34, none⟩ = some (.slice q1 xs.length c1) := by simp [World.cell?, HB7.out, HCC.out]
  have f7 := frozen_of_row w7 gx 34 _ _ HB7.out
  clear ho' hg' hk' hlt hown hu2 hu3 HU us HGW hbW hx' hgc hge hr1 he hcur
  show wpAny _ _ _ _ _ _ _ _
  obtain ⟨kd, op', vk, vi, vs, tb, nm, pp, pm, pc, rfl⟩ := HE7.out.form
  refine Xg.any_two (j := 7) (k := 9) (by kernel_rfl) rfl rfl ?_ ?_
  ·go_wp2
   show wpAny _ _ _ _ _ _ _ _
   refine Xg.any_two (j := 8) (k := 9) (by kernel_rfl) rfl rfl ?_ ?_
   ·refine wpList_putMid rfl 35 _ _ rfl z (xs.length * 10) cur _ 35 rfl rfl HC7.out hcs (by kernel_rfl) (by kernel_rfl) ?_
    intro w8 hp8
    show wpAny _ _ _ _ _ _ _ _
    have hB8 := (hp8.rest gx (by omega)).trans HB7.out
    have hb8 : w8.cell? ⟨gx, 34, none⟩ = some (.slice q1 xs.length c1) := by simp [World.cell?, hB8, HCC.out]
    have f8 := frozen_of_row w8 gx 34 _ _ hB8
    have HG8 := Lib.hid ((Gath.putLast stab_expr HG7.out HC7.out hp8 rfl (HE7.out.keep (fun _ _ _ => rfl) (fun b hb _ => ⟨by omega, hzW b hb.1 hb.2⟩))).set stab_expr h3 34 (.slice (some ⟨z, 0, none⟩) (xs.length + 1) cz))
    have HX8 := Lib.hid hB8
    have HP8 := Lib.hid hp8
    clear hB8 hp8
    refine Xg.any_one (k := 9) (by kernel_rfl) rfl ?_
    go_wp2
    show wpAny _ _ _ _ _ _ _ _
    refine Xg.any_one (k := 10) (by kernel_rfl) rfl ?_
    go_wp2
    show wpAny _ _ _ _ _ _ _ _
    refine Xg.any_nil (by kernel_rfl) ?_
    go_end0
    exact ⟨rfl, ⟨_, heap_setCell_same w8 gx 34 _ _ _ HX8.out, HG8.out, ((HK7.out.trans (Kept.of_puts HP8.out hzB.1)).setCell (.inr (.inl (by simp))) _ _)⟩, Rd.setCell (Puts.rd HP8.out HR7.out (by omega)) h1 _ _, hk1⟩
   ·go_wp2
    show wpAny _ _ _ _ _ _ _ _
    refine Xg.any_two (j := 8) (k := 10) (by kernel_rfl) rfl rfl ?_ ?_
    ·refine wpList_putMid rfl 35 _ _ rfl z (xs.length * 10) cur _ 35 rfl rfl HC7.out hcs (by kernel_rfl) (by kernel_rfl) ?_
     intro w8 hp8
     show wpAny _ _ _ _ _ _ _ _
     have hB8 := (hp8.rest gx (by omega)).trans HB7.out
     have hb8 : w8.cell? ⟨gx, 34, none⟩ = some (.slice q1 xs.length c1) := by simp [World.cell?, hB8, HCC.out]
     have f8 := frozen_of_row w8 gx 34 _ _ hB8
     have HG8 := Lib.hid ((Gath.putLast stab_expr HG7.out HC7.out hp8 rfl (HE7.out.keep (fun _ _ _ => rfl) (fun b hb _ => ⟨by omega, hzW b hb.1 hb.2⟩))).set stab_expr h3 34 (.slice (some ⟨z, 0, none⟩) (xs.length + 1) cz))
     have HX8 := Lib.hid hB8
     have HP8 := Lib.hid hp8
     clear hB8 hp8
     refine Xg.any_one (k := 10) (by kernel_rfl) rfl ?_
     go_wp2
     show wpAny _ _ _ _ _ _ _ _
     refine Xg.any_nil (by kernel_rfl) ?_
     go_end0
     exact ⟨rfl, ⟨_, heap_setCell_same w8 gx 34 _ _ _ HX8.out, HG8.out, ((HK7.out.trans (Kept.of_puts HP8.out hzB.1)).setCell (.inr (.inl (by simp))) _ _)⟩, Rd.setCell (Puts.rd HP8.out HR7.out (by omega)) h1 _ _, hk1⟩
    ·go_wp2
     show wpAny _ _ _ _ _ _ _ _
     refine Xg.any_one (k := 8) (by kernel_rfl) rfl ?_
     refine wpList_putMid rfl 35 _ _ rfl z (xs.length * 10) cur _ 35 rfl rfl ((heap_setCell_other w7 ⟨gx, 34, none⟩ z _ (fun e => by (have h : z = gx := (by simpa using e)); omega)).trans HC7.out) hcs (by kernel_rfl) (by kernel_rfl) ?_
     intro w8 hp8
     show wpAny _ _ _ _ _ _ _ _
     refine Xg.any_nil (by kernel_rfl) ?_
     go_end0
     have hrst : ∀ b, b ≠ gx → (w7.setCell ⟨gx, 34, none⟩ (.slice (some ⟨z, 0, none⟩) (xs.length + 1) cz)).heap[b]? = w7.heap[b]? := fun b hb => heap_setCell_other w7 ⟨gx, 34, none⟩ b _ (fun e => hb (by simpa using e))
     exact ⟨rfl, ⟨_, ((hp8.rest gx (by omega)).trans (heap_setCell_same w7 gx 34 _ _ _ HB7.out)), Gath.putLast stab_expr (HG7.out.set stab_expr h3 34 _) ((hrst z (by omega)).trans HC7.out) hp8 rfl (HE7.out.keep (fun b hb hl => hrst b (by omega)) (fun b hb _ => ⟨by omega, hzW b hb.1 hb.2⟩)), ((HK7.out.setCell (.inr (.inl (by simp))) _ _).trans (Kept.of_puts hp8 hzB.1))⟩, Puts.rd hp8 (Rd.setCell HR7.out h1 _ _) (by omega), hk1⟩
  ·go_wp2
   show wpAny _ _ _ _ _ _ _ _
   refine Xg.any_two (j := 7) (k := 10) (by kernel_rfl) rfl rfl ?_ ?_
   ·go_wp2
    show wpAny _ _ _ _ _ _ _ _
    refine Xg.any_two (j := 8) (k := 10) (by kernel_rfl) rfl rfl ?_ ?_
    ·refine wpList_putMid rfl 35 _ _ rfl z (xs.length * 10) cur _ 35 rfl rfl HC7.out hcs (by kernel_rfl) (by kernel_rfl) ?_
     intro w8 hp8
     show wpAny _ _ _ _ _ _ _ _
     have hB8 := (hp8.rest gx (by omega)).trans HB7.out
     have hb8 : w8.cell? ⟨gx, 34, none⟩ = some (.slice q1 xs.length c1) := by simp [World.cell?, hB8, HCC.out]
     have f8 := frozen_of_row w8 gx 34 _ _ hB8
     have HG8 := Lib.hid ((Gath.putLast stab_expr HG7.out HC7.out hp8 rfl (HE7.out.keep (fun _ _ _ => rfl) (fun b hb _ => ⟨by omega, hzW b hb.1 hb.2⟩))).set stab_expr h3 34 (.slice (some ⟨z, 0, none⟩) (xs.length + 1) cz))
     have HX8 := Lib.hid hB8
     have HP8 := Lib.hid hp8
     clear hB8 hp8
     refine Xg.any_one (k := 10) (by kernel_rfl) rfl ?_
     go_wp2
     show wpAny _ _ _ _ _ _ _ _
     refine Xg.any_nil (by kernel_rfl) ?_
     go_end0
     exact ⟨rfl, ⟨_, heap_setCell_same w8 gx 34 _ _ _ HX8.out, HG8.out, ((HK7.out.trans (Kept.of_puts HP8.out hzB.1)).setCell (.inr (.inl (by simp))) _ _)⟩, Rd.setCell (Puts.rd HP8.out HR7.out (by omega)) h1 _ _, hk1⟩
    ·go_wp2
     show wpAny _ _ _ _ _ _ _ _
     refine Xg.any_one (k := 8) (by kernel_rfl) rfl ?_
     refine wpList_putMid rfl 35 _ _ rfl z (xs.length * 10) cur _ 35 rfl rfl ((heap_setCell_other w7 ⟨gx, 34, none⟩ z _ (fun e => by (have h : z = gx := (by simpa using e)); omega)).trans HC7.out) hcs (by kernel_rfl) (by kernel_rfl) ?_
     intro w8 hp8
     show wpAny _ _ _ _ _ _ _ _
     refine Xg.any_nil (by kernel_rfl) ?_
     go_end0
     have hrst : ∀ b, b ≠ gx → (w7.setCell ⟨gx, 34, none⟩ (.slice (some ⟨z, 0, none⟩) (xs.length + 1) cz)).heap[b]? = w7.heap[b]? := fun b hb => heap_setCell_other w7 ⟨gx, 34, none⟩ b _ (fun e => hb (by simpa using e))
     exact ⟨rfl, ⟨_, ((hp8.rest gx (by omega)).trans (heap_setCell_same w7 gx 34 _ _ _ HB7.out)), Gath.putLast stab_expr (HG7.out.set stab_expr h3 34 _) ((hrst z (by omega)).trans HC7.out) hp8 rfl (HE7.out.keep (fun b hb hl => hrst b (by omega)) (fun b hb _ => ⟨by omega, hzW b hb.1 hb.2⟩)), ((HK7.out.setCell (.inr (.inl (by simp))) _ _).trans (Kept.of_puts hp8 hzB.1))⟩, Puts.rd hp8 (Rd.setCell HR7.out h1 _ _) (by omega), hk1⟩
   ·go_wp2
    show wpAny _ _ _ _ _ _ _ _
    refine Xg.any_one (k := 7) (by kernel_rfl) rfl ?_
    go_wp2
    show wpAny _ _ _ _ _ _ _ _
    refine Xg.any_one (k := 8) (by kernel_rfl) rfl ?_
    refine wpList_putMid rfl 35 _ _ rfl z (xs.length * 10) cur _ 35 rfl rfl ((heap_setCell_other w7 ⟨gx, 34, none⟩ z _ (fun e => by (have h : z = gx := (by simpa using e)); omega)).trans HC7.out) hcs (by kernel_rfl) (by kernel_rfl) ?_
    intro w8 hp8
    show wpAny _ _ _ _ _ _ _ _
    refine Xg.any_nil (by kernel_rfl) ?_
    go_end0
    have hrst : ∀ b, b ≠ gx → (w7.setCell ⟨gx, 34, none⟩ (.slice (some ⟨z, 0, none⟩) (xs.length + 1) cz)).heap[b]? = w7.heap[b]? := fun b hb => heap_setCell_other w7 ⟨gx, 34, none⟩ b _ (fun e => hb (by simpa using e))
    exact ⟨rfl, ⟨_, ((hp8.rest gx (by omega)).trans (heap_setCell_same w7 gx 34 _ _ _ HB7.out)), Gath.putLast stab_expr (HG7.out.set stab_expr h3 34 _) ((hrst z (by omega)).trans HC7.out) hp8 rfl (HE7.out.keep (fun b hb hl => hrst b (by omega)) (fun b hb _ => ⟨by omega, hzW b hb.1 hb.2⟩)), ((HK7.out.setCell (.inr (.inl (by simp))) _ _).trans (Kept.of_puts hp8 hzB.1))⟩, Puts.rd hp8 (Rd.setCell HR7.out h1 _ _) (by omega), hk1⟩
theorem row_group (br gx grb : Nat) (mk : Value → Array Value) (hmk : ∀ v, (mk v)[34]? = some v) (hmk2 : ∀ v v', (mk v).setIfInBounds 34 v' = mk v') (r : P12.R) (w : World) (h : Rd br r w) (hgr : w.heap[grb]? = some (.cells #[rp br] 67)) (hgo : w.heap[gx]? = some (.cells (mk nilS) 40)) (h1 : br < gx) (h2 : br < grb) (hne : grb ≠ gx) :
  Calls Tryz.prog 135 #[rp br, .int .i64 16, .func (.func 141) #[rp br] #[], .func (.func 149) #[] #[rp gx, rp grb]] w
   (RowPost br r (fun xs w' => ∃ v, w'.heap[gx]? = some (.cells (mk v) 40) ∧ SlcAt (fun b => w.heap.size < b) w' 10 (exprR (fun b => w.heap.size < b) w') xs v ∧ 0 < xs.length ∧ Kept w.heap.size [br, gx] w w') (Kept w.heap.size [br, gx] w) (P12.rowF 16 P12.named P12.column r.l.length 0 r)) := by
 have hlg := (Array.getElem?_eq_some_iff.1 hgo).1
 have hlr := (Array.getElem?_eq_some_iff.1 hgr).1
 refine row_gath br 16 gx 40 35 10 mk exprR stab_expr (by decide) r w _ (rp br) (rp gx) (rp grb) 141 149 P12.named P12.column (by decide) h hgo h1 (.inl rfl) ent_named ent_selects3 (fun r W hr _ => named_any br r W hr) (fun xs v r W hl hr hb hg hk hlt => ?_)
 refine (selects3_any br gx grb (w.heap.size + 1) (mk v) v xs r W hr hb (hmk v) (hk.held hgr hlr (by simp; omega)) hg h1 h2 (by omega) (by omega) (by omega) hl hne).mono ?_
 intro e w' hp
 unfold RowPost at hp ⊢
 split at hp
 ·obtain ⟨p1, ⟨v', p2, p3, p4⟩, p5, p6⟩ := hp
  exact ⟨p1, ⟨v', by rw [p2, hmk2], p3, p4⟩, p5, p6⟩
 ·exact ⟨hp.1, Kept.of_turn hp.2 (by simp)⟩
theorem has_got (br : Nat) (r : P12.R) (s : List UInt8) (w : World) (h : Rd br r w) :
  Calls Tryz.prog 20 #[rp br, .string ⟨s.toArray⟩] w fun e w' => e = .returned (.bool (P12.isT s r)) ∧ Turn br w w' ∧ Rd br (P12.has s r).2 w' ∧ P12.Keeps r (P12.has s r).2 := by
 cases hs : P12.isT s r
 ·refine (has_no br r s w h hs).mono ?_
  rintro e w' ⟨rfl, hx⟩
  refine ⟨rfl, ?_⟩
  simp only [P12.has, hs, Bool.false_eq_true, if_false]
  exact ⟨Turn.of_ext hx, h.ext hx, P12.Keeps.refl r⟩
 ·refine (has_yes br r s w h hs).mono ?_
  rintro e w' ⟨rfl, ht, hr⟩
  refine ⟨rfl, ?_⟩
  simp only [P12.has, hs, if_true]
  exact ⟨ht, hr, P12.keeps_takes r⟩
theorem ent_selects4 : Ent 151 := ⟨fun _ _ => by go_simp, by decide⟩
abbrev ordL (b : Bool) (l : List Value) : List Value := l ++ [.bool b]
theorem Tryz.infoOrd : (Tryz.prog.info? 92).map (fun i => (i.zero, i.size, i.bytes)) = some (some (.agg (ordL false noE).toArray), 11, 128) := by kernel_rfl
theorem selects4_any (br gx grb B : Nat) (c : Array Value) (v : Value) (xs : List (P12.E × Bool)) (r : P12.R) (w : World) (h : Rd br r w) (hx : w.heap[gx]? = some (.cells c 40)) (hc : c[35]? = some v) (hrb : w.heap[grb]? = some (.cells #[rp br] 67))
  (hg : Gath B 92 11 ordR xs v w) (h1 : br < gx) (h2 : br < grb) (h3 : gx < B) (h4 : grb < B) (h5 : B ≤ w.heap.size) (h6 : xs.length ≤ 100000) (hne : grb ≠ gx) :
  Calls Tryz.prog 151 #[rp grb, rp gx] w (RowPost br r (fun x w' => ∃ v', w'.heap[gx]? = some (.cells (c.setIfInBounds 35 v') 40) ∧ Gath B 92 11 ordR (xs ++ [x]) v' w' ∧ Kept B [br, gx] w w') (Turn br w) (P12.orderOf r)) := by
 have HR := Lib.hid h
 have lr := h.lt
 clear h
 generalize hres : P12.orderOf r = res
 have hE := hres
 simp only [P12.orderOf, bind, Except.bind, pure, Except.pure] at hE
 have HE := Lib.hid hE
 clear hE hres
 have HX := Lib.hid hx
 have HG := Lib.hid hg
 have HRB := Lib.hid hrb
 have c0 : w.cell? ⟨grb, 0, none⟩ = some (rp br) := by simp [World.cell?, hrb]
 have hbd : ∀ (kd op' vk vi : Int) (vs tb nm : P12.T) (pp : Option Addr) (pm pc : Nat) (W : World), (Instr.build 92 #[(0, Value.agg (exprL kd op' vk vi vs tb nm (.slice pp pm pc)).toArray)]).run Tryz.prog W = .ok (.agg (ordL false (exprL kd op' vk vi vs tb nm (.slice pp pm pc))).toArray) W := fun kd op' vk vi vs tb nm pp pm pc W => by kernel_rfl
 clear hx hrb hg
 obtain ⟨i0, hi, hz0, hz1, hz2⟩ := infoParts Tryz.infoOrd
 have Hi := Lib.hid hi
 have Hz0 := Lib.hid hz0
 have Hz1 := Lib.hid hz1
 have Hz2 := Lib.hid hz2
 clear hi hz0 hz1 hz2
 go_enter Tryz.func151, Tryz.ntmps151
 go_wp2_with fail
 go_at_call 140
 refine (expr_any br _ _ HR.out).mono ?_
 intro e w1 h
 cases hn : P12.expr r
 case error er =>
  rw [hn] at h
  have hE := HE.out
  rw [hn] at hE
  dsimp only at hE
  subst hE
  obtain ⟨rfl, ht⟩ := h
  simp only [faults]
  go_wp2
  exact ⟨rfl, rfl, ht⟩
 rename_i p
 rw [hn] at h HE
 dsimp only at HE
 obtain ⟨e, r1⟩ := p
 obtain ⟨_, rfl, ⟨l, rfl, he⟩, ht1, hr1, hk1⟩ := h
 obtain ⟨kd, op', vk, vi, vs, tb, nm, pp, pm, pc, rfl⟩ := he.form
 have hl1 := ht1.size
 have hrb1 := ht1.held HRB.out (by omega)
 go_wp2_with ((refine wpList_putRow rfl 92 _ _ rfl (w1.heap.size) _ _ 92 rfl rfl (heap_new w1 _) (rfl) ((by kernel_rfl)) ((by kernel_rfl)) ?_; intro w2 hp2); have hrb2 := Puts.held hp2 ((Turn.alloc (Turn.refl br w1) _).held hrb1 (by omega)) (by omega); have c2 : w2.cell? ⟨grb, 0, none⟩ = some (rp br) := (by simp [World.cell?, hrb2]))
 have hl2 : w2.heap.size = w1.heap.size + 1 := by have := hp2.size; rwa [World.size_alloc] at this
 have hT2 : Turn br w w2 := Puts.turn hp2 (Turn.alloc ht1 _) (by omega)
 have hr2 : Rd br r1 w2 := Puts.rd hp2 (hr1.alloc _) (by omega)
 have he2 := Puts.expr hp2 (he.keep (S' := fun b => w.heap.size ≤ b ∧ b ≠ w1.heap.size) (w' := w1.alloc _) (fun b hb hl => ((Below.refl _ _).alloc (Nat.le_refl _) _ : Below w1.heap.size w1 (w1.alloc _)).block b hl) (fun b hb hl => ⟨hb, by omega⟩)) (by omega)
 have hb2 := hp2.blk
 clear hp2
 obtain ⟨d, hd⟩ : ∃ d, P12.isT [68, 69, 83, 67] r1 = d := ⟨_, rfl⟩
 go_at_call 20
 refine (has_got br r1 [68, 69, 83, 67] _ hr2).mono ?_
 rw [hd]
 rintro e3 w3 ⟨rfl, ht3, hr3, hk3⟩
 have hT3 := Turn.trans hT2 ht3
 have hb3 := ht3.held hb2 (by omega)
 have hrb3 := ht3.held hrb2 (by omega)
 have he3 := he2.keep (S' := fun b => w.heap.size ≤ b ∧ b ≠ w1.heap.size) (w' := w3) (fun b hb hl => ht3.block hl (by omega)) (fun b hb _ => hb)
 have c3 : w3.cell? ⟨w1.heap.size, 10, none⟩ = some (.bool false) := by simp [World.cell?, hb3]
 have f3 := frozen_of_row w3 w1.heap.size 10 _ _ hb3
 have hp4 := puts_set hb3 [.bool d] 10
 have hp4 : Puts w1.heap.size (ordL d (exprL kd op' vk vi vs tb nm (.slice pp pm pc))).toArray 92 w3 (w3.setCell ⟨w1.heap.size, 10, none⟩ (.bool d)) := hp4
 have HB4 := Lib.hid hp4.blk
 have HRB4 := Lib.hid (Puts.held hp4 hrb3 (by omega))
 have HT4 := Lib.hid (Puts.turn hp4 hT3 (by omega))
 have HR4 := Lib.hid (Puts.rd hp4 hr3 (by omega))
 have HE4 := Lib.hid (Puts.expr hp4 he3 (by omega))
 have HK4 := Lib.hid (hk1.trans hk3)
 clear hp4 hb3 hrb3 hT3 hr3 he3 ht3 hb2 hrb2 hT2 hr2 he2 c2 hrb1 ht1 hr1 he
 go_upto_if 11 with fail
 generalize w3.setCell ⟨w1.heap.size, 10, none⟩ (.bool d) = W at *
 clear c3 f3
 have c4 : W.cell? ⟨grb, 0, none⟩ = some (rp br) := by simp [World.cell?, HRB4.out]
 cases d
 ·go_wp2_with fail
  go_at_call 20
  refine (has_got br _ [65, 83, 67] _ HR4.out).mono ?_
  rintro e5 w5 ⟨rfl, ht5, hr5, hk5⟩
  have hT5 := Turn.trans HT4.out ht5
  have hb5 := ht5.held HB4.out (by omega)
  have he5 := HE4.out.keep (S' := fun b => w.heap.size ≤ b ∧ b ≠ w1.heap.size) (w' := w5) (fun b hb hl => ht5.block hl (by omega)) (fun b hb _ => hb)
  have hk6 := HK4.out.trans hk5
  clear c4
  have hE := HE.out
  simp only [P12.has, hd, Bool.false_eq_true, if_false] at hE hr5 hk6
  clear HE
  have HE := Lib.hid hE
  clear hE
  have hxW := (hT5).held HX.out (by omega)
  have cW : (w5).cell? ⟨gx, 35, none⟩ = some v := by simp [World.cell?, hxW, hc]
  have lW : w.heap.size ≤ (w5).heap.size := Turn.size hT5
  obtain ⟨us, hown, hu2, hu3, hu4⟩ := HG.out.turn stab_ord hT5 (by omega)
  have HO := Lib.hid hown
  have HU := Lib.hid hu4
  have hlt := hown.lt
  have hlt0 := HG.out.lt
  clear hown hu4
  go_wp2_with (first | (refine wpList_loadRow rfl 92 _ rfl (w1.heap.size) _ 92 (0, 0) _ rfl (hb5) Tryz.underlying92 rfl ((by kernel_rfl)) ?_) | (at_builtin; refine Xo.wpList_appb B rfl _ _ 38 rfl 92 i0 _ 11 128 Tryz.underlying38 Hi.out Hz0.out Hz1.out Hz2.out rfl (by decide) v xs.length us.flatten rfl (own_turn HO.out (Turn.alloc (Turn.refl br _) _) (by omega)) (w5).heap.size 0 1 1 (ordL false (exprL kd op' vk vi vs tb nm (.slice pp pm pc))) rfl (by decide) rfl (cells_list (w5) _ _ rfl) (one_all (by kernel_rfl)) (by omega) (by rw [World.size_alloc]; omega) ?_; intro v' w7 ho' hg' hk'; obtain ⟨z, cz, rfl⟩ := ownForm ho' (by omega); have hx7 := (hg'.block gx (by rw [World.size_alloc]; have := (Array.getElem?_eq_some_iff.1 hxW).1; omega) (fun e => by have := (hlt gx e.symm).1; omega)).trans ((Turn.alloc (Turn.refl br (w5)) _).held hxW (by omega)); have c7 : w7.cell? ⟨gx, 35, none⟩ = some v := (by simp [World.cell?, hx7, hc]); have f7 := frozen_of_row w7 gx 35 _ _ hx7; have HO7 := Lib.hid ho'; have HG7 := Lib.hid hg'; have HK7 := Lib.hid hk'; have HX7 := Lib.hid hx7; clear ho' hg' hk' hx7 hxW cW))
  go_end0
  have hE := HE.out
  subst hE
  refine ⟨rfl, ⟨.slice (some ⟨z, 0, none⟩) (xs.length + 1) cz, ?_, ?_, ?_⟩, Rd.setCell ((hr5).alloc _ |>.grown HG7.out (fun b hb => by have := (hlt b hb).1; omega)) h1 _ _, hk6⟩
  ·rw [heap_setCell_same w7 gx 35 _ _ _ HX7.out]
  ·refine (Gath.push stab_ord hu2 hu3 (fun j x u hx hu => stab_ord _ _ _ _ _ _ (HU.out j x u hx hu) (fun b hb hl => ((Below.refl _ _).alloc (Nat.le_refl _) _ : Below (w5).heap.size (w5) ((w5).alloc _)).block b hl) (fun b hb _ => hb)) HG7.out HO7.out HK7.out rfl ⟨_, rfl, (he5).keep (fun b hb hl => ((Below.refl _ _).alloc (Nat.le_refl _) _ : Below (w5).heap.size (w5) ((w5).alloc _)).block b hl) (fun b hb _ => ⟨by have := hb.1; omega, fun e => by have := (hlt0 b e).2; have := hb.1; omega⟩)⟩).set stab_ord h3 _ _
  ·exact ((Kept.of_turn (Turn.alloc hT5 _) (by simp)).grown HG7.out (fun b hb => (hlt b hb).1)).setCell (.inr (.inl (by simp))) _ _
 ·have hT5 := HT4.out
  have hb5 := HB4.out
  have he5 := HE4.out
  have hr5 := HR4.out
  have hk6 := HK4.out
  have hE := HE.out
  simp only [P12.has, hd, if_true] at hE hr5 hk6
  clear HE
  have HE := Lib.hid hE
  clear hE
  have hxW := (hT5).held HX.out (by omega)
  have cW : (W).cell? ⟨gx, 35, none⟩ = some v := by simp [World.cell?, hxW, hc]
  have lW : w.heap.size ≤ (W).heap.size := Turn.size hT5
  obtain ⟨us, hown, hu2, hu3, hu4⟩ := HG.out.turn stab_ord hT5 (by omega)
  have HO := Lib.hid hown
  have HU := Lib.hid hu4
  have hlt := hown.lt
  have hlt0 := HG.out.lt
  clear hown hu4
  go_wp2_with (first | (refine wpList_loadRow rfl 92 _ rfl (w1.heap.size) _ 92 (0, 0) _ rfl (hb5) Tryz.underlying92 rfl ((by kernel_rfl)) ?_) | (at_builtin; refine Xo.wpList_appb B rfl _ _ 38 rfl 92 i0 _ 11 128 Tryz.underlying38 Hi.out Hz0.out Hz1.out Hz2.out rfl (by decide) v xs.length us.flatten rfl (own_turn HO.out (Turn.alloc (Turn.refl br _) _) (by omega)) (W).heap.size 0 1 1 (ordL true (exprL kd op' vk vi vs tb nm (.slice pp pm pc))) rfl (by decide) rfl (cells_list (W) _ _ rfl) (one_all (by kernel_rfl)) (by omega) (by rw [World.size_alloc]; omega) ?_; intro v' w7 ho' hg' hk'; obtain ⟨z, cz, rfl⟩ := ownForm ho' (by omega); have hx7 := (hg'.block gx (by rw [World.size_alloc]; have := (Array.getElem?_eq_some_iff.1 hxW).1; omega) (fun e => by have := (hlt gx e.symm).1; omega)).trans ((Turn.alloc (Turn.refl br (W)) _).held hxW (by omega)); have c7 : w7.cell? ⟨gx, 35, none⟩ = some v := (by simp [World.cell?, hx7, hc]); have f7 := frozen_of_row w7 gx 35 _ _ hx7; have HO7 := Lib.hid ho'; have HG7 := Lib.hid hg'; have HK7 := Lib.hid hk'; have HX7 := Lib.hid hx7; clear ho' hg' hk' hx7 hxW cW))
  go_end0
  have hE := HE.out
  subst hE
  refine ⟨rfl, ⟨.slice (some ⟨z, 0, none⟩) (xs.length + 1) cz, ?_, ?_, ?_⟩, Rd.setCell ((hr5).alloc _ |>.grown HG7.out (fun b hb => by have := (hlt b hb).1; omega)) h1 _ _, hk6⟩
  ·rw [heap_setCell_same w7 gx 35 _ _ _ HX7.out]
  ·refine (Gath.push stab_ord hu2 hu3 (fun j x u hx hu => stab_ord _ _ _ _ _ _ (HU.out j x u hx hu) (fun b hb hl => ((Below.refl _ _).alloc (Nat.le_refl _) _ : Below (W).heap.size (W) ((W).alloc _)).block b hl) (fun b hb _ => hb)) HG7.out HO7.out HK7.out rfl ⟨_, rfl, (he5).keep (fun b hb hl => ((Below.refl _ _).alloc (Nat.le_refl _) _ : Below (W).heap.size (W) ((W).alloc _)).block b hl) (fun b hb _ => ⟨by have := hb.1; omega, fun e => by have := (hlt0 b e).2; have := hb.1; omega⟩)⟩).set stab_ord h3 _ _
  ·exact ((Kept.of_turn (Turn.alloc hT5 _) (by simp)).grown HG7.out (fun b hb => (hlt b hb).1)).setCell (.inr (.inl (by simp))) _ _
theorem row_order (br gx grb : Nat) (mk : Value → Array Value) (hmk : ∀ v, (mk v)[35]? = some v) (hmk2 : ∀ v v', (mk v).setIfInBounds 35 v' = mk v') (r : P12.R) (w : World) (h : Rd br r w) (hgr : w.heap[grb]? = some (.cells #[rp br] 67)) (hgo : w.heap[gx]? = some (.cells (mk nilS) 40)) (h1 : br < gx) (h2 : br < grb) (hne : grb ≠ gx) :
  Calls Tryz.prog 138 #[rp br, .func (.func 151) #[] #[rp grb, rp gx]] w
   (RowPost br r (fun xs w' => ∃ v, w'.heap[gx]? = some (.cells (mk v) 40) ∧ SlcAt (fun b => w.heap.size < b) w' 11 (ordR (fun b => w.heap.size < b) w') xs v ∧ 0 < xs.length ∧ Kept w.heap.size [br, gx] w w') (Kept w.heap.size [br, gx] w) (P12.exprs P12.orderOf r)) := by
 have hlg := (Array.getElem?_eq_some_iff.1 hgo).1
 have hlr := (Array.getElem?_eq_some_iff.1 hgr).1
 unfold P12.exprs
 refine exprs_of br r w _ _ _ _ (row_gath br 16 gx 40 92 11 mk ordR stab_ord (by decide) r w _ (rp br) (rp grb) (rp gx) 145 151 P12.begins P12.orderOf (by decide) h hgo h1 (.inl rfl) ent_begins ent_selects4 (fun r W hr _ => begins_any br r W hr) (fun xs v r W hl hr hb hg hk hlt => ?_))
 refine (selects4_any br gx grb (w.heap.size + 1) (mk v) v xs r W hr hb (hmk v) (hk.held hgr hlr (by simp; omega)) hg h1 h2 (by omega) (by omega) (by omega) hl hne).mono ?_
 intro e w' hp
 unfold RowPost at hp ⊢
 split at hp
 ·obtain ⟨p1, ⟨v', p2, p3, p4⟩, p5, p6⟩ := hp
  exact ⟨p1, ⟨v', by rw [p2, hmk2], p3, p4⟩, p5, p6⟩
 ·exact ⟨hp.1, Kept.of_turn hp.2 (by simp)⟩
end Go.Proofs.YtkpmclddjkebeaaGreatDoor
namespace P12
def joinOf (s : T × T) (r : R) : Except Er ((List (T × T) × E) × R) := if isT [74, 79, 73, 78] r then (do
   let (s2, r) ← source (takes r)
   let r ← must [79, 78] r
   let (e, r) ← expr r
   return (([s, s2], e), r)) else .ok (([s], E.none), r)
def groupOf (r : R) : Except Er (List E × R) := if isT [71, 82, 79, 85, 80] r then (do
   let r ← must [66, 89] (takes r)
   rowF 16 named column r.l.length 0 r) else .ok ([], r)
def orderBy (r : R) : Except Er (List (E × Bool) × R) := if isT [79, 82, 68, 69, 82] r then (do
   let r ← must [66, 89] (takes r)
   exprs orderOf r) else .ok ([], r)
def limitOf (r : R) : Except Er (Int × R) := if isT [76, 73, 77, 73, 84] r then (if (nxt (takes r)).kind ≠ 3 then fails 120 (takes r) else do
   let (n, r) ← int 9223372036854775807 (takes r)
   return ((n : Int), r)) else .ok (-1, r)
theorem okBind {α β : Type} (B : α) (F : α → Except Er β) : Except.bind (.ok B) F = F B := rfl
theorem iteBind {α β : Type} {c : Prop} [Decidable c] (A : Except Er α) (B : α) (F : α → Except Er β) : Except.bind (if c then A else .ok B) F = if c then Except.bind A F else F B := by
 split <;> rfl
theorem selects_eq (r : R) : selects r = (do
 let (items, r) ← rowF 16 (fun r => isT [42] r || begins r) item r.l.length 0 r
 let r ← must [70, 82, 79, 77] r
 let (s, r) ← source r
 let ((frm, join), r) ← joinOf s r
 let (w, r) ← wher r
 let (group, r) ← groupOf r
 let (order, r) ← orderBy r
 let (limit, r) ← limitOf r
 return ({ made 8 with items := items, frm := frm, join := join, wher := w, group := group, order := order, limit := limit }, r)) := by
 simp only [selects, joinOf, groupOf, orderBy, limitOf, bind, pure, Except.pure, iteBind, okBind]
theorem source_ok {r r1 r2 : R} {a b : T} (h : name r = .ok (a, r1)) (k : maybe r1 = .ok (b, r2)) : source r = .ok ((a, b), r2) := by
 simp only [source, bind, Except.bind, pure, Except.pure, h, k]
theorem source_err1 {r : R} {e : Er} (h : name r = .error e) : source r = .error e := by
 simp only [source, bind, Except.bind, pure, Except.pure, h]
theorem source_err2 {r r1 : R} {a : T} {e : Er} (h : name r = .ok (a, r1)) (k : maybe r1 = .error e) : source r = .error e := by
 simp only [source, bind, Except.bind, pure, Except.pure, h, k]
end P12
namespace Go.Proofs.YtkpmclddjkebeaaGreatDoor
open Go.RowKit
theorem facts_two {m i j : Nat} {p q : World → Prop} {r : Xk.Facts} {w : World} (h : Xk.factsAnc m ((i, p) :: (j, q) :: r) w) (hi : m.testBit i = true) (hj : m.testBit j = true) : p w ∧ q w := by
 unfold Xk.factsAnc at h
 rw [if_pos hi] at h
 obtain ⟨h1, h2⟩ := h
 unfold Xk.factsAnc at h2
 rw [if_pos hj] at h2
 exact ⟨h1, h2.1⟩
def srcN (r : P12.R) (u : Value) (_ : World) : Prop := ∃ a r1, P12.name r = .ok (a, r1) ∧ u = bs a
def srcM (r : P12.R) (u : Value) (_ : World) : Prop := ∃ a r1 b r2, P12.name r = .ok (a, r1) ∧ P12.maybe r1 = .ok (b, r2) ∧ u = bs b
def srcB (r : P12.R) (u : Value) (_ : World) : Prop := ∃ x r2, P12.source r = .ok (x, r2) ∧ u = .agg #[bs x.1, bs x.2]
def newS (r : P12.R) (B : Nat) (u : Value) (W : World) : Prop := ∃ x r2 g, P12.source r = .ok (x, r2) ∧ u = .slice (some ⟨g, 0, none⟩) 1 1 ∧ B ≤ g ∧ W.heap[g]? = some (.cells #[bs x.1, bs x.2] 90)
def srcS1 (br : Nat) (r : P12.R) (W : World) : Prop := ∃ a r1, P12.name r = .ok (a, r1) ∧ Rd br r1 W ∧ P12.Keeps r r1
def srcS2 (br : Nat) (r : P12.R) (W : World) : Prop := ∃ x r2, P12.source r = .ok (x, r2) ∧ Rd br r2 W ∧ P12.Keeps r r2
def srcX (br : Nat) (r : P12.R) (w0 : World) (ch : List PanicEntry) (W : World) : Prop := ∃ er, P12.source r = .error er ∧ Ending.panicked ch = faults er ∧ Turn br w0 W
theorem srcS1.ext {br : Nat} {r : P12.R} : ∀ w w', Xk.Ext w w' → srcS1 br r w → srcS1 br r w' := fun _ _ hx ⟨a, r1, h1, h2, h3⟩ => ⟨a, r1, h1, h2.ext hx, h3⟩
theorem srcS2.ext {br : Nat} {r : P12.R} : ∀ w w', Xk.Ext w w' → srcS2 br r w → srcS2 br r w' := fun _ _ hx ⟨a, r1, h1, h2, h3⟩ => ⟨a, r1, h1, h2.ext hx, h3⟩
theorem newS.turn {br : Nat} {r : P12.R} {B : Nat} (hB : br < B) : ∀ u W W', Turn br W W' → newS r B u W → newS r B u W' := by
 rintro u W W' ht ⟨x, r2, g, h1, rfl, hg, hc⟩
 exact ⟨x, r2, g, h1, rfl, hg, ht.held hc (by omega)⟩
theorem name_loud (br : Nat) (r : P12.R) (w0 W : World) (h : Rd br r W) (ht : Turn br w0 W) : Calls Tryz.prog 131 #[rp br] W (Xh.loudPost (Turn br) (srcX br r w0) (srcS1 br r) W none (srcN r)) := by
 refine (name_any br r W h).mono ?_
 intro e w2 h
 rcases hn : P12.name r with er | ⟨a, r1⟩
 ·rw [hn] at h
  obtain ⟨rfl, h2⟩ := h
  exact .inr ⟨_, rfl, er, P12.source_err1 hn, rfl, Turn.trans ht h2⟩
 ·rw [hn] at h
  obtain ⟨v, rfl, rfl, h2, h3, h4⟩ := h
  exact .inl ⟨_, rfl, h2, ⟨a, r1, hn, h3, h4⟩, ⟨a, r1, hn, rfl⟩, fun b hb => by cases hb⟩
theorem maybe_loud (br : Nat) (r : P12.R) (w0 W : World) (h : srcS1 br r W) (ht : Turn br w0 W) : Calls Tryz.prog 148 #[rp br] W (Xh.loudPost (Turn br) (srcX br r w0) (srcS2 br r) W none (srcM r)) := by
 obtain ⟨a, r1, hn, hr, hk⟩ := h
 refine (maybe_any br r1 W hr).mono ?_
 intro e w2 h
 rcases hm : P12.maybe r1 with er | ⟨b, r2⟩
 ·rw [hm] at h
  obtain ⟨rfl, h2⟩ := h
  exact .inr ⟨_, rfl, er, P12.source_err2 hn hm, rfl, Turn.trans ht h2⟩
 ·rw [hm] at h
  obtain ⟨v, rfl, rfl, h2, h3, h4⟩ := h
  exact .inl ⟨_, rfl, h2, ⟨_, r2, P12.source_ok hn hm, h3, hk.trans h4⟩, ⟨a, r1, b, r2, hn, hm, rfl⟩, fun b hb => by cases hb⟩
theorem srcB_of {r : P12.R} {u v : Value} {w : World} (h : srcM r v w ∧ srcN r u w) : ∃ a b r2, u = bs a ∧ v = bs b ∧ P12.source r = .ok ((a, b), r2) := by
 obtain ⟨⟨a, r1, b, r2, h1, h2, rfl⟩, ⟨a', r1', h3, rfl⟩⟩ := h
 rw [h1] at h3
 cases h3
 exact ⟨a, b, r2, rfl, rfl, P12.source_ok h1 h2⟩
theorem Tryz.infoSrc : (Tryz.prog.info? 90).map (fun i => (i.zero, i.size, i.bytes)) = some (some (.agg #[bs [], bs []]), 2, 32) := by kernel_rfl
theorem own_one {w : World} {B g : Nat} {e : TypeId} {l : List Value} (h : w.heap[g]? = some (.cells l.toArray e)) (hB : B ≤ g) : w.ownsRow B e l.length (.slice (some ⟨g, 0, none⟩) 1 1) 1 l := by
 refine ⟨by simp, .inr ⟨g, 1, l.toArray, rfl, hB, h, by simp, by decide, by simp, by simp⟩⟩
theorem slc_src {w : World} {g : Nat} {x : P12.T × P12.T} {S : Nat → Prop} (h : w.heap[g]? = some (.cells #[bs x.1, bs x.2] 90)) (hS : S g) : SlcAt S w 2 srcR [x] (.slice (some ⟨g, 0, none⟩) 1 1) := by
 refine .inr ⟨g, 1, [[bs x.1, bs x.2]], rfl, hS, by simp, by simp, rfl, by simp, by decide, fun j v hj => ?_, fun j y u hy hu => ?_⟩
 ·have hj' : #[bs x.1, bs x.2][j]? = some v := by simpa using hj
  unfold World.cell?
  rw [h]
  simpa using hj'
 ·match j, hy, hu with
  | 0, hy, hu => cases hy; cases hu; rfl
theorem own_srcs {w : World} {B : Nat} {v : Value} {l : List (P12.T × P12.T)} {S : Nat → Prop} (hl : 0 < l.length) (h : w.ownsRow B 90 2 v l.length (l.map fun x => [bs x.1, bs x.2]).flatten) (hS : ∀ b, v.ownBlock = some b → S b) : SlcAt S w 2 srcR l v := by
 rcases h.2 with ⟨-, h0⟩ | ⟨g, cap, cur, rfl, h5, h6, h7, h8, h9, h10⟩
 ·omega
 ·refine .inr ⟨g, cap, l.map fun x => [bs x.1, bs x.2], rfl, hS g rfl, hl, h7, by simp, fun u hu => (by obtain ⟨y, -, rfl⟩ := List.mem_map.1 hu; rfl), by decide, fun j v hj => ?_, fun j x u hx hu => ?_⟩
  ·rw [← h10] at hj
   have hj' : cur.toList[j]? = some v := by
    rw [List.getElem?_take] at hj
    split at hj
    ·exact hj
    ·cases hj
   simp [World.cell?, h6]
   simpa using hj'
  ·rw [List.getElem?_map, hx] at hu
   cases hu
   rfl
section
variable {br gb gz gx : Nat} {w0 : World} {r0 : P12.R} {K : (Nat → Prop) → World → Prop} {r r' : P12.R} {c c' : Array Value} {w w' : World}
theorem Fq.drop (F : Fq br gb gz gx w0 r0 K r c w) : Fq br gb gz gx w0 r0 (fun _ _ => True) r c w := by
 obtain ⟨h1, h2, h3, h4, h5, h6, h7, h8, h9, h10, h11, h12, h13, h14⟩ := F
 exact ⟨h1, h2, h3, h4, h5, h6, fun _ _ _ _ _ _ _ => trivial, trivial, h9, h10, h11, h12, h13, h14⟩
theorem Fq.grown (F : Fq br gb gz gx w0 r0 (fun _ _ => True) r c w) {k : Option Nat} (hg : w.grownBy w' k) (hk : ∀ b, k = some b → gx < b) : Fq br gb gz gx w0 r0 (fun _ _ => True) r c w' := by
 have hsz := F.size
 obtain ⟨h1, h2, h3, h4, h5, h6, h7, h8, h9, h10, h11, h12, h13, h14⟩ := F
 have hb : ∀ b, b ≤ gx → b < w.heap.size → w'.heap[b]? = w.heap[b]? := fun b hb hl => hg.block b hl (fun e => by have := hk b e.symm; omega)
 refine ⟨(hb _ (by omega) (by omega)).trans h1, (hb _ (by omega) (by omega)).trans h2, (hb _ (by omega) (by omega)).trans h3, ?_, h5.grown hg (fun b e => by have := hk b e; omega), h6, h7, h8, h9, h10, h11, h12, h13, h14⟩
 obtain ⟨t1, t2, t3, t4, t5⟩ := h4
 refine ⟨hg.os.trans t1, hg.tape.trans t2, hg.output.trans t3, Nat.le_trans t4 hg.size, fun b hb' => ?_⟩
 rw [hb b (by omega) (by omega)]
 exact t5 b hb'
end
abbrev andK (K A : (Nat → Prop) → World → Prop) : (Nat → Prop) → World → Prop := fun S w => K S w ∧ A S w
abbrev selL (items frm : Value) (jn wh : List Value) (grp ord : Value) (lim : Int) : Array Value := (stmtL 8 [] nilS nilS nilS nilS [] [] false nilS nilS nilS wh items frm jn grp ord lim).toArray
abbrev kI (items : List (Bool × P12.E × P12.T)) (v : Value) : (Nat → Prop) → World → Prop := andK (fun _ _ => True) (fun S w => SlcAt S w 12 (itemR S w) items v)
abbrev kJ (items : List (Bool × P12.E × P12.T)) (v : Value) (frm : List (P12.T × P12.T)) (vf : Value) (je : P12.E) (jl : List Value) : (Nat → Prop) → World → Prop := andK (andK (kI items v) (fun S w => SlcAt S w 2 srcR frm vf)) (fun S w => ExprAt S w je jl)
theorem selects_any (br : Nat) (r : P12.R) (w : World) (h : Rd br r w) : Calls Tryz.prog 74 #[rp br] w (Got br w r (StmtV w) (P12.selects r)) := by
 have HR := Lib.hid h
 have lr := h.lt
 clear h
 generalize hres : P12.selects r = res
 have hE := hres
 rw [P12.selects_eq] at hE
 simp only [bind, Except.bind, pure, Except.pure] at hE
 have HE := Lib.hid hE
 clear hE hres
 have HM := Lib.hid fun W => made_any 8 W
 rw [if_pos rfl] at HM
 have hbs : ∀ (a b : P12.T) (W : World), (Instr.build 90 #[(0, bs a), (1, bs b)]).run Tryz.prog W = .ok (.agg #[bs a, bs b]) W := fun a b W => by kernel_rfl
 obtain ⟨i0, hi, hz0, hz1, hz2⟩ := infoParts Tryz.infoSrc
 have Hi := Lib.hid hi
 have Hz0 := Lib.hid hz0
 have Hz1 := Lib.hid hz1
 have Hz2 := Lib.hid hz2
 clear hi hz0 hz1 hz2
 go_enter Tryz.func74, Tryz.ntmps74
 go_wp2_with fail
 go_at_call 76
 refine (HM.out _).mono ?_
 rintro e w1 ⟨rfl, hx1⟩
 go_wp2_with ((refine wpList_putRow rfl 40 _ _ rfl (w1.heap.size) _ _ 40 rfl rfl (heap_new w1 _) rfl (by kernel_rfl) (by kernel_rfl) ?_; intro w2 hp2); have F2 := (Fq.start HR.out hx1 hp2).cells (c' := selL nilS nilS noE noE nilS nilS (-1)) rfl; have c2 := F2.cbox)
 have hbx := F2.bx
 have hzx := F2.zx
 clear hp2 hx1
 go_at_call 135
 refine (row_items br w1.heap.size w.heap.size (fun v => selL v nilS noE noE nilS nilS (-1)) (fun _ => rfl) (fun _ _ => rfl) r w2 F2.rd F2.box F2.blk (by omega) (by omega) (by omega)).mono ?_
 intro e w3 h
 cases hn : P12.rowF 16 (fun r => P12.isT [42] r || P12.begins r) P12.item r.l.length 0 r
 case error er =>
  rw [hn] at h
  have hE := HE.out
  rw [hn] at hE
  dsimp only at hE
  subst hE
  obtain ⟨rfl, ht⟩ := h
  simp only [faults]
  go_wp2
  exact ⟨rfl, rfl, F2.rowAfter ht⟩
 rename_i p
 rw [hn] at h HE
 dsimp only at HE
 obtain ⟨items, r3⟩ := p
 obtain ⟨rfl, ⟨v, hb, hs, hn3, hkt⟩, hr, hk⟩ := h
 obtain ⟨q1, q2, q3, rfl⟩ := slc_one hs
 have F3 := (F2.row hkt hb hr hk).add (stabP_slc stab_item 12 items (.slice q1 q2 q3)) (stabP_slc stab_item 12 items (.slice q1 q2 q3) _ _ _ _ hs (fun _ _ _ => rfl) (fun b hb _ => by have := F2.size; omega))
 have c3 := F3.cbox
 have hW3 := F3.size
 clear hkt hb hs hr hk c2 F2
 go_wp2_with fail
 go_at_call 132
 refine (must_got br [70, 82, 79, 77] r3 _ _ (F3.alloc _).rd (cell_at _ _ _ rfl) (by omega)).mono ?_
 intro e w4 h
 cases hn : P12.must [70, 82, 79, 77] r3
 case error er =>
  rw [hn] at h
  have hE := HE.out
  rw [hn] at hE
  dsimp only at hE
  subst hE
  obtain ⟨rfl, ht⟩ := h
  simp only [faults]
  go_wp2
  exact ⟨rfl, rfl, (F3.alloc _).after ht⟩
 rename_i p
 rw [hn] at h HE
 dsimp only at HE
 rename P12.R => r4
 obtain ⟨rfl, ht, hr, hk⟩ := h
 have F4 := (F3.alloc _).step ht hr hk
 have c4 := F4.cbox
 have hW4 := F4.size
 clear ht hr hk c3 F3 hW3
 have F4H := Lib.hid F4
 go_wp2
 refine Xh.wp_region_rel (E := Turn br) (Xe.pre_ES _) (srcX br r4 w) 1 3 (srcS1 br r4) (srcS2 br r4) 6 (fun _ => none) (fun _ _ h => by cases h) (fun _ _ _ _ h => by cases h) [(1, srcN r4), (3, srcM r4), (4, srcB r4), (5, newS r4 w4.heap.size)] (by kernel_rfl) (by kernel_rfl) (Xh.stable_one ((by
   intro y hy
   simp only [List.mem_cons, List.not_mem_nil, or_false] at hy
   rcases hy with rfl | rfl | rfl | rfl
   ·exact fun _ _ _ _ h => h
   ·exact fun _ _ _ _ h => h
   ·exact fun _ _ _ _ h => h
   ·exact newS.turn (by omega)))) ((fun ch a w' hd ⟨er, h1, h2, h3⟩ => by
   have hE := HE.out
   rw [h1] at hE
   dsimp only at hE
   subst hE
   exact ⟨hd, h2, h3⟩)) srcS1.ext srcS2.ext ⟨by decide, by decide, by decide, by kernel_rfl, fun o h => (by cases h; rfl), fun o h => (by cases h; rfl), by simp [Xk.tells], by simp [Xk.tells]⟩ ?_
 simp only [List.take_succ_cons, List.take_zero, List.drop_succ_cons, List.drop_zero]
 (refine Xh.rel_det (Xk.wanted_none (by rfl)) (by rfl) (fun K hK => ?_); apply Exists.intro; refine ⟨fun W hx hp => ?_, ?_⟩; (have c := hx.cell (show w4.drew.cell? ⟨w.heap.size, 0, none⟩ = some (rp br) from c4) (by omega); go_simp; first | exact ⟨rfl, rfl⟩ | ((try refine ⟨by kernel_rfl, ?_⟩); (fail))); (go_simp; refine hK _ ?_; clear hK K))
 (refine Xh.rel_loud1 (by rfl) (by rfl) rfl (fun W hx hp => ?_) (fun u K hK => ?_); (go_simp; (refine (name_loud br r4 w _ (F4H.out.rd.drew.ext hx) (Turn.trans (Turn.drew F4H.out.turn) (Turn.of_ext hx))).mono ?_; exact fun _ _ h => h)); (go_simp; refine hK _ ?_; clear hK K))
 (refine Xh.rel_det (Xk.wanted_none (by rfl)) (by rfl) (fun K hK => ?_); apply Exists.intro; refine ⟨fun W hx hp => ?_, ?_⟩; (have c := hx.cell (show w4.drew.cell? ⟨w.heap.size, 0, none⟩ = some (rp br) from c4) (by omega); go_simp; first | exact ⟨rfl, rfl⟩ | ((try refine ⟨by kernel_rfl, ?_⟩); (fail))); (go_simp; refine hK _ ?_; clear hK K))
 (refine Xh.rel_loud2 (by rfl) (by rfl) ⟨by decide, rfl⟩ (fun W hx hs hp => ?_) (fun u2 K hK => ?_); (go_simp; (refine (maybe_loud br r4 w _ hs (Turn.trans (Turn.drew F4H.out.turn) hx)).mono ?_; exact fun _ _ h => h)); (go_simp; refine hK _ ?_; clear hK K))
 (refine Xh.rel_make (by rfl) (by rfl) (by decide) (fun W hx hp => ?_) (fun u3 K hK => ?_); ((obtain ⟨a, b, r5, rfl, rfl, hsrc⟩ := srcB_of (facts_two hp (by kernel_rfl) (by kernel_rfl))); go_simp; exact ⟨Below.refl _ _, ⟨_, _, hsrc, rfl⟩, fun b hb => by cases hb⟩); (go_simp; refine hK _ ?_; clear hK K))
 (refine Xh.rel_make (by rfl) (by rfl) (by decide) (fun W hx hp => ?_) (fun u4 K hK => ?_); ((obtain ⟨x, r5, hsrc, rfl⟩ := Xe.facts_head hp (by kernel_rfl)); go_simp; exact ⟨(Below.refl _ _).alloc (Nat.le_refl _) _, ⟨x, r5, W.heap.size, hsrc, rfl, by simpa using hx.size, heap_new W _⟩, fun b hb => by cases hb; exact ⟨.inr (Nat.le_refl _), by simp⟩⟩); (go_simp; refine hK _ ?_; clear hK K))
 refine Xh.rel_nil (fun W hx hs hp hg => ?_)
 obtain ⟨⟨x, r5, g, hsrc, rfl, hge, hgc⟩, -⟩ := hp
 obtain ⟨x', r5', hsrc', hr5, hk5⟩ := hs
 rw [hsrc] at hsrc'
 cases hsrc'
 have F5 := F4.step ((Turn.drew (Turn.refl _ _)).trans hx) hr5 hk5
 have hI5 := F5.stab _ (fun b => w1.heap.size < b ∧ b < w4.heap.size) _ W (F4.stab _ (fun b => w1.heap.size < b ∧ b < w4.heap.size) _ w4 F4.piece (fun _ _ _ => rfl) (fun b h1 h2 => ⟨h1, h2⟩)) (fun b hb hl => ((Turn.drew (Turn.refl _ _)).trans hx : Turn br w4 W).block hl (by omega)) (fun b hb _ => hb)
 have c5 := F5.cell (o := 23) rfl
 have f5 := F5.free 23
 have hW5 := F5.size
 have hlW := Turn.size ((Turn.drew (Turn.refl _ _)).trans hx : Turn br w4 W)
 have hE := HE.out
 rw [hsrc] at hE
 clear HE
 dsimp only at hE
 have HE := Lib.hid hE
 clear hE hx hg c4 F4 F4H hsrc hr5 hk5
 have F6 := (F5.set 23 (.slice (some ⟨g, 0, none⟩) 1 1)).cells (c' := selL (.slice q1 q2 q3) (.slice (some ⟨g, 0, none⟩) 1 1) noE noE nilS nilS (-1)) rfl
 have c6 := F6.cbox
 have hrst : ∀ b, b ≠ w1.heap.size → (W.setCell ⟨w1.heap.size, 23, none⟩ (.slice (some ⟨g, 0, none⟩) 1 1)).heap[b]? = W.heap[b]? := fun b hb => heap_setCell_other W ⟨w1.heap.size, 23, none⟩ b _ (fun e => hb (by simpa using e))
 have hg6 := (hrst g (by omega)).trans hgc
 have hI6 := F5.stab _ (fun b => w1.heap.size < b ∧ b < w4.heap.size) _ _ hI5 (fun b hb hl => hrst b (by omega)) (fun b hb _ => hb)
 have HI6 := Lib.hid hI6
 have HG6 := Lib.hid hg6
 have hst := F5.stab
 have hsz6 : (W.setCell ⟨w1.heap.size, 23, none⟩ (.slice (some ⟨g, 0, none⟩) 1 1)).heap.size = W.heap.size := World.size_setCell _ _ _
 clear hrst hg6 hI6 hI5 F5 hgc
 go_wp2_with fail
 go_at_call 20
 refine (has_got br r5 [74, 79, 73, 78] _ F6.rd).mono ?_
 rintro e w7 ⟨rfl, ht, hr, hk⟩
 clear c6 c5 f5
 have F7 := F6.step ht hr hk
 have hW7 := F7.size
 have hlg : g < w7.heap.size := (Array.getElem?_eq_some_iff.1 (ht.held HG6.out (by omega))).1
 have hl7 := ht.size
 rw [hsz6] at hl7
 have HI7 := Lib.hid (hst _ (fun b => w1.heap.size < b ∧ b < w4.heap.size) _ _ HI6.out (fun b hb hl => ht.block hl (by omega)) (fun b hb _ => hb))
 have HG7 := Lib.hid (ht.held HG6.out (by omega))
 clear ht hr hk HI6 HG6 F6 hsz6
 go_upto_if 20 with fail
 go_cut [] from 4 (fun w' => ∃ (frm : List (P12.T × P12.T)) (je : P12.E) (r' : P12.R) (vf : Value) (jl : List Value), P12.joinOf x r5 = .ok ((frm, je), r') ∧
  Fq br w.heap.size (w.heap.size + 1) w1.heap.size w r (kJ items (.slice q1 q2 q3) frm vf je jl) r' (selL (.slice q1 q2 q3) vf jl noE nilS nilS (-1)) w')
 case first =>
  cases hj : P12.isT [74, 79, 73, 78] r5
  ·simp only [P12.has, hj, Bool.false_eq_true, if_false] at F7
   go_wp2_with fail
   go_meet
   case rel =>
    refine ⟨[x], .none, r5, .slice (some ⟨g, 0, none⟩) 1 1, noE, by simp [P12.joinOf, hj], ?_⟩
    exact (F7.add (stabP_srcs [x] _) (slc_src HG7.out (by omega))).add (stabP_expr .none noE) rfl
  ·simp only [P12.has, hj, if_true] at F7
   have hE := HE.out
   generalize hJ : P12.joinOf x r5 = resJ at hE
   have H0 := Lib.hid hE
   have HJ := Lib.hid hJ
   clear hE HE
   simp only [P12.joinOf, hj] at hJ
   try simp only [if_true, Bool.false_eq_true, if_false] at hJ
   try simp only [bind, Except.bind, pure, Except.pure] at hJ
   have HE := Lib.hid hJ
   clear hJ
   have c7 := F7.cbox
   have d7 := F7.cell (o := 23) rfl
   have C7 := Lib.hid c7
   have D7 := Lib.hid d7
   have F7H := Lib.hid F7
   go_wp2
   refine Xh.wp_region_rel (E := Turn br) (Xe.pre_ES _) (srcX br (P12.takes r5) w) 3 5 (srcS1 br (P12.takes r5)) (srcS2 br (P12.takes r5)) 8 (fun _ => none) (fun _ _ h => by cases h) (fun _ _ _ _ h => by cases h) [(3, srcN (P12.takes r5)), (5, srcM (P12.takes r5)), (6, srcB (P12.takes r5)), (7, newS (P12.takes r5) w7.heap.size)] (by kernel_rfl) (by kernel_rfl) (Xh.stable_one ((by
       intro y hy
       simp only [List.mem_cons, List.not_mem_nil, or_false] at hy
       rcases hy with rfl | rfl | rfl | rfl
       ·exact fun _ _ _ _ h => h
       ·exact fun _ _ _ _ h => h
       ·exact fun _ _ _ _ h => h
       ·exact newS.turn (by omega)))) ((fun ch a w' hd ⟨er, h1, h2, h3⟩ => by
       have hE := HE.out
       rw [h1] at hE
       dsimp only at hE
       subst hE
       have h0 := H0.out
       dsimp only at h0
       subst h0
       exact ⟨hd, h2, h3⟩)) srcS1.ext srcS2.ext ⟨by decide, by decide, by decide, by kernel_rfl, fun o h => (by cases h; rfl), fun o h => (by cases h; rfl), by simp [Xk.tells], by simp [Xk.tells]⟩ ?_
   simp only [List.take_succ_cons, List.take_zero, List.drop_succ_cons, List.drop_zero]
   (refine Xh.rel_det (Xk.wanted_none (by rfl)) (by rfl) (fun K hK => ?_); apply Exists.intro; refine ⟨fun W hx hp => ?_, ?_⟩; (skip; go_simp; first | exact ⟨rfl, rfl⟩ | ((try refine ⟨by kernel_rfl, ?_⟩); (fail))); (go_simp; refine hK _ ?_; clear hK K))
   (refine Xh.rel_det (Xk.wanted_none (by rfl)) (by rfl) (fun K hK => ?_); apply Exists.intro; refine ⟨fun W hx hp => ?_, ?_⟩; (have c := hx.cell (show w7.drew.cell? ⟨w1.heap.size, 23, none⟩ = some (.slice (some ⟨g, 0, none⟩) 1 1) from D7.out) (by omega); go_simp; first | exact ⟨rfl, rfl⟩ | ((try refine ⟨by kernel_rfl, ?_⟩); (fail))); (go_simp; refine hK _ ?_; clear hK K))
   (refine Xh.rel_det (Xk.wanted_none (by rfl)) (by rfl) (fun K hK => ?_); apply Exists.intro; refine ⟨fun W hx hp => ?_, ?_⟩; (have c := hx.cell (show w7.drew.cell? ⟨w.heap.size, 0, none⟩ = some (rp br) from C7.out) (by omega); go_simp; first | exact ⟨rfl, rfl⟩ | ((try refine ⟨by kernel_rfl, ?_⟩); (fail))); (go_simp; refine hK _ ?_; clear hK K))
   (refine Xh.rel_loud1 (by rfl) (by rfl) rfl (fun W hx hp => ?_) (fun u K hK => ?_); (go_simp; (refine (name_loud br (P12.takes r5) w _ (F7H.out.rd.drew.ext hx) (Turn.trans (Turn.drew F7H.out.turn) (Turn.of_ext hx))).mono ?_; exact fun _ _ h => h)); (go_simp; refine hK _ ?_; clear hK K))
   (refine Xh.rel_det (Xk.wanted_none (by rfl)) (by rfl) (fun K hK => ?_); apply Exists.intro; refine ⟨fun W hx hp => ?_, ?_⟩; (have c := hx.cell (show w7.drew.cell? ⟨w.heap.size, 0, none⟩ = some (rp br) from C7.out) (by omega); go_simp; first | exact ⟨rfl, rfl⟩ | ((try refine ⟨by kernel_rfl, ?_⟩); (fail))); (go_simp; refine hK _ ?_; clear hK K))
   (refine Xh.rel_loud2 (by rfl) (by rfl) ⟨by decide, rfl⟩ (fun W hx hs hp => ?_) (fun u2 K hK => ?_); (go_simp; (refine (maybe_loud br (P12.takes r5) w _ hs (Turn.trans (Turn.drew F7H.out.turn) hx)).mono ?_; exact fun _ _ h => h)); (go_simp; refine hK _ ?_; clear hK K))
   (refine Xh.rel_make (by rfl) (by rfl) (by decide) (fun W hx hp => ?_) (fun u3 K hK => ?_); ((obtain ⟨a, b, r8, rfl, rfl, hsrc⟩ := srcB_of (facts_two hp (by kernel_rfl) (by kernel_rfl))); go_simp; exact ⟨Below.refl _ _, ⟨_, _, hsrc, rfl⟩, fun b hb => by cases hb⟩); (go_simp; refine hK _ ?_; clear hK K))
   (refine Xh.rel_make (by rfl) (by rfl) (by decide) (fun W hx hp => ?_) (fun u4 K hK => ?_); ((obtain ⟨y, r8, hsrc, rfl⟩ := Xe.facts_head hp (by kernel_rfl)); go_simp; exact ⟨(Below.refl _ _).alloc (Nat.le_refl _) _, ⟨y, r8, W.heap.size, hsrc, rfl, by simpa using hx.size, heap_new W _⟩, fun b hb => by cases hb; exact ⟨.inr (Nat.le_refl _), by simp⟩⟩); (go_simp; refine hK _ ?_; clear hK K))
   refine Xh.rel_nil (fun W2 hx hs hp hg => ?_)
   obtain ⟨⟨y, r8, g2, hsrc, rfl, hge2, hgc2⟩, -⟩ := hp
   obtain ⟨y', r8', hsrc', hr8, hk8⟩ := hs
   rw [hsrc] at hsrc'
   cases hsrc'
   have hT8 : Turn br w7 W2 := (Turn.drew (Turn.refl _ _)).trans hx
   have F8 := F7.drop.step hT8 hr8 hk8
   have hI8 := hst _ (fun b => w1.heap.size < b ∧ b < w4.heap.size) _ _ HI7.out (fun b hb hl => hT8.block hl (by omega)) (fun b hb _ => hb)
   have hg8 := hT8.held HG7.out (by omega)
   have hW8 := F8.size
   have hl8 := hT8.size
   have hE := HE.out
   rw [hsrc] at hE
   clear HE
   dsimp only at hE
   have HE := Lib.hid hE
   clear hE hx hg hsrc hr8 hk8 c7 C7 F7H F7 hT8 d7 D7 HI7 HG7
   go_wp2_with (at_builtin; go_loud (refine Xo.wpList_appb (w1.heap.size + 1) rfl _ _ 37 rfl 90 i0 _ 2 32 Tryz.underlying37 Hi.out Hz0.out Hz1.out Hz2.out rfl (by decide) (.slice (some ⟨g, 0, none⟩) 1 1) 1 [bs x.1, bs x.2] rfl (own_one (l := [bs x.1, bs x.2]) hg8 (by omega)) g2 0 1 1 [bs y.1, bs y.2] rfl (by decide) rfl (cells_blk hgc2) (one_all (by kernel_rfl)) (by omega) (by omega) ?_; intro v' w9 ho' hg' hk'; obtain ⟨z, cz, rfl⟩ := ownForm ho' (by omega); have F9 := F8.grown hg' (fun b hb => by (have e2 : g = b := (by simpa [Value.ownBlock] using hb)); omega); have c9 := F9.cell (o := 23) rfl; have f9 := F9.free 23; have HI9 := Lib.hid (hst _ (fun b => w1.heap.size < b ∧ b < w4.heap.size) _ _ hI8 (fun b hb hl => hg'.block b hl (fun e => by (have e2 : b = g := (by simpa [Value.ownBlock] using e)); omega)) (fun b hb _ => hb)); have HO9 := Lib.hid (own_srcs (l := [x, y]) (S := fun b => w1.heap.size < b) (by simp) ho' (fun b hb => by have := (ho'.lt b hb).1; omega)); have F10 := (F9.set 23 (.slice (some ⟨z, 0, none⟩) 2 cz)).cells (c' := selL (.slice q1 q2 q3) (.slice (some ⟨z, 0, none⟩) 2 cz) noE noE nilS nilS (-1)) rfl; have c10 := F10.cbox; clear ho' hg' hk' hI8 hg8 hgc2 F8))
   have hrst : ∀ b, b ≠ w1.heap.size → (w9.setCell ⟨w1.heap.size, 23, none⟩ (.slice (some ⟨z, 0, none⟩) 2 cz)).heap[b]? = w9.heap[b]? := fun b hb => heap_setCell_other w9 ⟨w1.heap.size, 23, none⟩ b _ (fun e => hb (by simpa using e))
   have hI10 := hst _ (fun b => w1.heap.size < b) _ _ HI9.out (fun b hb hl => hrst b (by omega)) (fun b hb _ => hb.1)
   have hO10 := stabP_srcs [x, y] (.slice (some ⟨z, 0, none⟩) 2 cz) _ (fun b => w1.heap.size < b) _ _ HO9.out (fun b hb hl => hrst b (by omega)) (fun b hb _ => hb)
   have F11 : Fq br w.heap.size (w.heap.size + 1) w1.heap.size w r (andK (kI items (.slice q1 q2 q3)) (fun S w => SlcAt S w 2 srcR [x, y] (.slice (some ⟨z, 0, none⟩) 2 cz))) r8 _ _ := ((F10.add (stabP_slc stab_item 12 items (.slice q1 q2 q3)) hI10.2).add (stabP_srcs [x, y] _) hO10)
   have hW11 := F9.size
   clear hrst hI10 hO10 HI9 HO9 c9 f9
   go_at_call 132
   refine (must_got br [79, 78] r8 _ _ (F11.alloc _).rd (cell_at _ _ _ (by rw [World.size_setCell])) (by omega)).mono ?_
   intro e w12 h
   cases hn : P12.must [79, 78] r8
   case error er =>
    rw [hn] at h
    have hE := HE.out
    rw [hn] at hE
    try dsimp only at hE
    subst hE
    have h0 := H0.out
    try dsimp only at h0
    subst h0
    obtain ⟨rfl, ht⟩ := h
    simp only [faults]
    go_wp2
    exact ⟨rfl, rfl, (F11.alloc _).after ht⟩
   rename_i p
   rw [hn] at h
   have hE := HE.out
   rw [hn] at hE
   clear HE
   try dsimp only at hE
   have HE := Lib.hid hE
   clear hE
   rename P12.R => r12
   obtain ⟨rfl, ht, hr, hk⟩ := h
   have F12 := (F11.alloc _).step ht hr hk
   have c12 := F12.cbox
   clear ht hr hk c10 F11 F10 F9 hW11
   go_wp2_with fail
   go_at_call 140
   refine (expr_any br _ _ F12.rd).mono ?_
   intro e w13 h
   cases hn : P12.expr r12
   case error er =>
    rw [hn] at h
    have hE := HE.out
    rw [hn] at hE
    try dsimp only at hE
    subst hE
    have h0 := H0.out
    try dsimp only at h0
    subst h0
    obtain ⟨rfl, ht⟩ := h
    simp only [faults]
    go_wp2
    exact ⟨rfl, rfl, F12.after ht⟩
   rename_i p
   rw [hn] at h
   have hE := HE.out
   rw [hn] at hE
   clear HE
   try dsimp only at hE
   have HE := Lib.hid hE
   clear hE
   obtain ⟨ex, r13⟩ := p
   obtain ⟨_, rfl, ⟨l, rfl, he⟩, ht, hr, hk⟩ := h
   obtain ⟨kd, op', vk, vi, vs, tb, nm, pp, pm, pc, rfl⟩ := he.form
   have F13 := (F12.step ht hr hk).add (stabP_expr ex _) (F12.up (stabP_expr ex _) he)
   have hb13 := F13.blk
   clear ht hr hk he c12 F12
   go_wp2_with ((refine wpList_putMid rfl 35 _ _ rfl (w1.heap.size) (24) _ _ 40 rfl rfl (hb13) ((by simp)) ((by kernel_rfl)) ((by kernel_rfl)) ?_; intro w14 hp14); have F14 := (F13.puts hp14).cells (c' := selL (.slice q1 q2 q3) (.slice (some ⟨z, 0, none⟩) 2 cz) (exprL kd op' vk vi vs tb nm (.slice pp pm pc)) noE nilS nilS (-1)) (by kernel_rfl))
   go_meet
   case rel =>
    exact ⟨[x, y], ex, r13, .slice (some ⟨z, 0, none⟩) 2 cz, exprL kd op' vk vi vs tb nm (.slice pp pm pc), HJ.out.trans HE.out.symm, F14⟩
 case rest =>
  obtain ⟨frm, je, r8, vf, jl, hj, F8⟩ := hcut
  obtain ⟨f1, f2, f3, rfl⟩ := slc_one F8.piece.1.2
  obtain ⟨jk, jo, j1, j2, j3, j4, j5, j6, j7, j8, rfl⟩ := F8.piece.2.form
  have hE := HE.out
  rw [hj] at hE
  clear HE hj
  dsimp only at hE
  have HE := Lib.hid hE
  have c8 := F8.cbox
  clear hE hst F7 HI7 HG7
  go_wp2_with fail
  go_at_call 143
  refine (where_any br _ _ F8.rd).mono ?_
  intro e w9 h
  cases hn : P12.wher r8
  case error er =>
   rw [hn] at h
   have hE := HE.out
   rw [hn] at hE
   dsimp only at hE
   subst hE
   obtain ⟨rfl, ht⟩ := h
   simp only [faults]
   go_wp2
   exact ⟨rfl, rfl, F8.after ht⟩
  rename_i p
  rw [hn] at h HE
  dsimp only at HE
  obtain ⟨we, r9⟩ := p
  obtain ⟨_, rfl, ⟨l, rfl, he⟩, ht, hr, hk⟩ := h
  obtain ⟨kd, op', vk, vi, vs, tb, nm, pp, pm, pc, rfl⟩ := he.form
  have F9 := (F8.step ht hr hk).add (stabP_expr we _) (F8.up (stabP_expr we _) he)
  have hb9 := F9.blk
  clear ht hr hk he c8 F8
  go_wp2_with ((refine wpList_putMid rfl 35 _ _ rfl (w1.heap.size) (12) _ _ 40 rfl rfl (hb9) ((by simp)) ((by kernel_rfl)) ((by kernel_rfl)) ?_; intro w10 hp10); have F10 := (F9.puts hp10).cells (c' := selL (.slice q1 q2 q3) (.slice f1 f2 f3) (exprL jk jo j1 j2 j3 j4 j5 (.slice j6 j7 j8)) (exprL kd op' vk vi vs tb nm (.slice pp pm pc)) nilS nilS (-1)) (by kernel_rfl); have c10 := F10.cbox)
  go_at_call 20
  refine (has_got br r9 [71, 82, 79, 85, 80] _ F10.rd).mono ?_
  rintro e w11 ⟨rfl, ht, hr, hk⟩
  have F11 := F10.step ht hr hk
  clear ht hr hk F10 F9 hp10 hb9 c10
  go_upto_if 41 with fail
  go_cut [] from 4 (fun w' => ∃ (gr : List P12.E) (r' : P12.R) (vg : Value), P12.groupOf r9 = .ok (gr, r') ∧
   Fq br w.heap.size (w.heap.size + 1) w1.heap.size w r (andK (andK (kJ items (.slice q1 q2 q3) frm (.slice f1 f2 f3) je (exprL jk jo j1 j2 j3 j4 j5 (.slice j6 j7 j8))) (fun S w => ExprAt S w we (exprL kd op' vk vi vs tb nm (.slice pp pm pc)))) (fun S w => SlcAt S w 10 (exprR S w) gr vg)) r' (selL (.slice q1 q2 q3) (.slice f1 f2 f3) (exprL jk jo j1 j2 j3 j4 j5 (.slice j6 j7 j8)) (exprL kd op' vk vi vs tb nm (.slice pp pm pc)) vg nilS (-1)) w')
  case first =>
   cases hj : P12.isT [71, 82, 79, 85, 80] r9
   ·simp only [P12.has, hj, Bool.false_eq_true, if_false] at F11
    go_wp2_with fail
    go_meet
    case rel => exact ⟨[], r9, nilS, by simp [P12.groupOf, hj], F11.add (stabP_slc stab_expr 10 [] nilS) (SlcAt.nil _ _ _ _)⟩
   ·simp only [P12.has, hj, if_true] at F11
    have hE := HE.out
    generalize hJ : P12.groupOf r9 = resJ at hE
    have H0 := Lib.hid hE
    have HJ := Lib.hid hJ
    clear hE HE
    simp only [P12.groupOf, hj] at hJ
    try simp only [if_true, Bool.false_eq_true, if_false] at hJ
    try simp only [bind, Except.bind, pure, Except.pure] at hJ
    have HE := Lib.hid hJ
    clear hJ
    have c11 := F11.cbox
    have hW11 := F11.size
    go_wp2_with fail
    go_at_call 132
    refine (must_got br [66, 89] (P12.takes r9) _ _ (F11.alloc _).rd (cell_at _ _ _ rfl) (by omega)).mono ?_
    intro e w12 h
    cases hn : P12.must [66, 89] (P12.takes r9)
    case error er =>
     rw [hn] at h
     have hE := HE.out
     rw [hn] at hE
     try dsimp only at hE
     subst hE
     have h0 := H0.out
     try dsimp only at h0
     subst h0
     obtain ⟨rfl, ht⟩ := h
     simp only [faults]
     go_wp2
     exact ⟨rfl, rfl, (F11.alloc _).after ht⟩
    rename_i p
    rw [hn] at h
    have hE := HE.out
    rw [hn] at hE
    clear HE
    try dsimp only at hE
    have HE := Lib.hid hE
    clear hE
    rename P12.R => r12
    obtain ⟨rfl, ht, hr, hk⟩ := h
    have F12 := (F11.alloc _).step ht hr hk
    have c12 := F12.cbox
    clear ht hr hk c11 F11 hW11
    go_wp2_with fail
    go_at_call 135
    refine (row_group br w1.heap.size w.heap.size (fun v => selL (.slice q1 q2 q3) (.slice f1 f2 f3) (exprL jk jo j1 j2 j3 j4 j5 (.slice j6 j7 j8)) (exprL kd op' vk vi vs tb nm (.slice pp pm pc)) v nilS (-1)) (fun _ => rfl) (fun _ _ => rfl) r12 w12 F12.rd F12.box F12.blk (by omega) (by omega) (by omega)).mono ?_
    intro e w13 h
    cases hn : P12.rowF 16 P12.named P12.column r12.l.length 0 r12
    case error er =>
     rw [hn] at h
     have hE := HE.out
     rw [hn] at hE
     try dsimp only at hE
     subst hE
     have h0 := H0.out
     try dsimp only at h0
     subst h0
     obtain ⟨rfl, ht⟩ := h
     simp only [faults]
     go_wp2
     exact ⟨rfl, rfl, F12.rowAfter ht⟩
    rename_i p
    rw [hn] at h
    have hE := HE.out
    rw [hn] at hE
    clear HE
    try dsimp only at hE
    have HE := Lib.hid hE
    clear hE
    obtain ⟨gr, r13⟩ := p
    obtain ⟨rfl, ⟨v, hb, hs, hn13, hkt⟩, hr, hk⟩ := h
    have F13 := (F12.row hkt hb hr hk).add (stabP_slc stab_expr 10 gr v) (stabP_slc stab_expr 10 gr v _ _ _ _ hs (fun _ _ _ => rfl) (fun b hb _ => by have := F12.size; omega))
    clear hkt hb hs hr hk c12 F12
    go_wp2_with fail
    go_meet
    case rel => exact ⟨gr, r13, v, HJ.out.trans HE.out.symm, F13⟩
  case rest =>
   obtain ⟨gr, r14, vg, hj, F14⟩ := hcut
   obtain ⟨g1, g2, g3, rfl⟩ := slc_one F14.piece.2
   have hE := HE.out
   rw [hj] at hE
   clear HE hj
   dsimp only at hE
   have HE := Lib.hid hE
   have c14 := F14.cbox
   clear hE F11
   go_wp2_with fail
   go_at_call 20
   refine (has_got br r14 [79, 82, 68, 69, 82] _ F14.rd).mono ?_
   rintro e w15 ⟨rfl, ht, hr, hk⟩
   have F15 := F14.step ht hr hk
   clear ht hr hk F14 c14
   go_upto_if 51 with fail
   go_cut [] from 4 (fun w' => ∃ (os : List (P12.E × Bool)) (r' : P12.R) (vo : Value), P12.orderBy r14 = .ok (os, r') ∧
    Fq br w.heap.size (w.heap.size + 1) w1.heap.size w r (andK (andK (andK (kJ items (.slice q1 q2 q3) frm (.slice f1 f2 f3) je (exprL jk jo j1 j2 j3 j4 j5 (.slice j6 j7 j8))) (fun S w => ExprAt S w we (exprL kd op' vk vi vs tb nm (.slice pp pm pc)))) (fun S w => SlcAt S w 10 (exprR S w) gr (.slice g1 g2 g3))) (fun S w => SlcAt S w 11 (ordR S w) os vo)) r' (selL (.slice q1 q2 q3) (.slice f1 f2 f3) (exprL jk jo j1 j2 j3 j4 j5 (.slice j6 j7 j8)) (exprL kd op' vk vi vs tb nm (.slice pp pm pc)) (.slice g1 g2 g3) vo (-1)) w')
   case first =>
    cases hj : P12.isT [79, 82, 68, 69, 82] r14
    ·simp only [P12.has, hj, Bool.false_eq_true, if_false] at F15
     go_wp2_with fail
     go_meet
     case rel => exact ⟨[], r14, nilS, by simp [P12.orderBy, hj], F15.add (stabP_slc stab_ord 11 [] nilS) (SlcAt.nil _ _ _ _)⟩
    ·simp only [P12.has, hj, if_true] at F15
     have hE := HE.out
     generalize hJ : P12.orderBy r14 = resJ at hE
     have H0 := Lib.hid hE
     have HJ := Lib.hid hJ
     clear hE HE
     simp only [P12.orderBy, hj] at hJ
     try simp only [if_true, Bool.false_eq_true, if_false] at hJ
     try simp only [bind, Except.bind, pure, Except.pure] at hJ
     have HE := Lib.hid hJ
     clear hJ
     have c15 := F15.cbox
     have hW15 := F15.size
     go_wp2_with fail
     go_at_call 132
     refine (must_got br [66, 89] (P12.takes r14) _ _ (F15.alloc _).rd (cell_at _ _ _ rfl) (by omega)).mono ?_
     intro e w16 h
     cases hn : P12.must [66, 89] (P12.takes r14)
     case error er =>
      rw [hn] at h
      have hE := HE.out
      rw [hn] at hE
      try dsimp only at hE
      subst hE
      have h0 := H0.out
      try dsimp only at h0
      subst h0
      obtain ⟨rfl, ht⟩ := h
      simp only [faults]
      go_wp2
      exact ⟨rfl, rfl, (F15.alloc _).after ht⟩
     rename_i p
     rw [hn] at h
     have hE := HE.out
     rw [hn] at hE
     clear HE
     try dsimp only at hE
     have HE := Lib.hid hE
     clear hE
     rename P12.R => r16
     obtain ⟨rfl, ht, hr, hk⟩ := h
     have F16 := (F15.alloc _).step ht hr hk
     have c16 := F16.cbox
     clear ht hr hk c15 F15 hW15
     go_wp2_with fail
     go_at_call 138
     refine (row_order br w1.heap.size w.heap.size (fun v => selL (.slice q1 q2 q3) (.slice f1 f2 f3) (exprL jk jo j1 j2 j3 j4 j5 (.slice j6 j7 j8)) (exprL kd op' vk vi vs tb nm (.slice pp pm pc)) (.slice g1 g2 g3) v (-1)) (fun _ => rfl) (fun _ _ => rfl) r16 w16 F16.rd F16.box F16.blk (by omega) (by omega) (by omega)).mono ?_
     intro e w17 h
     cases hn : P12.exprs P12.orderOf r16
     case error er =>
      rw [hn] at h
      have hE := HE.out
      rw [hn] at hE
      try dsimp only at hE
      subst hE
      have h0 := H0.out
      try dsimp only at h0
      subst h0
      obtain ⟨rfl, ht⟩ := h
      simp only [faults]
      go_wp2
      exact ⟨rfl, rfl, F16.rowAfter ht⟩
     rename_i p
     rw [hn] at h
     have hE := HE.out
     rw [hn] at hE
     clear HE
     try dsimp only at hE
     have HE := Lib.hid hE
     clear hE
     obtain ⟨os, r17⟩ := p
     obtain ⟨rfl, ⟨v, hb, hs, hn17, hkt⟩, hr, hk⟩ := h
     have F17 := (F16.row hkt hb hr hk).add (stabP_slc stab_ord 11 os v) (stabP_slc stab_ord 11 os v _ _ _ _ hs (fun _ _ _ => rfl) (fun b hb _ => by have := F16.size; omega))
     clear hkt hb hs hr hk c16 F16
     go_wp2_with fail
     go_meet
     case rel => exact ⟨os, r17, v, HJ.out.trans HE.out.symm, F17⟩
   case rest =>
    obtain ⟨os, r18, vo, hj, F18⟩ := hcut
    obtain ⟨o1, o2, o3, rfl⟩ := slc_one F18.piece.2
    have hE := HE.out
    rw [hj] at hE
    clear HE hj
    dsimp only at hE
    have HE := Lib.hid hE
    have c18 := F18.cbox
    clear hE F15
    go_wp2_with fail
    go_at_call 20
    refine (has_got br r18 [76, 73, 77, 73, 84] _ F18.rd).mono ?_
    rintro e w19 ⟨rfl, ht, hr, hk⟩
    have F19 := F18.step ht hr hk
    clear ht hr hk F18 c18
    go_upto_if 59 with fail
    go_cut [] from 4 (fun w' => ∃ (n : Int) (r' : P12.R), P12.limitOf r18 = .ok (n, r') ∧
     Fq br w.heap.size (w.heap.size + 1) w1.heap.size w r (andK (andK (andK (kJ items (.slice q1 q2 q3) frm (.slice f1 f2 f3) je (exprL jk jo j1 j2 j3 j4 j5 (.slice j6 j7 j8))) (fun S w => ExprAt S w we (exprL kd op' vk vi vs tb nm (.slice pp pm pc)))) (fun S w => SlcAt S w 10 (exprR S w) gr (.slice g1 g2 g3))) (fun S w => SlcAt S w 11 (ordR S w) os (.slice o1 o2 o3))) r' (selL (.slice q1 q2 q3) (.slice f1 f2 f3) (exprL jk jo j1 j2 j3 j4 j5 (.slice j6 j7 j8)) (exprL kd op' vk vi vs tb nm (.slice pp pm pc)) (.slice g1 g2 g3) (.slice o1 o2 o3) n) w')
    case first =>
     cases hj : P12.isT [76, 73, 77, 73, 84] r18
     ·simp only [P12.has, hj, Bool.false_eq_true, if_false] at F19
      go_wp2_with fail
      go_meet
      case rel => exact ⟨-1, r18, by simp [P12.limitOf, hj], F19⟩
     ·simp only [P12.has, hj, if_true] at F19
      have hE := HE.out
      generalize hJ : P12.limitOf r18 = resJ at hE
      have H0 := Lib.hid hE
      have HJ := Lib.hid hJ
      clear hE HE
      simp only [P12.limitOf, hj] at hJ
      try simp only [if_true, Bool.false_eq_true, if_false] at hJ
      try simp only [bind, Except.bind, pure, Except.pure] at hJ
      have HE := Lib.hid hJ
      clear hJ
      have c19 := F19.cbox
      by_cases h3 : (P12.nxt (P12.takes r18)).kind = 3
      ·have h3b : ((P12.nxt (P12.takes r18)).kind != 3) = false := by simpa using h3
       have hE := HE.out
       simp only [h3, ne_eq, not_true_eq_false, if_false] at hE
       clear HE
       have HE := Lib.hid hE
       have H3 := Lib.hid h3
       clear hE h3
       go_wp2_with fail
       go_at_call 21
       refine (next_any br _ _ F19.rd).mono ?_
       rintro e w20 ⟨rfl, hx20⟩
       have F20 := F19.ext hx20
       have c20 := F20.cbox
       clear hx20 c19 F19
       go_wp2_with fail
       go_at_call 152
       refine (int_any br 9223372036854775807 (P12.takes r18) _ F20.rd H3.out (by omega)).mono ?_
       intro e w21 h
       cases hn : P12.int 9223372036854775807 (P12.takes r18)
       case error er =>
        rw [hn] at h
        have hE := HE.out
        rw [hn] at hE
        try dsimp only at hE
        subst hE
        have h0 := H0.out
        try dsimp only at h0
        subst h0
        obtain ⟨rfl, ht⟩ := h
        simp only [faults]
        go_wp2
        exact ⟨rfl, rfl, F20.after ht⟩
       rename_i p
       rw [hn] at h
       have hE := HE.out
       rw [hn] at hE
       clear HE
       try dsimp only at hE
       have HE := Lib.hid hE
       clear hE
       obtain ⟨n, r21⟩ := p
       have hnle : n ≤ 9223372036854775807 := by
        unfold P12.int at hn
        split at hn
        ·cases hn
        ·cases hn; omega
       obtain ⟨_, rfl, rfl, ht, hr, hk⟩ := h
       have F21 := F20.step ht hr hk
       have hwr := wrap_small n hnle
       have c21 := F21.cell (o := 36) rfl
       have f21 := F21.free 36
       have F22 := (F21.set 36 (.int .i64 n)).cells (c' := selL (.slice q1 q2 q3) (.slice f1 f2 f3) (exprL jk jo j1 j2 j3 j4 j5 (.slice j6 j7 j8)) (exprL kd op' vk vi vs tb nm (.slice pp pm pc)) (.slice g1 g2 g3) (.slice o1 o2 o3) n) rfl
       go_wp2_with fail
       go_meet
       case rel => exact ⟨n, r21, HJ.out.trans HE.out.symm, F22⟩
      ·have h3b : ((P12.nxt (P12.takes r18)).kind != 3) = true := by simpa using h3
       have hE := HE.out
       simp only [h3, ne_eq, not_false_eq_true, if_true, P12.fails] at hE
       clear HE
       subst hE
       have h0 := H0.out
       try dsimp only at h0
       subst h0
       clear h3
       go_wp2_with fail
       go_at_call 21
       refine (next_any br _ _ F19.rd).mono ?_
       rintro e w20 ⟨rfl, hx20⟩
       have F20 := F19.ext hx20
       have c20 := F20.cbox
       go_wp2_with fail
       go_at_call 22
       refine (fails_any br _ 120 _ F20.rd).mono ?_
       rintro e w21 ⟨rfl, hx21⟩
       simp only [faults]
       go_wp2
       exact ⟨rfl, rfl, F20.after (Turn.of_ext hx21)⟩
    case rest =>
     obtain ⟨n, r23, hj, F23⟩ := hcut
     have hE := HE.out
     rw [hj] at hE
     clear HE hj
     dsimp only at hE
     have HE := Lib.hid hE
     have hb23 := F23.blk
     have hz23 := F23.zero
     clear hE F19
     go_wp2_with (first | (refine wpList_loadRow rfl 40 _ rfl (w1.heap.size) _ 40 (0, 0) _ rfl (hb23) Tryz.underlying40 rfl ((by kernel_rfl)) ?_) | (refine wpList_putRow rfl 40 _ _ rfl ((w.heap.size + 1)) _ _ 40 rfl rfl (hz23) ((by kernel_rfl)) ((by kernel_rfl)) ((by kernel_rfl)) ?_; intro w24 hp24))
     refine bodyPost_ret (results_row (fn := Tryz.f74) rfl rfl hp24.blk Tryz.underlying40 rfl (by kernel_rfl)) rfl ?_
     have hE := HE.out
     subst hE
     refine Fq.finish F23 hp24 (fun ⟨⟨⟨⟨⟨⟨_, hi⟩, hf⟩, hjn⟩, hw⟩, hg⟩, ho⟩ => ?_)
     exact ⟨nilS, nilS, nilS, nilS, nilS, nilS, nilS, _, _, _, _, _, _, rfl, SlcAt.nil _ _ _ _, SlcAt.nil _ _ _ _, SlcAt.nil _ _ _ _, SlcAt.nil _ _ _ _, SlcAt.nil _ _ _ _, SlcAt.nil _ _ _ _, SlcAt.nil _ _ _ _, hw, hi, hf, hjn, hg, ho⟩
structure Fz (br gz gx : Nat) (w0 : World) (r0 : P12.R) (K : (Nat → Prop) → World → Prop) (r : P12.R) (c : Array Value) (w : World) : Prop where
 zero : w.heap[gz]? = some (.cells zero37.toArray 40)
 blk : w.heap[gx]? = some (.cells c 40)
 turn : Turn br w0 w
 rd : Rd br r w
 keeps : P12.Keeps r0 r
 stab : StabP K
 piece : K (fun b => gx < b) w
 lo : br < w0.heap.size
 gzge : w0.heap.size ≤ gz
 zx : gz < gx
section
variable {br gz gx : Nat} {w0 : World} {r0 : P12.R} {K : (Nat → Prop) → World → Prop} {r r' : P12.R} {c c' : Array Value} {w w' : World}
theorem Fz.size (F : Fz br gz gx w0 r0 K r c w) : gx < w.heap.size := (Array.getElem?_eq_some_iff.1 F.blk).1
theorem Fz.step (F : Fz br gz gx w0 r0 K r c w) (ht : Turn br w w') (hr : Rd br r' w') (hk : P12.Keeps r r') : Fz br gz gx w0 r0 K r' c w' := by
 obtain ⟨h2, h3, h4, h5, h6, h7, h8, h9, h11, h13⟩ := F
 exact ⟨ht.held h2 (by omega), ht.held h3 (by omega), Turn.trans h4 ht, hr, h6.trans hk, h7, h7 _ _ _ _ h8 (fun b hb hl => ht.block hl (by omega)) (fun b hb _ => hb), h9, h11, h13⟩
theorem Fz.ext (F : Fz br gz gx w0 r0 K r c w) (hx : Xk.Ext w w') : Fz br gz gx w0 r0 K r c w' := F.step (Turn.of_ext hx) (F.rd.ext hx) (P12.Keeps.refl _)
theorem Fz.alloc (F : Fz br gz gx w0 r0 K r c w) (o : Obj) : Fz br gz gx w0 r0 K r c (w.alloc o) := F.ext ((Below.refl _ _).alloc (Nat.le_refl _) _)
theorem Fz.puts (F : Fz br gz gx w0 r0 K r c w) (hp : Puts gx c' 40 w w') : Fz br gz gx w0 r0 K r c' w' := by
 obtain ⟨h2, h3, h4, h5, h6, h7, h8, h9, h11, h13⟩ := F
 exact ⟨(hp.rest _ (by omega)).trans h2, hp.blk, Puts.turn hp h4 (by omega), Puts.rd hp h5 (by omega), h6, h7, h7 _ _ _ _ h8 (fun b hb hl => hp.rest b (by omega)) (fun b hb _ => hb), h9, h11, h13⟩
theorem Fz.set (F : Fz br gz gx w0 r0 K r c w) (o : Nat) (u : Value) : Fz br gz gx w0 r0 K r (c.setIfInBounds o u) (w.setCell ⟨gx, o, none⟩ u) :=
 F.puts (puts_set F.blk [u] o)
theorem Fz.add (F : Fz br gz gx w0 r0 K r c w) {A : (Nat → Prop) → World → Prop} (hs : StabP A) (ha : A (fun b => gx < b) w) : Fz br gz gx w0 r0 (fun S w => K S w ∧ A S w) r c w := by
 obtain ⟨h2, h3, h4, h5, h6, h7, h8, h9, h11, h13⟩ := F
 exact ⟨h2, h3, h4, h5, h6, fun S S' w w' h hb hS => ⟨h7 _ _ _ _ h.1 hb hS, hs _ _ _ _ h.2 hb hS⟩, ⟨h8, ha⟩, h9, h11, h13⟩
theorem Fz.cells (F : Fz br gz gx w0 r0 K r c w) (h : c = c') : Fz br gz gx w0 r0 K r c' w := h ▸ F
theorem Fz.cell (F : Fz br gz gx w0 r0 K r c w) {o : Nat} {v : Value} (h : c[o]? = some v) : w.cell? ⟨gx, o, none⟩ = some v := by simp [World.cell?, F.blk, h]
theorem Fz.free (F : Fz br gz gx w0 r0 K r c w) (o : Nat) : w.frozen? ⟨gx, o, none⟩ = false := frozen_of_row w gx o _ _ F.blk
theorem Fz.after (F : Fz br gz gx w0 r0 K r c w) (ht : Turn br w w') : Turn br w0 w' := Turn.trans F.turn ht
theorem Fz.up (F : Fz br gz gx w0 r0 K r c w) {A : (Nat → Prop) → World → Prop} (hs : StabP A) (ha : A (fun b => w.heap.size ≤ b) w') : A (fun b => gx < b) w' :=
 hs _ _ _ _ ha (fun _ _ _ => rfl) (fun b hb _ => by have := F.size; omega)
theorem Fz.start {br : Nat} {r r1 : P12.R} {w wm w1 w2 : World} {c : Array Value} {o : Obj} (h : Rd br r w) (ht : Turn br (w.alloc (.cells zero37.toArray 40)) w1) (hr : Rd br r1 w1) (hk : P12.Keeps r r1) (hp : Puts w1.heap.size c 40 (w1.alloc o) w2) :
  Fz br w.heap.size w1.heap.size w r (fun _ _ => True) r1 c w2 := by
 have hlt := h.lt
 have hl := ht.size
 simp only [World.size_alloc] at hl
 have hz := heap_new w (.cells zero37.toArray 40)
 have h2 := ((Turn.alloc (Turn.refl br w1) o).held (ht.held hz (by omega)) (by omega))
 refine ⟨(hp.rest _ (by omega)).trans h2, hp.blk, Puts.turn hp (Turn.alloc (Turn.trans (Turn.alloc (Turn.refl br w) _) ht) _) (by omega), Puts.rd hp (hr.alloc _) (by omega), hk, fun _ _ _ _ _ _ _ => trivial, trivial, hlt, Nat.le_refl _, by omega⟩
theorem Fz.finish {l : List Value} {x : P12.St} (F : Fz br gz gx w0 r0 K r c w) (hp : Puts gz l.toArray 40 w w') (hst : K (fun b => w0.heap.size ≤ b) w' → StmtIn (fun b => w0.heap.size ≤ b) w' x l) :
  Got br w0 r0 (StmtV w0) (.ok (x, r)) (.returned (.agg l.toArray)) w' := by
 obtain ⟨h2, h3, h4, h5, h6, h7, h8, h9, h11, h13⟩ := F
 exact ⟨_, rfl, ⟨l, rfl, hst (h7 _ _ _ _ h8 (fun b hb hl => hp.rest b (by omega)) (fun b hb _ => by omega))⟩, Puts.turn hp h4 h11, Puts.rd hp h5 (by omega), h6⟩
end
theorem drop_any (br : Nat) (r : P12.R) (w : World) (h : Rd br r w) : Calls Tryz.prog 70 #[rp br] w (Got br w r (StmtV w) (P12.drop r)) := by
 have HR := Lib.hid h
 have lr := h.lt
 clear h
 generalize hres : P12.drop r = res
 have hE := hres
 simp only [P12.drop, bind, Except.bind, pure, Except.pure] at hE
 have HE := Lib.hid hE
 clear hE hres
 have HM := Lib.hid fun W => made_any 2 W
 rw [if_neg (by decide)] at HM
 go_enter Tryz.func70, Tryz.ntmps70
 go_wp2_with fail
 go_at_call 76
 refine (HM.out _).mono ?_
 rintro e w1 ⟨rfl, hx1⟩
 go_wp2_with ((refine wpList_putRow rfl 40 _ _ rfl (w1.heap.size) _ _ 40 rfl rfl (heap_new w1 _) rfl (by kernel_rfl) (by kernel_rfl) ?_; intro w2 hp2); have F2 := (Fz.start (wm := w1) HR.out (Turn.of_ext hx1) ((HR.out.alloc _).ext hx1) (P12.Keeps.refl _) hp2).cells (c' := (stmtL 2 [] nilS nilS nilS nilS [] [] false nilS nilS nilS noE nilS nilS noE nilS nilS 0).toArray) rfl)
 have hzx := F2.zx
 clear hp2 hx1
 cases hj : P12.isT [84, 65, 66, 76, 69] r
 ·have hE := HE.out
  simp only [P12.has, hj, Bool.false_eq_true, if_false] at hE
  clear HE
  have HE := Lib.hid hE
  clear hE
  go_at_call 20
  refine (has_no br r [84, 65, 66, 76, 69] _ F2.rd hj).mono ?_
  rintro e w3 ⟨rfl, hx3⟩
  have F3 := F2.ext hx3
  have c3 := F3.cell (o := 0) rfl
  have f3 := F3.free 0
  have hW3 := F3.size
  have F4 := (F3.set 0 (.int .i64 4)).cells (c' := (stmtL 4 [] nilS nilS nilS nilS [] [] false nilS nilS nilS noE nilS nilS noE nilS nilS 0).toArray) rfl
  clear hx3 F2
  go_wp2_with fail
  go_at_call 132
  refine (must_got br [73, 78, 68, 69, 88] r _ _ (F4.alloc _).rd (cell_at _ _ _ (by rw [World.size_setCell])) (by omega)).mono ?_
  intro e w5 h
  cases hn : P12.must [73, 78, 68, 69, 88] r
  case error er =>
   rw [hn] at h
   have hE := HE.out
   rw [hn] at hE
   dsimp only at hE
   subst hE
   obtain ⟨rfl, ht⟩ := h
   simp only [faults]
   go_wp2
   exact ⟨rfl, rfl, (F4.alloc _).after ht⟩
  rename_i p
  rw [hn] at h HE
  dsimp only at HE
  rename P12.R => r5
  obtain ⟨rfl, ht, hr, hk⟩ := h
  have F5 := (F4.alloc _).step ht hr hk
  clear ht hr hk c3 f3 F3 F4 hW3
  go_wp2_with fail
  go_at_call 131
  refine (name_any br _ _ F5.rd).mono ?_
  intro e w6 h
  cases hn : P12.name r5
  case error er =>
   rw [hn] at h
   have hE := HE.out
   rw [hn] at hE
   dsimp only at hE
   subst hE
   obtain ⟨rfl, ht⟩ := h
   simp only [faults]
   go_wp2
   exact ⟨rfl, rfl, F5.after ht⟩
  rename_i p
  rw [hn] at h HE
  dsimp only at HE
  obtain ⟨a, r6⟩ := p
  obtain ⟨_, rfl, rfl, ht, hr, hk⟩ := h
  have F6 := F5.step ht hr hk
  have c6 := F6.cell (o := 6) rfl
  have f6 := F6.free 6
  have F7 := (F6.set 6 (bs a)).cells (c' := (stmtL 4 [] nilS nilS nilS nilS a [] false nilS nilS nilS noE nilS nilS noE nilS nilS 0).toArray) rfl
  have hb7 := F7.blk
  have hz7 := F7.zero
  clear ht hr hk
  go_wp2_with (first | (refine wpList_loadRow rfl 40 _ rfl (w1.heap.size) _ 40 (0, 0) _ rfl (hb7) Tryz.underlying40 rfl ((by kernel_rfl)) ?_) | (refine wpList_putRow rfl 40 _ _ rfl (w.heap.size) _ _ 40 rfl rfl (hz7) ((by kernel_rfl)) ((by kernel_rfl)) ((by kernel_rfl)) ?_; intro w8 hp8))
  refine bodyPost_ret (results_row (fn := Tryz.f70) rfl rfl hp8.blk Tryz.underlying40 rfl (by kernel_rfl)) rfl ?_
  have hE := HE.out
  subst hE
  refine Fz.finish F7 hp8 (fun _ => ?_)
  exact ⟨nilS, nilS, nilS, nilS, nilS, nilS, nilS, noE, nilS, nilS, noE, nilS, nilS, rfl, SlcAt.nil _ _ _ _, SlcAt.nil _ _ _ _, SlcAt.nil _ _ _ _, SlcAt.nil _ _ _ _, SlcAt.nil _ _ _ _, SlcAt.nil _ _ _ _, SlcAt.nil _ _ _ _, rfl, SlcAt.nil _ _ _ _, SlcAt.nil _ _ _ _, rfl, SlcAt.nil _ _ _ _, SlcAt.nil _ _ _ _⟩
 ·have hE := HE.out
  simp only [P12.has, hj, if_true] at hE
  clear HE
  have HE := Lib.hid hE
  clear hE
  go_at_call 20
  refine (has_yes br r [84, 65, 66, 76, 69] _ F2.rd hj).mono ?_
  rintro e w3 ⟨rfl, ht, hr⟩
  have F3 := F2.step ht hr (P12.keeps_takes r)
  clear ht hr F2
  go_wp2_with fail
  go_at_call 131
  refine (name_any br _ _ F3.rd).mono ?_
  intro e w6 h
  cases hn : P12.name (P12.takes r)
  case error er =>
   rw [hn] at h
   have hE := HE.out
   rw [hn] at hE
   dsimp only at hE
   subst hE
   obtain ⟨rfl, ht⟩ := h
   simp only [faults]
   go_wp2
   exact ⟨rfl, rfl, F3.after ht⟩
  rename_i p
  rw [hn] at h HE
  dsimp only at HE
  obtain ⟨a, r6⟩ := p
  obtain ⟨_, rfl, rfl, ht, hr, hk⟩ := h
  have F6 := F3.step ht hr hk
  have c6 := F6.cell (o := 6) rfl
  have f6 := F6.free 6
  have F7 := (F6.set 6 (bs a)).cells (c' := (stmtL 2 [] nilS nilS nilS nilS a [] false nilS nilS nilS noE nilS nilS noE nilS nilS 0).toArray) rfl
  have hb7 := F7.blk
  have hz7 := F7.zero
  clear ht hr hk
  go_wp2_with (first | (refine wpList_loadRow rfl 40 _ rfl (w1.heap.size) _ 40 (0, 0) _ rfl (hb7) Tryz.underlying40 rfl ((by kernel_rfl)) ?_) | (refine wpList_putRow rfl 40 _ _ rfl (w.heap.size) _ _ 40 rfl rfl (hz7) ((by kernel_rfl)) ((by kernel_rfl)) ((by kernel_rfl)) ?_; intro w8 hp8))
  refine bodyPost_ret (results_row (fn := Tryz.f70) rfl rfl hp8.blk Tryz.underlying40 rfl (by kernel_rfl)) rfl ?_
  have hE := HE.out
  subst hE
  refine Fz.finish F7 hp8 (fun _ => ?_)
  exact ⟨nilS, nilS, nilS, nilS, nilS, nilS, nilS, noE, nilS, nilS, noE, nilS, nilS, rfl, SlcAt.nil _ _ _ _, SlcAt.nil _ _ _ _, SlcAt.nil _ _ _ _, SlcAt.nil _ _ _ _, SlcAt.nil _ _ _ _, SlcAt.nil _ _ _ _, SlcAt.nil _ _ _ _, rfl, SlcAt.nil _ _ _ _, SlcAt.nil _ _ _ _, rfl, SlcAt.nil _ _ _ _, SlcAt.nil _ _ _ _⟩
def Own {α : Type} (S : Nat → Prop) (e : TypeId) (sz : Nat) (R : (Nat → Prop) → World → α → List Value → Prop) (xs : List α) (v : Value) (w : World) : Prop :=
 ∃ us : List (List Value), (xs = [] → v = nilS) ∧ w.ownsRow 0 e sz v xs.length us.flatten ∧ (∀ b, v.ownBlock = some b → S b) ∧ us.length = xs.length ∧ (∀ u ∈ us, u.length = sz) ∧ ∀ (j : Nat) x u, xs[j]? = some x → us[j]? = some u → R (fun b => S b ∧ ¬ v.ownBlock = some b) w x u
section
variable {α : Type} {S : Nat → Prop} {e : TypeId} {sz : Nat} {R : (Nat → Prop) → World → α → List Value → Prop} {xs : List α} {v : Value} {w w' : World}
theorem Own.nil : Own S e sz R [] nilS w := ⟨[], fun _ => rfl, World.ownsRow_nil _ _ _ _, by simp [Value.ownBlock], rfl, by simp, by simp⟩
theorem Own.lt (h : Own S e sz R xs v w) : ∀ b, v.ownBlock = some b → S b ∧ b < w.heap.size := by
 obtain ⟨us, -, h1, h2, -⟩ := h
 exact fun b hb => ⟨h2 b hb, (h1.lt b hb).2⟩
theorem Own.keep {S' : Nat → Prop} (h : Own S e sz R xs v w) (hR : Stab R) (hb : ∀ b, S b → b < w.heap.size → w'.heap[b]? = w.heap[b]?) (hS : ∀ b, S b → b < w.heap.size → S' b) : Own S' e sz R xs v w' := by
 obtain ⟨us, h0, h1, h2, h3, h4, h5⟩ := h
 exact ⟨us, h0, own_same h1 fun b hb' => hb b (h2 b hb') (h1.lt b hb').2, fun b hb' => hS b (h2 b hb') (h1.lt b hb').2, h3, h4, fun j x u hx hu => hR _ _ _ _ _ _ (h5 j x u hx hu) (fun b hs => hb b hs.1) (fun b hs hl => ⟨hS b hs.1 hl, hs.2⟩)⟩
theorem Own.form (h : Own S e sz R xs v w) : ∃ q c, v = .slice q xs.length c := by
 obtain ⟨us, -, ho, -⟩ := h
 rcases ho.2 with ⟨rfl, h0⟩ | ⟨g, cap, cur, rfl, -⟩
 ·exact ⟨none, 0, by rw [h0]⟩
 ·exact ⟨_, _, rfl⟩
theorem Own.mem {z n cz : Nat} (h : Own S e sz R xs (.slice (some ⟨z, 0, none⟩) n cz) w) : n = xs.length ∧ ∃ cur, w.heap[z]? = some (.cells cur e) ∧ xs.length * sz ≤ cur.size := by
 obtain ⟨us, -, ho, -⟩ := h
 rcases ho.2 with ⟨hv, -⟩ | ⟨g, cap, cur, hv, -, h6, h7, h8, h9, -⟩
 ·cases hv
 ·cases hv
  exact ⟨rfl, cur, h6, by rw [h9]; exact Nat.mul_le_mul_right _ h7⟩
theorem Own.push {us : List (List Value)} {v' : Value} {x : α} {u : List Value} (hR : Stab R) (h1 : ∀ b, v.ownBlock = some b → S b) (hS : ∀ b, w.heap.size ≤ b → S b) (h2 : us.length = xs.length) (h3 : ∀ u ∈ us, u.length = sz)
  (h4 : ∀ (j : Nat) x u, xs[j]? = some x → us[j]? = some u → R (fun b => S b ∧ ¬ v.ownBlock = some b) w x u) (hg : w.grownBy w' v.ownBlock) (ho : w'.ownsRow 0 e sz v' (xs.length + 1) (us.flatten ++ u))
  (hk : ∀ b, v'.ownBlock = some b → v.ownBlock = some b ∨ w.heap.size ≤ b) (hu : u.length = sz) (hx : R (fun b => S b ∧ ¬ v.ownBlock = some b) w x u) : Own S e sz R (xs ++ [x]) v' w' := by
 have hmv : ∀ x u, R (fun b => S b ∧ ¬ v.ownBlock = some b) w x u → R (fun b => S b ∧ ¬ v'.ownBlock = some b) w' x u := fun x u h =>
  hR _ _ _ _ _ _ h (fun b hb hl => hg.block b hl (fun e => hb.2 e.symm)) (fun b hb hl => ⟨hb.1, fun e => by
   rcases hk b e with h | h
   ·exact hb.2 h
   ·omega⟩)
 refine ⟨us ++ [u], fun e => absurd e (by simp), by simpa using ho, fun b hb => (hk b hb).elim (h1 b) (hS b), by simp [h2], fun y hy => ?_, fun j y c hy hc => hmv _ _ ?_⟩
 ·rcases List.mem_append.1 hy with hy | hy
  ·exact h3 y hy
  ·rw [List.mem_singleton.1 hy]; exact hu
 ·rcases Nat.lt_or_ge j xs.length with hj | hj
  ·rw [List.getElem?_append_left hj] at hy
   rw [List.getElem?_append_left (by omega)] at hc
   exact h4 j y c hy hc
  ·rw [List.getElem?_append_right hj] at hy
   rw [List.getElem?_append_right (by omega), h2] at hc
   obtain ⟨rfl, rfl⟩ : x = y ∧ u = c := by
    rcases hj0 : j - xs.length with _ | k
    ·rw [hj0] at hy hc
     simp at hy hc
     exact ⟨hy, hc⟩
    ·rw [hj0] at hy
     simp at hy
   exact hx
theorem Own.slc (h : Own S e sz R xs v w) (hR : Stab R) (hs : 0 < sz) : SlcAt S w sz (R S w) xs v := by
 obtain ⟨us, h00, h1, hown, h2, h3, h4⟩ := h
 rcases h1.2 with ⟨rfl, h0⟩ | ⟨g, cap, cur, rfl, h5, h6, h7, h8, h9, h10⟩
 ·have : xs = [] := List.eq_nil_of_length_eq_zero h0
  subst this
  exact .inl ⟨rfl, rfl⟩
 ·by_cases hp : 0 < xs.length
  ·refine .inr ⟨g, cap, us, rfl, hown g rfl, hp, h7, h2, h3, hs, fun j v hj => ?_, fun j x u hx hu => hR _ _ _ _ _ _ (h4 j x u hx hu) (fun _ _ _ => rfl) (fun b hb _ => hb.1)⟩
   rw [← h10] at hj
   have hj' : cur.toList[j]? = some v := by
    rw [List.getElem?_take] at hj
    split at hj
    ·exact hj
    ·cases hj
   simp [World.cell?, h6]
   simpa using hj'
  ·have hx : xs = [] := List.eq_nil_of_length_eq_zero (by omega)
   subst hx
   exact .inl ⟨rfl, h00 rfl⟩
end
theorem Own.putLast {α : Type} {S : Nat → Prop} {e : TypeId} {sz : Nat} {R : (Nat → Prop) → World → α → List Value → Prop} {xs : List α} {x0 x : α} {z cz : Nat} {w w' : World} {cur : Array Value} {l : List Value} (hR : Stab R)
  (h : Own S e sz R (xs ++ [x0]) (.slice (some ⟨z, 0, none⟩) (xs.length + 1) cz) w) (hc : w.heap[z]? = some (.cells cur e)) (hp : Puts z (writeAt cur (xs.length * sz) l) e w w') (hl : l.length = sz)
  (hx : R (fun b => S b ∧ ¬ z = b) w x l) : Own S e sz R (xs ++ [x]) (.slice (some ⟨z, 0, none⟩) (xs.length + 1) cz) w' := by
 obtain ⟨us, -, h1, hown, h2, h3, h4⟩ := h
 have hSS : ∀ b, (S b ∧ ¬ (Value.slice (some ⟨z, 0, none⟩) (xs.length + 1) cz).ownBlock = some b) → w'.heap[b]? = w.heap[b]? := fun b hb => hp.rest b (fun e => hb.2 (by simp [Value.ownBlock, e]))
 rw [List.length_append, List.length_singleton] at h1 h2
 obtain ⟨ul, uz, rfl⟩ : ∃ a b, us = a ++ [b] := ⟨us.dropLast, us.getLast (fun e => by simp [e] at h2), (List.dropLast_concat_getLast _).symm⟩
 rw [List.length_append, List.length_singleton] at h2
 have hul : ul.length = xs.length := by omega
 have huz : uz.length = sz := h3 uz (by simp)
 have hfl : ∀ (L : List (List Value)), (∀ u ∈ L, u.length = sz) → L.flatten.length = L.length * sz := fun L => by
  induction L with
  | nil => simp
  | cons a L ih =>
   intro hL
   simp only [List.flatten_cons, List.length_append, List.length_cons]
   rw [ih (fun u hu => hL u (by simp [hu])), hL a (by simp), Nat.succ_mul, Nat.add_comm]
 have hful := hfl ul (fun u hu => h3 u (by simp [hu]))
 rw [hul] at hful
 refine ⟨ul ++ [l], fun e => absurd e (by simp), ?_, hown, by simp [hul], fun u hu => ?_, fun j y u hy hu => ?_⟩
 ·rw [List.length_append, List.length_singleton]
  refine ⟨by simp [hful, hl, Nat.succ_mul], ?_⟩
  rcases h1.2 with ⟨hv, -⟩ | ⟨g, cap, cur', hv, h5, h6, h7, h8, h9, h10⟩
  ·cases hv
  ·cases hv
   obtain rfl : cur' = cur := by rw [hc] at h6; cases h6; rfl
   refine .inr ⟨z, cz, _, rfl, h5, hp.blk, h7, h8, by rw [writeAt_size]; exact h9, ?_⟩
   have hle : xs.length * sz + sz ≤ cur'.size := by
    rw [h9]
    calc xs.length * sz + sz = (xs.length + 1) * sz := by rw [Nat.succ_mul]
     _ ≤ cz * sz := Nat.mul_le_mul_right _ h7
   rw [writeAt_list _ _ _ (by omega), hl]
   have ht : cur'.toList.take (xs.length * sz) = ul.flatten := by
    have := congrArg (List.take (xs.length * sz)) h10
    rw [List.take_take, Nat.min_eq_left (by rw [Nat.succ_mul]; omega), List.flatten_append, List.take_left' hful] at this
    exact this
   rw [ht, Nat.succ_mul, List.append_assoc, List.take_append, hful, List.take_of_length_le (by omega), Nat.add_sub_cancel_left, List.take_left' hl]
   simp
 ·rcases List.mem_append.1 hu with hu | hu
  ·exact h3 u (by simp [hu])
  ·rw [List.mem_singleton.1 hu]; exact hl
 ·rcases Nat.lt_or_ge j xs.length with hj | hj
  ·rw [List.getElem?_append_left hj] at hy
   rw [List.getElem?_append_left (by omega)] at hu
   exact hR _ _ _ _ _ _ (h4 j y u (by rw [List.getElem?_append_left hj]; exact hy) (by rw [List.getElem?_append_left (by omega)]; exact hu)) (fun b hb _ => hSS b hb) (fun b hb _ => hb)
  ·rw [List.getElem?_append_right hj] at hy
   rw [List.getElem?_append_right (by omega), hul] at hu
   obtain ⟨rfl, rfl⟩ : x = y ∧ l = u := by
    rcases hj0 : j - xs.length with _ | k
    ·rw [hj0] at hy hu
     simp at hy hu
     exact ⟨hy, hu⟩
    ·rw [hj0] at hy
     simp at hy
   exact hR _ _ _ _ _ _ hx (fun b hb _ => hp.rest b (fun e => hb.2 e.symm)) (fun b hb _ => ⟨hb.1, fun e => hb.2 (by simpa [Value.ownBlock] using e)⟩)
theorem stab_col : Stab (fun _ _ => colR) := fun _ _ _ _ _ _ h _ _ => h
theorem stab_key : Stab (fun _ _ => keyR) := fun _ _ _ _ _ _ h _ _ => h
theorem stab_strs : Stab strsR := fun _ _ _ _ _ _ ⟨v, h1, h2⟩ hb hS => ⟨v, h1, h2.keep hb hS (fun _ _ h => h)⟩
abbrev tabL (name : P12.T) (tc tk tq kc : Value) : Array Value := (stmtL 1 name tc tk tq kc [] [] false nilS nilS nilS noE nilS nilS noE nilS nilS 0).toArray
structure Tab (B gx : Nat) (t : P12.Tb) (k : List (List P12.T)) (col : Nat → Nat) (tc tk tq kc : Value) (c : Array Value) (w : World) : Prop where
 blk : w.heap[gx]? = some (.cells c 40)
 tc : Own (fun b => B ≤ b ∧ col b = 0) 137 3 (fun _ _ => colR) t.cols tc w
 tk : Own (fun b => B ≤ b ∧ col b = 1) 139 4 (fun _ _ => keyR) t.keys tk w
 tq : Own (fun b => B ≤ b ∧ col b = 2) 35 10 exprR t.checks tq w
 kc : Own (fun b => B ≤ b ∧ col b = 3) 29 1 strsR k kc w
 bx : gx < B
 bs : B ≤ w.heap.size
section
variable {B gx : Nat} {t : P12.Tb} {k : List (List P12.T)} {col : Nat → Nat} {tc tk tq kc : Value} {c : Array Value} {w w' : World}
theorem Tab.same (h : Tab B gx t k col tc tk tq kc c w) (hx : w'.heap[gx]? = w.heap[gx]?) (hb : ∀ b, B ≤ b → b < w.heap.size → w'.heap[b]? = w.heap[b]?) (hs : w.heap.size ≤ w'.heap.size) : Tab B gx t k col tc tk tq kc c w' :=
 ⟨hx.trans h.blk, h.tc.keep stab_col (fun b hb' hl => hb b hb'.1 hl) (fun b hb _ => hb), h.tk.keep stab_key (fun b hb' hl => hb b hb'.1 hl) (fun b hb _ => hb), h.tq.keep stab_expr (fun b hb' hl => hb b hb'.1 hl) (fun b hb _ => hb), h.kc.keep stab_strs (fun b hb' hl => hb b hb'.1 hl) (fun b hb _ => hb), h.bx, Nat.le_trans h.bs hs⟩
theorem Tab.turn {br : Nat} (h : Tab B gx t k col tc tk tq kc c w) (ht : Turn br w w') (h1 : br < gx) : Tab B gx t k col tc tk tq kc c w' :=
 h.same (ht.block (by have := h.bx; have := h.bs; omega) (by omega)) (fun b hb hl => ht.block hl (by have := h.bx; omega)) ht.size
theorem Tab.ext (h : Tab B gx t k col tc tk tq kc c w) (hx : Xk.Ext w w') : Tab B gx t k col tc tk tq kc c w' :=
 h.same (hx.block _ (by have := h.bx; have := h.bs; omega)) (fun b hb hl => hx.block b hl) hx.size
theorem Tab.setCell (h : Tab B gx t k col tc tk tq kc c w) {g : Nat} (hg : g < B) (hne : g ≠ gx) (o : Nat) (u : Value) : Tab B gx t k col tc tk tq kc c (w.setCell ⟨g, o, none⟩ u) :=
 h.same (heap_setCell_other w ⟨g, o, none⟩ gx u (fun e => hne (by have h : gx = g := (by simpa using e); omega))) (fun b hb hl => heap_setCell_other w ⟨g, o, none⟩ b u (fun e => by (have h : b = g := (by simpa using e)); omega)) (by rw [World.size_setCell]; omega)
theorem Tab.recol (h : Tab B gx t k col tc tk tq kc c w) (i : Nat) : Tab B gx t k (fun b => if b < w.heap.size then col b else i) tc tk tq kc c w :=
 ⟨h.blk, h.tc.keep stab_col (fun _ _ _ => rfl) (fun b hb hl => ⟨hb.1, by rw [if_pos hl]; exact hb.2⟩), h.tk.keep stab_key (fun _ _ _ => rfl) (fun b hb hl => ⟨hb.1, by rw [if_pos hl]; exact hb.2⟩), h.tq.keep stab_expr (fun _ _ _ => rfl) (fun b hb hl => ⟨hb.1, by rw [if_pos hl]; exact hb.2⟩), h.kc.keep stab_strs (fun _ _ _ => rfl) (fun b hb hl => ⟨hb.1, by rw [if_pos hl]; exact hb.2⟩), h.bx, h.bs⟩
theorem Tab.form (h : Tab B gx t k col tc tk tq kc c w) : ∃ a1 a2 b1 b2 c1 c2 d1 d2, tc = .slice a1 t.cols.length a2 ∧ tk = .slice b1 t.keys.length b2 ∧ tq = .slice c1 t.checks.length c2 ∧ kc = .slice d1 k.length d2 := by
 obtain ⟨a1, a2, ha⟩ := h.tc.form
 obtain ⟨b1, b2, hb⟩ := h.tk.form
 obtain ⟨c1, c2, hc⟩ := h.tq.form
 obtain ⟨d1, d2, hd⟩ := h.kc.form
 exact ⟨a1, a2, b1, b2, c1, c2, d1, d2, ha, hb, hc, hd⟩
end
section
variable {B gx : Nat} {t : P12.Tb} {k : List (List P12.T)} {col : Nat → Nat} {tc tk tq kc : Value} {c : Array Value} {w w' : World}
theorem Tab.setX (h : Tab B gx t k col tc tk tq kc c w) (o : Nat) (u : Value) : Tab B gx t k col tc tk tq kc (c.setIfInBounds o u) (w.setCell ⟨gx, o, none⟩ u) := by
 have hb : ∀ b, B ≤ b → (w.setCell ⟨gx, o, none⟩ u).heap[b]? = w.heap[b]? := fun b hb => heap_setCell_other w ⟨gx, o, none⟩ b u (fun e => by (have h2 : b = gx := (by simpa using e)); have := h.bx; omega)
 exact ⟨heap_setCell_same w gx o _ _ _ h.blk, h.tc.keep stab_col (fun b hb' _ => hb b hb'.1) (fun b hb _ => hb), h.tk.keep stab_key (fun b hb' _ => hb b hb'.1) (fun b hb _ => hb), h.tq.keep stab_expr (fun b hb' _ => hb b hb'.1) (fun b hb _ => hb), h.kc.keep stab_strs (fun b hb' _ => hb b hb'.1) (fun b hb _ => hb), h.bx, by rw [World.size_setCell]; exact h.bs⟩
theorem Tab.grow0 (h : Tab B gx t k col tc tk tq kc c w) (hi : ∀ b, w.heap.size ≤ b → col b = 0) {us : List (List Value)} {v' : Value} {x : P12.T × Int × Bool} {u : List Value} (h2 : us.length = t.cols.length) (h3 : ∀ u ∈ us, u.length = 3)
  (h4 : ∀ (j : Nat) x u, t.cols[j]? = some x → us[j]? = some u → (fun _ _ => colR) (fun b => (B ≤ b ∧ col b = 0) ∧ ¬ tc.ownBlock = some b) w x u) (hg : w.grownBy w' tc.ownBlock) (ho : w'.ownsRow 0 137 3 v' (t.cols.length + 1) (us.flatten ++ u))
  (hk : ∀ b, v'.ownBlock = some b → tc.ownBlock = some b ∨ w.heap.size ≤ b) (hu : u.length = 3) (hx : (fun _ _ => colR) (fun b => (B ≤ b ∧ col b = 0) ∧ ¬ tc.ownBlock = some b) w x u) : Tab B gx { t with cols := t.cols ++ [x] } k col v' tk tq kc c w' := by
 have hS : ∀ b, tc.ownBlock = some b → B ≤ b ∧ col b = 0 := fun b hb => (h.tc.lt b hb).1
 have hoth : ∀ b, col b ≠ 0 → b < w.heap.size → w'.heap[b]? = w.heap[b]? := fun b hb hl => hg.block b hl (fun e => hb (hS b e.symm).2)
 have hgx := (hg.block gx (by have := h.bx; have := h.bs; omega) (fun e => by have := (hS gx e.symm).1; have := h.bx; omega)).trans h.blk
 exact ⟨hgx, Own.push stab_col hS (fun b hb => ⟨Nat.le_trans h.bs hb, hi b hb⟩) h2 h3 h4 hg ho hk hu hx, h.tk.keep stab_key (fun b hb hl => hoth b (by rw [hb.2]; decide) hl) (fun b hb _ => hb), h.tq.keep stab_expr (fun b hb hl => hoth b (by rw [hb.2]; decide) hl) (fun b hb _ => hb), h.kc.keep stab_strs (fun b hb hl => hoth b (by rw [hb.2]; decide) hl) (fun b hb _ => hb), h.bx, Nat.le_trans h.bs hg.size⟩
theorem Tab.grow1 (h : Tab B gx t k col tc tk tq kc c w) (hi : ∀ b, w.heap.size ≤ b → col b = 1) {us : List (List Value)} {v' : Value} {x : Bool} {u : List Value} (h2 : us.length = t.keys.length) (h3 : ∀ u ∈ us, u.length = 4)
  (h4 : ∀ (j : Nat) x u, t.keys[j]? = some x → us[j]? = some u → (fun _ _ => keyR) (fun b => (B ≤ b ∧ col b = 1) ∧ ¬ tk.ownBlock = some b) w x u) (hg : w.grownBy w' tk.ownBlock) (ho : w'.ownsRow 0 139 4 v' (t.keys.length + 1) (us.flatten ++ u))
  (hk : ∀ b, v'.ownBlock = some b → tk.ownBlock = some b ∨ w.heap.size ≤ b) (hu : u.length = 4) (hx : (fun _ _ => keyR) (fun b => (B ≤ b ∧ col b = 1) ∧ ¬ tk.ownBlock = some b) w x u) : Tab B gx { t with keys := t.keys ++ [x] } k col tc v' tq kc c w' := by
 have hS : ∀ b, tk.ownBlock = some b → B ≤ b ∧ col b = 1 := fun b hb => (h.tk.lt b hb).1
 have hoth : ∀ b, col b ≠ 1 → b < w.heap.size → w'.heap[b]? = w.heap[b]? := fun b hb hl => hg.block b hl (fun e => hb (hS b e.symm).2)
 have hgx := (hg.block gx (by have := h.bx; have := h.bs; omega) (fun e => by have := (hS gx e.symm).1; have := h.bx; omega)).trans h.blk
 exact ⟨hgx, h.tc.keep stab_col (fun b hb hl => hoth b (by rw [hb.2]; decide) hl) (fun b hb _ => hb), Own.push stab_key hS (fun b hb => ⟨Nat.le_trans h.bs hb, hi b hb⟩) h2 h3 h4 hg ho hk hu hx, h.tq.keep stab_expr (fun b hb hl => hoth b (by rw [hb.2]; decide) hl) (fun b hb _ => hb), h.kc.keep stab_strs (fun b hb hl => hoth b (by rw [hb.2]; decide) hl) (fun b hb _ => hb), h.bx, Nat.le_trans h.bs hg.size⟩
theorem Tab.grow2 (h : Tab B gx t k col tc tk tq kc c w) (hi : ∀ b, w.heap.size ≤ b → col b = 2) {us : List (List Value)} {v' : Value} {x : P12.E} {u : List Value} (h2 : us.length = t.checks.length) (h3 : ∀ u ∈ us, u.length = 10)
  (h4 : ∀ (j : Nat) x u, t.checks[j]? = some x → us[j]? = some u → exprR (fun b => (B ≤ b ∧ col b = 2) ∧ ¬ tq.ownBlock = some b) w x u) (hg : w.grownBy w' tq.ownBlock) (ho : w'.ownsRow 0 35 10 v' (t.checks.length + 1) (us.flatten ++ u))
  (hk : ∀ b, v'.ownBlock = some b → tq.ownBlock = some b ∨ w.heap.size ≤ b) (hu : u.length = 10) (hx : exprR (fun b => (B ≤ b ∧ col b = 2) ∧ ¬ tq.ownBlock = some b) w x u) : Tab B gx { t with checks := t.checks ++ [x] } k col tc tk v' kc c w' := by
 have hS : ∀ b, tq.ownBlock = some b → B ≤ b ∧ col b = 2 := fun b hb => (h.tq.lt b hb).1
 have hoth : ∀ b, col b ≠ 2 → b < w.heap.size → w'.heap[b]? = w.heap[b]? := fun b hb hl => hg.block b hl (fun e => hb (hS b e.symm).2)
 have hgx := (hg.block gx (by have := h.bx; have := h.bs; omega) (fun e => by have := (hS gx e.symm).1; have := h.bx; omega)).trans h.blk
 exact ⟨hgx, h.tc.keep stab_col (fun b hb hl => hoth b (by rw [hb.2]; decide) hl) (fun b hb _ => hb), h.tk.keep stab_key (fun b hb hl => hoth b (by rw [hb.2]; decide) hl) (fun b hb _ => hb), Own.push stab_expr hS (fun b hb => ⟨Nat.le_trans h.bs hb, hi b hb⟩) h2 h3 h4 hg ho hk hu hx, h.kc.keep stab_strs (fun b hb hl => hoth b (by rw [hb.2]; decide) hl) (fun b hb _ => hb), h.bx, Nat.le_trans h.bs hg.size⟩
theorem Tab.grow3 (h : Tab B gx t k col tc tk tq kc c w) (hi : ∀ b, w.heap.size ≤ b → col b = 3) {us : List (List Value)} {v' : Value} {x : List P12.T} {u : List Value} (h2 : us.length = k.length) (h3 : ∀ u ∈ us, u.length = 1)
  (h4 : ∀ (j : Nat) x u, k[j]? = some x → us[j]? = some u → strsR (fun b => (B ≤ b ∧ col b = 3) ∧ ¬ kc.ownBlock = some b) w x u) (hg : w.grownBy w' kc.ownBlock) (ho : w'.ownsRow 0 29 1 v' (k.length + 1) (us.flatten ++ u))
  (hk : ∀ b, v'.ownBlock = some b → kc.ownBlock = some b ∨ w.heap.size ≤ b) (hu : u.length = 1) (hx : strsR (fun b => (B ≤ b ∧ col b = 3) ∧ ¬ kc.ownBlock = some b) w x u) : Tab B gx t (k ++ [x]) col tc tk tq v' c w' := by
 have hS : ∀ b, kc.ownBlock = some b → B ≤ b ∧ col b = 3 := fun b hb => (h.kc.lt b hb).1
 have hoth : ∀ b, col b ≠ 3 → b < w.heap.size → w'.heap[b]? = w.heap[b]? := fun b hb hl => hg.block b hl (fun e => hb (hS b e.symm).2)
 have hgx := (hg.block gx (by have := h.bx; have := h.bs; omega) (fun e => by have := (hS gx e.symm).1; have := h.bx; omega)).trans h.blk
 exact ⟨hgx, h.tc.keep stab_col (fun b hb hl => hoth b (by rw [hb.2]; decide) hl) (fun b hb _ => hb), h.tk.keep stab_key (fun b hb hl => hoth b (by rw [hb.2]; decide) hl) (fun b hb _ => hb), h.tq.keep stab_expr (fun b hb hl => hoth b (by rw [hb.2]; decide) hl) (fun b hb _ => hb), Own.push stab_strs hS (fun b hb => ⟨Nat.le_trans h.bs hb, hi b hb⟩) h2 h3 h4 hg ho hk hu hx, h.bx, Nat.le_trans h.bs hg.size⟩
theorem Tab.put2 {z cz : Nat} {x0 x : P12.E} {cur : Array Value} {l : List Value} (h : Tab B gx { t with checks := t.checks ++ [x0] } k col tc tk (.slice (some ⟨z, 0, none⟩) (t.checks.length + 1) cz) kc c w) (hc : w.heap[z]? = some (.cells cur 35)) (hp : Puts z (writeAt cur (t.checks.length * 10) l) 35 w w') (hl : l.length = 10)
  (hx : exprR (fun b => (B ≤ b ∧ col b = 2) ∧ ¬ z = b) w x l) : Tab B gx { t with checks := t.checks ++ [x] } k col tc tk (.slice (some ⟨z, 0, none⟩) (t.checks.length + 1) cz) kc c w' := by
 have hz : B ≤ z ∧ col z = 2 := (h.tq.lt z rfl).1
 exact ⟨(hp.rest gx (by have := h.bx; omega)).trans h.blk, h.tc.keep stab_col (fun b hb _ => hp.rest b (fun e => by rw [e, hz.2] at hb; exact absurd hb.2 (by decide))) (fun b hb _ => hb), h.tk.keep stab_key (fun b hb _ => hp.rest b (fun e => by rw [e, hz.2] at hb; exact absurd hb.2 (by decide))) (fun b hb _ => hb), Own.putLast stab_expr h.tq hc hp hl hx, h.kc.keep stab_strs (fun b hb _ => hp.rest b (fun e => by rw [e, hz.2] at hb; exact absurd hb.2 (by decide))) (fun b hb _ => hb), h.bx, by rw [hp.size]; exact h.bs⟩
theorem Tab.put0 {z cz : Nat} {x0 x : P12.T × Int × Bool} {cur : Array Value} {l : List Value} (h : Tab B gx { t with cols := t.cols ++ [x0] } k col (.slice (some ⟨z, 0, none⟩) (t.cols.length + 1) cz) tk tq kc c w) (hc : w.heap[z]? = some (.cells cur 137)) (hp : Puts z (writeAt cur (t.cols.length * 3) l) 137 w w') (hl : l.length = 3)
  (hx : (fun _ _ => colR) (fun b => (B ≤ b ∧ col b = 0) ∧ ¬ z = b) w x l) : Tab B gx { t with cols := t.cols ++ [x] } k col (.slice (some ⟨z, 0, none⟩) (t.cols.length + 1) cz) tk tq kc c w' := by
 have hz : B ≤ z ∧ col z = 0 := (h.tc.lt z rfl).1
 exact ⟨(hp.rest gx (by have := h.bx; omega)).trans h.blk, Own.putLast stab_col h.tc hc hp hl hx, h.tk.keep stab_key (fun b hb _ => hp.rest b (fun e => by rw [e, hz.2] at hb; exact absurd hb.2 (by decide))) (fun b hb _ => hb), h.tq.keep stab_expr (fun b hb _ => hp.rest b (fun e => by rw [e, hz.2] at hb; exact absurd hb.2 (by decide))) (fun b hb _ => hb), h.kc.keep stab_strs (fun b hb _ => hp.rest b (fun e => by rw [e, hz.2] at hb; exact absurd hb.2 (by decide))) (fun b hb _ => hb), h.bx, by rw [hp.size]; exact h.bs⟩
end
def TabAt (B gx gc : Nat) (t : P12.Tb) (k : List (List P12.T)) (w : World) : Prop := ∃ col tc tk tq kc, Tab B gx t k col tc tk tq kc (tabL t.name tc tk tq kc) w ∧ (B ≤ gc → col gc = 9)
theorem TabAt.turn {B gx gc br : Nat} {t : P12.Tb} {k : List (List P12.T)} {w w' : World} (h : TabAt B gx gc t k w) (ht : Turn br w w') (h1 : br < gx) : TabAt B gx gc t k w' := by
 obtain ⟨col, tc, tk, tq, kc, h, h9⟩ := h
 exact ⟨col, tc, tk, tq, kc, h.turn ht h1, h9⟩
theorem TabAt.ext {B gx gc : Nat} {t : P12.Tb} {k : List (List P12.T)} {w w' : World} (h : TabAt B gx gc t k w) (ht : Xk.Ext w w') : TabAt B gx gc t k w' := by
 obtain ⟨col, tc, tk, tq, kc, h, h9⟩ := h
 exact ⟨col, tc, tk, tq, kc, h.ext ht, h9⟩
theorem TabAt.setCell {B gx gc : Nat} {t : P12.Tb} {k : List (List P12.T)} {w : World} (h : TabAt B gx gc t k w) {g : Nat} (hg : g < B) (hne : g ≠ gx) (o : Nat) (u : Value) : TabAt B gx gc t k (w.setCell ⟨g, o, none⟩ u) := by
 obtain ⟨col, tc, tk, tq, kc, h, h9⟩ := h
 exact ⟨col, tc, tk, tq, kc, h.setCell hg hne o u, h9⟩
theorem TabAt.bounds {B gx gc : Nat} {t : P12.Tb} {k : List (List P12.T)} {w : World} (h : TabAt B gx gc t k w) : gx < B ∧ B ≤ w.heap.size := by
 obtain ⟨col, tc, tk, tq, kc, h, -⟩ := h
 exact ⟨h.bx, h.bs⟩
structure KeptG (B gc : Nat) (ks : List Nat) (w w' : World) : Prop where
 kept : Kept B ks w w'
 fore : B ≤ gc → gc < w.heap.size → w'.heap[gc]? = w.heap[gc]?
section
variable {B gc : Nat} {ks : List Nat} {w0 w w' : World}
theorem KeptG.refl (B gc : Nat) (ks : List Nat) (w : World) : KeptG B gc ks w w := ⟨Kept.refl _ _ _, fun _ _ => rfl⟩
theorem KeptG.trans (h : KeptG B gc ks w0 w) (k : KeptG B gc ks w w') : KeptG B gc ks w0 w' := ⟨h.kept.trans k.kept, fun h1 h2 => (k.fore h1 (Nat.lt_of_lt_of_le h2 h.kept.size)).trans (h.fore h1 h2)⟩
theorem KeptG.of_ext (h : Xk.Ext w w') : KeptG B gc ks w w' := ⟨Kept.of_ext h, fun _ h2 => h.block _ h2⟩
theorem KeptG.of_turn {br : Nat} (h : Turn br w w') (hk : br ∈ ks) (hb : br < B) : KeptG B gc ks w w' := ⟨Kept.of_turn h hk, fun h1 h2 => h.block h2 (by omega)⟩
theorem KeptG.setCell (h : KeptG B gc ks w0 w) {g : Nat} (hg : (B ≤ g ∧ (B ≤ gc → g ≠ gc)) ∨ (g ∈ ks ∧ g < B)) (o : Nat) (u : Value) : KeptG B gc ks w0 (w.setCell ⟨g, o, none⟩ u) :=
 ⟨h.kept.setCell (hg.elim (fun h => .inl h.1) (fun h => .inr (.inl h.1))) o u, fun h1 h2 => (heap_setCell_other w ⟨g, o, none⟩ gc u (fun e => by
  have e : gc = g := by simpa using e
  rcases hg with hg | hg
  ·exact hg.2 h1 e.symm
  ·omega)).trans (h.fore h1 h2)⟩
theorem KeptG.grown {k : Option Nat} (h : KeptG B gc ks w0 w) (hg : w.grownBy w' k) (hk : ∀ b, k = some b → B ≤ b ∧ (B ≤ gc → b ≠ gc)) : KeptG B gc ks w0 w' :=
 ⟨h.kept.grown hg (fun b hb => (hk b hb).1), fun h1 h2 => (hg.block gc (Nat.lt_of_lt_of_le h2 h.kept.size) (fun e => (hk gc e.symm).2 h1 rfl)).trans (h.fore h1 h2)⟩
theorem KeptG.of_puts {z : Nat} {c : Array Value} {T : TypeId} (hp : Puts z c T w w') (hz : B ≤ z ∧ (B ≤ gc → z ≠ gc)) : KeptG B gc ks w w' :=
 ⟨Kept.of_puts hp hz.1, fun h1 _ => hp.rest gc (fun e => hz.2 h1 e.symm)⟩
end
theorem TabAt.stmt {B gx gc : Nat} {t : P12.Tb} {k : List (List P12.T)} {w : World} (h : TabAt B gx gc t k w) {S : Nat → Prop} (hS : ∀ b, B ≤ b → S b) : ∃ tc tk tq kc, w.heap[gx]? = some (.cells (tabL t.name tc tk tq kc) 40) ∧
  SlcAt S w 3 colR t.cols tc ∧ SlcAt S w 4 keyR t.keys tk ∧ SlcAt S w 10 (exprR S w) t.checks tq ∧ SlcAt S w 1 (strsR S w) k kc := by
 obtain ⟨col, tc, tk, tq, kc, h, -⟩ := h
 have hs : ∀ i b, (B ≤ b ∧ col b = i) → b < w.heap.size → S b := fun i b hb _ => hS b hb.1
 exact ⟨tc, tk, tq, kc, h.blk, (h.tc.keep stab_col (fun _ _ _ => rfl) (hs 0)).slc stab_col (by decide), (h.tk.keep stab_key (fun _ _ _ => rfl) (hs 1)).slc stab_key (by decide), (h.tq.keep stab_expr (fun _ _ _ => rfl) (hs 2)).slc stab_expr (by decide), (h.kc.keep stab_strs (fun _ _ _ => rfl) (hs 3)).slc stab_strs (by decide)⟩
theorem ent_constrains : Ent 198 := ⟨fun _ _ => by go_simp, by decide⟩
theorem ent_expr : Ent 140 := ⟨fun _ _ => by go_simp, by decide⟩
theorem constrains_any (br : Nat) (r : P12.R) (w : World) (h : Rd br r w) :
  Calls Tryz.prog 198 #[rp br] w fun e w' => e = .returned (.bool (P12.constrains r)) ∧ Xk.Ext w w' := by
 have HR := Lib.hid h
 have HI := Lib.hid fun s W h => isT_any br r s W h
 clear h
 unfold P12.constrains
 cases h1 : P12.isT [80, 82, 73, 77, 65, 82, 89] r
 ·cases h2 : P12.isT [85, 78, 73, 81, 85, 69] r
  ·generalize h3 : P12.isT [67, 72, 69, 67, 75] r = b3
   go_enter Tryz.func198, Tryz.ntmps198
   go_wp2_with fail
   go_at_call 77
   refine (HI.out [80, 82, 73, 77, 65, 82, 89] _ HR.out).mono ?_
   rw [h1]
   rintro e w1 ⟨rfl, hx1⟩
   go_wp2_with fail
   go_at_call 77
   refine (HI.out [85, 78, 73, 81, 85, 69] _ (HR.out.ext hx1)).mono ?_
   rw [h2]
   rintro e w2 ⟨rfl, hx2⟩
   go_wp2_with fail
   go_at_call 77
   refine (HI.out [67, 72, 69, 67, 75] _ ((HR.out.ext hx1).ext hx2)).mono ?_
   rw [h3]
   rintro e w3 ⟨rfl, hx3⟩
   go_wp2
   go_ret
   exact ⟨by simp, Xk.Ext.trans hx1 (Xk.Ext.trans hx2 hx3)⟩
  ·go_enter Tryz.func198, Tryz.ntmps198
   go_wp2_with fail
   go_at_call 77
   refine (HI.out [80, 82, 73, 77, 65, 82, 89] _ HR.out).mono ?_
   rw [h1]
   rintro e w1 ⟨rfl, hx1⟩
   go_wp2_with fail
   go_at_call 77
   refine (HI.out [85, 78, 73, 81, 85, 69] _ (HR.out.ext hx1)).mono ?_
   rw [h2]
   rintro e w2 ⟨rfl, hx2⟩
   go_wp2
   go_ret
   exact ⟨by simp, Xk.Ext.trans hx1 hx2⟩
 ·go_enter Tryz.func198, Tryz.ntmps198
  go_wp2_with fail
  go_at_call 77
  refine (HI.out [80, 82, 73, 77, 65, 82, 89] _ HR.out).mono ?_
  rw [h1]
  rintro e w1 ⟨rfl, hx1⟩
  go_wp2
  go_ret
  exact ⟨by simp, hx1⟩
theorem withinE_any (br : Nat) (r : P12.R) (w : World) (h : Rd br r w) :
  Calls Tryz.prog 236 #[rp br, .func (.func 140) #[rp br] #[]] w (Got br w r (ExprV w) (P12.within P12.expr r)) := by
 have lr := h.lt
 refine (within_any (α := P12.E) br [] (.func (.func 140) #[rp br] #[]) 140 #[rp br] (.inl rfl) ent_expr
   P12.expr (fun v e W => ∃ l, v = .agg l.toArray ∧ ExprAt (fun b => w.heap.size < b) W e l) r w h (fun k hk => by cases hk)
   (fun v x W hv => by
    obtain ⟨l, rfl, he⟩ := hv
    obtain ⟨kd, op, vk, vi, vs, tb, nm, pp, pm, pc, rfl⟩ := he.form
    exact ⟨_, _, _, _, _, _, _, _, _, _, rfl⟩)
   (fun v x W W' hv ht => by
    obtain ⟨l, rfl, he⟩ := hv
    exact ⟨l, rfl, he.turn ht (fun b hb => by omega)⟩)
   (fun v x W o u hv => by
    obtain ⟨l, rfl, he⟩ := hv
    exact ⟨l, rfl, he.set (by omega) o u⟩)
   (fun r1 W hd hd2 hr1 ht hlt => (expr_any br r1 W hr1).mono (fun e w' h => by
    cases hx : P12.expr r1 with
    | error er =>
     rw [hx] at h
     exact ⟨h.1, Kept.of_turn h.2 (by simp)⟩
    | ok p =>
     obtain ⟨x, r'⟩ := p
     rw [hx] at h
     obtain ⟨v, rfl, ⟨l, rfl, he⟩, ht', hr', hk'⟩ := h
     exact ⟨_, rfl, ⟨l, rfl, he.mono (fun b hb _ => by omega)⟩, Kept.of_turn ht' (by simp), hr', hk'⟩))).mono ?_
 intro e w' h
 rcases hw : P12.within P12.expr r with er | ⟨a, r'⟩
 ·rw [hw] at h
  exact ⟨h.1, h.2.turn⟩
 ·rw [hw] at h
  obtain ⟨v, rfl, ⟨l, rfl, he⟩, hk, hr, hkk⟩ := h
  exact ⟨_, rfl, ⟨l, rfl, he.mono (fun b hb _ => Nat.le_of_lt hb)⟩, hk.turn, hr, hkk⟩
end Go.Proofs.YtkpmclddjkebeaaGreatDoor
