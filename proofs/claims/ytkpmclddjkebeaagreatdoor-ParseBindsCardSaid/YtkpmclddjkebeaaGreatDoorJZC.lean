/- Walks: parse.Expr; pantilelaw12.ParseBinds. -/
import Derived.Test.YtkpmclddjkebeaaGreatDoorJZB
import Derived.Test.YtkpmclddjkebeaaGreatDoorJA
import Derived.Deep.RegionWith
set_option linter.unusedSimpArgs false
set_option linter.unusedVariables false
set_option maxRecDepth 100000
set_option maxHeartbeats 8000000
namespace Go.Proofs.YtkpmclddjkebeaaGreatDoor
open Go.RowKit
theorem expr_of_any (kd op vk vi : Int) (vs tb nm : P12.T) (pp : Option Addr) (pm pc : Nat) (t : P12.T) (w : World)
  (hI : ∀ W, Xk.Ext w W → Calls Tryz.prog 36 #[.agg (exprL kd op vk vi vs tb nm (.slice pp pm pc)).toArray] W fun e w' => e = .returned (.bool true) ∧ Xk.Ext W w')
  (hT : ∀ W, Xk.Ext w W → Calls Tryz.prog 51 #[.agg (exprL kd op vk vi vs tb nm (.slice pp pm pc)).toArray] W fun r w' => r = .returned (bs t) ∧ Xk.Ext W w') :
  Calls Tryz.prog 16 #[.agg (exprL kd op vk vi vs tb nm (.slice pp pm pc)).toArray] w fun r w' => r = .returned (.tuple #[bs t, .int .i64 0]) ∧ Xk.Ext w w' := by
 have hga := heap_new w (exprO (exprL kd op vk vi vs tb nm (.slice pp pm pc)))
 have HI := Lib.hid hI
 have HT := Lib.hid hT
 clear hI hT
 go_enter Tryz.func16, Tryz.ntmps16
 go_wp2_with (refine wpList_loadRow rfl 35 _ rfl (w.heap.size) _ 35 (0, 0) _ rfl hga Tryz.underlying35 rfl (by kernel_rfl) ?_)
 refine (HI.out _ (boxX _ _)).mono ?_
 rintro e w1 ⟨rfl, hx1⟩
 have hgb := boxRow hx1
 go_wp2_with (refine wpList_loadRow rfl 35 _ rfl (w.heap.size) _ 35 (0, 0) _ rfl hgb Tryz.underlying35 rfl (by kernel_rfl) ?_)
 refine (HT.out _ (box2 hx1)).mono ?_
 rintro e w2 ⟨rfl, hx2⟩
 go_wp2_with fail
 go_ret2
 exact ⟨rfl, Xk.Ext.trans (box2 hx1) hx2⟩
theorem expr_at {S : Nat → Prop} {w W : World} {e : P12.E} {l : List Value} (hE : Env w) (h : ExprAt S w e l) (hi : P12.isE e = true) (hb : (P12.text e).length ≤ 1000000) (hx : Xk.Ext w W) :
  Calls Tryz.prog 16 #[.agg l.toArray] W fun r w' => r = .returned (.tuple #[bs (P12.text e), .int .i64 0]) ∧ Xk.Ext W w' := by
 have h1 := fun W2 (hx2 : Xk.Ext W W2) => isExpr_any e hi S W2 l (h.extS (Xk.Ext.trans hx hx2))
 have h2 := fun W2 (hx2 : Xk.Ext W W2) => text_at (W := W2) hE h hi hb (Xk.Ext.trans hx hx2)
 obtain ⟨kd, op, vk, vi, vs, tb, nm, pp, pm, pc, rfl⟩ := h.form
 exact expr_of_any kd op vk vi vs tb nm pp pm pc _ W h1 h2
theorem bindSign_len (i : Nat) : (P12.bindSign i).length ≤ 3 := by
 unfold P12.bindSign
 match i with
 | 0 | 1 | 2 | 3 | 4 | 5 | 6 | 7 | 8 | 9 | 10 | 11 | 12 => decide
 | i + 13 => exact Nat.zero_le _
def signCells : List Value := P12.bindSigns.map bs
def rankCells : List Value := P12.bindRanks.map fun (r : Nat) => Value.int .i64 (r : Int)
theorem sign_cell {i : Nat} (h : i < 13) : signCells[i]? = some (bs (P12.bindSign i)) := by
 match i, h with
 | 0, _ | 1, _ | 2, _ | 3, _ | 4, _ | 5, _ | 6, _ | 7, _ | 8, _ | 9, _ | 10, _ | 11, _ | 12, _ => rfl
theorem rank_cell {i : Nat} (h : i < 13) : rankCells[i]? = some (.int .i64 (P12.bindRank i : Int)) := by
 match i, h with
 | 0, _ | 1, _ | 2, _ | 3, _ | 4, _ | 5, _ | 6, _ | 7, _ | 8, _ | 9, _ | 10, _ | 11, _ | 12, _ => rfl
theorem mod_nat (a : Int) (n : Nat) (hn : 0 < n) (hb : n ≤ 1000) : ∃ i : Nat, i < n ∧ (wrap64 (a.tmod n + n)).tmod n = (i : Int) := by
 have ht := Int.tmod_lt_of_pos a (show (0 : Int) < n by omega)
 have ht2 : -(n : Int) < a.tmod n := by
  by_cases hs : 0 ≤ a
  ·have := Int.tmod_nonneg n hs; omega
  ·have h1 := Int.tmod_lt_of_pos (-a) (show (0 : Int) < n by omega)
   rw [Int.neg_tmod] at h1
   omega
 have hwr : wrap64 (a.tmod n + n) = a.tmod n + n := by unfold wrap64; omega
 have h1 := Int.tmod_lt_of_pos (a.tmod n + n) (show (0 : Int) < n by omega)
 have h2 := Int.tmod_nonneg n (show 0 ≤ a.tmod n + n by omega)
 rw [hwr]
 exact ⟨((a.tmod n + n).tmod n).toNat, by omega, by omega⟩
theorem row_cell {w : World} {g : Nat} {l : List Value} {T : TypeId} (h : w.heap[g]? = some (.cells l.toArray T)) {j : Nat} {v : Value} (hv : l[j]? = some v) : w.cell? ⟨g, j, none⟩ = some v := by simp [World.cell?, h, hv]
theorem ext_drew {w W : World} (h : Xk.Ext w.drew W) : Xk.Ext w W :=
 ⟨h.os, h.tape, h.output, by have := h.size; rwa [World.size_drew] at this, fun b hb => h.block b (by rw [World.size_drew]; exact hb)⟩
theorem bind_cases {i k : Nat} (hi : i < 13) (hk : k < 13) : (P12.bindRank i = 2 ∧ P12.bindRank k = 2 ∧ ∃ p, P12.parse (P12.bindText i k) = .error (p, 120)) ∨
  (¬ (P12.bindRank i = 2 ∧ P12.bindRank k = 2) ∧ ∃ x, P12.parse (P12.bindText i k) = .ok x ∧ P12.isE x.wher = true ∧ P12.text x.wher = P12.bindWant i k) := by
 have h := P12.bind_ok i k hi hk
 unfold P12.bindOk at h
 cases hp : P12.parse (P12.bindText i k) with
 | ok x =>
  rw [hp] at h
  simp only [Bool.and_eq_true, Bool.not_eq_true', beq_iff_eq] at h
  refine .inr ⟨fun hc => ?_, x, rfl, h.1.2, h.2⟩
  have := h.1.1
  rw [hc.1, hc.2] at this
  cases this
 | error er =>
  obtain ⟨a, b⟩ := er
  rw [hp] at h
  simp only [Bool.and_eq_true, beq_iff_eq] at h
  exact .inl ⟨h.1.1, h.1.2, a, by rw [h.2]⟩
theorem bindWant_len (i k : Nat) : (P12.bindWant i k).length ≤ 100 := by
 have h1 := bindSign_len i
 have h2 := bindSign_len k
 unfold P12.bindWant
 split <;> (simp only [List.length_append, List.length_cons, List.length_nil]; omega)
def BFacts (w : World) (s5 i k : Nat) (l : List Value) (kk : Int) (g : Nat) (W5 : World) : Prop :=
 Xk.Ext w W5 ∧ W5.heap[s5]? = some (.cells signCells.toArray 58) ∧ W5.heap[s5 + 1]? = some (.cells rankCells.toArray 59) ∧ W5.heap[g]? = some (stmtO l) ∧
  (match P12.parse (P12.bindText i k) with | .ok x => kk = 0 ∧ ∃ S, StmtIn S W5 x l | .error er => kk = er.2)
theorem binds_last {w W W2 : World} {s5 i k : Nat} {l : List Value} {p kk : Int} (hx : Xk.Ext w W) (h5 : W.heap[s5]? = some (.cells signCells.toArray 58)) (h6 : W.heap[s5 + 1]? = some (.cells rankCells.toArray 59)) (hx3 : Xk.Ext W.drew W2)
  (g1 : l.length = 37) (g2 : l.toArray.all (·.oneCell') = true) (g3 : (Tryz.prog.info? 40).map (·.size) = some l.toArray.size) {base : Nat}
  (hm : match P12.parse (P12.bindText i k) with | .ok x => kk = 0 ∧ p = 0 ∧ StmtIn (fun b => base ≤ b) W2 x l | .error er => p = er.1 ∧ kk = er.2) :
  ∃ W5, (storeCells ⟨W2.heap.size, 0, none⟩ l).run Tryz.prog (W2.alloc (.cells #[.int .i64 0, .string ⟨#[]⟩, .slice none 0 0, .slice none 0 0, .slice none 0 0, .slice none 0 0, .string ⟨#[]⟩, .string ⟨#[]⟩, .bool false, .slice none 0 0, .slice none 0 0, .slice none 0 0, .int .i64 0, .int .i64 0, .int .i64 0, .int .i64 0, .string ⟨#[]⟩, .string ⟨#[]⟩, .string ⟨#[]⟩, .int .i64 0, .int .i64 0, .slice none 0 0, .slice none 0 0, .slice none 0 0, .int .i64 0, .int .i64 0, .int .i64 0, .int .i64 0, .string ⟨#[]⟩, .string ⟨#[]⟩, .string ⟨#[]⟩, .int .i64 0, .int .i64 0, .slice none 0 0, .slice none 0 0, .slice none 0 0, .int .i64 0] 40)) = .ok () W5 ∧ BFacts w s5 i k l kk W2.heap.size W5 := by
 have hs := run_storeCells_new (P := Tryz.prog) W2 40 zero37.toArray l.toArray g3 (by rw [List.size_toArray, List.size_toArray, g1]; rfl) g2
 have hx5 : Xk.Ext W (W2.alloc (stmtO l)) := Xk.Ext.trans (ext_drew hx3) (boxX W2 _)
 refine ⟨W2.alloc (stmtO l), by simpa using hs, Xk.Ext.trans hx hx5, (hx5.block _ (Array.getElem?_eq_some_iff.1 h5).1).trans h5, (hx5.block _ (Array.getElem?_eq_some_iff.1 h6).1).trans h6, heap_new W2 _, ?_⟩
 cases hp : P12.parse (P12.bindText i k) with
 | ok x => rw [hp] at hm; exact ⟨hm.1, _, hm.2.2.at (boxX W2 _)⟩
 | error er => rw [hp] at hm; exact hm.2
theorem binds_first {w W W2 : World} {s5 i k : Nat} {l : List Value} {p kk : Int} {c0 : Array Value} (hx : Xk.Ext w W) (h5 : W.heap[s5]? = some (.cells signCells.toArray 58)) (h6 : W.heap[s5 + 1]? = some (.cells rankCells.toArray 59)) (hx3 : Xk.Ext (W.alloc (.cells c0 40)).drew W2)
  (g1 : l.length = 37) (g2 : l.toArray.all (·.oneCell') = true) (g3 : (Tryz.prog.info? 40).map (·.size) = some l.toArray.size)
  (hm : match P12.parse (P12.bindText i k) with | .ok x => kk = 0 ∧ p = 0 ∧ StmtIn (fun b => (W.alloc (.cells c0 40)).drew.heap.size ≤ b) W2 x l | .error er => p = er.1 ∧ kk = er.2) (hc0 : c0.size = 37) :
  ∃ W5, (storeCells ⟨W.heap.size, 0, none⟩ l).run Tryz.prog W2 = .ok () W5 ∧ BFacts w s5 i k l kk W.heap.size W5 := by
 have hxa := ext_drew hx3
 have hb : W2.heap[W.heap.size]? = some (.cells c0 40) := (hxa.block _ (by rw [World.size_alloc]; omega)).trans (heap_new W _)
 have hs := run_storeCells_cells (P := Tryz.prog) W.heap.size 0 l 0 W2 (fun j hj => by
   simp only [Nat.zero_add, Nat.add_zero, World.cell?, hb]
   simp [show j < c0.size by omega]) (fun j hj => frozen_of_row W2 W.heap.size _ _ _ hb) (fun v hv => (Array.all_eq_true_iff_forall_mem.1 g2) v (by simpa using hv))
 have hp := puts_set hb l 0
 have hw : (W2.setCells W.heap.size 0 l).heap[W.heap.size]? = some (stmtO l) := setCells_all hb l (by rw [g1, hc0])
 have l5 := (Array.getElem?_eq_some_iff.1 h5).1
 have l6 := (Array.getElem?_eq_some_iff.1 h6).1
 have hx2 : Xk.Ext W W2 := Xk.Ext.trans (boxX W _) hxa
 refine ⟨_, hs, Xk.Ext.trans hx (puts_ext hp hx2 (Nat.le_refl _)), (hp.rest _ (by omega)).trans ((hx2.block _ l5).trans h5), (hp.rest _ (by omega)).trans ((hx2.block _ l6).trans h6), hw, ?_⟩
 cases hpr : P12.parse (P12.bindText i k) with
 | ok x =>
  rw [hpr] at hm
  exact ⟨hm.1, _, hm.2.2.keep (S' := fun b => (W.alloc (.cells c0 40)).drew.heap.size ≤ b) (fun b hb _ => hp.rest b (by rw [World.size_drew, World.size_alloc] at hb; omega)) (fun b hb _ => hb)⟩
 | error er => rw [hpr] at hm; exact hm.2
theorem binds_any (a b : Int) (w : World) (hE : Env w) (hP : EnvP w) : Calls Tryz.prog 9 #[.int .i64 a, .int .i64 b] w fun e w' => e = .returned (.bool true) ∧ Xk.Ext w w' := by
 have HK := Lib.hid (known_12 w hE hP)
 have HP := Lib.hid hP
 have HE := Lib.hid hE
 clear hE hP
 obtain ⟨i, hi, hia⟩ := mod_nat a 13 (by decide) (by decide)
 obtain ⟨k, hk, hkb⟩ := mod_nat b 13 (by decide) (by decide)
 have hia' : (wrap64 (a.tmod 13 + 13)).tmod 13 = (i : Int) := hia
 have hkb' : (wrap64 (b.tmod 13 + 13)).tmod 13 = (k : Int) := hkb
 clear hia hkb
 go_enter Tryz.func9, Tryz.ntmps9
 go_wp2_with fail
 refine (HK.out).mono ?_
 rintro e w1 ⟨rfl, hx1⟩
 have HX1 := Lib.hid hx1
 clear hx1
 go_upto_region 6 with fail
 have HPS : Hid (∀ W, Xk.Ext w W → Calls Tryz.prog 11 #[.string (⟨#[68, 69, 76, 69, 84, 69, 32, 70, 82, 79, 77, 32, 116, 32, 87, 72, 69, 82, 69, 32, 120, 32]⟩ ++ ⟨(P12.bindSign i).toArray⟩ ++ ⟨#[32, 121, 32]⟩ ++ ⟨(P12.bindSign k).toArray⟩ ++ ⟨#[32, 122]⟩)] W fun e w' => ∃ (l : List Value) (p kk : Int), e = .returned (.tuple #[.agg l.toArray, .int .i64 p, .int .i64 kk]) ∧ Xk.Ext W w' ∧ l.length = 37 ∧ l.toArray.all (·.oneCell') = true ∧ (Tryz.prog.info? 40).map (·.size) = some l.toArray.size ∧
   (match P12.parse (P12.bindText i k) with | .ok x => kk = 0 ∧ p = 0 ∧ StmtIn (fun b => W.heap.size ≤ b) w' x l | .error er => p = er.1 ∧ kk = er.2)) := Lib.hid fun W hx => by
  have h := parse_seen (⟨#[68, 69, 76, 69, 84, 69, 32, 70, 82, 79, 77, 32, 116, 32, 87, 72, 69, 82, 69, 32, 120, 32]⟩ ++ ⟨(P12.bindSign i).toArray⟩ ++ ⟨#[32, 121, 32]⟩ ++ ⟨(P12.bindSign k).toArray⟩ ++ ⟨#[32, 122]⟩) W (HP.out.ext hx)
  rwa [show (⟨#[68, 69, 76, 69, 84, 69, 32, 70, 82, 79, 77, 32, 116, 32, 87, 72, 69, 82, 69, 32, 120, 32]⟩ ++ ⟨(P12.bindSign i).toArray⟩ ++ ⟨#[32, 121, 32]⟩ ++ ⟨(P12.bindSign k).toArray⟩ ++ ⟨#[32, 122]⟩ : ByteArray).data.toList = P12.bindText i k by simp [P12.bindText]] at h
 generalize hW2 : World.alloc (World.alloc w1 _) _ = W
 have hx2 : Xk.Ext w1 W := by rw [← hW2]; exact Xk.xt
 have hg5 : W.heap[w1.heap.size]? = some (.cells signCells.toArray 58) := by
  rw [← hW2]
  exact ((boxX _ _).block _ (by rw [World.size_alloc]; omega)).trans (heap_new w1 _)
 have hg6 : W.heap[w1.heap.size + 1]? = some (.cells rankCells.toArray 59) := by
  rw [← hW2]
  have := heap_new (w1.alloc (.cells signCells.toArray 58)) (.cells rankCells.toArray 59)
  rwa [World.size_alloc] at this
 clear hW2
 have ci : W.cell? ⟨w1.heap.size, i, none⟩ = some (bs (P12.bindSign i)) := by simp [World.cell?, hg5, sign_cell hi]
 have ck : W.cell? ⟨w1.heap.size, k, none⟩ = some (bs (P12.bindSign k)) := by simp [World.cell?, hg5, sign_cell hk]
 have l5 : w1.heap.size < W.heap.size := World.block_lt_of_cell? _ _ ci
 have bi := bindSign_len i
 have bk := bindSign_len k
 have HX2 := Lib.hid (Xk.Ext.trans HX1.out hx2)
 have HG5 := Lib.hid hg5
 have HG6 := Lib.hid hg6
 have HI13 := Lib.hid hi
 have HK13 := Lib.hid hk
 have ib : (i : Int) < 13 := by omega
 have kb : (k : Int) < 13 := by omega
 have m1 : ¬ 9223372036854775807 < 22 + (P12.bindSign i).length := by omega
 have m2 : ¬ 9223372036854775807 < 22 + (P12.bindSign i).length + 3 := by omega
 have m3 : ¬ 9223372036854775807 < 22 + (P12.bindSign i).length + 3 + (P12.bindSign k).length := by omega
 have m4 : ¬ 9223372036854775807 < 22 + (P12.bindSign i).length + 3 + (P12.bindSign k).length + 2 := by omega
 clear hx2 hg5 hg6
 go_region_with (go_at_call 11; (with_reducible refine (HPS.out _ (Xk.Ext.trans HX2.out Xk.xt)).mono ?_); rintro e W2 ⟨l, p, kk, rfl, hx3, g1, g2, g3, hmt⟩; have HLN := Lib.hid g1; first | (have hzb := binds_first HX2.out HG5.out HG6.out hx3 g1 g2 g3 hmt rfl; obtain ⟨W5, s5, hbf⟩ := hzb; have HBF := Lib.hid hbf; clear hbf hx3 g1 g2 g3 hmt) | (have hzb := binds_last HX2.out HG5.out HG6.out hx3 g1 g2 g3 hmt; obtain ⟨W5, s5, hbf⟩ := hzb; have HBF := Lib.hid hbf; clear hbf hx3 g1 g2 g3 hmt))
 all_goals
  obtain ⟨b1, b2, b3, b4, b5⟩ := HBF.out
  have HB1 := Lib.hid b1
  clear b1 ci ck l5 m1 m2 m3 m4 HG5 HG6 HX2 s5
  have si := row_cell (T := 58) b2 (sign_cell HI13.out)
  have sk := row_cell (T := 58) b2 (sign_cell HK13.out)
  have ri := row_cell (T := 59) b3 (rank_cell HI13.out)
  have rk := row_cell (T := 59) b3 (rank_cell HK13.out)
  have lsi := World.block_lt_of_cell? _ _ si
  have lri := World.block_lt_of_cell? _ _ ri
  rcases bind_cases HI13.out HK13.out with ⟨e1, e2, pq, hpe⟩ | ⟨e1, x, hpx, hE, hT⟩
  ·rw [hpe] at b5
   have b5 : kk = 120 := b5
   subst b5
   have t1 : ((P12.bindRank i : Int) == 2) = true := by rw [e1]; rfl
   have t2 : ((P12.bindRank k : Int) == 2) = true := by rw [e2]; rfl
   clear e1 e2 hpe b2 b3 b4
   go_wp2_with fail
   go_ret
   exact ⟨rfl, HB1.out⟩
  ·rw [hpx] at b5
   obtain ⟨b5, S, hs⟩ := b5
   subst b5
   have HS := Lib.hid hs
   clear hpx hs
   have t12 : (((P12.bindRank i : Int) == 2) = false) ∨ (((P12.bindRank i : Int) == 2) = true ∧ ((P12.bindRank k : Int) == 2) = false) := by
    by_cases h1 : P12.bindRank i = 2
    ·by_cases h2 : P12.bindRank k = 2
     ·exact absurd ⟨h1, h2⟩ e1
     ·exact .inr ⟨by simp; omega, by simp; omega⟩
    ·exact .inl (by simp; omega)
   clear e1
   have HB2 := Lib.hid b2
   have HB3 := Lib.hid b3
   have HB4 := Lib.hid b4
   have HEX := Lib.hid hE
   have HTX := Lib.hid hT
   have hfm : ∃ kd op vk vi vs tb nm pp pm pc, ExprAt S W5 x.wher (exprL kd op vk vi vs tb nm (.slice pp pm pc)) ∧ ∀ (j : Nat) v, (exprL kd op vk vi vs tb nm (.slice pp pm pc))[j]? = some v → l[12 + j]? = some v := by
    obtain ⟨tc, tk, tq, kc, cols, rows, sets, wh, items, frm, jn, grp, ord, h⟩ := HS.out
    obtain ⟨kd, op, vk, vi, vs, tb, nm, pp, pm, pc, e⟩ := h.wh.form
    refine ⟨kd, op, vk, vi, vs, tb, nm, pp, pm, pc, e ▸ h.wh, ?_⟩
    rw [h.form, e]
    exact fst_some 12 (ten_cells rfl rfl rfl rfl rfl rfl rfl rfl rfl rfl rfl)
   obtain ⟨kd, op, vk, vi, vs, tb, nm, pp, pm, pc, hea, hlw⟩ := hfm
   have HRW := Lib.hid (fun (j : Nat) v hj => (by rw [show 12 + j = 12 + j from rfl]; exact row_cell HB4.out (hlw j v hj)) : W5.rangeAt _ 12 (exprL kd op vk vi vs tb nm (.slice pp pm pc)))
   have HXP := Lib.hid fun W' (hx : Xk.Ext W5 W') => expr_at (HE.out.ext HB1.out) hea HEX.out (by rw [HTX.out]; exact Nat.le_trans (bindWant_len i k) (by decide)) hx
   rw [hT] at HXP
   clear b2 b3 b4 hE hT hea hlw
   rcases t12 with t1 | ⟨t1, t2⟩
   all_goals
    go_wp2_with (refine wpList_load_mid rfl 35 _ rfl _ 12 rfl _ _ HRW.out Tryz.underlying35 rfl (by kernel_rfl) ?_)
    refine (HXP.out _ (Below.refl _ _)).mono ?_
    rintro e w6 ⟨rfl, hx6⟩
    have HX6 := Lib.hid (Xk.Ext.trans HB1.out hx6)
    have b2 := (hx6.block _ (Array.getElem?_eq_some_iff.1 HB2.out).1).trans HB2.out
    have b3 := (hx6.block _ (Array.getElem?_eq_some_iff.1 HB3.out).1).trans HB3.out
    clear si sk ri rk lsi lri hx6 t1
    try clear t2
    have si := row_cell (T := 58) b2 (sign_cell HI13.out)
    have sk := row_cell (T := 58) b2 (sign_cell HK13.out)
    have ri := row_cell (T := 59) b3 (rank_cell HI13.out)
    have rk := row_cell (T := 59) b3 (rank_cell HK13.out)
    have lsi := World.block_lt_of_cell? _ _ si
    have lri := World.block_lt_of_cell? _ _ ri
    have m1 : ¬ 9223372036854775807 < 3 + (P12.bindSign i).length := by omega
    have m2 : ¬ 9223372036854775807 < 3 + (P12.bindSign i).length + 4 := by omega
    have m3 : ¬ 9223372036854775807 < 3 + (P12.bindSign i).length + 4 + (P12.bindSign k).length := by omega
    have m4 : ¬ 9223372036854775807 < 3 + (P12.bindSign i).length + 4 + (P12.bindSign k).length + 2 := by omega
    go_wp2_with fail
    refine Xk.reg 11 (Xk.w0 fun p => ?_)
    obtain ⟨W7, hW7⟩ : ∃ W', W' = Xk.exw w6.drew p := ⟨_, rfl⟩
    have hx7 : Xk.Ext w6 W7 := by rw [hW7]; exact Xk.xt
    rw [← hW7]
    clear hW7
    have HX7 := Lib.hid (Xk.Ext.trans HX6.out hx7)
    have b2 := (hx7.block _ (Array.getElem?_eq_some_iff.1 b2).1).trans b2
    have b3 := (hx7.block _ (Array.getElem?_eq_some_iff.1 b3).1).trans b3
    clear hx7
    clear si sk ri rk lsi lri m1 m2 m3 m4
    have si := row_cell (T := 58) b2 (sign_cell HI13.out)
    have sk := row_cell (T := 58) b2 (sign_cell HK13.out)
    have ri := row_cell (T := 59) b3 (rank_cell HI13.out)
    have rk := row_cell (T := 59) b3 (rank_cell HK13.out)
    have lsi := World.block_lt_of_cell? _ _ si
    have lri := World.block_lt_of_cell? _ _ ri
    go_wp2_with fail
    refine Xk.reg 7 (Xk.w0 fun p => ?_)
    obtain ⟨W8, hW8⟩ : ∃ W', W' = Xk.exw W7.drew p := ⟨_, rfl⟩
    have hx8 : Xk.Ext W7 W8 := by rw [hW8]; exact Xk.xt
    rw [← hW8]
    clear hW8
    have HX8 := Lib.hid (Xk.Ext.trans HX7.out hx8)
    have b2 := (hx8.block _ (Array.getElem?_eq_some_iff.1 b2).1).trans b2
    have b3 := (hx8.block _ (Array.getElem?_eq_some_iff.1 b3).1).trans b3
    clear hx8
    clear si sk ri rk lsi lri
    have si := row_cell (T := 58) b2 (sign_cell HI13.out)
    have sk := row_cell (T := 58) b2 (sign_cell HK13.out)
    have ri := row_cell (T := 59) b3 (rank_cell HI13.out)
    have rk := row_cell (T := 59) b3 (rank_cell HK13.out)
    have lsi := World.block_lt_of_cell? _ _ si
    have lri := World.block_lt_of_cell? _ _ ri
    by_cases hlt : P12.bindRank i < P12.bindRank k
    ·have hlt2 : (P12.bindRank i : Int) < (P12.bindRank k : Int) := by omega
     have HLT := Lib.hid hlt
     have m1 : ¬ 9223372036854775807 < 2 + (P12.bindSign i).length := by omega
     have m2 : ¬ 9223372036854775807 < 2 + (P12.bindSign i).length + 4 := by omega
     have m3 : ¬ 9223372036854775807 < 2 + (P12.bindSign i).length + 4 + (P12.bindSign k).length := by omega
     have m4 : ¬ 9223372036854775807 < 2 + (P12.bindSign i).length + 4 + (P12.bindSign k).length + 3 := by omega
     go_wp2_with fail
     refine Xk.reg 11 (Xk.w0 fun p => ?_)
     obtain ⟨W9, hW9⟩ : ∃ W', W' = Xk.exw W8.drew p := ⟨_, rfl⟩
     have hx9 : Xk.Ext W8 W9 := by rw [hW9]; exact Xk.xt
     rw [← hW9]
     rw [show (⟨#[120, 32]⟩ ++ ⟨(P12.bindSign i).toArray⟩ ++ ⟨#[32, 40, 121, 32]⟩ ++ ⟨(P12.bindSign k).toArray⟩ ++ ⟨#[32, 122, 41]⟩ : ByteArray) = ⟨(P12.bindWant i k).toArray⟩ by (apply bytes_eq; unfold P12.bindWant; rw [if_pos HLT.out]; simp)]
     clear hW9 b2 b3 si sk ri rk
     go_wp2_with fail
     go_ret
     exact ⟨rfl, Xk.Ext.trans HX8.out hx9⟩
    ·have hlt2 : ¬ (P12.bindRank i : Int) < (P12.bindRank k : Int) := by omega
     have HLT := Lib.hid hlt
     rw [show (⟨#[40, 120, 32]⟩ ++ ⟨(P12.bindSign i).toArray⟩ ++ ⟨#[32, 121, 41, 32]⟩ ++ ⟨(P12.bindSign k).toArray⟩ ++ ⟨#[32, 122]⟩ : ByteArray) = ⟨(P12.bindWant i k).toArray⟩ by (apply bytes_eq; unfold P12.bindWant; rw [if_neg HLT.out]; simp)]
     clear b2 b3 si sk ri rk
     go_wp2_with fail
     go_ret
     exact ⟨rfl, HX8.out⟩
end Go.Proofs.YtkpmclddjkebeaaGreatDoor
