/- Walks: pantilelaw12.ParseDeep. -/
import Derived.Test.YtkpmclddjkebeaaGreatDoorJZB
import Derived.Test.YtkpmclddjkebeaaGreatDoorJA
set_option linter.unusedSimpArgs false
set_option linter.unusedVariables false
set_option maxRecDepth 100000
set_option maxHeartbeats 8000000
namespace P12
theorem deepHead_snoc (l : List Bool) (b : Bool) : deepHead (l ++ [b]) = deepHead l ++ (if b then [40] else [45, 32]) := by
 induction l with
 | nil => cases b <;> rfl
 | cons c l ih => cases c <;> simp [deepHead, ih]
theorem deepCnt_snoc (l : List Bool) (b : Bool) : deepCnt (l ++ [b]) = deepCnt l + (if b then 1 else 0) := by
 induction l with
 | nil => cases b <;> rfl
 | cons c l ih => cases c <;> simp [deepCnt, ih]; omega
end P12
namespace Go.Proofs.YtkpmclddjkebeaaGreatDoor
open Go.RowKit
theorem Tryz.infoInt : (Tryz.prog.info? 3).map (fun i => (i.zero, i.size, i.bytes)) = some (some (.int .i64 0), 1, 8) := by kernel_rfl
def deepPlaces (l : List Bool) : List Value := (List.range l.length).map fun j => Value.int .i64 ((7 + (P12.deepHead (l.take j)).length : Nat) : Int)
theorem deepPlaces_snoc (l : List Bool) (b : Bool) : deepPlaces (l ++ [b]) = deepPlaces l ++ [Value.int .i64 ((7 + (P12.deepHead l).length : Nat) : Int)] := by
 unfold deepPlaces
 rw [List.length_append, List.length_singleton, List.range_succ, List.map_append]
 congr 1
 ·refine List.map_congr_left fun j hj => ?_
  rw [List.take_append_of_le_length (by have := List.mem_range.1 hj; omega)]
 ·simp
theorem own_at {w : World} {B : Nat} {e : TypeId} {v : Value} {n : Nat} {xs : List Value} (h : w.ownsRow B e 1 v n xs) {j : Nat} {u : Value} (hj : xs[j]? = some u) : ∃ g c, v = .slice (some ⟨g, 0, none⟩) n c ∧ w.cell? ⟨g, j, none⟩ = some u ∧ n ≤ c := by
 rcases h.2 with ⟨rfl, h0⟩ | ⟨g, cap, cur, rfl, hB, hg, hcap, hmx, hcs, htk⟩
 ·have hl := h.1
  have := (List.getElem?_eq_some_iff.1 hj).1
  omega
 ·refine ⟨g, cap, rfl, ?_, hcap⟩
  have hc : (cur.toList.take (n * 1))[j]? = some u := by rw [htk]; exact hj
  rw [List.getElem?_take] at hc
  split at hc
  ·simp only [World.cell?, hg, Option.isSome_none, Bool.false_eq_true, if_false]
   simpa using hc
  ·cases hc
theorem cell_of_row {w : World} {g : Nat} {l : List Value} {T : TypeId} (h : w.heap[g]? = some (.cells l.toArray T)) {j : Nat} {v : Value} (hv : l[j]? = some v) : w.cell? ⟨g, j, none⟩ = some v := by simp [World.cell?, h, hv]
theorem deep_any (n : Int) (p : Option Addr) (hn hc : Nat) (w : World) (hH : ∀ j, j < hn → ∃ (g o : Nat) (v : Int), p = some ⟨g, o, none⟩ ∧ w.cell? ⟨g, o + j, none⟩ = some (.int .u8 v) ∧ 0 ≤ v ∧ v ≤ 255) (hE : Env w) (hP : EnvP w) :
  Calls Tryz.prog 5 #[.int .i64 n, .slice p hn hc] w fun e w' => e = .returned (.bool true) ∧ Xk.Ext w w' := by
 have HK := Lib.hid (known_12 w hE hP)
 have HP := Lib.hid hP
 have HH := Lib.hid hH
 clear hE hP hH
 by_cases hr : n < 0
 ·go_enter Tryz.func5, Tryz.ntmps5
  go_wp2_with fail
  refine (HK.out).mono ?_
  rintro e w1 ⟨rfl, hx1⟩
  go_wp2_with fail
  go_ret
  exact ⟨rfl, hx1⟩
 by_cases hr2 : 150 < n
 ·have hr' : ¬ n < 0 := hr
  go_enter Tryz.func5, Tryz.ntmps5
  go_wp2_with fail
  refine (HK.out).mono ?_
  rintro e w1 ⟨rfl, hx1⟩
  go_wp2_with fail
  go_ret
  exact ⟨rfl, hx1⟩
 obtain ⟨m, rfl⟩ : ∃ m : Nat, n = m := ⟨n.toNat, by omega⟩
 have hm2 : ¬ 150 < (m : Int) := hr2
 have hm0 : ¬ (m : Int) < 0 := hr
 have hm150 : m ≤ 150 := by omega
 clear hr hr2
 obtain ⟨i0, hi, hz0, hz1, hz2⟩ := infoParts Tryz.infoInt
 have Hi := Lib.hid hi
 have Hz0 := Lib.hid hz0
 have Hz1 := Lib.hid hz1
 have Hz2 := Lib.hid hz2
 clear hi hz0 hz1 hz2
 go_enter Tryz.func5, Tryz.ntmps5
 go_wp2_with fail
 refine (HK.out).mono ?_
 rintro e w1 ⟨rfl, hx1⟩
 have HX1 := Lib.hid hx1
 clear hx1
 go_wp2_with fail
 go_loopw [5, 6, 7, 8] (fun s e v x wr => ∃ (q : Nat) (pat : List Bool) (sv ev : List UInt8), q ≤ m ∧ x = .int .i64 q ∧ s = .string ⟨sv.toArray⟩ ∧ e = .string ⟨ev.toArray⟩ ∧ Hid (pat.length = q ∧ sv = [83, 69, 76, 69, 67, 84, 32] ++ P12.deepHead pat ∧ ev = List.replicate (P12.deepCnt pat) 41) ∧ Xk.Ext w wr ∧ wr.ownsRow w.heap.size 3 1 v q (deepPlaces pat)) (fun _ _ _ x _ => m - (intOf x).toNat)
 case atStart => exact ⟨0, [], [83, 69, 76, 69, 67, 84, 32], [], by omega, rfl, rfl, rfl, Lib.hid ⟨rfl, rfl, rfl⟩, HX1.out, World.ownsRow_nil _ _ _ _⟩
 case round =>
  obtain ⟨q, pat, sv, ev, hqm, rfl, rfl, rfl, HR, hx, ho⟩ := hrel
  obtain ⟨ps, cs, rfl⟩ := own_slice ho
  have HX := Lib.hid hx
  have HO := Lib.hid ho
  have hws := hx.size
  have hl1 := P12.deepHead_len pat
  have hl2 := P12.deepCnt_len pat
  have hsl : sv.length = 7 + (P12.deepHead pat).length := by rw [HR.out.2.1]; simp; omega
  have hsb : sv.length ≤ 400 := by have := HR.out.1; omega
  have heb : ev.length ≤ 200 := by have := HR.out.1; rw [HR.out.2.2, List.length_replicate]; omega
  have HSL := Lib.hid hsl
  clear hx ho hl1 hl2 hsl
  by_cases hlt : q < m
  ·have hlb : (q : Int) < (m : Int) := by omega
   have hstep : ∀ (b : Bool) (v' : Value) (w7 : World), w7.ownsRow w.heap.size 3 1 v' (q + 1) (deepPlaces pat ++ [Value.int .i64 (sv.length : Int)]) → w7.ownsRow w.heap.size 3 1 v' (q + 1) (deepPlaces (pat ++ [b])) := fun b v' w7 h => by
    rw [deepPlaces_snoc, ← HSL.out]; exact h
   have HSTEP := Lib.hid hstep
   clear hstep
   by_cases hq : q < hn
   ·obtain ⟨g, o, v, rfl, hcv, hv0, hv1⟩ := HH.out q hq
    have hqb : (q : Int) < (hn : Int) := by omega
    have lg : g < w.heap.size := World.block_lt_of_cell? _ _ hcv
    have lg2 : g < wr.heap.size := by omega
    have hcw := Xk.ext_cell HX.out hcv
    clear hcv
    by_cases hz : v % 2 = 0
    ·have hz2 : v.tmod 2 = 0 := by rw [Int.tmod_eq_emod_of_nonneg hv0]; exact hz
     go_wp2_with (at_builtin; refine Xo.wpList_appb w.heap.size rfl _ _ 52 rfl 3 i0 _ 1 8 Tryz.underlying52 Hi.out Hz0.out Hz1.out Hz2.out rfl (by decide) (.slice ps q cs) q _ rfl (own_same HO.out (fun b hb => (boxX wr _).block b (HO.out.lt b hb).2)) wr.heap.size 0 1 1 [.int .i64 (sv.length : Int)] rfl (by decide) rfl (cells_list wr _ _ rfl) (one_all (by kernel_rfl)) (by omega) (by rw [World.size_alloc]; omega) ?_; intro v' w7 ho' hg' hk'; have HX7 := Lib.hid (show Xk.Ext w w7 from Below.grown (Xk.Ext.trans HX.out (boxX wr _)) hg' (by rw [World.size_alloc]; omega) (fun j hj => (HO.out.lt j hj).1)); have HO7 := Lib.hid ho'; clear ho' hg' hk')
     go_roundw
     case rel => exact ⟨q + 1, pat ++ [true], sv ++ [40], ev ++ [41], by omega, by go_num, congrArg Value.string (str_cat _ _), congrArg Value.string (str_cat _ _), Lib.hid ⟨by simp [HR.out.1], by rw [HR.out.2.1, P12.deepHead_snoc]; simp, by rw [HR.out.2.2, P12.deepCnt_snoc]; simp [List.replicate_succ']⟩, HX7.out, HSTEP.out _ _ _ HO7.out⟩
     case measure => simp [intOf]; omega
    ·have hz1 : v % 2 = 1 := by omega
     have hz2 : v.tmod 2 = 1 := by rw [Int.tmod_eq_emod_of_nonneg hv0]; exact hz1
     clear hz
     go_wp2_with (at_builtin; refine Xo.wpList_appb w.heap.size rfl _ _ 52 rfl 3 i0 _ 1 8 Tryz.underlying52 Hi.out Hz0.out Hz1.out Hz2.out rfl (by decide) (.slice ps q cs) q _ rfl (own_same HO.out (fun b hb => (boxX wr _).block b (HO.out.lt b hb).2)) wr.heap.size 0 1 1 [.int .i64 (sv.length : Int)] rfl (by decide) rfl (cells_list wr _ _ rfl) (one_all (by kernel_rfl)) (by omega) (by rw [World.size_alloc]; omega) ?_; intro v' w7 ho' hg' hk'; have HX7 := Lib.hid (show Xk.Ext w w7 from Below.grown (Xk.Ext.trans HX.out (boxX wr _)) hg' (by rw [World.size_alloc]; omega) (fun j hj => (HO.out.lt j hj).1)); have HO7 := Lib.hid ho'; clear ho' hg' hk')
     go_roundw
     case rel => exact ⟨q + 1, pat ++ [false], sv ++ [45, 32], ev, by omega, by go_num, congrArg Value.string (str_cat _ _), rfl, Lib.hid ⟨by simp [HR.out.1], by rw [HR.out.2.1, P12.deepHead_snoc]; simp, by rw [HR.out.2.2, P12.deepCnt_snoc]; simp [List.replicate_succ']⟩, HX7.out, HSTEP.out _ _ _ HO7.out⟩
     case measure => simp [intOf]; omega
   ·have hqb : ¬ (q : Int) < (hn : Int) := by omega
    go_wp2_with (at_builtin; refine Xo.wpList_appb w.heap.size rfl _ _ 52 rfl 3 i0 _ 1 8 Tryz.underlying52 Hi.out Hz0.out Hz1.out Hz2.out rfl (by decide) (.slice ps q cs) q _ rfl (own_same HO.out (fun b hb => (boxX wr _).block b (HO.out.lt b hb).2)) wr.heap.size 0 1 1 [.int .i64 (sv.length : Int)] rfl (by decide) rfl (cells_list wr _ _ rfl) (one_all (by kernel_rfl)) (by omega) (by rw [World.size_alloc]; omega) ?_; intro v' w7 ho' hg' hk'; have HX7 := Lib.hid (show Xk.Ext w w7 from Below.grown (Xk.Ext.trans HX.out (boxX wr _)) hg' (by rw [World.size_alloc]; omega) (fun j hj => (HO.out.lt j hj).1)); have HO7 := Lib.hid ho'; clear ho' hg' hk')
    go_roundw
    case rel => exact ⟨q + 1, pat ++ [true], sv ++ [40], ev ++ [41], by omega, by go_num, congrArg Value.string (str_cat _ _), congrArg Value.string (str_cat _ _), Lib.hid ⟨by simp [HR.out.1], by rw [HR.out.2.1, P12.deepHead_snoc]; simp, by rw [HR.out.2.2, P12.deepCnt_snoc]; simp [List.replicate_succ']⟩, HX7.out, HSTEP.out _ _ _ HO7.out⟩
    case measure => simp [intOf]; omega
  ·have hlb : ¬ (q : Int) < (m : Int) := by omega
   have hqe : q = m := by omega
   have hpl : pat.length = m := by rw [HR.out.1, hqe]
   have HPL := Lib.hid hpl
   have hlen := P12.deepHead_len pat
   go_wp2_with fail
   refine (parse_seen _ _ (HP.out.ext HX.out)).mono ?_
   rintro e w2 ⟨l, pp, kk, rfl, hx2, g1, g2, g3, hmt⟩
   have hb2 : ∀ X : ByteArray, X.data.toList = P12.deepText pat → P12.parse X.data.toList = P12.parse (P12.deepText pat) := fun X h => by rw [h]
   rw [hb2 _ (by rw [HR.out.2.1, HR.out.2.2]; simp [P12.deepText])] at hmt
   have HX2 := Lib.hid (Xk.Ext.trans HX.out hx2)
   have HO2 := Lib.hid (own_same HO.out (fun b hb => hx2.block b (HO.out.lt b hb).2))
   have G1 := Lib.hid g1
   have G2 := Lib.hid g2
   have G3 := Lib.hid g3
   clear hb2 hx2 g1 g2 g3 hpl hlen
   by_cases h100 : m ≤ 100
   ·obtain ⟨x, hxp, hxi⟩ := P12.deep_ok pat (by rw [HPL.out]; exact h100)
    rw [hxp] at hmt
    obtain ⟨rfl, rfl, hs⟩ := hmt
    have hl22 : ∃ pi ci, l[22]? = some (.slice pi 1 ci) := by
     obtain ⟨tc, tk, tq, kc, cols, rows, sets, wh, items, frm, jn, grp, ord, h⟩ := hs
     obtain ⟨pi, ci, rfl⟩ := h.items.len
     refine ⟨pi, ci, ?_⟩
     obtain ⟨k1, o1, vk1, vi1, vs1, tb1, nm1, q1, m1, d1, rfl⟩ := h.wh.form
     rw [h.form, hxi]; rfl
    obtain ⟨pi, ci, hl22⟩ := hl22
    have H22 := Lib.hid hl22
    have y1 : ¬ (100 : Int) < (m : Int) := by omega
    clear hs hl22 hxp hxi hqe h100
    go_wp2_with ((refine wpList_putRow rfl 40 _ _ rfl (w2.heap.size) _ _ 40 rfl rfl ((heap_new w2 _)) ((by rw [show l.toArray.size = 37 by rw [List.size_toArray, G1.out]]; rfl)) (G3.out) (G2.out) ?_; intro w5 hp5); have z22 : w5.cell? ⟨w2.heap.size, 22, none⟩ = some (.slice pi 1 ci) := cell_of_row hp5.blk H22.out; have lz22 := World.block_lt_of_cell? _ _ z22; have HP5 := Lib.hid hp5; clear hp5)
    go_ret
    exact ⟨rfl, Xk.Ext.trans HX2.out (puts_ext HP5.out (boxX w2 _) (Nat.le_refl _))⟩
   ·have hde := P12.deep_err pat (by rw [HPL.out]; omega) (by rw [HPL.out]; exact hm150)
    rw [hde] at hmt
    obtain ⟨hpp, rfl⟩ := hmt
    have h100' : 100 < pat.length := by rw [HPL.out]; omega
    have hpl2 : (deepPlaces pat)[100]? = some (.int .i64 pp) := by
     unfold deepPlaces
     rw [List.getElem?_map, List.getElem?_range h100', hpp]; rfl
    obtain ⟨gp, cp, hse, hgc, -⟩ := own_at HO2.out hpl2
    have HGC := Lib.hid hgc
    obtain ⟨rfl, rfl⟩ : ps = some ⟨gp, 0, none⟩ ∧ cs = cp := by injection hse with e1 e2 e3; exact ⟨e1, e3⟩
    have y1 : (100 : Int) < (m : Int) := by omega
    have y2 : (100 : Int) < (q : Int) := by omega
    have y3 : 100 < q := by omega
    have lgp : gp < w2.heap.size := World.block_lt_of_cell? _ _ hgc
    clear hde hpp h100' hpl2 hse hgc hqe
    go_wp2_with ((refine wpList_putRow rfl 40 _ _ rfl (w2.heap.size) _ _ 40 rfl rfl ((heap_new w2 _)) ((by rw [show l.toArray.size = 37 by rw [List.size_toArray, G1.out]]; rfl)) (G3.out) (G2.out) ?_; intro w5 hp5); have z22 : w5.cell? ⟨gp, 100, none⟩ = some (.int .i64 pp) := ((World.cell?_of_block (hp5.rest gp (by omega))).trans (Xk.ext_cell (boxX w2 _) HGC.out)); have lz22 := World.block_lt_of_cell? _ _ z22; have HP5 := Lib.hid hp5; clear hp5)
    go_ret
    exact ⟨rfl, Xk.Ext.trans HX2.out (puts_ext HP5.out (boxX w2 _) (Nat.le_refl _))⟩
end Go.Proofs.YtkpmclddjkebeaaGreatDoor
