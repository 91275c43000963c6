/- Walks: pantileref12's SameTable, of two that are the same. -/
import Derived.Test.YtkpmclddjkebeaaGreatDoorEZE
set_option linter.unusedSimpArgs false
set_option linter.unusedVariables false
set_option maxRecDepth 100000
set_option maxHeartbeats 8000000
namespace Go.Xd
open Go.RowKit
open Go.Xk hiding law wpRel makeRun newPost callPost rel_skip rel_det rel_make rel_nil
open Go.Xe hiding wpRel wp_region_rel rel_skip rel_det rel_make rel_nil facts_head
theorem ld {E : World → World → Prop} (hE : Pre E) {P : Program} {ops : Array Oper} {w0 : World} {O : Nat → Option Nat} {Ψ : Ps} {Q : Act → World → Prop} {o : Oper} {r : List Oper} {i : Nat} {a : Act} {F : Facts} {G : Made} (t : TypeId) (b off : Nat) (cs : List Value) {d : TypeDesc} (hu : P.underlying t = some d) (hc : ∀ w, E w0 w → w.rangeAt b off cs) {x : Operand} (k : wpRel E P ops w0 O Ψ Q r (i + 1) (a.put o.dst (.agg cs.toArray)) F G)
  (hg : o.guard = none := by rfl) (ho : o.op = .load t x := by rfl) (ht : lookP Ψ i = none := by rfl) (hx : a.eval x = .pointer (some ⟨b, off, none⟩) := by rfl) (hd : d.isRow = true := by rfl) (hi : (P.info? t).map (·.size) = some cs.length := by kernel_rfl) : wpRel E P ops w0 O Ψ Q (o :: r) i a F G :=
 rel_det hE (wanted_none hg) ht fun K hK => ⟨.agg cs.toArray, fun w h _ => detRun_loadMid t x ho b off cs d hx (hc w h) hu hd hi, hK _ k⟩
end Go.Xd
namespace Go.Proofs.YtkpmclddjkebeaaGreatDoor
open Go.RowKit
theorem two_new {w W : World} {o1 o2 : Obj} (hx : Xk.Ext ((w.alloc o1).alloc o2) W) : W.heap[w.heap.size]? = some o1 ∧ W.heap[w.heap.size + 1]? = some o2 ∧ Xk.Ext w W := by
 refine ⟨(hx.block _ (by rw [World.size_alloc, World.size_alloc]; omega)).trans (((boxX (w.alloc o1) o2).block _ (by rw [World.size_alloc]; omega)).trans (heap_new w o1)), ?_, Xk.Ext.trans (boxX w o1) (Xk.Ext.trans (boxX (w.alloc o1) o2) hx)⟩
 have := (hx.block (w.heap.size + 1) (by rw [World.size_alloc, World.size_alloc]; omega))
 rw [this]
 have h := heap_new (w.alloc o1) o2
 rwa [World.size_alloc] at h
def boxF (T : TypeId) (n B : Nat) (_ : List Value) (v : Value) (W : World) : Prop := ∃ g c, v = .pointer (some ⟨g, 0, none⟩) ∧ B ≤ g ∧ c.size = n ∧ W.heap[g]? = some (.cells c T)
def boxS (T : TypeId) (B : Nat) (l : List Value) (ls : List Value) (_ : Value) (W : World) : Prop := ∀ g, ls.head? = some (.pointer (some ⟨g, 0, none⟩)) → B ≤ g → W.heap[g]? = some (.cells l.toArray T)
theorem boxF.et {T : TypeId} {n B : Nat} {l : List Value} (hl : l.length = n) : ∀ ls v w w', ET B (.cells l.toArray T) w w' → boxF T n B ls v w → boxF T n B ls v w' := by
 rintro ls v w w' h ⟨g, c, rfl, hg, hc, hw⟩
 rcases h.2.2.2.2 g (Array.getElem?_eq_some_iff.1 hw).1 with e | ⟨-, e⟩
 ·exact ⟨g, c, rfl, hg, hc, e.trans hw⟩
 ·exact ⟨g, l.toArray, rfl, hg, by simpa using hl, e⟩
theorem boxS.et {T : TypeId} {B : Nat} {l : List Value} : ∀ ls v w w', ET B (.cells l.toArray T) w w' → boxS T B l ls v w → boxS T B l ls v w' := by
 intro ls v w w' h hs g hg hb
 have hw := hs g hg hb
 rcases h.2.2.2.2 g (Array.getElem?_eq_some_iff.1 hw).1 with e | ⟨-, e⟩
 ·exact e.trans hw
 ·exact e
theorem et_new (T : TypeId) {n B : Nat} (o : Obj) (c : Array Value) {w2 W : World} (h : ET B o w2.drew W) (hB : B ≤ w2.heap.size) (hc : c.size = n) (ls : List Value) : Xe.newPost (ET B o) W none (boxF T n B ls) (.pointer (some ⟨W.heap.size, 0, none⟩)) (W.alloc (.cells c T)) :=
 ⟨(pre_ET _ _).ext ((Below.refl _ _).alloc (Nat.le_refl _) _), ⟨W.heap.size, c, rfl, by have h1 := h.2.2.2.1; rw [World.size_drew] at h1; omega, hc, heap_new W _⟩, fun b hb => by cases hb⟩
theorem et_row {B : Nat} {o : Obj} {w2 W : World} (h : ET B o w2.drew W) (hB : B = w2.heap.size) {g off : Nat} {l : List Value} (hr : w2.rangeAt g off l) (hg : g < w2.heap.size) : W.rangeAt g off l :=
 range_same hr ((h.2.2.2.2 g (by simpa using hg)).resolve_right fun e => by omega)
theorem key_cells {a b c d : Value} {T : TypeId} {W : World} {g : Nat} (h : W.heap[g]? = some (.cells [a, b, c, d].toArray T)) :
  g < W.heap.size ∧ W.cell? ⟨g, 0, none⟩ = some a ∧ W.cell? ⟨g, 1, none⟩ = some b ∧ W.cell? ⟨g, 2, none⟩ = some c ∧ W.cell? ⟨g, 3, none⟩ = some d := by
 refine ⟨(Array.getElem?_eq_some_iff.1 h).1, ?_, ?_, ?_, ?_⟩ <;> simp [World.cell?, h]
theorem et_cell {B : Nat} {o : Obj} {w2 W : World} (h : ET B o w2.drew W) (hB : B = w2.heap.size) {b i : Nat} {v : Value} (hc : w2.cell? ⟨b, i, none⟩ = some v) : W.cell? ⟨b, i, none⟩ = some v := by
 have hl := World.block_lt_of_cell? _ _ hc
 have := (h.2.2.2.2 b (by simpa using hl)).resolve_right fun e => by have := e.1; simp only at hl; omega
 unfold World.cell? at hc ⊢
 simp only at hc ⊢
 rw [this]; exact hc
theorem sameTable_of {S S' : Nat → Prop} {w : World} (nm : P12.T) {cols : List (P12.T × Int × Bool)} {keys : List Bool} {checks : List P12.E} {v1 v2 v3 u1 u2 u3 : Value} (h1 : SlcAt S w 3 colR cols v1) (h2 : SlcAt S w 4 keyR keys v2) (h3 : SlcAt S w 10 (exprR S w) checks v3) (g1 : SlcAt S' w 3 colR cols u1) (g2 : SlcAt S' w 4 keyR keys u2) (g3 : SlcAt S' w 10 (exprR S' w) checks u3) (b1 : cols.length ≤ 1000000) (b2 : keys.length ≤ 1000000) (b3 : checks.length ≤ 1000000) :
  Calls Tryz.prog 28 #[.agg #[bs nm, v1, v2, v3], .agg #[bs nm, u1, u2, u3]] w fun e w' => e = .returned (.bool true) ∧ Xk.Ext w w' := by
 have HC := Lib.hid fun W (hx : Xk.Ext w W) => sameAll_of (h3.extE hx) (g3.extE hx) b3 (fun e _ => same_any e)
 have H1 := Lib.hid h1
 have H2 := Lib.hid h2
 have G1 := Lib.hid g1
 have G2 := Lib.hid g2
 obtain ⟨p1, c1, rfl⟩ := h1.len
 obtain ⟨p2, c2, rfl⟩ := h2.len
 obtain ⟨p3, c3, rfl⟩ := h3.len
 obtain ⟨q1, d1, rfl⟩ := g1.len
 obtain ⟨q2, d2, rfl⟩ := g2.len
 obtain ⟨q3, d3, rfl⟩ := g3.len
 clear h1 h2 h3 g1 g2 g3
 go_enter Tryz.func28, Tryz.ntmps28
 go_wp2_with fail
 refine (HC.out _ Xk.xt).mono ?_
 rintro e W2 ⟨rfl, hx2⟩
 obtain ⟨ha, hb, hx0⟩ := two_new hx2
 obtain ⟨la, a0, a1, a2, a3⟩ := tab_cells ha
 obtain ⟨lb, b0, b4, b5, b6⟩ := tab_cells hb
 have HX0 := Lib.hid hx0
 clear hx2 ha hb hx0 HC
 go_wp2_with fail
 go_loopw [5] (fun x wr => ∃ q : Nat, q ≤ cols.length ∧ x = .int .i64 q ∧ Xk.Ext W2 wr) (fun x _ => cols.length - (intOf x).toNat)
 case atStart => exact ⟨0, by omega, rfl, Below.refl _ _⟩
 case round =>
  obtain ⟨q, hq, rfl, hx⟩ := hrel
  have HX := Lib.hid hx
  have k1 := Xk.ext_cell hx a1
  have k4 := Xk.ext_cell hx b4
  have l1 := Nat.lt_of_lt_of_le la hx.size
  have l2 := Nat.lt_of_lt_of_le lb hx.size
  by_cases hlt : q < cols.length
  ·obtain ⟨g, u, rfl, hg, rfl, hr⟩ := slc_nth H1.out hlt (Xk.Ext.trans HX0.out hx)
   obtain ⟨g', u', rfl, hg', rfl, hr'⟩ := slc_nth G1.out hlt (Xk.Ext.trans HX0.out hx)
   have hlb : (q : Int) < (cols.length : Int) := by omega
   have HR := Lib.hid hr
   have HR' := Lib.hid hr'
   clear hr hr' hx
   go_wp2_with fail
   refine Xk.reg 11 (Xk.s0 ?_)
   refine Xk.ld 137 g (q * 3) _ Tryz.underlying137 HR.out (by simpa using hg) ?_
   go_simp
   refine Xk.s0 ?_
   refine Xk.ld 137 g' (q * 3) _ Tryz.underlying137 HR'.out (by simpa using hg') ?_
   go_simp
   refine Xk.s0 (Xk.rel_nil fun p _ => ?_)
   go_wp2_with fail
   go_roundw
   case rel => exact ⟨q + 1, by omega, by go_num, Xk.Ext.trans HX.out (Xk.ext_exw _ _)⟩
   case measure => simp [intOf]; omega
  ·have hlb : ¬ (q : Int) < (cols.length : Int) := by omega
   clear hx
   go_wp2_with fail
   have h2x := Xk.Ext.trans HX0.out HX.out
   clear k1 k4 l1 l2 hlt hlb hq a1 b4 la lb
   obtain ⟨W3, hW3⟩ : ∃ W, W = wr := ⟨_, rfl⟩
   rw [← hW3]
   have a2 := Xk.ext_cell HX.out a2
   have b5 := Xk.ext_cell HX.out b5
   have la := World.block_lt_of_cell? _ _ a2
   have lb := World.block_lt_of_cell? _ _ b5
   rw [← hW3] at h2x a2 b5 la lb
   have HX3 := Lib.hid h2x
   clear hW3 h2x HX
   go_loopw [6] (fun x wr => ∃ q : Nat, q ≤ keys.length ∧ x = .int .i64 q ∧ Xk.Ext W3 wr) (fun x _ => keys.length - (intOf x).toNat)
   case atStart => exact ⟨0, by omega, rfl, Below.refl _ _⟩
   case round =>
    obtain ⟨q, hq, rfl, hx⟩ := hrel
    have HX := Lib.hid hx
    have k1 := Xk.ext_cell hx a2
    have k4 := Xk.ext_cell hx b5
    have l1 := Nat.lt_of_lt_of_le la hx.size
    have l2 := Nat.lt_of_lt_of_le lb hx.size
    by_cases hlt : q < keys.length
    ·obtain ⟨g, u, rfl, hg, rfl, hr⟩ := slc_nth H2.out hlt (Xk.Ext.trans HX3.out hx)
     obtain ⟨g', u', rfl, hg', rfl, hr'⟩ := slc_nth G2.out hlt (Xk.Ext.trans HX3.out hx)
     have hlb : (q : Int) < (keys.length : Int) := by omega
     have HR := Lib.hid hr
     have HR' := Lib.hid hr'
     clear hr hr' hx
     go_wp2_with fail
     obtain ⟨kl, hkl⟩ : ∃ kl : List Value, kl = [.string ⟨#[]⟩, nilS, .bool true, .bool keys[q]] := ⟨_, rfl⟩
     have hra := HR.out
     have hrb := HR'.out
     rw [← hkl] at hra hrb
     have HKL := Lib.hid hkl
     clear hkl
     refine Xd.wp_region_rel (E := ET wr.heap.size (.cells kl.toArray 139)) (pre_ET _ _) 14 (fun _ => none) (fun _ _ h => by cases h) (fun _ _ _ _ h => by cases h) [(10, boxF 139 4 wr.heap.size), (11, boxF 139 4 wr.heap.size), (12, boxS 139 wr.heap.size kl), (13, boxS 139 wr.heap.size kl)] (by kernel_rfl) (by kernel_rfl) (Xd.stable_all ?_) ?_
     ·intro y hy
      simp only [List.mem_cons, List.not_mem_nil, or_false] at hy
      rcases hy with rfl | rfl | rfl | rfl
      ·exact boxF.et (by rw [HKL.out]; rfl)
      ·exact boxF.et (by rw [HKL.out]; rfl)
      ·exact boxS.et
      ·exact boxS.et
     simp only [List.take_succ_cons, List.take_zero, List.drop_succ_cons, List.drop_zero]
     (refine Xd.rel_det (pre_ET _ _) (Xk.wanted_none (by rfl)) (by rfl) (fun K hK => ?_); apply Exists.intro; refine ⟨fun W hx hp => ?_, ?_⟩; (skip; go_simp; first | exact ⟨rfl, rfl⟩ | ((try refine ⟨by kernel_rfl, ?_⟩); (fail))); (go_simp; refine hK _ ?_; clear hK K))
     (refine Xd.rel_det (pre_ET _ _) (Xk.wanted_none (by rfl)) (by rfl) (fun K hK => ?_); apply Exists.intro; refine ⟨fun W hx hp => ?_, ?_⟩; ((have c := et_cell hx rfl k1); go_simp; first | exact ⟨rfl, rfl⟩ | ((try refine ⟨by kernel_rfl, ?_⟩); (fail))); (go_simp; refine hK _ ?_; clear hK K))
     (refine Xd.rel_det (pre_ET _ _) (Xk.wanted_none (by rfl)) (by rfl) (fun K hK => ?_); apply Exists.intro; refine ⟨fun W hx hp => ?_, ?_⟩; (skip; go_simp; first | exact ⟨rfl, rfl⟩ | ((try refine ⟨by kernel_rfl, ?_⟩); (fail))); (go_simp; refine hK _ ?_; clear hK K))
     (refine Xd.rel_det (pre_ET _ _) (Xk.wanted_none (by rfl)) (by rfl) (fun K hK => ?_); apply Exists.intro; refine ⟨fun W hx hp => ?_, ?_⟩; (skip; go_simp; first | exact ⟨rfl, rfl⟩ | ((try refine ⟨by kernel_rfl, ?_⟩); (fail))); (go_simp; refine hK _ ?_; clear hK K))
     refine Xd.ld (pre_ET _ _) 139 g (q * 4) kl Tryz.underlying139 (fun W hx => et_row hx rfl hra hg) ?_ (hi := by rw [HKL.out]; kernel_rfl)
     go_simp
     (refine Xd.rel_det (pre_ET _ _) (Xk.wanted_none (by rfl)) (by rfl) (fun K hK => ?_); apply Exists.intro; refine ⟨fun W hx hp => ?_, ?_⟩; (skip; go_simp; first | exact ⟨rfl, rfl⟩ | ((try refine ⟨by kernel_rfl, ?_⟩); (fail))); (go_simp; refine hK _ ?_; clear hK K))
     (refine Xd.rel_det (pre_ET _ _) (Xk.wanted_none (by rfl)) (by rfl) (fun K hK => ?_); apply Exists.intro; refine ⟨fun W hx hp => ?_, ?_⟩; ((have c := et_cell hx rfl k4); go_simp; first | exact ⟨rfl, rfl⟩ | ((try refine ⟨by kernel_rfl, ?_⟩); (fail))); (go_simp; refine hK _ ?_; clear hK K))
     (refine Xd.rel_det (pre_ET _ _) (Xk.wanted_none (by rfl)) (by rfl) (fun K hK => ?_); apply Exists.intro; refine ⟨fun W hx hp => ?_, ?_⟩; (skip; go_simp; first | exact ⟨rfl, rfl⟩ | ((try refine ⟨by kernel_rfl, ?_⟩); (fail))); (go_simp; refine hK _ ?_; clear hK K))
     (refine Xd.rel_det (pre_ET _ _) (Xk.wanted_none (by rfl)) (by rfl) (fun K hK => ?_); apply Exists.intro; refine ⟨fun W hx hp => ?_, ?_⟩; (skip; go_simp; first | exact ⟨rfl, rfl⟩ | ((try refine ⟨by kernel_rfl, ?_⟩); (fail))); (go_simp; refine hK _ ?_; clear hK K))
     refine Xd.ld (pre_ET _ _) 139 g' (q * 4) kl Tryz.underlying139 (fun W hx => et_row hx rfl hrb hg') ?_ (hi := by rw [HKL.out]; kernel_rfl)
     go_simp
     (refine Xd.rel_make (pre_ET _ _) (by rfl) (by rfl) (fun W hx hp => ?_) (fun r1 K hK => ?_); ((go_simp; exact et_new 139 _ _ hx (Nat.le_refl _) rfl _)); (go_simp; refine hK _ ?_; clear hK K))
     (refine Xd.rel_make (pre_ET _ _) (by rfl) (by rfl) (fun W hx hp => ?_) (fun r2 K hK => ?_); ((go_simp; exact et_new 139 _ _ hx (Nat.le_refl _) rfl _)); (go_simp; refine hK _ ?_; clear hK K))
     (refine Xd.rel_make (pre_ET _ _) (by rfl) (by rfl) (fun W hx hp => ?_) (fun r3 K hK => ?_); ((obtain ⟨g, c, rfl, hg, hc, hw⟩ := Xd.facts_head (Xe.facts_tail hp) (by kernel_rfl); exact store_tab _ _ _ rfl g c _ _ rfl rfl hw (by rw [hc, HKL.out]; rfl) (by rw [HKL.out]; kernel_rfl) (by rw [HKL.out]; kernel_rfl) hg (fun W hW g' hg' _ => by cases hg'; exact hW))); (go_simp; refine hK _ ?_; clear hK K))
     (refine Xd.rel_make (pre_ET _ _) (by rfl) (by rfl) (fun W hx hp => ?_) (fun r4 K hK => ?_); ((obtain ⟨g, c, rfl, hg, hc, hw⟩ := Xd.facts_head (Xe.facts_tail hp) (by kernel_rfl); exact store_tab _ _ _ rfl g c _ _ rfl rfl hw (by rw [hc, HKL.out]; rfl) (by rw [HKL.out]; kernel_rfl) (by rw [HKL.out]; kernel_rfl) hg (fun W hW g' hg' _ => by cases hg'; exact hW))); (go_simp; refine hK _ ?_; clear hK K))
     refine Xd.rel_nil (fun W hx hp hG => ?_)
     obtain ⟨f13, f12, f11, f10, -⟩ := hp
     obtain ⟨g6, c6, rfl, hg6, -, -⟩ := f11
     obtain ⟨g5, c5, rfl, hg5, -, -⟩ := f10
     have hT5 := f12 g5 rfl hg5
     have hT6 := f13 g6 rfl hg6
     have hxW := Lib.hid (ext_et (Below.refl _ _ : Xk.Ext wr wr) hx)
     rw [HKL.out] at hT5 hT6
     obtain ⟨ha0, x0, x1, x2, x3⟩ := key_cells hT5
     obtain ⟨hb0, y0, y1, y2, y3⟩ := key_cells hT6
     clear f12 f13 hG hT5 hT6 hx hra hrb
     go_wp2_with fail
     go_loopw [9] (fun x wr2 => x = .int .i64 0 ∧ Xk.Ext W wr2) (fun x _ => 0)
     case atStart => exact ⟨rfl, Below.refl _ _⟩
     case round =>
      obtain ⟨rfl, hx2⟩ := hrel
      have z1 := Xk.ext_cell hx2 x1
      have hz : ¬ (0 : Int) < 0 := by omega
      have HX2 := Lib.hid hx2
      clear hx2
      go_wp2_with fail
      go_roundw
      case rel => exact ⟨q + 1, by omega, by go_num, Xk.Ext.trans HX.out (Xk.Ext.trans hxW.out HX2.out)⟩
      case measure => simp [intOf]; omega
    ·have hlb : ¬ (q : Int) < (keys.length : Int) := by omega
     clear hx
     go_wp2_with fail
     go_ret
     exact ⟨rfl, Xk.Ext.trans HX3.out HX.out⟩
end Go.Proofs.YtkpmclddjkebeaaGreatDoor
