/- Walks: parse.table; the print of every statement. -/
import Derived.Test.YtlpcdpkgnfdpeaaGreatDoorSZE
import Derived.Test.YtlpcdpkgnfdpeaaGreatDoorSZH
import Derived.Test.YtlpcdpkgnfdpeaaGreatDoorSA
set_option linter.unusedSimpArgs false
set_option linter.unusedVariables false
set_option maxRecDepth 100000
set_option maxHeartbeats 80000000
namespace Go.Proofs.YtlpcdpkgnfdpeaaGreatDoor
open Go.RowKit
theorem new_cell {w : World} {l : List Value} {T : TypeId} {j : Nat} {v : Value} (hv : l[j]? = some v) : (w.alloc (.cells l.toArray T)).cell? ⟨w.heap.size, j, none⟩ = some v := by
 have h := heap_new w (.cells l.toArray T)
 simp only [World.cell?, h]
 simpa using hv
theorem take_snoc {α β : Type} {l : List α} {q : Nat} (h : q < l.length) (f : α → β) : (l.take q).map f ++ [f l[q]] = (l.take (q + 1)).map f := take_map_succ (List.getElem?_eq_getElem h) f
theorem table_any {S : Nat → Prop} (tn : P12.T) (cols : List (P12.T × Int × Bool)) (keys : List Bool) (kcs : List (List P12.T)) (cks : List P12.E) (p1 p2 p3 p4 : Option Addr) (c1 c2 c3 c4 : Nat) (kind : Int) (l : List Value)
  (hl : l = stmtL kind tn (.slice p1 cols.length c1) (.slice p2 keys.length c2) (.slice p3 cks.length c3) (.slice p4 kcs.length c4) [] [] false nilS nilS nilS noE nilS nilS noE nilS nilS 0) (w : World) (hE : Env w)
  (h1 : SlcAt S w 3 colR cols (.slice p1 cols.length c1)) (h2 : SlcAt S w 4 keyR keys (.slice p2 keys.length c2)) (h3 : SlcAt S w 10 (exprR S w) cks (.slice p3 cks.length c3)) (h4 : SlcAt S w 1 (strsR S w) kcs (.slice p4 kcs.length c4))
  (hk : kcs.length = keys.length) (ht : ∀ c ∈ cols, 1 ≤ c.2.1 ∧ c.2.1 ≤ 3) (hn : ∀ k ∈ kcs, k.length ≤ 16) (hi : ∀ e ∈ cks, ∀ (u : List Value) (W : World), ExprAt S w e u → (P12.text e).length ≤ 1000000 → Xk.Ext w W → Calls Tryz.prog 92 #[.agg u.toArray] W fun r w' => r = .returned (bs (P12.text e)) ∧ Xk.Ext W w') (hm : cols.length + keys.length + cks.length ≤ 16)
  (hb : (P12.tabText { name := tn, cols := cols, keys := keys, checks := cks } kcs).length ≤ 1000000) :
  Calls Tryz.prog 88 #[.agg l.toArray] w fun r w' => r = .returned (bs (P12.tabText { name := tn, cols := cols, keys := keys, checks := cks } kcs)) ∧ Xk.Ext w w' := by
 obtain ⟨i0, hi, hz0, hz1, hz2⟩ := infoParts Tryz.infoString
 have Hi := Lib.hid hi
 have Hz0 := Lib.hid hz0
 have Hz1 := Lib.hid hz1
 have Hz2 := Lib.hid hz2
 clear hi hz0 hz1 hz2
 have HL := Lib.hid hl
 have hll : l.length = 37 := by rw [hl]; rfl
 obtain ⟨c0, hc0⟩ : ∃ o, o = stmtO l := ⟨_, rfl⟩
 clear hl
 go_enter Tryz.func88, Tryz.ntmps88
 go_upto_region 1 with fail
 have ha : (w.alloc (stmtO l)).heap[w.heap.size]? = some (stmtO l) := heap_new w _
 have hx0 : Xk.Ext w (w.alloc (stmtO l)) := boxX w _
 generalize w.alloc (stmtO l) = w1 at *
 have g1 : w1.cell? ⟨w.heap.size, 1, none⟩ = some (bs tn) := by rw [HL.out] at ha; simp [World.cell?, ha]
 have g2 : w1.cell? ⟨w.heap.size, 2, none⟩ = some (.slice p1 cols.length c1) := by rw [HL.out] at ha; simp [World.cell?, ha]
 have g3 : w1.cell? ⟨w.heap.size, 3, none⟩ = some (.slice p2 keys.length c2) := by rw [HL.out] at ha; simp [World.cell?, ha]
 have g4 : w1.cell? ⟨w.heap.size, 4, none⟩ = some (.slice p3 cks.length c3) := by rw [HL.out] at ha; simp [World.cell?, ha]
 have g5 : w1.cell? ⟨w.heap.size, 5, none⟩ = some (.slice p4 kcs.length c4) := by rw [HL.out] at ha; simp [World.cell?, ha]
 have lb := World.block_lt_of_cell? _ _ g1
 have HA := Lib.hid ha
 have HX0 := Lib.hid hx0
 clear ha hx0
 obtain ⟨L1, hL1⟩ : ∃ L : List P12.T, L = cols.map P12.colText := ⟨_, rfl⟩
 have hlen1 : L1.length = cols.length := by rw [hL1, List.length_map]
 have HL1 := Lib.hid hL1
 have H1 := Lib.hid (h1.ext1 HX0.out)
 have HT := Lib.hid ht
 have hpt : ∀ a ∈ (cols.map P12.colText ++ (List.zipWith P12.keyText keys kcs) ++ cks.map (fun e => [67, 72, 69, 67, 75, 32, 40] ++ P12.text e ++ [41])), a.length ≤ 1000000 := fun a ha => by
  have := P12.join_mem ha
  unfold P12.tabText at hb
  simp only [List.length_append] at hb
  omega
 have HPT := Lib.hid hpt
 have hcl : ∀ (c : P12.T × Int × Bool), c ∈ cols → (P12.colText c).length ≤ 1000000 := fun c hc => hpt _ (List.mem_append_left _ (List.mem_append_left _ (List.mem_map_of_mem hc)))
 have HCL := Lib.hid hcl
 clear hL1 h1 ht hcl hpt
 go_wp2_with fail
 go_loopw [3, 16] (fun s x wr => ∃ q : Nat, q ≤ cols.length ∧ x = .int .i64 q ∧ Xk.Ext w1 wr ∧ wr.ownsRow w1.heap.size 9 1 s q ((L1.take q).map bs)) (fun _ x _ => cols.length - (intOf x).toNat)
 case atStart => exact ⟨0, by omega, rfl, Below.refl _ _, World.ownsRow_nil _ _ _ _⟩
 case round =>
  obtain ⟨q, hq, rfl, hx, ho⟩ := hrel
  obtain ⟨ps, cs, rfl⟩ := own_slice ho
  have HX := Lib.hid hx
  have HO := Lib.hid ho
  have hws := hx.size
  by_cases hlt : q < cols.length
  ·obtain ⟨g, u, rfl, hg, hu, hr⟩ := slc_nth H1.out hlt hx
   have hu : u = _ := hu
   subst hu
   have HRJ := Lib.hid hr
   have hlb : (q : Int) < (cols.length : Int) := by omega
   have hmem := List.getElem_mem hlt
   have hty := HT.out _ hmem
   have hsz := HCL.out _ hmem
   have hsnoc : (L1.take q).map bs ++ [bs (P12.colText cols[q])] = (L1.take (q + 1)).map bs := by
    have := take_snoc (l := L1) (q := q) (by omega) bs
    rw [← this]
    congr 3
    simp [HL1.out]
   have HSN := Lib.hid hsnoc
   clear hx ho hr hmem hsnoc
   generalize cols[q] = c at *
   obtain ⟨cn, ct, cb⟩ := c
   dsimp only at hty
   have hnl : cn.length ≤ 1000000 := by unfold P12.colText at hsz; simp at hsz; omega
   have m1 : ¬ 9223372036854775807 < cn.length + 1 := by omega
   have m2 : ¬ 9223372036854775807 < cn.length + 1 + 4 := by omega
   have m3 : ¬ 9223372036854775807 < cn.length + 1 + 3 := by omega
   have m4 : ¬ 9223372036854775807 < cn.length + 1 + 4 + 9 := by omega
   have m5 : ¬ 9223372036854775807 < cn.length + 1 + 3 + 9 := by omega
   have hty3 : ct = 1 ∨ ct = 2 ∨ ct = 3 := by omega
   rcases hty3 with rfl | rfl | rfl
   ·go_wp2_with (refine wpList_load_mid rfl 51 _ rfl g (q * 3) rfl _ _ HRJ.out Tryz.underlying51 rfl (by kernel_rfl) ?_)
    refine Xk.reg 9 (Xk.w0 fun p => ?_)
    generalize hWf : Xk.exw _ p = wf
    have hxb : Xk.Ext (wr.alloc (.cells [bs cn, .int .i64 1, .bool cb].toArray 51)) wf := by rw [← hWf]; exact Xk.xt
    clear hWf
    have k2 : wf.cell? ⟨wr.heap.size, 2, none⟩ = some (.bool cb) := Xk.ext_cell hxb (new_cell rfl)
    have lk := World.block_lt_of_cell? _ _ k2
    have hxf : Xk.Ext wr wf := Xk.Ext.trans (boxX wr _) hxb
    have hlf := hxf.size
    have HOF := Lib.hid (own_same HO.out (fun b hb => hxf.block b (HO.out.lt b hb).2))
    have HXF := Lib.hid (Xk.Ext.trans HX.out hxf)
    clear hxb hxf
    cases cb
    ·go_upto_region 8 with fail
     generalize htv : ({ data := List.toArray cn } ++ { data := #[32] } ++ { data := #[66, 79, 79, 76] } : ByteArray) = tv
     have htb : Value.string tv = bs (P12.colText (cn, 1, false)) := congrArg Value.string (by rw [← htv]; apply bytes_eq; simp [P12.colText, P12.typeWord])
     have HTB := Lib.hid htb
     clear htv htb k2
     go_wp2_with (at_builtin; refine Xo.wpList_appb w1.heap.size rfl _ _ 35 rfl 9 i0 _ 1 16 Tryz.underlying35 Hi.out Hz0.out Hz1.out Hz2.out rfl (by decide) (.slice ps q cs) q _ rfl (own_same HOF.out (fun b hb => (boxX wf (.cells #[Value.string tv] 9)).block b (HOF.out.lt b hb).2)) wf.heap.size 0 1 1 [Value.string tv] rfl (by decide) rfl (cells_list wf _ _ rfl) (one_all (by kernel_rfl)) (by omega) (by rw [World.size_alloc]; omega) ?_; intro v' w7 ho' hg' hk')
     have HO7 : Hid (w7.ownsRow w1.heap.size 9 1 v' (q + 1) ((L1.take (q + 1)).map bs)) := Lib.hid (by rw [← HSN.out, ← HTB.out]; exact ho')
     have hx7 : Xk.Ext w1 w7 := Below.grown (Xk.Ext.trans HXF.out (boxX wf _)) hg' (by rw [World.size_alloc]; omega) (fun j hj => (HOF.out.lt j hj).1)
     have HX7 := Lib.hid hx7
     clear ho' hg' hk' hx7
     go_wp2_with fail
     go_roundw
     case rel => exact ⟨q + 1, by omega, by go_num, HX7.out, HO7.out⟩
     case measure => simp [intOf]; omega
    ·go_upto_region 8 with fail
     generalize htv : ({ data := List.toArray cn } ++ { data := #[32] } ++ { data := #[66, 79, 79, 76] } ++ { data := #[32, 78, 79, 84, 32, 78, 85, 76, 76] } : ByteArray) = tv
     have htb : Value.string tv = bs (P12.colText (cn, 1, true)) := congrArg Value.string (by rw [← htv]; apply bytes_eq; simp [P12.colText, P12.typeWord])
     have HTB := Lib.hid htb
     clear htv htb k2
     go_wp2_with (at_builtin; refine Xo.wpList_appb w1.heap.size rfl _ _ 35 rfl 9 i0 _ 1 16 Tryz.underlying35 Hi.out Hz0.out Hz1.out Hz2.out rfl (by decide) (.slice ps q cs) q _ rfl (own_same HOF.out (fun b hb => (boxX wf (.cells #[Value.string tv] 9)).block b (HOF.out.lt b hb).2)) wf.heap.size 0 1 1 [Value.string tv] rfl (by decide) rfl (cells_list wf _ _ rfl) (one_all (by kernel_rfl)) (by omega) (by rw [World.size_alloc]; omega) ?_; intro v' w7 ho' hg' hk')
     have HO7 : Hid (w7.ownsRow w1.heap.size 9 1 v' (q + 1) ((L1.take (q + 1)).map bs)) := Lib.hid (by rw [← HSN.out, ← HTB.out]; exact ho')
     have hx7 : Xk.Ext w1 w7 := Below.grown (Xk.Ext.trans HXF.out (boxX wf _)) hg' (by rw [World.size_alloc]; omega) (fun j hj => (HOF.out.lt j hj).1)
     have HX7 := Lib.hid hx7
     clear ho' hg' hk' hx7
     go_wp2_with fail
     go_roundw
     case rel => exact ⟨q + 1, by omega, by go_num, HX7.out, HO7.out⟩
     case measure => simp [intOf]; omega
   ·go_wp2_with (refine wpList_load_mid rfl 51 _ rfl g (q * 3) rfl _ _ HRJ.out Tryz.underlying51 rfl (by kernel_rfl) ?_)
    refine Xk.reg 9 (Xk.w0 fun p => ?_)
    generalize hWf : Xk.exw _ p = wf
    have hxb : Xk.Ext (wr.alloc (.cells [bs cn, .int .i64 2, .bool cb].toArray 51)) wf := by rw [← hWf]; exact Xk.xt
    clear hWf
    have k2 : wf.cell? ⟨wr.heap.size, 2, none⟩ = some (.bool cb) := Xk.ext_cell hxb (new_cell rfl)
    have lk := World.block_lt_of_cell? _ _ k2
    have hxf : Xk.Ext wr wf := Xk.Ext.trans (boxX wr _) hxb
    have hlf := hxf.size
    have HOF := Lib.hid (own_same HO.out (fun b hb => hxf.block b (HO.out.lt b hb).2))
    have HXF := Lib.hid (Xk.Ext.trans HX.out hxf)
    clear hxb hxf
    cases cb
    ·go_upto_region 8 with fail
     generalize htv : ({ data := List.toArray cn } ++ { data := #[32] } ++ { data := #[73, 78, 84] } : ByteArray) = tv
     have htb : Value.string tv = bs (P12.colText (cn, 2, false)) := congrArg Value.string (by rw [← htv]; apply bytes_eq; simp [P12.colText, P12.typeWord])
     have HTB := Lib.hid htb
     clear htv htb k2
     go_wp2_with (at_builtin; refine Xo.wpList_appb w1.heap.size rfl _ _ 35 rfl 9 i0 _ 1 16 Tryz.underlying35 Hi.out Hz0.out Hz1.out Hz2.out rfl (by decide) (.slice ps q cs) q _ rfl (own_same HOF.out (fun b hb => (boxX wf (.cells #[Value.string tv] 9)).block b (HOF.out.lt b hb).2)) wf.heap.size 0 1 1 [Value.string tv] rfl (by decide) rfl (cells_list wf _ _ rfl) (one_all (by kernel_rfl)) (by omega) (by rw [World.size_alloc]; omega) ?_; intro v' w7 ho' hg' hk')
     have HO7 : Hid (w7.ownsRow w1.heap.size 9 1 v' (q + 1) ((L1.take (q + 1)).map bs)) := Lib.hid (by rw [← HSN.out, ← HTB.out]; exact ho')
     have hx7 : Xk.Ext w1 w7 := Below.grown (Xk.Ext.trans HXF.out (boxX wf _)) hg' (by rw [World.size_alloc]; omega) (fun j hj => (HOF.out.lt j hj).1)
     have HX7 := Lib.hid hx7
     clear ho' hg' hk' hx7
     go_wp2_with fail
     go_roundw
     case rel => exact ⟨q + 1, by omega, by go_num, HX7.out, HO7.out⟩
     case measure => simp [intOf]; omega
    ·go_upto_region 8 with fail
     generalize htv : ({ data := List.toArray cn } ++ { data := #[32] } ++ { data := #[73, 78, 84] } ++ { data := #[32, 78, 79, 84, 32, 78, 85, 76, 76] } : ByteArray) = tv
     have htb : Value.string tv = bs (P12.colText (cn, 2, true)) := congrArg Value.string (by rw [← htv]; apply bytes_eq; simp [P12.colText, P12.typeWord])
     have HTB := Lib.hid htb
     clear htv htb k2
     go_wp2_with (at_builtin; refine Xo.wpList_appb w1.heap.size rfl _ _ 35 rfl 9 i0 _ 1 16 Tryz.underlying35 Hi.out Hz0.out Hz1.out Hz2.out rfl (by decide) (.slice ps q cs) q _ rfl (own_same HOF.out (fun b hb => (boxX wf (.cells #[Value.string tv] 9)).block b (HOF.out.lt b hb).2)) wf.heap.size 0 1 1 [Value.string tv] rfl (by decide) rfl (cells_list wf _ _ rfl) (one_all (by kernel_rfl)) (by omega) (by rw [World.size_alloc]; omega) ?_; intro v' w7 ho' hg' hk')
     have HO7 : Hid (w7.ownsRow w1.heap.size 9 1 v' (q + 1) ((L1.take (q + 1)).map bs)) := Lib.hid (by rw [← HSN.out, ← HTB.out]; exact ho')
     have hx7 : Xk.Ext w1 w7 := Below.grown (Xk.Ext.trans HXF.out (boxX wf _)) hg' (by rw [World.size_alloc]; omega) (fun j hj => (HOF.out.lt j hj).1)
     have HX7 := Lib.hid hx7
     clear ho' hg' hk' hx7
     go_wp2_with fail
     go_roundw
     case rel => exact ⟨q + 1, by omega, by go_num, HX7.out, HO7.out⟩
     case measure => simp [intOf]; omega
   ·go_wp2_with (refine wpList_load_mid rfl 51 _ rfl g (q * 3) rfl _ _ HRJ.out Tryz.underlying51 rfl (by kernel_rfl) ?_)
    refine Xk.reg 9 (Xk.w0 fun p => ?_)
    generalize hWf : Xk.exw _ p = wf
    have hxb : Xk.Ext (wr.alloc (.cells [bs cn, .int .i64 3, .bool cb].toArray 51)) wf := by rw [← hWf]; exact Xk.xt
    clear hWf
    have k2 : wf.cell? ⟨wr.heap.size, 2, none⟩ = some (.bool cb) := Xk.ext_cell hxb (new_cell rfl)
    have lk := World.block_lt_of_cell? _ _ k2
    have hxf : Xk.Ext wr wf := Xk.Ext.trans (boxX wr _) hxb
    have hlf := hxf.size
    have HOF := Lib.hid (own_same HO.out (fun b hb => hxf.block b (HO.out.lt b hb).2))
    have HXF := Lib.hid (Xk.Ext.trans HX.out hxf)
    clear hxb hxf
    cases cb
    ·go_upto_region 8 with fail
     generalize htv : ({ data := List.toArray cn } ++ { data := #[32] } ++ { data := #[84, 69, 88, 84] } : ByteArray) = tv
     have htb : Value.string tv = bs (P12.colText (cn, 3, false)) := congrArg Value.string (by rw [← htv]; apply bytes_eq; simp [P12.colText, P12.typeWord])
     have HTB := Lib.hid htb
     clear htv htb k2
     go_wp2_with (at_builtin; refine Xo.wpList_appb w1.heap.size rfl _ _ 35 rfl 9 i0 _ 1 16 Tryz.underlying35 Hi.out Hz0.out Hz1.out Hz2.out rfl (by decide) (.slice ps q cs) q _ rfl (own_same HOF.out (fun b hb => (boxX wf (.cells #[Value.string tv] 9)).block b (HOF.out.lt b hb).2)) wf.heap.size 0 1 1 [Value.string tv] rfl (by decide) rfl (cells_list wf _ _ rfl) (one_all (by kernel_rfl)) (by omega) (by rw [World.size_alloc]; omega) ?_; intro v' w7 ho' hg' hk')
     have HO7 : Hid (w7.ownsRow w1.heap.size 9 1 v' (q + 1) ((L1.take (q + 1)).map bs)) := Lib.hid (by rw [← HSN.out, ← HTB.out]; exact ho')
     have hx7 : Xk.Ext w1 w7 := Below.grown (Xk.Ext.trans HXF.out (boxX wf _)) hg' (by rw [World.size_alloc]; omega) (fun j hj => (HOF.out.lt j hj).1)
     have HX7 := Lib.hid hx7
     clear ho' hg' hk' hx7
     go_wp2_with fail
     go_roundw
     case rel => exact ⟨q + 1, by omega, by go_num, HX7.out, HO7.out⟩
     case measure => simp [intOf]; omega
    ·go_upto_region 8 with fail
     generalize htv : ({ data := List.toArray cn } ++ { data := #[32] } ++ { data := #[84, 69, 88, 84] } ++ { data := #[32, 78, 79, 84, 32, 78, 85, 76, 76] } : ByteArray) = tv
     have htb : Value.string tv = bs (P12.colText (cn, 3, true)) := congrArg Value.string (by rw [← htv]; apply bytes_eq; simp [P12.colText, P12.typeWord])
     have HTB := Lib.hid htb
     clear htv htb k2
     go_wp2_with (at_builtin; refine Xo.wpList_appb w1.heap.size rfl _ _ 35 rfl 9 i0 _ 1 16 Tryz.underlying35 Hi.out Hz0.out Hz1.out Hz2.out rfl (by decide) (.slice ps q cs) q _ rfl (own_same HOF.out (fun b hb => (boxX wf (.cells #[Value.string tv] 9)).block b (HOF.out.lt b hb).2)) wf.heap.size 0 1 1 [Value.string tv] rfl (by decide) rfl (cells_list wf _ _ rfl) (one_all (by kernel_rfl)) (by omega) (by rw [World.size_alloc]; omega) ?_; intro v' w7 ho' hg' hk')
     have HO7 : Hid (w7.ownsRow w1.heap.size 9 1 v' (q + 1) ((L1.take (q + 1)).map bs)) := Lib.hid (by rw [← HSN.out, ← HTB.out]; exact ho')
     have hx7 : Xk.Ext w1 w7 := Below.grown (Xk.Ext.trans HXF.out (boxX wf _)) hg' (by rw [World.size_alloc]; omega) (fun j hj => (HOF.out.lt j hj).1)
     have HX7 := Lib.hid hx7
     clear ho' hg' hk' hx7
     go_wp2_with fail
     go_roundw
     case rel => exact ⟨q + 1, by omega, by go_num, HX7.out, HO7.out⟩
     case measure => simp [intOf]; omega
  ·have hlb : ¬ (q : Int) < (cols.length : Int) := by omega
   obtain rfl : q = cols.length := by omega
   have ho1 : wr.ownsRow w1.heap.size 9 1 (.slice ps cols.length cs) cols.length (L1.map bs) := by
    have e : L1.take cols.length = L1 := by rw [← hlen1, List.take_length]
    have := HO.out
    rw [e] at this
    exact this
   have e3 := Xk.ext_cell hx g3
   have lw := Nat.lt_of_lt_of_le lb hx.size
   have HO1 := Lib.hid ho1
   have HX1 := Lib.hid hx
   obtain ⟨L2, hL2⟩ : ∃ L : List P12.T, L = List.zipWith P12.keyText keys kcs := ⟨_, rfl⟩
   have hlen2 : L2.length = keys.length := by rw [hL2, List.length_zipWith, hk, Nat.min_self]
   have HL2 := Lib.hid hL2
   have H2 := Lib.hid (h2.ext1 HX0.out)
   have H4 := Lib.hid h4
   have H3 := Lib.hid h3
   have G1 := Lib.hid g1
   have G4 := Lib.hid g4
   have G5 := Lib.hid g5
   clear hx ho ho1 hL2 HO HT HCL H1 g1 g2 g3 g4 g5 hlt hlb hws h2 h3 h4 HX
   obtain ⟨wA, hwA⟩ : ∃ W, W = wr := ⟨_, rfl⟩
   subst hwA
   go_wp2_with fail
   clear e3 lw
   go_loopw [3, 41] (fun s x wr => ∃ q : Nat, q ≤ keys.length ∧ x = .int .i64 q ∧ Xk.Ext w1 wr ∧ wr.ownsRow w1.heap.size 9 1 s (cols.length + q) ((L1 ++ L2.take q).map bs)) (fun _ x _ => keys.length - (intOf x).toNat)
   case atStart => exact ⟨0, by omega, rfl, HX1.out, by simpa using HO1.out⟩
   case round =>
    obtain ⟨q, hq, rfl, hx, ho⟩ := hrel
    obtain ⟨ps, cs, rfl⟩ := own_slice ho
    have HXB := Lib.hid hx
    have HO := Lib.hid ho
    have hws := hx.size
    by_cases hlt : q < keys.length
    ·obtain ⟨g, u, rfl, hg, hu, hr⟩ := slc_nth H2.out hlt hx
     obtain ⟨g', u', rfl, hg', hu', hr'⟩ := slc_nth H4.out (show q < kcs.length by omega) (Xk.Ext.trans HX0.out hx)
     have hu : u = _ := hu
     subst hu
     obtain ⟨vk, rfl, hv⟩ := hu'
     obtain ⟨pk, ck, rfl⟩ := hv.len
     have HRJ := Lib.hid hr
     have cK : wr.cell? ⟨g', q, none⟩ = some (.slice pk (kcs[q]).length ck) := by have := hr' 0 _ rfl; rwa [Nat.mul_one, Nat.add_zero] at this
     have e5 := Xk.ext_cell hx G5.out
     have lq := Nat.lt_of_lt_of_le lb hx.size
     have hlb : (q : Int) < (keys.length : Int) := by omega
     have hlb4 : (q : Int) < (kcs.length : Int) := by omega
     have hsnoc : (L1 ++ L2.take q).map bs ++ [bs (P12.keyText keys[q] kcs[q])] = (L1 ++ L2.take (q + 1)).map bs := by
      have := take_snoc (l := L2) (q := q) (by omega) bs
      rw [List.map_append, List.map_append, ← this, List.append_assoc]
      congr 4
      simp [HL2.out]
     have hjl : (P12.join kcs[q]).length ≤ 1000000 := by
      have h1 : P12.keyText keys[q] kcs[q] ∈ List.zipWith P12.keyText keys kcs := by
       rw [← HL2.out]
       refine List.mem_iff_getElem.2 ⟨q, by omega, ?_⟩
       simp [HL2.out]
      have := HPT.out _ (List.mem_append_left _ (List.mem_append_right _ h1))
      unfold P12.keyText at this
      simp only [List.length_append] at this
      omega
     have HSN := Lib.hid hsnoc
     have HN := Lib.hid fun W (hxW : Xk.Ext w W) => names_row hv (hn _ (List.getElem_mem (show q < kcs.length by omega))) hjl hxW
     clear hx ho hr hr' hsnoc hv
     generalize keys[q] = kp at *
     generalize kcs[q] = kc at *
     have HKT : Hid (P12.keyText kp kc = (if kp then [80, 82, 73, 77, 65, 82, 89, 32, 75, 69, 89] else [85, 78, 73, 81, 85, 69]) ++ [32, 40] ++ P12.join kc ++ [41]) := Lib.hid rfl
     generalize P12.join kc = jt at *
     clear hu
     have m1 : ¬ 9223372036854775807 < 13 + jt.length := by omega
     have m2 : ¬ 9223372036854775807 < 13 + jt.length + 1 := by omega
     have m3 : ¬ 9223372036854775807 < 8 + jt.length := by omega
     have m4 : ¬ 9223372036854775807 < 8 + jt.length + 1 := by omega
     cases kp
     ·go_wp2_with (refine wpList_load_mid rfl 100 _ rfl g (q * 4) rfl _ _ HRJ.out Tryz.underlying100 rfl (by kernel_rfl) ?_)
      refine (HN.out _ (Xk.Ext.trans HX0.out (Xk.Ext.trans HXB.out (boxX wr _)))).mono ?_
      rintro e wf ⟨rfl, hxb⟩
      have hxf : Xk.Ext wr wf := Xk.Ext.trans (boxX wr _) hxb
      have hlf := hxf.size
      have HOF := Lib.hid (own_same HO.out (fun b hb => hxf.block b (HO.out.lt b hb).2))
      have HXF := Lib.hid (Xk.Ext.trans HXB.out hxf)
      clear hxb hxf
      go_wp2_with (at_builtin; generalize htv : ({ data := #[85, 78, 73, 81, 85, 69] } ++ { data := #[32, 40] } ++ { data := List.toArray jt } ++ { data := #[41] } : ByteArray) = tv; have HTB : Hid (Value.string tv = bs (P12.keyText _ kc)) := Lib.hid (congrArg Value.string (by rw [HKT.out, ← htv]; apply bytes_eq; simp)); clear htv; refine Xo.wpList_appb w1.heap.size rfl _ _ 35 rfl 9 i0 _ 1 16 Tryz.underlying35 Hi.out Hz0.out Hz1.out Hz2.out rfl (by decide) (.slice ps (cols.length + q) cs) (cols.length + q) _ rfl (own_same HOF.out (fun b hb => (boxX wf (.cells #[Value.string tv] 9)).block b (HOF.out.lt b hb).2)) wf.heap.size 0 1 1 [Value.string tv] rfl (by decide) rfl (cells_list wf _ _ rfl) (one_all (by kernel_rfl)) (by omega) (by rw [World.size_alloc]; omega) ?_; intro v' w7 ho' hg' hk')
      have HO7 : Hid (w7.ownsRow w1.heap.size 9 1 v' (cols.length + (q + 1)) ((L1 ++ L2.take (q + 1)).map bs)) := Lib.hid (by rw [← HSN.out, ← HTB.out]; exact ho')
      have hx7 : Xk.Ext w1 w7 := Below.grown (Xk.Ext.trans HXF.out (boxX wf _)) hg' (by rw [World.size_alloc]; omega) (fun j hj => (HOF.out.lt j hj).1)
      have HX7 := Lib.hid hx7
      clear ho' hg' hk' hx7
      go_wp2_with fail
      go_roundw
      case rel => exact ⟨q + 1, by omega, by go_num, HX7.out, HO7.out⟩
      case measure => simp [intOf]; omega
     ·go_wp2_with (refine wpList_load_mid rfl 100 _ rfl g (q * 4) rfl _ _ HRJ.out Tryz.underlying100 rfl (by kernel_rfl) ?_)
      refine (HN.out _ (Xk.Ext.trans HX0.out (Xk.Ext.trans HXB.out (boxX wr _)))).mono ?_
      rintro e wf ⟨rfl, hxb⟩
      have hxf : Xk.Ext wr wf := Xk.Ext.trans (boxX wr _) hxb
      have hlf := hxf.size
      have HOF := Lib.hid (own_same HO.out (fun b hb => hxf.block b (HO.out.lt b hb).2))
      have HXF := Lib.hid (Xk.Ext.trans HXB.out hxf)
      clear hxb hxf
      go_wp2_with (at_builtin; generalize htv : ({ data := #[80, 82, 73, 77, 65, 82, 89, 32, 75, 69, 89] } ++ { data := #[32, 40] } ++ { data := List.toArray jt } ++ { data := #[41] } : ByteArray) = tv; have HTB : Hid (Value.string tv = bs (P12.keyText _ kc)) := Lib.hid (congrArg Value.string (by rw [HKT.out, ← htv]; apply bytes_eq; simp)); clear htv; refine Xo.wpList_appb w1.heap.size rfl _ _ 35 rfl 9 i0 _ 1 16 Tryz.underlying35 Hi.out Hz0.out Hz1.out Hz2.out rfl (by decide) (.slice ps (cols.length + q) cs) (cols.length + q) _ rfl (own_same HOF.out (fun b hb => (boxX wf (.cells #[Value.string tv] 9)).block b (HOF.out.lt b hb).2)) wf.heap.size 0 1 1 [Value.string tv] rfl (by decide) rfl (cells_list wf _ _ rfl) (one_all (by kernel_rfl)) (by omega) (by rw [World.size_alloc]; omega) ?_; intro v' w7 ho' hg' hk')
      have HO7 : Hid (w7.ownsRow w1.heap.size 9 1 v' (cols.length + (q + 1)) ((L1 ++ L2.take (q + 1)).map bs)) := Lib.hid (by rw [← HSN.out, ← HTB.out]; exact ho')
      have hx7 : Xk.Ext w1 w7 := Below.grown (Xk.Ext.trans HXF.out (boxX wf _)) hg' (by rw [World.size_alloc]; omega) (fun j hj => (HOF.out.lt j hj).1)
      have HX7 := Lib.hid hx7
      clear ho' hg' hk' hx7
      go_wp2_with fail
      go_roundw
      case rel => exact ⟨q + 1, by omega, by go_num, HX7.out, HO7.out⟩
      case measure => simp [intOf]; omega
    ·have hlb : ¬ (q : Int) < (keys.length : Int) := by omega
     obtain rfl : q = keys.length := by omega
     have ho1 : wr.ownsRow w1.heap.size 9 1 (.slice ps (cols.length + keys.length) cs) (cols.length + keys.length) ((L1 ++ L2).map bs) := by
      have e : L2.take keys.length = L2 := by rw [← hlen2, List.take_length]
      have := HO.out
      rw [e] at this
      exact this
     have e4 := Xk.ext_cell hx G4.out
     have lw := Nat.lt_of_lt_of_le lb hx.size
     have HO2 := Lib.hid ho1
     have HX2 := Lib.hid hx
     obtain ⟨L3, hL3⟩ : ∃ L : List P12.T, L = cks.map (fun e => [67, 72, 69, 67, 75, 32, 40] ++ P12.text e ++ [41]) := ⟨_, rfl⟩
     have hlen3 : L3.length = cks.length := by rw [hL3, List.length_map]
     have HL3 := Lib.hid hL3
     have H3' := Lib.hid (H3.out.ext1 HX0.out)
     have HI := Lib.hid hi
     have HEE := Lib.hid hE
     clear hx ho ho1 hL3 HO H2 H4 hlt hlb hws HO1 HX1 hi hE hn
     obtain ⟨wB, hwB⟩ : ∃ W, W = wr := ⟨_, rfl⟩
     subst hwB
     go_wp2_with fail
     clear e4 lw
     go_loopw [3, 66] (fun s x wr => ∃ q : Nat, q ≤ cks.length ∧ x = .int .i64 q ∧ Xk.Ext w1 wr ∧ wr.ownsRow w1.heap.size 9 1 s (cols.length + keys.length + q) ((L1 ++ L2 ++ L3.take q).map bs)) (fun _ x _ => cks.length - (intOf x).toNat)
     case atStart => exact ⟨0, by omega, rfl, HX2.out, by simpa using HO2.out⟩
     case round =>
      obtain ⟨q, hq, rfl, hx, ho⟩ := hrel
      obtain ⟨ps, cs, rfl⟩ := own_slice ho
      have HXB := Lib.hid hx
      have HO := Lib.hid ho
      have hws := hx.size
      by_cases hlt : q < cks.length
      ·obtain ⟨g, u, rfl, hg, hu, hr⟩ := slc_nth H3'.out hlt hx
       have HRJ := Lib.hid hr
       have hmem := List.getElem_mem hlt
       have hlb : (q : Int) < (cks.length : Int) := by omega
       have hsnoc : (L1 ++ L2 ++ L3.take q).map bs ++ [bs ([67, 72, 69, 67, 75, 32, 40] ++ P12.text cks[q] ++ [41])] = (L1 ++ L2 ++ L3.take (q + 1)).map bs := by
        have := take_snoc (l := L3) (q := q) (by omega) bs
        rw [show (L1 ++ L2 ++ L3.take (q + 1)).map bs = (L1 ++ L2).map bs ++ (L3.take (q + 1)).map bs from List.map_append .., ← this, show (L1 ++ L2 ++ L3.take q).map bs = (L1 ++ L2).map bs ++ (L3.take q).map bs from List.map_append .., List.append_assoc]
        congr 4
        simp [HL3.out]
       have hjl : (P12.text cks[q]).length ≤ 1000000 := by
        have := HPT.out _ (List.mem_append_right _ (List.mem_map_of_mem (f := fun e => [67, 72, 69, 67, 75, 32, 40] ++ P12.text e ++ [41]) hmem))
        simp only [List.length_append] at this
        omega
       have HSN := Lib.hid hsnoc
       have hu0 : ExprAt S w cks[q] u := hu
       have HN := Lib.hid fun W (hxW : Xk.Ext w W) => HI.out _ hmem u W hu0 hjl hxW
       obtain ⟨kd, op, vk, vi, vs, tb, nm, pp, pm, pc, rfl⟩ := ExprAt.form hu0
       clear hx ho hr hsnoc hu hu0 hmem
       generalize P12.text cks[q] = jt at *
       have m1 : ¬ 9223372036854775807 < 7 + jt.length := by omega
       have m2 : ¬ 9223372036854775807 < 7 + jt.length + 1 := by omega
       have hga := heap_new wr (exprO (exprL kd op vk vi vs tb nm (.slice pp pm pc)))
       go_wp2_with (first | (refine wpList_load_mid rfl 41 _ rfl g (q * 10) rfl _ _ HRJ.out Tryz.underlying41 rfl (by kernel_rfl) ?_) | (refine wpList_loadRow rfl 41 _ rfl (wr.heap.size) _ 41 (0, 0) _ rfl hga Tryz.underlying41 rfl (by kernel_rfl) ?_))
       refine (HN.out _ (Xk.Ext.trans HX0.out (Xk.Ext.trans HXB.out (boxX wr _)))).mono ?_
       rintro e wf ⟨rfl, hxb⟩
       have hxf : Xk.Ext wr wf := Xk.Ext.trans (boxX wr _) hxb
       have hlf := hxf.size
       have HOF := Lib.hid (own_same HO.out (fun b hb => hxf.block b (HO.out.lt b hb).2))
       have HXF := Lib.hid (Xk.Ext.trans HXB.out hxf)
       clear hxb hxf hga
       go_wp2_with (at_builtin; generalize htv : ({ data := #[67, 72, 69, 67, 75, 32, 40] } ++ { data := List.toArray jt } ++ { data := #[41] } : ByteArray) = tv; have HTB : Hid (Value.string tv = bs ([67, 72, 69, 67, 75, 32, 40] ++ jt ++ [41])) := Lib.hid (congrArg Value.string (by rw [← htv]; apply bytes_eq; simp)); clear htv; refine Xo.wpList_appb w1.heap.size rfl _ _ 35 rfl 9 i0 _ 1 16 Tryz.underlying35 Hi.out Hz0.out Hz1.out Hz2.out rfl (by decide) (.slice ps (cols.length + keys.length + q) cs) (cols.length + keys.length + q) _ rfl (own_same HOF.out (fun b hb => (boxX wf (.cells #[Value.string tv] 9)).block b (HOF.out.lt b hb).2)) wf.heap.size 0 1 1 [Value.string tv] rfl (by decide) rfl (cells_list wf _ _ rfl) (one_all (by kernel_rfl)) (by omega) (by rw [World.size_alloc]; omega) ?_; intro v' w7 ho' hg' hk')
       have HO7 : Hid (w7.ownsRow w1.heap.size 9 1 v' (cols.length + keys.length + (q + 1)) ((L1 ++ L2 ++ L3.take (q + 1)).map bs)) := Lib.hid (by rw [← HSN.out, ← HTB.out]; exact ho')
       have hx7 : Xk.Ext w1 w7 := Below.grown (Xk.Ext.trans HXF.out (boxX wf _)) hg' (by rw [World.size_alloc]; omega) (fun j hj => (HOF.out.lt j hj).1)
       have HX7 := Lib.hid hx7
       clear ho' hg' hk' hx7
       go_wp2_with fail
       go_roundw
       case rel => exact ⟨q + 1, by omega, by go_num, HX7.out, HO7.out⟩
       case measure => simp [intOf]; omega
      ·have hlb : ¬ (q : Int) < (cks.length : Int) := by omega
       obtain rfl : q = cks.length := by omega
       obtain ⟨LA, hLA⟩ : ∃ L : List P12.T, L = L1 ++ L2 ++ L3 := ⟨_, rfl⟩
       have hlenA : LA.length = cols.length + keys.length + cks.length := by rw [hLA, List.length_append, List.length_append]; omega
       have ho1 : wr.ownsRow w1.heap.size 9 1 (.slice ps (cols.length + keys.length + cks.length) cs) LA.length (LA.map bs) := by
        have e : L3.take cks.length = L3 := by rw [← hlen3, List.take_length]
        have := HO.out
        rw [e, ← hLA, ← hlenA] at this
        rw [← hlenA]
        exact this
       have htab : P12.tabText { name := tn, cols := cols, keys := keys, checks := cks } kcs = [67, 82, 69, 65, 84, 69, 32, 84, 65, 66, 76, 69, 32] ++ tn ++ [32, 40] ++ P12.join LA ++ [41] := by
        rw [hLA, HL1.out, HL2.out, HL3.out]; rfl
       have hbb := hb
       rw [htab] at hbb
       have HTAB := Lib.hid htab
       simp only [List.length_append, List.length_cons, List.length_nil] at hbb
       have HJ := Lib.hid fun W (hxW : Xk.Ext wr W) => joinOwn (.slice ps (cols.length + keys.length + cks.length) cs) w1.heap.size LA W (own_same ho1 (fun b hb => hxW.block b (ho1.lt b hb).2)) (by omega) (by omega)
       have e1 := Xk.ext_cell hx G1.out
       have lw := Nat.lt_of_lt_of_le lb hx.size
       generalize P12.join LA = jt at *
       have m1 : ¬ 9223372036854775807 < 13 + tn.length := by omega
       have m2 : ¬ 9223372036854775807 < 13 + tn.length + 2 := by omega
       have m3 : ¬ 9223372036854775807 < 13 + tn.length + 2 + jt.length := by omega
       have m4 : ¬ 9223372036854775807 < 13 + tn.length + 2 + jt.length + 1 := by omega
       clear hx ho ho1 htab hbb hb HPT
       go_wp2_with fail
       refine Xk.reg 10 (Xk.w1 HJ.out fun p => ?_)
       go_wp2_with fail
       go_ret
       exact ⟨by rw [HTAB.out]; exact congrArg (fun x => Ending.returned (.string x)) (by apply bytes_eq; simp), Xk.Ext.trans HX0.out (Xk.Ext.trans HXB.out Xk.xt)⟩
end Go.Proofs.YtlpcdpkgnfdpeaaGreatDoor
