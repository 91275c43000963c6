/- Walks: pantileref25.Table, with columns. -/
import Derived.Test.YtmoippbmnanajaaGreatDoorSB
set_option linter.unusedSimpArgs false
set_option linter.unusedVariables false
namespace Go.Proofs.YtmoippbmnanajaaGreatDoor
open Go.RowKit
theorem Tryz.infoBoolV : (Tryz.prog.info? 4).map (fun i => (i.zero, i.size, i.bytes)) = some (some (.bool false), 1, 1) := by kernel_rfl
/-- How wide columns are, and which are numbers, as cells. -/
def wcells (cs : List (Nat × Bool)) : List Value := cs.map fun c => .int .i64 c.1
def tcells (cs : List (Nat × Bool)) : List Value := cs.map fun c => .bool c.2
theorem wcells_set (cs : List (Nat × Bool)) (q n : Nat) (b : Bool) : (wcells cs).set q (.int .i64 n) = wcells (cs.set q (n, b)) := by simp [wcells, List.map_set]
theorem tcells_set (cs : List (Nat × Bool)) (q n : Nat) (b : Bool) : (tcells cs).set q (.bool b) = tcells (cs.set q (n, b)) := by simp [tcells, List.map_set]
theorem wcells_any (cs : List (Nat × Bool)) (q n : Nat) (b c : Bool) : wcells (cs.set q (n, b)) = wcells (cs.set q (n, c)) := by rw [← wcells_set, ← wcells_set]
theorem wcells_length (cs : List (Nat × Bool)) : (wcells cs).length = cs.length := by simp [wcells]
theorem tcells_length (cs : List (Nat × Bool)) : (tcells cs).length = cs.length := by simp [tcells]
theorem wcells_at {cs : List (Nat × Bool)} {q : Nat} {c : Nat × Bool} (h : cs[q]? = some c) : (wcells cs)[q]? = some (.int .i64 c.1) := by simp [wcells, h]
theorem tcells_at {cs : List (Nat × Bool)} {q : Nat} {c : Nat × Bool} (h : cs[q]? = some c) : (tcells cs)[q]? = some (.bool c.2) := by simp [tcells, h]
theorem wcells_zero (n : Nat) : wcells (List.replicate n (0, false)) = (madeCells #[.int .i64 0] n).toList := by rw [toList_madeCells_one]; simp [wcells]
theorem tcells_zero (n : Nat) : tcells (List.replicate n (0, false)) = (madeCells #[.bool false] n).toList := by rw [toList_madeCells_one]; simp [tcells]
/-- A row of the call's own stays, where another block turns. -/
theorem own_off {w : World} {base : Nat} {e : TypeId} {sz g n cap : Nat} {xs : List Value} (h : w.ownsRow base e sz (.slice (some ⟨g, 0, none⟩) n cap) n xs) {b o : Nat} (hne : b ≠ g) (u : Value) : (w.setCell ⟨b, o, none⟩ u).ownsRow base e sz (.slice (some ⟨g, 0, none⟩) n cap) n xs := by
  obtain ⟨h1, h2⟩ := h
  refine ⟨h1, ?_⟩
  rcases h2 with h2 | ⟨g', cap', cur, hv, hb, hg, r⟩
  · exact .inl h2
  · cases hv
    exact .inr ⟨_, _, cur, rfl, hb, by simp [World.setCell, Array.getElem?_modify, hne]; exact hg, r⟩
set_option maxRecDepth 100000 in
set_option maxHeartbeats 8000000 in
theorem refTable_some (vc vr : Value) (names : List (List UInt8)) (L : List (List V)) (cnt : Int) (w : World) (hE : Env w) (hc : StrsAt w vc names) (hr : RowsAt w vr L)
    (hn0 : 0 < names.length) (hn : names.length ≤ 4096) (hm : ∀ x ∈ names, x.length ≤ 4000000) (hL : L.length ≤ 4096) (hl : ∀ l ∈ L, l.length ≤ maxLen ∧ IOk l) :
    Calls Tryz.prog 11 #[.agg #[vc, vr, .int .i64 cnt]] w fun e w' => e = .returned (.string ⟨(P25.tableOf (P25.cols names (L.map rowOf)) names (L.map rowOf)).toArray⟩) ∧ Below w.heap.size w w' := by
  obtain ⟨pc, cc, rfl, hc'⟩ := hc.parts
  obtain ⟨pr, cr, rfl, hr'⟩ := hr.parts
  have HC := Lib.hid hc'
  have HR := Lib.hid hr'
  have HL := Lib.hid hl
  have HM := Lib.hid hm
  have HE := Lib.hid hE
  have hnz : ((names.length : Int) == 0) = false := (beq_eq_false_iff_ne).2 (by omega)
  obtain ⟨i0, hi, hz0, hz1, hz2⟩ := info_parts Tryz.infoInt
  obtain ⟨i1, hj, hy0, hy1, hy2⟩ := info_parts Tryz.infoBoolV
  have Hi := Lib.hid hi
  have Hz0 := Lib.hid hz0
  have Hz1 := Lib.hid hz1
  have Hb : Hid (i0.bytes * names.length ≤ 281474976710656) := Lib.hid (by rw [hz2]; omega)
  have Hj := Lib.hid hj
  have Hy0 := Lib.hid hy0
  have Hy1 := Lib.hid hy1
  have Hc : Hid (i1.bytes * names.length ≤ 281474976710656) := Lib.hid (by rw [hy2]; omega)
  clear hi hz0 hz1 hz2 hj hy0 hy1 hy2 hc hr hl hm hE hc' hr'
  go_enter Tryz.func11, Tryz.ntmps11
  go_wp2_with (first
    | (at_make; refine wpList_make_full _ rfl _ _ 59 rfl (w.heap.size + 1) 3 i0 _ 1 Tryz.underlying59 Hi.out Hz0.out Hz1.out .i64 .i64 _ _ names.length rfl rfl rfl rfl Hb.out (by unfold maxLen; omega) (by simp) ?_; intro w1 ho hgr; have HO := Lib.hid ho; have HG := Lib.hid hgr; clear ho hgr)
    | (at_make; refine wpList_make_full _ rfl _ _ 60 rfl (w.heap.size + 1) 4 i1 _ 1 Tryz.underlying60 Hj.out Hy0.out Hy1.out .i64 .i64 _ _ names.length rfl rfl rfl rfl Hc.out (by unfold maxLen; omega) (by have := HG.out.size; simp at this; omega) ?_; intro w2 ho hgr; have HO2 := Lib.hid ho; have HG2 := Lib.hid hgr; clear ho hgr))
  obtain ⟨W0, hW0⟩ : ∃ W0, W0 = w.alloc (.cells #[.slice pc names.length cc, .slice pr L.length cr, .int .i64 cnt] 25) := ⟨_, rfl⟩
  have ho := HO.out
  have hgr := HG.out
  have ho2 := HO2.out
  have hgr2 := HG2.out
  rw [← hW0] at hgr
  rw [World.size_alloc] at ho
  have hz : W0.heap.size = w.heap.size + 1 := by rw [hW0]; simp
  have hw0 : Xk.Ext w W0 := by rw [hW0]; exact ext_alloc _ _
  have k0 : W0.cell? ⟨w.heap.size, 0, none⟩ = some (.slice pc names.length cc) := by rw [hW0]; simp
  have k1 : W0.cell? ⟨w.heap.size, 1, none⟩ = some (.slice pr L.length cr) := by rw [hW0]; simp
  have hb1 := below_grown hgr (Nat.le_refl _)
  have hb2 := below_grown hgr2 (Nat.le_refl _)
  have HB := Lib.hid (Xk.Ext.trans hb1 hb2)
  have l1 : w.heap.size + 1 < w1.heap.size := by have := (own_base ho).2; omega
  have K0 := Lib.hid k0
  have K1 := Lib.hid k1
  have HW := Lib.hid hw0
  have ho1 := ownsRow_ext ho hb2
  clear HO HG HO2 HG2 hgr hgr2 hW0 k0 k1 hw0 hb1 hb2 ho
  have HO := Lib.hid ho1
  have HO2 := Lib.hid ho2
  clear ho1 ho2
  go_loopw [6] (fun x wr => ∃ q : Nat, q ≤ names.length ∧ x = .int .i64 q ∧ Below W0.heap.size W0 wr ∧ w1.heap.size < wr.heap.size ∧
    wr.ownsRow (w.heap.size + 1) 3 1 (.slice (some ⟨w.heap.size + 1, 0, none⟩) names.length names.length) names.length (wcells (P25.colsUpto names (L.map rowOf) q)) ∧
    wr.ownsRow (w.heap.size + 1) 4 1 (.slice (some ⟨w1.heap.size, 0, none⟩) names.length names.length) names.length (tcells (P25.colsUpto names (L.map rowOf) q))) (fun x _ => names.length - (intOf x).toNat)
  case atStart => exact ⟨0, by omega, rfl, HB.out, by have := (own_base HO2.out).2; omega, by
    have h := HO.out
    rw [show (Value.int .i64 0).cells = #[.int .i64 0] from rfl, ← wcells_zero, Nat.mul_one] at h
    rw [P25.colsUpto_zero]
    exact h, by
    have h := HO2.out
    rw [show (Value.bool false).cells = #[.bool false] from rfl, ← tcells_zero, Nat.mul_one] at h
    rw [P25.colsUpto_zero]
    exact h⟩
  case round =>
    clear HB HO HO2
    obtain ⟨q, hq, rfl, hbw, hl2, ho, ho2⟩ := hrel
    have HB := Lib.hid hbw
    have HO := Lib.hid ho
    have HO2 := Lib.hid ho2
    clear hbw ho ho2
    have c0 := Xk.ext_cell HB.out K0.out
    have c1 := Xk.ext_cell HB.out K1.out
    by_cases hlt : q < names.length
    · have hx : names[q]? = some names[q] := by simp [hlt]
      have hxm := HM.out names[q] (by simp)
      have hxd : names.getD q [] = names[q] := by simp [hlt]
      generalize names[q] = x at hx hxm hxd
      obtain ⟨b, off, rfl, d1⟩ := HC.out q x hx
      have d1 := Xk.ext_cell (Xk.Ext.trans HW.out HB.out) d1
      have lb := World.block_lt_of_cell? wr _ d1
      have Hx := Lib.hid hx
      have Hxd := Lib.hid hxd
      clear hx hxd
      have hat := P25.colsUpto_at names (L.map rowOf) q hlt
      have hc0 := HO.out.cellAt q (by omega)
      rw [wcells_at hat] at hc0
      have hf := HO.out.frozenAt q
      have Hat := Lib.hid hat
      clear hat
      have lw : w.heap.size < wr.heap.size := by omega
      go_wp2
      generalize hS : (⟨x.length, 0, true⟩ : P25.Col) = s0
      go_loopw [7, 8, 9] (fun u7 u8 u9 wr => ∃ (k : Nat) (s : P25.Col), k ≤ L.length ∧ s = P25.col x ((L.map rowOf).take k) q ∧ u7 = .bool (decide (0 < s.n)) ∧ u8 = .bool s.ints ∧ u9 = .int .i64 k ∧ Below W0.heap.size W0 wr ∧ w1.heap.size < wr.heap.size ∧
        wr.ownsRow (w.heap.size + 1) 3 1 (.slice (some ⟨w.heap.size + 1, 0, none⟩) names.length names.length) names.length (wcells ((P25.colsUpto names (L.map rowOf) q).set q (s.wide, false))) ∧
        wr.ownsRow (w.heap.size + 1) 4 1 (.slice (some ⟨w1.heap.size, 0, none⟩) names.length names.length) names.length (tcells (P25.colsUpto names (L.map rowOf) q))) (fun _ _ x _ => L.length - (intOf x).toNat)
      case atStart => exact ⟨0, ⟨x.length, 0, true⟩, by omega, rfl, rfl, rfl, rfl, HB.out.setCell (by show W0.heap.size ≤ w.heap.size + 1; omega) _, by simpa using hl2, by
        have h1 := (HO.out.stored q (.int .i64 x.length)).1
        rw [wcells_set _ _ _ false] at h1
        exact h1, own_off HO2.out (by omega) _⟩
      case round =>
        clear hS HO HO2 HB hc0 hf lw c0 c1 d1 lb hl2
        obtain ⟨k, ⟨sw, sn, si⟩, hk, hs, rfl, rfl, rfl, hbw, hl2, ho, ho2⟩ := hrel
        dsimp only at ho
        have hsn : sn ≤ 4096 := by
          have := P25.col_n x ((L.map rowOf).take k) q
          rw [← hs] at this
          simp only [List.length_take, List.length_map] at this
          omega
        have HS := Lib.hid hs
        have HB := Lib.hid hbw
        have HO := Lib.hid ho
        have HO2 := Lib.hid ho2
        clear hs hbw ho ho2
        have c0 := Xk.ext_cell HB.out K0.out
        have c1 := Xk.ext_cell HB.out K1.out
        have hat := set_at (a := (sw, false)) Hat.out
        have hc0 := HO.out.cellAt q (by omega)
        rw [wcells_at hat] at hc0
        have hf := HO.out.frozenAt q
        have hc2 := HO2.out.cellAt q (by omega)
        rw [tcells_at Hat.out] at hc2
        have hf2 := HO2.out.frozenAt q
        have lw0 : w.heap.size < wr.heap.size := by omega
        have lw : w.heap.size + 1 < wr.heap.size := by omega
        have Hat' := Lib.hid hat
        clear hat
        by_cases hkl : k < L.length
        · have hk1 : L[k]? = some L[k] := by simp [hkl]
          have hll := HL.out L[k] (by simp)
          have hct : P25.col x ((L.map rowOf).take (k + 1)) q = (P25.col x ((L.map rowOf).take k) q).step q (rowOf L[k]) := by
            rw [P25.col_take _ _ _ _ (by simpa using hkl)]; simp
          generalize L[k] = l at hk1 hll hct
          obtain ⟨b1, o1, u1, rfl, e1, hrow⟩ := HR.out k l hk1
          obtain ⟨pa, ca, rfl, hrow'⟩ := hrow
          rw [← HS.out] at hct
          have hxw := Xk.Ext.trans HW.out HB.out
          have e1 := Xk.ext_cell hxw e1
          have l1' := World.block_lt_of_cell? _ _ e1
          have Hct := Lib.hid hct
          have hkb : (k : Int) < (L.length : Int) := by omega
          have hqb : (q : Int) < (names.length : Int) := by omega
          by_cases hql : q < l.length
          · have hy : l[q]? = some l[q] := by simp [hql]
            have hyi := hll.2 l[q] (by simp)
            generalize l[q] = y at hy hyi
            obtain ⟨b4, o4, rfl, g1, g2, g3, g5⟩ := hrow' q y hy
            have l40 : b4 < w.heap.size := World.block_lt_of_cell? _ _ g1
            have g1 := Xk.ext_cell hxw g1
            have g2 := Xk.ext_cell hxw g2
            have g3 := Xk.ext_cell hxw g3
            have l4 := World.block_lt_of_cell? _ _ g1
            have hcl : (P25.clean (P6.printV y.k y.i y.s.data.toList)).length = (P6.printV y.k y.i y.s.data.toList).length := P25.clean_length _
            have Hct2 : Hid (P25.col x ((L.map rowOf).take (k + 1)) q = ⟨max sw (P6.printV y.k y.i y.s.data.toList).length, sn + 1, si && (decide (y.k = 2) && P6.isV y.k y.i y.s.data.toList)⟩) := Lib.hid (by rw [hct, P25.Col.step_some (c := cellOf y) (by simp [rowOf, hy]), ← hcl]; rfl)
            have hI := fun W => refIs_any y.k y.i y.s W g5
            have hP := fun W => refPrint_any y.k y.i y.s hyi.1 hyi.2 g5 W
            generalize P6.printV y.k y.i y.s.data.toList = t at Hct2 hP hcl
            generalize P6.isV y.k y.i y.s.data.toList = vb at Hct2 hI
            have HI := Lib.hid hI
            have HP := Lib.hid hP
            have hqb2 : (q : Int) < (l.length : Int) := by omega
            clear hct hxw hrow' hk1 Hct hI hP hcl hy hyi g5
            go_wp2
            refine Xk.wp_region_rel' 11 [] trivial (by kernel_rfl) (by kernel_rfl) ?_
            simp only [List.take_succ_cons, List.take_zero, List.drop_succ_cons, List.drop_zero]
            repeat (first
              | (refine Xk.rel_det (Xk.wanted_none (by rfl)) (by rfl) (fun K hK => ?_); apply Exists.intro; refine ⟨fun p hp => ?_, ?_⟩; (go_simp; first | exact ⟨rfl, rfl⟩ | ((try refine ⟨by kernel_rfl, ?_⟩); (first | (go_at_call 15; ((with_reducible refine (HP.out _).mono ?_); exact fun e w' h => h))))); (go_simp; refine hK _ ?_; clear hK K))
              | (refine Xk.rel_skip (by rfl) (fun K hK => ?_); go_simp; refine hK _ ?_; clear hK K)
              | (refine Xk.rel_det (by rfl) (by rfl) (fun K hK => ?_); apply Exists.intro; refine ⟨fun p hp => ?_, ?_⟩; (go_simp; first | exact ⟨rfl, rfl⟩ | ((try refine ⟨by kernel_rfl, ?_⟩); (first | (go_at_call 15; ((with_reducible refine (HP.out _).mono ?_); exact fun e w' h => h))))); (go_simp; refine hK _ ?_; clear hK K)))
            refine Xk.rel_nil (fun p _ => ?_)
            cases si
            · go_wp2
              go_roundw
              case rel => exact ⟨k + 1, ⟨max sw t.length, sn + 1, false⟩, by omega, by rw [Hct2.out]; simp, by simp, rfl, by go_num, (by repeat (first | with_reducible exact HB.out | with_reducible exact Below.refl _ _ | ((with_reducible refine Below.setCell ?_ ?_ _); rotate_left; exact (by (try simp only [World.size_alloc, Xk.exw_size, World.size_setCell, World.size_drew, World.heap_drewN]); omega)) | ((with_reducible refine Below.alloc ?_ ?_ _); rotate_left; exact (by (try simp only [World.size_alloc, Xk.exw_size, World.size_setCell, World.size_drew, World.heap_drewN]); omega)) | ((with_reducible refine Xk.below_exw ?_ ?_ _); rotate_left; exact (by (try simp only [World.size_alloc, Xk.exw_size, World.size_setCell, World.size_drew, World.heap_drewN]); omega)) | (with_reducible refine Below.drew ?_))), (by (try simp only [World.size_alloc, Xk.exw_size, World.size_setCell, World.size_drew, World.heap_drewN]); omega), (by
                have e1 : (wcells ((P25.colsUpto names (L.map rowOf) q).set q (sw, false))).set q (.int .i64 (max (sw : Int) (t.length : Int))) = wcells ((P25.colsUpto names (L.map rowOf) q).set q (max sw t.length, false)) := by
                  rw [show (max (sw : Int) (t.length : Int)) = ((max sw t.length : Nat) : Int) by omega, wcells_set _ _ _ false, set_set]
                rw [← e1]
                repeat (first | with_reducible exact HO.out | with_reducible refine (World.ownsRow.stored ?_ _ _).1 | with_reducible refine Xo.own_alloc ?_ _ | with_reducible refine Xo.own_exw ?_ _)), (by
                repeat (first | with_reducible exact HO2.out | ((with_reducible refine own_off ?_ ?_ _); rotate_left; omega) | with_reducible refine Xo.own_alloc ?_ _ | with_reducible refine Xo.own_exw ?_ _))⟩
              case measure => simp [intOf]; omega
            · by_cases hk2 : y.k = 2
              · have Hct3 : Hid (P25.col x ((L.map rowOf).take (k + 1)) q = ⟨max sw t.length, sn + 1, vb⟩) := Lib.hid (by rw [Hct2.out, hk2]; simp)
                obtain ⟨yk, yi, ys⟩ := y
                dsimp only at hk2 g1 g2 g3 HI
                subst hk2
                go_wp2_with (first | (go_at_call 27; (with_reducible refine (HI.out _).mono ?_); rintro e w' ⟨rfl, hb⟩; obtain ⟨p, rfl⟩ := Xk.exw_of hb; clear hb))
                go_roundw
                case rel => exact ⟨k + 1, ⟨max sw t.length, sn + 1, vb⟩, by omega, by rw [Hct3.out], by simp, rfl, by go_num, (by repeat (first | with_reducible exact HB.out | with_reducible exact Below.refl _ _ | ((with_reducible refine Below.setCell ?_ ?_ _); rotate_left; exact (by (try simp only [World.size_alloc, Xk.exw_size, World.size_setCell, World.size_drew, World.heap_drewN]); omega)) | ((with_reducible refine Below.alloc ?_ ?_ _); rotate_left; exact (by (try simp only [World.size_alloc, Xk.exw_size, World.size_setCell, World.size_drew, World.heap_drewN]); omega)) | ((with_reducible refine Xk.below_exw ?_ ?_ _); rotate_left; exact (by (try simp only [World.size_alloc, Xk.exw_size, World.size_setCell, World.size_drew, World.heap_drewN]); omega)) | (with_reducible refine Below.drew ?_))), (by (try simp only [World.size_alloc, Xk.exw_size, World.size_setCell, World.size_drew, World.heap_drewN]); omega), (by
                  have e1 : (wcells ((P25.colsUpto names (L.map rowOf) q).set q (sw, false))).set q (.int .i64 (max (sw : Int) (t.length : Int))) = wcells ((P25.colsUpto names (L.map rowOf) q).set q (max sw t.length, false)) := by
                    rw [show (max (sw : Int) (t.length : Int)) = ((max sw t.length : Nat) : Int) by omega, wcells_set _ _ _ false, set_set]
                  rw [← e1]
                  repeat (first | with_reducible exact HO.out | with_reducible refine (World.ownsRow.stored ?_ _ _).1 | with_reducible refine Xo.own_alloc ?_ _ | with_reducible refine Xo.own_exw ?_ _)), (by
                  repeat (first | with_reducible exact HO2.out | ((with_reducible refine own_off ?_ ?_ _); rotate_left; omega) | with_reducible refine Xo.own_alloc ?_ _ | with_reducible refine Xo.own_exw ?_ _))⟩
                case measure => simp [intOf]; omega
              · have hk2b : (y.k == 2) = false := by simpa using hk2
                have Hct3 : Hid (P25.col x ((L.map rowOf).take (k + 1)) q = ⟨max sw t.length, sn + 1, false⟩) := Lib.hid (by rw [Hct2.out]; simp [hk2])
                go_wp2
                go_roundw
                case rel => exact ⟨k + 1, ⟨max sw t.length, sn + 1, false⟩, by omega, by rw [Hct3.out], by simp, rfl, by go_num, (by repeat (first | with_reducible exact HB.out | with_reducible exact Below.refl _ _ | ((with_reducible refine Below.setCell ?_ ?_ _); rotate_left; exact (by (try simp only [World.size_alloc, Xk.exw_size, World.size_setCell, World.size_drew, World.heap_drewN]); omega)) | ((with_reducible refine Below.alloc ?_ ?_ _); rotate_left; exact (by (try simp only [World.size_alloc, Xk.exw_size, World.size_setCell, World.size_drew, World.heap_drewN]); omega)) | ((with_reducible refine Xk.below_exw ?_ ?_ _); rotate_left; exact (by (try simp only [World.size_alloc, Xk.exw_size, World.size_setCell, World.size_drew, World.heap_drewN]); omega)) | (with_reducible refine Below.drew ?_))), (by (try simp only [World.size_alloc, Xk.exw_size, World.size_setCell, World.size_drew, World.heap_drewN]); omega), (by
                  have e1 : (wcells ((P25.colsUpto names (L.map rowOf) q).set q (sw, false))).set q (.int .i64 (max (sw : Int) (t.length : Int))) = wcells ((P25.colsUpto names (L.map rowOf) q).set q (max sw t.length, false)) := by
                    rw [show (max (sw : Int) (t.length : Int)) = ((max sw t.length : Nat) : Int) by omega, wcells_set _ _ _ false, set_set]
                  rw [← e1]
                  repeat (first | with_reducible exact HO.out | with_reducible refine (World.ownsRow.stored ?_ _ _).1 | with_reducible refine Xo.own_alloc ?_ _ | with_reducible refine Xo.own_exw ?_ _)), (by
                  repeat (first | with_reducible exact HO2.out | ((with_reducible refine own_off ?_ ?_ _); rotate_left; omega) | with_reducible refine Xo.own_alloc ?_ _ | with_reducible refine Xo.own_exw ?_ _))⟩
                case measure => simp [intOf]; omega
          · have Hct2 : Hid (P25.col x ((L.map rowOf).take (k + 1)) q = ⟨sw, sn, si⟩) := Lib.hid (by rw [hct, P25.Col.step_none (by rw [rowOf_length]; omega)])
            clear hct hxw hrow' hk1 Hct
            go_wp2
            go_roundw
            case rel => exact ⟨k + 1, ⟨sw, sn, si⟩, by omega, Hct2.out.symm, rfl, rfl, by go_num, (by repeat (first | with_reducible exact HB.out | with_reducible exact Below.refl _ _ | ((with_reducible refine Below.setCell ?_ ?_ _); rotate_left; exact (by (try simp only [World.size_alloc, Xk.exw_size, World.size_setCell, World.size_drew, World.heap_drewN]); omega)) | ((with_reducible refine Below.alloc ?_ ?_ _); rotate_left; exact (by (try simp only [World.size_alloc, Xk.exw_size, World.size_setCell, World.size_drew, World.heap_drewN]); omega)) | ((with_reducible refine Xk.below_exw ?_ ?_ _); rotate_left; exact (by (try simp only [World.size_alloc, Xk.exw_size, World.size_setCell, World.size_drew, World.heap_drewN]); omega)) | (with_reducible refine Below.drew ?_))), (by (try simp only [World.size_alloc, Xk.exw_size, World.size_setCell, World.size_drew, World.heap_drewN]); omega), HO.out, HO2.out⟩
            case measure => simp [intOf]; omega
        · obtain rfl : k = L.length := by omega
          have Hfin : Hid (P25.col (names.getD q []) (L.map rowOf) q = ⟨sw, sn, si⟩) := Lib.hid (by rw [Hxd.out, HS.out, List.take_of_length_le (by simp)])
          clear hkl
          have hfin : ∀ (b : Bool), b = (si && decide (0 < sn)) → (wr.setCell ⟨w1.heap.size, q, none⟩ (.bool b)).ownsRow (w.heap.size + 1) 3 1 (.slice (some ⟨w.heap.size + 1, 0, none⟩) names.length names.length) names.length (wcells (P25.colsUpto names (L.map rowOf) (q + 1))) ∧
              (wr.setCell ⟨w1.heap.size, q, none⟩ (.bool b)).ownsRow (w.heap.size + 1) 4 1 (.slice (some ⟨w1.heap.size, 0, none⟩) names.length names.length) names.length (tcells (P25.colsUpto names (L.map rowOf) (q + 1))) := fun b hb => by
            have e : (sw, b) = (P25.col (names.getD q []) (L.map rowOf) q).out := by rw [Hfin.out, hb]; rfl
            refine ⟨?_, ?_⟩
            · have h1 := own_off HO.out (b := w1.heap.size) (o := q) (by omega) (.bool b)
              rw [wcells_any _ _ _ false b, e, P25.colsUpto_set _ _ _ (by omega)] at h1
              exact h1
            · have h1 := (HO2.out.stored q (.bool b)).1
              rw [tcells_set _ _ sw b, e, P25.colsUpto_set _ _ _ (by omega)] at h1
              exact h1
          have HFn := Lib.hid hfin
          clear hfin
          by_cases hsz0 : 0 < sn
          · rw [decide_eq_true hsz0]
            go_wp2
            go_roundw
            case rel => exact ⟨q + 1, by omega, by go_num, (by repeat (first | with_reducible exact HB.out | with_reducible exact Below.refl _ _ | ((with_reducible refine Below.setCell ?_ ?_ _); rotate_left; exact (by (try simp only [World.size_alloc, Xk.exw_size, World.size_setCell, World.size_drew, World.heap_drewN]); omega)) | ((with_reducible refine Below.alloc ?_ ?_ _); rotate_left; exact (by (try simp only [World.size_alloc, Xk.exw_size, World.size_setCell, World.size_drew, World.heap_drewN]); omega)) | ((with_reducible refine Xk.below_exw ?_ ?_ _); rotate_left; exact (by (try simp only [World.size_alloc, Xk.exw_size, World.size_setCell, World.size_drew, World.heap_drewN]); omega)) | (with_reducible refine Below.drew ?_))), (by (try simp only [World.size_alloc, Xk.exw_size, World.size_setCell, World.size_drew, World.heap_drewN]); omega), HFn.out _ (by simp [hsz0])⟩
            case measure => simp [intOf]; omega
          · rw [decide_eq_false hsz0]
            go_wp2
            go_roundw
            case rel => exact ⟨q + 1, by omega, by go_num, (by repeat (first | with_reducible exact HB.out | with_reducible exact Below.refl _ _ | ((with_reducible refine Below.setCell ?_ ?_ _); rotate_left; exact (by (try simp only [World.size_alloc, Xk.exw_size, World.size_setCell, World.size_drew, World.heap_drewN]); omega)) | ((with_reducible refine Below.alloc ?_ ?_ _); rotate_left; exact (by (try simp only [World.size_alloc, Xk.exw_size, World.size_setCell, World.size_drew, World.heap_drewN]); omega)) | ((with_reducible refine Xk.below_exw ?_ ?_ _); rotate_left; exact (by (try simp only [World.size_alloc, Xk.exw_size, World.size_setCell, World.size_drew, World.heap_drewN]); omega)) | (with_reducible refine Below.drew ?_))), (by (try simp only [World.size_alloc, Xk.exw_size, World.size_setCell, World.size_drew, World.heap_drewN]); omega), HFn.out _ (by simp [hsz0])⟩
            case measure => simp [intOf]; omega
    · obtain rfl : q = names.length := by omega
      have hwid := P25.table_widths names (L.map rowOf) 4000000 HM.out (fun r hr c hc => Nat.le_trans (rows_most HL.out r hr c hc) (by omega))
      have hcl : (P25.cols names (L.map rowOf)).length = names.length := P25.cols_length _ _
      have ho := HO.out
      have ho2 := HO2.out
      rw [P25.colsUpto_end] at ho ho2
      have hcw : ∀ (i : Nat) (c : Nat × Bool), (P25.cols names (L.map rowOf))[i]? = some c → wr.cell? ⟨w.heap.size + 1, i, none⟩ = some (.int .i64 c.1) ∧ wr.cell? ⟨w1.heap.size, i, none⟩ = some (.bool c.2) := fun i c hc => by
        have hi : i < names.length := by have := (List.getElem?_eq_some_iff.1 hc).1; omega
        have h1 := ho.cellAt i (by omega)
        have h2 := ho2.cellAt i (by omega)
        rw [wcells_at hc] at h1
        rw [tcells_at hc] at h2
        exact ⟨h1, h2⟩
      obtain ⟨cs, hcs⟩ : ∃ cs, cs = P25.cols names (L.map rowOf) := ⟨_, rfl⟩
      rw [← hcs] at hwid hcl hcw
      have lw0 : w.heap.size < wr.heap.size := by omega
      have hwx := Xk.Ext.trans HW.out HB.out
      have HCS := Lib.hid hcs
      have HW1 := Lib.hid hwid.1
      have HW2 := Lib.hid hwid.2
      have HCW := Lib.hid hcw
      have HCL := Lib.hid hcl
      have HWX := Lib.hid hwx
      have K0 := Lib.hid c0
      have K1 := Lib.hid c1
      clear hwid hcl ho ho2 hcw hcs hwx HO HO2 HB HW c0 c1 hlt hq
      obtain ⟨W2, rfl⟩ : ∃ W2, W2 = wr := ⟨wr, rfl⟩
      obtain ⟨M0, hM0⟩ : ∃ M0 : Nat, M0 = 17000000001 := ⟨_, rfl⟩
      have HM0 := Lib.hid hM0
      clear hM0
      go_wp2
      go_loopw [11, 12] (fun o x wr2 => ∃ (k : Nat) (r : Int) (s : List UInt8), k ≤ L.length + 2 ∧ x = .int .i64 r ∧ r = (k : Int) - 2 ∧ o = .string ⟨s.toArray⟩ ∧ Below W2.heap.size W2 wr2 ∧ s = P25.upto cs names (L.map rowOf) k ∧ s.length ≤ k * M0) (fun _ x _ => L.length + 2 - (intOf x + 2).toNat)
      case atStart => exact ⟨0, -2, [], by omega, rfl, rfl, rfl, Below.refl _ _, (P25.upto_zero _ _ _).symm, by simp⟩
      case round =>
        obtain ⟨k, r, s, hk, rfl, hr, rfl, hbw, hs, hsl⟩ := hrel
        have HB := Lib.hid hbw
        have HS := Lib.hid hs
        have c0 := Xk.ext_cell hbw K0.out
        have c1 := Xk.ext_cell hbw K1.out
        have hsz := hbw.size
        have HSL := Lib.hid hsl
        clear hbw hs hsl
        by_cases hlt : k < L.length + 2
        · rcases k with _ | _ | j
          · have hm2 : (r == -2) = true := beq_iff_eq.2 (by omega)
            have hm1 : (r == -1) = false := beq_eq_false_iff_ne.2 (by omega)
            have hlc : r < (L.length : Int) := by omega
            have hlo : -2 ≤ r := by omega
            have Hr := Lib.hid hr
            clear hr
            have hML : (P25.pads cs (names.map P25.clean)).length = names.length := by rw [P25.pads_length (by rw [HCL.out, List.length_map]), HCL.out]
            have HML := Lib.hid hML
            have HJ := Lib.hid fun q => P25.join_take_length [32, 124, 32] 4000000 (P25.pads cs (names.map P25.clean)) q (P25.pads_most (by rw [HCL.out, List.length_map]) HW1.out) rfl (by omega) (by omega)
            have HU := Lib.hid (P25.upto_one cs names (L.map rowOf))
            clear hML
            go_wp2
            go_loopw [13, 14] (fun s c wr2 => ∃ q : Nat, q ≤ names.length ∧ c = .int .i64 q ∧ s = .string ⟨(Lib.join ((P25.pads cs (names.map P25.clean)).take q) [32, 124, 32]).toArray⟩ ∧ Below W2.heap.size W2 wr2) (fun _ c _ => names.length - (intOf c).toNat)
            case atStart => exact ⟨0, by omega, rfl, rfl, HB.out⟩
            case round =>
              clear HB c0 c1 hsz
              obtain ⟨q, hq, rfl, rfl, hbw⟩ := hrel
              have HB := Lib.hid hbw
              have c0 := Xk.ext_cell hbw K0.out
              have c1 := Xk.ext_cell hbw K1.out
              have hsz := hbw.size
              have lw2 : w.heap.size < wr.heap.size := by omega
              have lw1 : w.heap.size + 1 < wr.heap.size := by omega
              have lw3 : w1.heap.size < wr.heap.size := by omega
              clear hbw
              by_cases hlq : q < names.length
              · obtain ⟨x, hx⟩ : ∃ x, names[q]? = some x := ⟨_, List.getElem?_eq_getElem hlq⟩
                obtain ⟨⟨cw, ca⟩, hc⟩ : ∃ c, cs[q]? = some c := ⟨_, List.getElem?_eq_getElem (by have := HCL.out; omega)⟩
                have hxm := HM.out x (List.mem_of_getElem? hx)
                obtain ⟨b, off, rfl, d1⟩ := HC.out q x hx
                have d1 := Xk.ext_cell (Xk.Ext.trans HWX.out HB.out) d1
                have lb := World.block_lt_of_cell? wr _ d1
                obtain ⟨c2, c3⟩ := HCW.out q _ hc
                have c2 := Xk.ext_cell HB.out c2
                have c3 := Xk.ext_cell HB.out c3
                have hxc : (names.map P25.clean)[q]? = some (P25.clean x) := by rw [List.getElem?_map, hx]; rfl
                obtain ⟨ht1, ht2⟩ := HW1.out q _ _ hc hxc
                have Hp := Lib.hid (P25.pads_at2 _ _ _ _ _ hc hxc)
                have HCl := Lib.hid fun W => refClean_any ⟨x.toArray⟩ (by show x.length ≤ _; omega) W
                have HCl : Hid (∀ W, Calls Tryz.prog 28 #[.string ⟨x.toArray⟩] W fun e w' => e = .returned (.string ⟨(P25.clean x).toArray⟩) ∧ Below W.heap.size W w') := HCl
                generalize P25.clean x = t at HCl Hp ht1 ht2
                dsimp only at ht1 ht2 c2 c3
                clear hx hxc
                have hR : ∀ W, Calls Tryz.prog 29 #[.int .i64 ((cw : Int) - (t.length : Int)), .int .u8 32] W fun e w' => e = .returned (.string ⟨(List.replicate (cw - t.length) 32).toArray⟩) ∧ Below W.heap.size W w' := fun W => by
                  have := fill_any (cw - t.length) 32 W (by omega)
                  rwa [show ((cw - t.length : Nat) : Int) = (cw : Int) - (t.length : Int) by omega] at this
                have HR := Lib.hid hR
                have hwr : IntKind.i64.wrap ((cw : Int) - (t.length : Int)) = (cw : Int) - (t.length : Int) := IntWalk.i64_in _ (by omega)
                have hlen : (List.replicate (cw - t.length) (32 : UInt8)).length = cw - t.length := by simp
                have hqb : (q : Int) < (names.length : Int) := by omega
                clear hR
                cases ca
                · have Hp' : Hid ((P25.pads cs (names.map P25.clean))[q]? = some (t ++ List.replicate (cw - t.length) 32)) := Hp
                  generalize List.replicate (cw - t.length) (32 : UInt8) = f at HR Hp' hlen
                  clear Hp
                  have hA := HJ.out q
                  have hfl : f.length ≤ 4000000 := by omega
                  have htl : t.length ≤ 4000000 := by omega
                  clear hlen ht1 ht2
                  by_cases h0 : 0 < q
                  · have h0' : (0 : Int) < (q : Int) := by omega
                    have Happ := Lib.hid (cell_more [32, 124, 32] _ q _ Hp'.out h0)
                    clear h0 Hp'
                    go_wp2_with (first | (go_at_call 28; (with_reducible refine (HCl.out _).mono ?_); rintro e w' ⟨rfl, hb⟩; obtain ⟨p, rfl⟩ := Xk.exw_of hb; clear hb) | ((go_at_call 29; (with_reducible refine (HR.out _).mono ?_); rintro e w' ⟨rfl, hb⟩; obtain ⟨p, rfl⟩ := Xk.exw_of hb; clear hb); clear hwr))
                    go_roundw
                    case rel => exact ⟨q + 1, by omega, by go_num, by
                      have h := Happ.out
                      rw [← str_app] at h
                      exact congrArg Value.string h, (by repeat (first | with_reducible exact HB.out | with_reducible exact Below.refl _ _ | ((with_reducible refine Below.setCell ?_ ?_ _); rotate_left; exact (by (try simp only [World.size_alloc, Xk.exw_size, World.size_setCell, World.size_drew, World.heap_drewN]); omega)) | ((with_reducible refine Below.alloc ?_ ?_ _); rotate_left; exact (by (try simp only [World.size_alloc, Xk.exw_size, World.size_setCell, World.size_drew, World.heap_drewN]); omega)) | ((with_reducible refine Xk.below_exw ?_ ?_ _); rotate_left; exact (by (try simp only [World.size_alloc, Xk.exw_size, World.size_setCell, World.size_drew, World.heap_drewN]); omega)) | (with_reducible refine Below.drew ?_)))⟩
                    case measure => simp [intOf]; omega
                  · have h0' : ¬ (0 : Int) < (q : Int) := by omega
                    have Happ := Lib.hid (cell_first [32, 124, 32] _ q _ Hp'.out (by omega))
                    clear h0 Hp'
                    go_wp2_with (first | (go_at_call 28; (with_reducible refine (HCl.out _).mono ?_); rintro e w' ⟨rfl, hb⟩; obtain ⟨p, rfl⟩ := Xk.exw_of hb; clear hb) | ((go_at_call 29; (with_reducible refine (HR.out _).mono ?_); rintro e w' ⟨rfl, hb⟩; obtain ⟨p, rfl⟩ := Xk.exw_of hb; clear hb); clear hwr))
                    go_roundw
                    case rel => exact ⟨q + 1, by omega, by go_num, by
                      have h := Happ.out
                      rw [← str_app] at h
                      exact congrArg Value.string h, (by repeat (first | with_reducible exact HB.out | with_reducible exact Below.refl _ _ | ((with_reducible refine Below.setCell ?_ ?_ _); rotate_left; exact (by (try simp only [World.size_alloc, Xk.exw_size, World.size_setCell, World.size_drew, World.heap_drewN]); omega)) | ((with_reducible refine Below.alloc ?_ ?_ _); rotate_left; exact (by (try simp only [World.size_alloc, Xk.exw_size, World.size_setCell, World.size_drew, World.heap_drewN]); omega)) | ((with_reducible refine Xk.below_exw ?_ ?_ _); rotate_left; exact (by (try simp only [World.size_alloc, Xk.exw_size, World.size_setCell, World.size_drew, World.heap_drewN]); omega)) | (with_reducible refine Below.drew ?_)))⟩
                    case measure => simp [intOf]; omega
                · have Hp' : Hid ((P25.pads cs (names.map P25.clean))[q]? = some (List.replicate (cw - t.length) 32 ++ t)) := Hp
                  generalize List.replicate (cw - t.length) (32 : UInt8) = f at HR Hp' hlen
                  clear Hp
                  have hA := HJ.out q
                  have hfl : f.length ≤ 4000000 := by omega
                  have htl : t.length ≤ 4000000 := by omega
                  clear hlen ht1 ht2
                  by_cases h0 : 0 < q
                  · have h0' : (0 : Int) < (q : Int) := by omega
                    have Happ := Lib.hid (cell_more [32, 124, 32] _ q _ Hp'.out h0)
                    clear h0 Hp'
                    go_wp2_with (first | (go_at_call 28; (with_reducible refine (HCl.out _).mono ?_); rintro e w' ⟨rfl, hb⟩; obtain ⟨p, rfl⟩ := Xk.exw_of hb; clear hb) | ((go_at_call 29; (with_reducible refine (HR.out _).mono ?_); rintro e w' ⟨rfl, hb⟩; obtain ⟨p, rfl⟩ := Xk.exw_of hb; clear hb); clear hwr))
                    go_roundw
                    case rel => exact ⟨q + 1, by omega, by go_num, by
                      have h := Happ.out
                      rw [← str_app] at h
                      exact congrArg Value.string h, (by repeat (first | with_reducible exact HB.out | with_reducible exact Below.refl _ _ | ((with_reducible refine Below.setCell ?_ ?_ _); rotate_left; exact (by (try simp only [World.size_alloc, Xk.exw_size, World.size_setCell, World.size_drew, World.heap_drewN]); omega)) | ((with_reducible refine Below.alloc ?_ ?_ _); rotate_left; exact (by (try simp only [World.size_alloc, Xk.exw_size, World.size_setCell, World.size_drew, World.heap_drewN]); omega)) | ((with_reducible refine Xk.below_exw ?_ ?_ _); rotate_left; exact (by (try simp only [World.size_alloc, Xk.exw_size, World.size_setCell, World.size_drew, World.heap_drewN]); omega)) | (with_reducible refine Below.drew ?_)))⟩
                    case measure => simp [intOf]; omega
                  · have h0' : ¬ (0 : Int) < (q : Int) := by omega
                    have Happ := Lib.hid (cell_first [32, 124, 32] _ q _ Hp'.out (by omega))
                    clear h0 Hp'
                    go_wp2_with (first | (go_at_call 28; (with_reducible refine (HCl.out _).mono ?_); rintro e w' ⟨rfl, hb⟩; obtain ⟨p, rfl⟩ := Xk.exw_of hb; clear hb) | ((go_at_call 29; (with_reducible refine (HR.out _).mono ?_); rintro e w' ⟨rfl, hb⟩; obtain ⟨p, rfl⟩ := Xk.exw_of hb; clear hb); clear hwr))
                    go_roundw
                    case rel => exact ⟨q + 1, by omega, by go_num, by
                      have h := Happ.out
                      rw [← str_app] at h
                      exact congrArg Value.string h, (by repeat (first | with_reducible exact HB.out | with_reducible exact Below.refl _ _ | ((with_reducible refine Below.setCell ?_ ?_ _); rotate_left; exact (by (try simp only [World.size_alloc, Xk.exw_size, World.size_setCell, World.size_drew, World.heap_drewN]); omega)) | ((with_reducible refine Below.alloc ?_ ?_ _); rotate_left; exact (by (try simp only [World.size_alloc, Xk.exw_size, World.size_setCell, World.size_drew, World.heap_drewN]); omega)) | ((with_reducible refine Xk.below_exw ?_ ?_ _); rotate_left; exact (by (try simp only [World.size_alloc, Xk.exw_size, World.size_setCell, World.size_drew, World.heap_drewN]); omega)) | (with_reducible refine Below.drew ?_)))⟩
                    case measure => simp [intOf]; omega
              · obtain rfl : q = names.length := by omega
                have hft : (P25.pads cs (names.map P25.clean)).take names.length = P25.pads cs (names.map P25.clean) := List.take_of_length_le (by have := HML.out; omega)
                have hA := HJ.out names.length
                have htl := P25.trimRight_length (Lib.join ((P25.pads cs (names.map P25.clean)).take names.length) [32, 124, 32]) 32
                have htl2 : (Lib.trimRightB (Lib.join ((P25.pads cs (names.map P25.clean)).take names.length) [32, 124, 32]) 32).length ≤ 17000000000 := Nat.le_trans htl hA
                have HT := Lib.hid fun W => refTrimmed_any (Lib.join ((P25.pads cs (names.map P25.clean)).take names.length) [32, 124, 32]) W (by omega)
                have HU2 := HU.out
                simp only [P25.bar, P25.cross] at HU2
                rw [← hft] at HU2
                have hsk : s.length ≤ 70000000000000 := by
                  have h1 := HSL.out
                  have h2 := HM0.out
                  have h3 := Nat.mul_le_mul (show 0 + 1 - 1 ≤ 4098 by omega) (Nat.le_refl M0)
                  simp only [Nat.add_sub_cancel] at h3
                  omega
                generalize Lib.trimRightB (Lib.join ((P25.pads cs (names.map P25.clean)).take names.length) [32, 124, 32]) 32 = u at HT HU2 htl2
                have Happ : Hid (((⟨s.toArray⟩ : ByteArray) ++ ⟨u.toArray⟩ ++ ⟨#[10]⟩) = ⟨(s ++ (u ++ [10])).toArray⟩) := Lib.hid (by apply bytes_ext; simp)
                have HU3 := Lib.hid HU2
                clear hft htl HU2
                go_wp2_with (first | (go_at_call 30; (with_reducible refine (HT.out _).mono ?_); rintro e w' ⟨rfl, hb⟩; obtain ⟨p, rfl⟩ := Xk.exw_of hb; clear hb))
                go_roundw
                case rel => exact ⟨0 + 1, _, s ++ (u ++ [10]), by omega, by go_num, by have := Hr.out; omega, (by
                  have h := Happ.out
                  first
                    | exact congrArg Value.string h
                    | (refine congrArg Value.string (Eq.trans ?_ h); apply bytes_ext; simp)), (by repeat (first | with_reducible exact HB.out | with_reducible exact Below.refl _ _ | ((with_reducible refine Below.setCell ?_ ?_ _); rotate_left; exact (by (try simp only [World.size_alloc, Xk.exw_size, World.size_setCell, World.size_drew, World.heap_drewN]); omega)) | ((with_reducible refine Below.alloc ?_ ?_ _); rotate_left; exact (by (try simp only [World.size_alloc, Xk.exw_size, World.size_setCell, World.size_drew, World.heap_drewN]); omega)) | ((with_reducible refine Xk.below_exw ?_ ?_ _); rotate_left; exact (by (try simp only [World.size_alloc, Xk.exw_size, World.size_setCell, World.size_drew, World.heap_drewN]); omega)) | (with_reducible refine Below.drew ?_))), by rw [HS.out, HU3.out], by
                  have h1 := HSL.out
                  have h2 := HM0.out
                  simp only [List.length_append, List.length_cons, List.length_nil]
                  rw [show 0 + 1 = (0 + 1 - 1) + 1 by omega, Nat.succ_mul]
                  simp only [Nat.add_sub_cancel]
                  omega⟩
                case measure => (have := Hr.out; simp [intOf]; omega)
          · have hm2 : (r == -2) = false := beq_eq_false_iff_ne.2 (by omega)
            have hm1 : (r == -1) = true := beq_iff_eq.2 (by omega)
            have hge : ¬ 0 ≤ r := by omega
            have hlc : r < (L.length : Int) := by omega
            have hlo : -2 ≤ r := by omega
            have Hr := Lib.hid hr
            clear hr
            have hML : (P25.rules cs).length = names.length := by rw [P25.rules_length, HCL.out]
            have hMM : ∀ x ∈ P25.rules cs, x.length ≤ 4000000 := fun x hx => by
              obtain ⟨c, hc, rfl⟩ := List.mem_map.1 hx
              obtain ⟨i, hi⟩ := List.mem_iff_getElem?.1 hc
              have hin : i < names.length := by have := (List.getElem?_eq_some_iff.1 hi).1; have := HCL.out; omega
              rw [List.length_replicate]
              exact (HW1.out i c _ hi (by rw [List.getElem?_map, List.getElem?_eq_getElem hin]; rfl)).2
            have HML := Lib.hid hML
            have HJ := Lib.hid fun q => P25.join_take_length [45, 43, 45] 4000000 (P25.rules cs) q hMM rfl (by omega) (by omega)
            have HMM := Lib.hid hMM
            have HU := Lib.hid (P25.upto_two cs names (L.map rowOf))
            clear hML hMM
            go_wp2
            go_loopw [13, 14] (fun s c wr2 => ∃ q : Nat, q ≤ names.length ∧ c = .int .i64 q ∧ s = .string ⟨(Lib.join ((P25.rules cs).take q) [45, 43, 45]).toArray⟩ ∧ Below W2.heap.size W2 wr2) (fun _ c _ => names.length - (intOf c).toNat)
            case atStart => exact ⟨0, by omega, rfl, rfl, HB.out⟩
            case round =>
              clear HB c0 c1 hsz
              obtain ⟨q, hq, rfl, rfl, hbw⟩ := hrel
              have HB := Lib.hid hbw
              have c0 := Xk.ext_cell hbw K0.out
              have c1 := Xk.ext_cell hbw K1.out
              have hsz := hbw.size
              have lw2 : w.heap.size < wr.heap.size := by omega
              have lw1 : w.heap.size + 1 < wr.heap.size := by omega
              have lw3 : w1.heap.size < wr.heap.size := by omega
              clear hbw
              by_cases hlq : q < names.length
              · obtain ⟨⟨cw, ca⟩, hc⟩ : ∃ c, cs[q]? = some c := ⟨_, List.getElem?_eq_getElem (by have := HCL.out; omega)⟩
                obtain ⟨c2, c3⟩ := HCW.out q _ hc
                have c2 := Xk.ext_cell HB.out c2
                have c3 := Xk.ext_cell HB.out c3
                have hp := P25.rules_get hc
                have hcm : cw ≤ 4000000 := by have h := HMM.out _ (List.mem_of_getElem? hp); rw [List.length_replicate] at h; exact h
                have HR : Hid (∀ W, Calls Tryz.prog 29 #[.int .i64 cw, .int .u8 45] W fun e w' => e = .returned (.string ⟨(List.replicate cw 45).toArray⟩) ∧ Below W.heap.size W w') := Lib.hid fun W => fill_any cw 45 W hcm
                have hlen : (List.replicate cw (45 : UInt8)).length = cw := by simp
                have hqb : (q : Int) < (names.length : Int) := by omega
                have Hp' : Hid ((P25.rules cs)[q]? = some (List.replicate cw 45)) := hp
                generalize List.replicate cw (45 : UInt8) = f at HR Hp' hlen
                have hfl : f.length ≤ 4000000 := by omega
                clear hp hlen
                dsimp only at c2 c3
                have hA := HJ.out q
                by_cases h0 : 0 < q
                · have h0' : (0 : Int) < (q : Int) := by omega
                  have Happ := Lib.hid (cell_more [45, 43, 45] _ q _ Hp'.out h0)
                  clear h0 Hp'
                  go_wp2_with (first | (go_at_call 29; (with_reducible refine (HR.out _).mono ?_); rintro e w' ⟨rfl, hb⟩; obtain ⟨p, rfl⟩ := Xk.exw_of hb; clear hb))
                  go_roundw
                  case rel => exact ⟨q + 1, by omega, by go_num, (by
                    have h := Happ.out
                    first
                      | exact congrArg Value.string h
                      | (refine congrArg Value.string (Eq.trans ?_ h); apply bytes_ext; simp)), (by repeat (first | with_reducible exact HB.out | with_reducible exact Below.refl _ _ | ((with_reducible refine Below.setCell ?_ ?_ _); rotate_left; exact (by (try simp only [World.size_alloc, Xk.exw_size, World.size_setCell, World.size_drew, World.heap_drewN]); omega)) | ((with_reducible refine Below.alloc ?_ ?_ _); rotate_left; exact (by (try simp only [World.size_alloc, Xk.exw_size, World.size_setCell, World.size_drew, World.heap_drewN]); omega)) | ((with_reducible refine Xk.below_exw ?_ ?_ _); rotate_left; exact (by (try simp only [World.size_alloc, Xk.exw_size, World.size_setCell, World.size_drew, World.heap_drewN]); omega)) | (with_reducible refine Below.drew ?_)))⟩
                  case measure => simp [intOf]; omega
                · have h0' : ¬ (0 : Int) < (q : Int) := by omega
                  have Happ := Lib.hid (cell_first [45, 43, 45] _ q _ Hp'.out (by omega))
                  clear h0 Hp'
                  go_wp2_with (first | (go_at_call 29; (with_reducible refine (HR.out _).mono ?_); rintro e w' ⟨rfl, hb⟩; obtain ⟨p, rfl⟩ := Xk.exw_of hb; clear hb))
                  go_roundw
                  case rel => exact ⟨q + 1, by omega, by go_num, (by
                    have h := Happ.out
                    first
                      | exact congrArg Value.string h
                      | (refine congrArg Value.string (Eq.trans ?_ h); apply bytes_ext; simp)), (by repeat (first | with_reducible exact HB.out | with_reducible exact Below.refl _ _ | ((with_reducible refine Below.setCell ?_ ?_ _); rotate_left; exact (by (try simp only [World.size_alloc, Xk.exw_size, World.size_setCell, World.size_drew, World.heap_drewN]); omega)) | ((with_reducible refine Below.alloc ?_ ?_ _); rotate_left; exact (by (try simp only [World.size_alloc, Xk.exw_size, World.size_setCell, World.size_drew, World.heap_drewN]); omega)) | ((with_reducible refine Xk.below_exw ?_ ?_ _); rotate_left; exact (by (try simp only [World.size_alloc, Xk.exw_size, World.size_setCell, World.size_drew, World.heap_drewN]); omega)) | (with_reducible refine Below.drew ?_)))⟩
                  case measure => simp [intOf]; omega
              · obtain rfl : q = names.length := by omega
                have hft : (P25.rules cs).take names.length = P25.rules cs := List.take_of_length_le (by have := HML.out; omega)
                have hA := HJ.out names.length
                have htl := P25.trimRight_length (Lib.join ((P25.rules cs).take names.length) [45, 43, 45]) 32
                have htl2 : (Lib.trimRightB (Lib.join ((P25.rules cs).take names.length) [45, 43, 45]) 32).length ≤ 17000000000 := Nat.le_trans htl hA
                have HT := Lib.hid fun W => refTrimmed_any (Lib.join ((P25.rules cs).take names.length) [45, 43, 45]) W (by omega)
                have HU2 := HU.out
                simp only [P25.bar, P25.cross] at HU2
                rw [← hft] at HU2
                have hsk : s.length ≤ 70000000000000 := by
                  have h1 := HSL.out
                  have h2 := HM0.out
                  have h3 := Nat.mul_le_mul (show 0 + 1 + 1 - 1 ≤ 4098 by omega) (Nat.le_refl M0)
                  simp only [Nat.add_sub_cancel] at h3
                  omega
                generalize Lib.trimRightB (Lib.join ((P25.rules cs).take names.length) [45, 43, 45]) 32 = u at HT HU2 htl2
                have Happ : Hid (((⟨s.toArray⟩ : ByteArray) ++ ⟨u.toArray⟩ ++ ⟨#[10]⟩) = ⟨(s ++ (u ++ [10])).toArray⟩) := Lib.hid (by apply bytes_ext; simp)
                have HU3 := Lib.hid HU2
                clear hft htl HU2
                go_wp2_with (first | (go_at_call 30; (with_reducible refine (HT.out _).mono ?_); rintro e w' ⟨rfl, hb⟩; obtain ⟨p, rfl⟩ := Xk.exw_of hb; clear hb))
                go_roundw
                case rel => exact ⟨0 + 1 + 1, _, s ++ (u ++ [10]), by omega, by go_num, by have := Hr.out; omega, (by
                  have h := Happ.out
                  first
                    | exact congrArg Value.string h
                    | (refine congrArg Value.string (Eq.trans ?_ h); apply bytes_ext; simp)), (by repeat (first | with_reducible exact HB.out | with_reducible exact Below.refl _ _ | ((with_reducible refine Below.setCell ?_ ?_ _); rotate_left; exact (by (try simp only [World.size_alloc, Xk.exw_size, World.size_setCell, World.size_drew, World.heap_drewN]); omega)) | ((with_reducible refine Below.alloc ?_ ?_ _); rotate_left; exact (by (try simp only [World.size_alloc, Xk.exw_size, World.size_setCell, World.size_drew, World.heap_drewN]); omega)) | ((with_reducible refine Xk.below_exw ?_ ?_ _); rotate_left; exact (by (try simp only [World.size_alloc, Xk.exw_size, World.size_setCell, World.size_drew, World.heap_drewN]); omega)) | (with_reducible refine Below.drew ?_))), by rw [HS.out, HU3.out], by
                  have h1 := HSL.out
                  have h2 := HM0.out
                  simp only [List.length_append, List.length_cons, List.length_nil]
                  rw [show 0 + 1 + 1 = (0 + 1 + 1 - 1) + 1 by omega, Nat.succ_mul]
                  simp only [Nat.add_sub_cancel]
                  omega⟩
                case measure => (have := Hr.out; simp [intOf]; omega)
          · obtain rfl : r = (j : Int) := by omega
            have hm2 : ((j : Int) == -2) = false := beq_eq_false_iff_ne.2 (by omega)
            have hm1 : ((j : Int) == -1) = false := beq_eq_false_iff_ne.2 (by omega)
            have hge : 0 ≤ (j : Int) := by omega
            have hjl : j < L.length := by omega
            have hlc : (j : Int) < (L.length : Int) := by omega
            have Hr := Lib.hid hr
            clear hr
            have hj1 : L[j]? = some L[j] := by simp [hjl]
            have hll := HL.out L[j] (by simp)
            have hrj : (L.map rowOf)[j]? = some (rowOf L[j]) := by simp [hjl]
            have hrm : rowOf L[j] ∈ L.map rowOf := List.mem_map_of_mem (List.getElem_mem _)
            generalize L[j] = l at hj1 hll hrj hrm
            obtain ⟨b1, o1, u1, rfl, e1, hrow⟩ := HR.out j l hj1
            obtain ⟨pa, ca', rfl, hrow'⟩ := hrow
            have E1 := Lib.hid (Xk.ext_cell HWX.out e1)
            have HW3 := Lib.hid (HW2.out _ hrm)
            have HROW := Lib.hid hrow'
            have HLL := Lib.hid hll
            have hML : (P25.pads cs (P25.cells (rowOf l) names.length)).length = names.length := by rw [P25.pads_length (by rw [HCL.out, P25.cells_length]), HCL.out]
            have HML := Lib.hid hML
            have HJ := Lib.hid fun q => P25.join_take_length [32, 124, 32] 4000000 (P25.pads cs (P25.cells (rowOf l) names.length)) q (P25.pads_most (by rw [HCL.out, P25.cells_length]) HW3.out) rfl (by omega) (by omega)
            have HU := Lib.hid (P25.upto_more cs names (L.map rowOf) j _ hrj)
            clear hML hj1 hll hrj hrm hrow' e1
            go_wp2
            go_loopw [13, 14] (fun s c wr2 => ∃ q : Nat, q ≤ names.length ∧ c = .int .i64 q ∧ s = .string ⟨(Lib.join ((P25.pads cs (P25.cells (rowOf l) names.length)).take q) [32, 124, 32]).toArray⟩ ∧ Below W2.heap.size W2 wr2) (fun _ c _ => names.length - (intOf c).toNat)
            case atStart => exact ⟨0, by omega, rfl, rfl, HB.out⟩
            case round =>
              clear HB c0 c1 hsz
              obtain ⟨q, hq, rfl, rfl, hbw⟩ := hrel
              have HB := Lib.hid hbw
              have c0 := Xk.ext_cell hbw K0.out
              have c1 := Xk.ext_cell hbw K1.out
              have hsz := hbw.size
              have lw2 : w.heap.size < wr.heap.size := by omega
              have lw1 : w.heap.size + 1 < wr.heap.size := by omega
              have lw3 : w1.heap.size < wr.heap.size := by omega
              clear hbw
              by_cases hlq : q < names.length
              · obtain ⟨⟨cw, ca⟩, hc⟩ : ∃ c, cs[q]? = some c := ⟨_, List.getElem?_eq_getElem (by have := HCL.out; omega)⟩
                have e1 := Xk.ext_cell HB.out E1.out
                have lb1 := World.block_lt_of_cell? wr _ e1
                obtain ⟨c2, c3⟩ := HCW.out q _ hc
                have c2 := Xk.ext_cell HB.out c2
                have c3 := Xk.ext_cell HB.out c3
                have hxc := P25.cells_at (rowOf l) names.length q hlq
                obtain ⟨ht1, ht2⟩ := HW3.out q _ _ hc hxc
                have Hp := Lib.hid (P25.pads_at2 _ _ _ _ _ hc hxc)
                dsimp only at ht1 ht2 c2 c3
                clear hxc
                by_cases hql : q < l.length
                · have hy : l[q]? = some l[q] := by simp [hql]
                  have hyi := HLL.out.2 l[q] (by simp)
                  generalize l[q] = y at hy hyi
                  obtain ⟨b4, o4, rfl, g1, g2, g3, g5⟩ := HROW.out q y hy
                  have hxw := Xk.Ext.trans HWX.out HB.out
                  have g1 := Xk.ext_cell hxw g1
                  have g2 := Xk.ext_cell hxw g2
                  have g3 := Xk.ext_cell hxw g3
                  have l4 := World.block_lt_of_cell? _ _ g1
                  have htx : P25.text (rowOf l) q = P25.clean (P6.printV y.k y.i y.s.data.toList) := P25.text_some (c := cellOf y) (by simp [rowOf, hy])
                  have HP := Lib.hid fun W => refPrint_any y.k y.i y.s hyi.1 hyi.2 g5 W
                  have hpl : (P6.printV y.k y.i y.s.data.toList).length ≤ 4000000 := by rw [htx, P25.clean_length] at ht1; omega
                  have HCl : Hid (∀ W, Calls Tryz.prog 28 #[.string ⟨(P6.printV y.k y.i y.s.data.toList).toArray⟩] W fun e w' => e = .returned (.string ⟨(P25.text (rowOf l) q).toArray⟩) ∧ Below W.heap.size W w') := Lib.hid fun W => by
                    have h := refClean_any ⟨(P6.printV y.k y.i y.s.data.toList).toArray⟩ hpl W
                    rw [htx]
                    exact h
                  have hqb2 : (q : Int) < (l.length : Int) := by omega
                  generalize P6.printV y.k y.i y.s.data.toList = z at HP HCl
                  generalize P25.text (rowOf l) q = t at HCl Hp ht1
                  clear hy hyi g5 hxw hpl htx
                  have hR : ∀ W, Calls Tryz.prog 29 #[.int .i64 ((cw : Int) - (t.length : Int)), .int .u8 32] W fun e w' => e = .returned (.string ⟨(List.replicate (cw - t.length) 32).toArray⟩) ∧ Below W.heap.size W w' := fun W => by
                    have := fill_any (cw - t.length) 32 W (by omega)
                    rwa [show ((cw - t.length : Nat) : Int) = (cw : Int) - (t.length : Int) by omega] at this
                  have HR := Lib.hid hR
                  have hwr : IntKind.i64.wrap ((cw : Int) - (t.length : Int)) = (cw : Int) - (t.length : Int) := IntWalk.i64_in _ (by omega)
                  have hlen : (List.replicate (cw - t.length) (32 : UInt8)).length = cw - t.length := by simp
                  have hqb : (q : Int) < (names.length : Int) := by omega
                  clear hR
                  cases ca
                  · have Hp' : Hid ((P25.pads cs (P25.cells (rowOf l) names.length))[q]? = some (t ++ List.replicate (cw - t.length) 32)) := Hp
                    generalize List.replicate (cw - t.length) (32 : UInt8) = f at HR Hp' hlen
                    clear Hp
                    have hA := HJ.out q
                    have hfl : f.length ≤ 4000000 := by omega
                    have htl : t.length ≤ 4000000 := by omega
                    clear hlen ht1 ht2
                    by_cases h0 : 0 < q
                    · have h0' : (0 : Int) < (q : Int) := by omega
                      have Happ := Lib.hid (cell_more [32, 124, 32] _ q _ Hp'.out h0)
                      clear h0 Hp'
                      go_wp2_with (first | (go_at_call 15; (with_reducible refine (HP.out _).mono ?_); rintro e w' ⟨rfl, hb⟩; obtain ⟨p, rfl⟩ := Xk.exw_of hb; clear hb) | (go_at_call 28; (with_reducible refine (HCl.out _).mono ?_); rintro e w' ⟨rfl, hb⟩; obtain ⟨p, rfl⟩ := Xk.exw_of hb; clear hb) | ((go_at_call 29; (with_reducible refine (HR.out _).mono ?_); rintro e w' ⟨rfl, hb⟩; obtain ⟨p, rfl⟩ := Xk.exw_of hb; clear hb); clear hwr))
                      go_roundw
                      case rel => exact ⟨q + 1, by omega, by go_num, by
                        have h := Happ.out
                        rw [← str_app] at h
                        exact congrArg Value.string h, (by repeat (first | with_reducible exact HB.out | with_reducible exact Below.refl _ _ | ((with_reducible refine Below.setCell ?_ ?_ _); rotate_left; exact (by (try simp only [World.size_alloc, Xk.exw_size, World.size_setCell, World.size_drew, World.heap_drewN]); omega)) | ((with_reducible refine Below.alloc ?_ ?_ _); rotate_left; exact (by (try simp only [World.size_alloc, Xk.exw_size, World.size_setCell, World.size_drew, World.heap_drewN]); omega)) | ((with_reducible refine Xk.below_exw ?_ ?_ _); rotate_left; exact (by (try simp only [World.size_alloc, Xk.exw_size, World.size_setCell, World.size_drew, World.heap_drewN]); omega)) | (with_reducible refine Below.drew ?_)))⟩
                      case measure => simp [intOf]; omega
                    · have h0' : ¬ (0 : Int) < (q : Int) := by omega
                      have Happ := Lib.hid (cell_first [32, 124, 32] _ q _ Hp'.out (by omega))
                      clear h0 Hp'
                      go_wp2_with (first | (go_at_call 15; (with_reducible refine (HP.out _).mono ?_); rintro e w' ⟨rfl, hb⟩; obtain ⟨p, rfl⟩ := Xk.exw_of hb; clear hb) | (go_at_call 28; (with_reducible refine (HCl.out _).mono ?_); rintro e w' ⟨rfl, hb⟩; obtain ⟨p, rfl⟩ := Xk.exw_of hb; clear hb) | ((go_at_call 29; (with_reducible refine (HR.out _).mono ?_); rintro e w' ⟨rfl, hb⟩; obtain ⟨p, rfl⟩ := Xk.exw_of hb; clear hb); clear hwr))
                      go_roundw
                      case rel => exact ⟨q + 1, by omega, by go_num, by
                        have h := Happ.out
                        rw [← str_app] at h
                        exact congrArg Value.string h, (by repeat (first | with_reducible exact HB.out | with_reducible exact Below.refl _ _ | ((with_reducible refine Below.setCell ?_ ?_ _); rotate_left; exact (by (try simp only [World.size_alloc, Xk.exw_size, World.size_setCell, World.size_drew, World.heap_drewN]); omega)) | ((with_reducible refine Below.alloc ?_ ?_ _); rotate_left; exact (by (try simp only [World.size_alloc, Xk.exw_size, World.size_setCell, World.size_drew, World.heap_drewN]); omega)) | ((with_reducible refine Xk.below_exw ?_ ?_ _); rotate_left; exact (by (try simp only [World.size_alloc, Xk.exw_size, World.size_setCell, World.size_drew, World.heap_drewN]); omega)) | (with_reducible refine Below.drew ?_)))⟩
                      case measure => simp [intOf]; omega
                  · have Hp' : Hid ((P25.pads cs (P25.cells (rowOf l) names.length))[q]? = some (List.replicate (cw - t.length) 32 ++ t)) := Hp
                    generalize List.replicate (cw - t.length) (32 : UInt8) = f at HR Hp' hlen
                    clear Hp
                    have hA := HJ.out q
                    have hfl : f.length ≤ 4000000 := by omega
                    have htl : t.length ≤ 4000000 := by omega
                    clear hlen ht1 ht2
                    by_cases h0 : 0 < q
                    · have h0' : (0 : Int) < (q : Int) := by omega
                      have Happ := Lib.hid (cell_more [32, 124, 32] _ q _ Hp'.out h0)
                      clear h0 Hp'
                      go_wp2_with (first | (go_at_call 15; (with_reducible refine (HP.out _).mono ?_); rintro e w' ⟨rfl, hb⟩; obtain ⟨p, rfl⟩ := Xk.exw_of hb; clear hb) | (go_at_call 28; (with_reducible refine (HCl.out _).mono ?_); rintro e w' ⟨rfl, hb⟩; obtain ⟨p, rfl⟩ := Xk.exw_of hb; clear hb) | ((go_at_call 29; (with_reducible refine (HR.out _).mono ?_); rintro e w' ⟨rfl, hb⟩; obtain ⟨p, rfl⟩ := Xk.exw_of hb; clear hb); clear hwr))
                      go_roundw
                      case rel => exact ⟨q + 1, by omega, by go_num, by
                        have h := Happ.out
                        rw [← str_app] at h
                        exact congrArg Value.string h, (by repeat (first | with_reducible exact HB.out | with_reducible exact Below.refl _ _ | ((with_reducible refine Below.setCell ?_ ?_ _); rotate_left; exact (by (try simp only [World.size_alloc, Xk.exw_size, World.size_setCell, World.size_drew, World.heap_drewN]); omega)) | ((with_reducible refine Below.alloc ?_ ?_ _); rotate_left; exact (by (try simp only [World.size_alloc, Xk.exw_size, World.size_setCell, World.size_drew, World.heap_drewN]); omega)) | ((with_reducible refine Xk.below_exw ?_ ?_ _); rotate_left; exact (by (try simp only [World.size_alloc, Xk.exw_size, World.size_setCell, World.size_drew, World.heap_drewN]); omega)) | (with_reducible refine Below.drew ?_)))⟩
                      case measure => simp [intOf]; omega
                    · have h0' : ¬ (0 : Int) < (q : Int) := by omega
                      have Happ := Lib.hid (cell_first [32, 124, 32] _ q _ Hp'.out (by omega))
                      clear h0 Hp'
                      go_wp2_with (first | (go_at_call 15; (with_reducible refine (HP.out _).mono ?_); rintro e w' ⟨rfl, hb⟩; obtain ⟨p, rfl⟩ := Xk.exw_of hb; clear hb) | (go_at_call 28; (with_reducible refine (HCl.out _).mono ?_); rintro e w' ⟨rfl, hb⟩; obtain ⟨p, rfl⟩ := Xk.exw_of hb; clear hb) | ((go_at_call 29; (with_reducible refine (HR.out _).mono ?_); rintro e w' ⟨rfl, hb⟩; obtain ⟨p, rfl⟩ := Xk.exw_of hb; clear hb); clear hwr))
                      go_roundw
                      case rel => exact ⟨q + 1, by omega, by go_num, by
                        have h := Happ.out
                        rw [← str_app] at h
                        exact congrArg Value.string h, (by repeat (first | with_reducible exact HB.out | with_reducible exact Below.refl _ _ | ((with_reducible refine Below.setCell ?_ ?_ _); rotate_left; exact (by (try simp only [World.size_alloc, Xk.exw_size, World.size_setCell, World.size_drew, World.heap_drewN]); omega)) | ((with_reducible refine Below.alloc ?_ ?_ _); rotate_left; exact (by (try simp only [World.size_alloc, Xk.exw_size, World.size_setCell, World.size_drew, World.heap_drewN]); omega)) | ((with_reducible refine Xk.below_exw ?_ ?_ _); rotate_left; exact (by (try simp only [World.size_alloc, Xk.exw_size, World.size_setCell, World.size_drew, World.heap_drewN]); omega)) | (with_reducible refine Below.drew ?_)))⟩
                      case measure => simp [intOf]; omega
                · have htx : P25.text (rowOf l) q = [] := P25.text_none (by rw [rowOf_length]; omega)
                  rw [htx] at Hp ht1
                  have hqb2 : ¬ (q : Int) < (l.length : Int) := by omega
                  have hfl : (List.replicate cw (32 : UInt8)).length ≤ 4000000 := by rw [List.length_replicate]; exact ht2
                  have HR : Hid (∀ W, Calls Tryz.prog 29 #[.int .i64 cw, .int .u8 32] W fun e w' => e = .returned (.string ⟨(List.replicate cw 32).toArray⟩) ∧ Below W.heap.size W w') := Lib.hid fun W => fill_any cw 32 W ht2
                  have hqb : (q : Int) < (names.length : Int) := by omega
                  have Hp' : Hid ((P25.pads cs (P25.cells (rowOf l) names.length))[q]? = some (List.replicate cw 32)) := by
                    have h := Hp
                    cases ca <;> simpa [P25.pad] using h
                  generalize List.replicate cw (32 : UInt8) = f at HR Hp' hfl
                  clear Hp htx ht1
                  cases ca
                  · have hA := HJ.out q
                    by_cases h0 : 0 < q
                    · have h0' : (0 : Int) < (q : Int) := by omega
                      have Happ := Lib.hid (cell_more [32, 124, 32] _ q _ Hp'.out h0)
                      clear h0 Hp'
                      go_wp2_with (first | (go_at_call 29; (with_reducible refine (HR.out _).mono ?_); rintro e w' ⟨rfl, hb⟩; obtain ⟨p, rfl⟩ := Xk.exw_of hb; clear hb))
                      go_roundw
                      case rel => exact ⟨q + 1, by omega, by go_num, (by
                        have h := Happ.out
                        first
                          | exact congrArg Value.string h
                          | (refine congrArg Value.string (Eq.trans ?_ h); apply bytes_ext; simp)), (by repeat (first | with_reducible exact HB.out | with_reducible exact Below.refl _ _ | ((with_reducible refine Below.setCell ?_ ?_ _); rotate_left; exact (by (try simp only [World.size_alloc, Xk.exw_size, World.size_setCell, World.size_drew, World.heap_drewN]); omega)) | ((with_reducible refine Below.alloc ?_ ?_ _); rotate_left; exact (by (try simp only [World.size_alloc, Xk.exw_size, World.size_setCell, World.size_drew, World.heap_drewN]); omega)) | ((with_reducible refine Xk.below_exw ?_ ?_ _); rotate_left; exact (by (try simp only [World.size_alloc, Xk.exw_size, World.size_setCell, World.size_drew, World.heap_drewN]); omega)) | (with_reducible refine Below.drew ?_)))⟩
                      case measure => simp [intOf]; omega
                    · have h0' : ¬ (0 : Int) < (q : Int) := by omega
                      have Happ := Lib.hid (cell_first [32, 124, 32] _ q _ Hp'.out (by omega))
                      clear h0 Hp'
                      go_wp2_with (first | (go_at_call 29; (with_reducible refine (HR.out _).mono ?_); rintro e w' ⟨rfl, hb⟩; obtain ⟨p, rfl⟩ := Xk.exw_of hb; clear hb))
                      go_roundw
                      case rel => exact ⟨q + 1, by omega, by go_num, (by
                        have h := Happ.out
                        first
                          | exact congrArg Value.string h
                          | (refine congrArg Value.string (Eq.trans ?_ h); apply bytes_ext; simp)), (by repeat (first | with_reducible exact HB.out | with_reducible exact Below.refl _ _ | ((with_reducible refine Below.setCell ?_ ?_ _); rotate_left; exact (by (try simp only [World.size_alloc, Xk.exw_size, World.size_setCell, World.size_drew, World.heap_drewN]); omega)) | ((with_reducible refine Below.alloc ?_ ?_ _); rotate_left; exact (by (try simp only [World.size_alloc, Xk.exw_size, World.size_setCell, World.size_drew, World.heap_drewN]); omega)) | ((with_reducible refine Xk.below_exw ?_ ?_ _); rotate_left; exact (by (try simp only [World.size_alloc, Xk.exw_size, World.size_setCell, World.size_drew, World.heap_drewN]); omega)) | (with_reducible refine Below.drew ?_)))⟩
                      case measure => simp [intOf]; omega
                  · have hA := HJ.out q
                    by_cases h0 : 0 < q
                    · have h0' : (0 : Int) < (q : Int) := by omega
                      have Happ := Lib.hid (cell_more [32, 124, 32] _ q _ Hp'.out h0)
                      clear h0 Hp'
                      go_wp2_with (first | (go_at_call 29; (with_reducible refine (HR.out _).mono ?_); rintro e w' ⟨rfl, hb⟩; obtain ⟨p, rfl⟩ := Xk.exw_of hb; clear hb))
                      go_roundw
                      case rel => exact ⟨q + 1, by omega, by go_num, (by
                        have h := Happ.out
                        first
                          | exact congrArg Value.string h
                          | (refine congrArg Value.string (Eq.trans ?_ h); apply bytes_ext; simp)), (by repeat (first | with_reducible exact HB.out | with_reducible exact Below.refl _ _ | ((with_reducible refine Below.setCell ?_ ?_ _); rotate_left; exact (by (try simp only [World.size_alloc, Xk.exw_size, World.size_setCell, World.size_drew, World.heap_drewN]); omega)) | ((with_reducible refine Below.alloc ?_ ?_ _); rotate_left; exact (by (try simp only [World.size_alloc, Xk.exw_size, World.size_setCell, World.size_drew, World.heap_drewN]); omega)) | ((with_reducible refine Xk.below_exw ?_ ?_ _); rotate_left; exact (by (try simp only [World.size_alloc, Xk.exw_size, World.size_setCell, World.size_drew, World.heap_drewN]); omega)) | (with_reducible refine Below.drew ?_)))⟩
                      case measure => simp [intOf]; omega
                    · have h0' : ¬ (0 : Int) < (q : Int) := by omega
                      have Happ := Lib.hid (cell_first [32, 124, 32] _ q _ Hp'.out (by omega))
                      clear h0 Hp'
                      go_wp2_with (first | (go_at_call 29; (with_reducible refine (HR.out _).mono ?_); rintro e w' ⟨rfl, hb⟩; obtain ⟨p, rfl⟩ := Xk.exw_of hb; clear hb))
                      go_roundw
                      case rel => exact ⟨q + 1, by omega, by go_num, (by
                        have h := Happ.out
                        first
                          | exact congrArg Value.string h
                          | (refine congrArg Value.string (Eq.trans ?_ h); apply bytes_ext; simp)), (by repeat (first | with_reducible exact HB.out | with_reducible exact Below.refl _ _ | ((with_reducible refine Below.setCell ?_ ?_ _); rotate_left; exact (by (try simp only [World.size_alloc, Xk.exw_size, World.size_setCell, World.size_drew, World.heap_drewN]); omega)) | ((with_reducible refine Below.alloc ?_ ?_ _); rotate_left; exact (by (try simp only [World.size_alloc, Xk.exw_size, World.size_setCell, World.size_drew, World.heap_drewN]); omega)) | ((with_reducible refine Xk.below_exw ?_ ?_ _); rotate_left; exact (by (try simp only [World.size_alloc, Xk.exw_size, World.size_setCell, World.size_drew, World.heap_drewN]); omega)) | (with_reducible refine Below.drew ?_)))⟩
                      case measure => simp [intOf]; omega
              · obtain rfl : q = names.length := by omega
                have hft : (P25.pads cs (P25.cells (rowOf l) names.length)).take names.length = P25.pads cs (P25.cells (rowOf l) names.length) := List.take_of_length_le (by have := HML.out; omega)
                have hA := HJ.out names.length
                have htl := P25.trimRight_length (Lib.join ((P25.pads cs (P25.cells (rowOf l) names.length)).take names.length) [32, 124, 32]) 32
                have htl2 : (Lib.trimRightB (Lib.join ((P25.pads cs (P25.cells (rowOf l) names.length)).take names.length) [32, 124, 32]) 32).length ≤ 17000000000 := Nat.le_trans htl hA
                have HT := Lib.hid fun W => refTrimmed_any (Lib.join ((P25.pads cs (P25.cells (rowOf l) names.length)).take names.length) [32, 124, 32]) W (by omega)
                have HU2 := HU.out
                simp only [P25.bar, P25.cross] at HU2
                rw [← hft] at HU2
                have hsk : s.length ≤ 70000000000000 := by
                  have h1 := HSL.out
                  have h2 := HM0.out
                  have h3 := Nat.mul_le_mul (show j + 1 + 1 + 1 - 1 ≤ 4098 by omega) (Nat.le_refl M0)
                  simp only [Nat.add_sub_cancel] at h3
                  omega
                generalize Lib.trimRightB (Lib.join ((P25.pads cs (P25.cells (rowOf l) names.length)).take names.length) [32, 124, 32]) 32 = u at HT HU2 htl2
                have Happ : Hid (((⟨s.toArray⟩ : ByteArray) ++ ⟨u.toArray⟩ ++ ⟨#[10]⟩) = ⟨(s ++ (u ++ [10])).toArray⟩) := Lib.hid (by apply bytes_ext; simp)
                have HU3 := Lib.hid HU2
                clear hft htl HU2
                go_wp2_with (first | (go_at_call 30; (with_reducible refine (HT.out _).mono ?_); rintro e w' ⟨rfl, hb⟩; obtain ⟨p, rfl⟩ := Xk.exw_of hb; clear hb))
                go_roundw
                case rel => exact ⟨j + 1 + 1 + 1, _, s ++ (u ++ [10]), by omega, by go_num, by have := Hr.out; omega, (by
                  have h := Happ.out
                  first
                    | exact congrArg Value.string h
                    | (refine congrArg Value.string (Eq.trans ?_ h); apply bytes_ext; simp)), (by repeat (first | with_reducible exact HB.out | with_reducible exact Below.refl _ _ | ((with_reducible refine Below.setCell ?_ ?_ _); rotate_left; exact (by (try simp only [World.size_alloc, Xk.exw_size, World.size_setCell, World.size_drew, World.heap_drewN]); omega)) | ((with_reducible refine Below.alloc ?_ ?_ _); rotate_left; exact (by (try simp only [World.size_alloc, Xk.exw_size, World.size_setCell, World.size_drew, World.heap_drewN]); omega)) | ((with_reducible refine Xk.below_exw ?_ ?_ _); rotate_left; exact (by (try simp only [World.size_alloc, Xk.exw_size, World.size_setCell, World.size_drew, World.heap_drewN]); omega)) | (with_reducible refine Below.drew ?_))), by rw [HS.out, HU3.out], by
                  have h1 := HSL.out
                  have h2 := HM0.out
                  simp only [List.length_append, List.length_cons, List.length_nil]
                  rw [show j + 1 + 1 + 1 = (j + 1 + 1 + 1 - 1) + 1 by omega, Nat.succ_mul]
                  simp only [Nat.add_sub_cancel]
                  omega⟩
                case measure => (have := Hr.out; simp [intOf]; omega)
        · obtain rfl : k = L.length + 2 := by omega
          have hnl : ¬ r < (L.length : Int) := by omega
          have hfin : s = P25.tableOf (P25.cols names (L.map rowOf)) names (L.map rowOf) := by
            rw [HS.out, ← HCS.out]
            have h := P25.upto_end cs names (L.map rowOf)
            rw [List.length_map] at h
            exact h
          have Hfin := Lib.hid hfin
          clear hfin hr
          go_wp2
          go_ret
          exact ⟨by rw [Hfin.out]; rfl, HWX.out.trans HB.out⟩
end Go.Proofs.YtmoippbmnanajaaGreatDoor
