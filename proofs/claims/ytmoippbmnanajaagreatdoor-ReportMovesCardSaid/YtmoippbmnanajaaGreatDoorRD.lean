/- Walks: report.columns: its two loops. -/
import Derived.Test.YtmoippbmnanajaaGreatDoorRA
set_option linter.unusedSimpArgs false
set_option linter.unusedVariables false
namespace Go.Proofs.YtmoippbmnanajaaGreatDoor
open Go.RowKit
theorem set_set (l : List (Nat × Bool)) (q : Nat) (a b : Nat × Bool) : (l.set q a).set q b = l.set q b := by simp
theorem set_at {α : Type} {l : List α} {q : Nat} {a c : α} (h : l[q]? = some c) : (l.set q a)[q]? = some a := by
  have := (List.getElem?_eq_some_iff.1 h).1
  simp [this]
theorem ext_alloc (w : World) (o : Obj) : Xk.Ext w (w.alloc o) := (Below.refl _ _).alloc (Nat.le_refl _) _
set_option maxRecDepth 100000 in
set_option maxHeartbeats 4000000 in
theorem columns_any (vc vr vt : Value) (names : List (List UInt8)) (L : List (List V)) (cnt : Int) (w : World) (hE : Env w) (hc : StrsAt w vc names) (hr : RowsAt w vr L) (ht : TextsAt w vt (L.map fun l => P25.cells (rowOf l) names.length))
    (hn : names.length ≤ 100000) (hm : ∀ x ∈ names, x.length ≤ 4000000000) (hL : L.length ≤ 100000) (hl : ∀ l ∈ L, l.length ≤ maxLen ∧ IOk l) :
    Calls Tryz.prog 22 #[.agg #[vc, vr, .int .i64 cnt], vt] w fun e w' => ∃ v, e = .returned v ∧ Xo.Lives w.heap.size [] w' (fun W => ColsAt W v (P25.cols names (L.map rowOf))) ∧ Below w.heap.size w w' := by
  obtain ⟨pc, cc, rfl, hc'⟩ := hc.parts
  obtain ⟨pr, cr, rfl, hr'⟩ := hr.parts
  obtain ⟨pt, ct, rfl, ht'⟩ := ht.parts
  rw [List.length_map]
  have HC := Lib.hid hc'
  have HR := Lib.hid hr'
  have HT := Lib.hid ht'
  have HL := Lib.hid hl
  have HM := Lib.hid hm
  have HE := Lib.hid hE
  obtain ⟨i0, hi, hz0, hz1, hz2⟩ := info_parts Tryz.infoCol
  have Hi := Lib.hid hi
  have Hz0 := Lib.hid hz0
  have Hz1 := Lib.hid hz1
  have Hb : Hid (i0.bytes * names.length ≤ 281474976710656) := Lib.hid (by rw [hz2]; omega)
  clear hi hz0 hz1 hz2 hc hr ht hl hm hE hc' hr' ht'
  go_enter Tryz.func22, Tryz.ntmps22
  go_wp2_with (at_make; refine wpList_make_full _ rfl _ _ 51 rfl (w.heap.size + 1) 56 i0 _ 2 Tryz.underlying51 Hi.out Hz0.out Hz1.out .i64 .i64 _ _ names.length rfl rfl rfl rfl Hb.out (by unfold maxLen; omega) (by simp) ?_; intro w1 ho hgr; have c0 := hgr.cell (a := ⟨w.heap.size, 0, none⟩) (v := .slice pc names.length cc) (by simp) (by simp); have c1 := hgr.cell (a := ⟨w.heap.size, 1, none⟩) (v := .slice pr L.length cr) (by simp) (by simp); have HO := Lib.hid ho; have HG := Lib.hid hgr; clear ho hgr)
  obtain ⟨W0, hW0⟩ : ∃ W0, W0 = w.alloc (.cells #[.slice pc names.length cc, .slice pr L.length cr, .int .i64 cnt] 25) := ⟨_, rfl⟩
  have ho := HO.out
  have hgr := HG.out
  rw [← hW0] at hgr
  rw [World.size_alloc] at ho
  have hz : W0.heap.size = w.heap.size + 1 := by rw [hW0]; simp
  have hw0 : Xk.Ext w W0 := by rw [hW0]; exact ext_alloc _ _
  have k0 : W0.cell? ⟨w.heap.size, 0, none⟩ = some (.slice pc names.length cc) := by rw [hW0]; simp
  have k1 : W0.cell? ⟨w.heap.size, 1, none⟩ = some (.slice pr L.length cr) := by rw [hW0]; simp
  have HB := Lib.hid (below_grown hgr (Nat.le_refl _))
  have K0 := Lib.hid k0
  have K1 := Lib.hid k1
  have HW := Lib.hid hw0
  clear HO HG hgr hW0 k0 k1 hw0
  have HO := Lib.hid ho
  clear ho
  go_loopw [19] (fun x wr => ∃ q : Nat, q ≤ names.length ∧ x = .int .i64 q ∧ Below W0.heap.size W0 wr ∧ wr.ownsRow (w.heap.size + 1) 56 2 (.slice (some ⟨w.heap.size + 1, 0, none⟩) names.length names.length) names.length (ccells (P25.colsUpto names (L.map rowOf) q))) (fun x _ => names.length - (intOf x).toNat)
  case atStart => exact ⟨0, by omega, rfl, HB.out, by
    have h := HO.out
    rw [show (Value.agg #[.int .i64 0, .bool false]).cells = #[.int .i64 0, .bool false] by kernel_rfl, ccells_replicate] at h
    rw [P25.colsUpto_zero]
    exact h⟩
  case round =>
    clear HB HO c0 c1
    obtain ⟨q, hq, rfl, hbw, ho⟩ := hrel
    have HB := Lib.hid hbw
    have HO := Lib.hid ho
    clear hbw ho
    have c0 := Xk.ext_cell HB.out K0.out
    have c1 := Xk.ext_cell HB.out K1.out
    by_cases hlt : q < names.length
    · have hx : names[q]? = some names[q] := by simp [hlt]
      have hxm := HM.out names[q] (by simp)
      have hxd : names.getD q [] = names[q] := by simp [hlt]
      generalize names[q] = x at hx hxm hxd
      obtain ⟨b, off, rfl, d1⟩ := HC.out q x hx
      have d1 := Xk.ext_cell (HW.out.trans HB.out) d1
      have lb := World.block_lt_of_cell? wr _ d1
      have HCl := Lib.hid (clean_any ⟨x.toArray⟩ (by show x.length ≤ _; omega) wr (HE.out.ext (HW.out.trans HB.out)))
      have hcl : (P25.clean x).length = x.length := P25.clean_length x
      have hcl2 : (P25.clean x).length ≤ 4000000000 := by omega
      have Hcl := Lib.hid hcl
      have Hx := Lib.hid hx
      have Hxd := Lib.hid hxd
      clear hcl hx hxd hxm
      have hc0 := HO.out.cellAt (q * 2) (by omega)
      have hc1 := HO.out.cellAt (q * 2 + 1) (by omega)
      have hat := P25.colsUpto_at names (L.map rowOf) q hlt
      rw [(ccells_at _ _ _ hat).1] at hc0
      rw [(ccells_at _ _ _ hat).2] at hc1
      have hf := HO.out.frozenAt (q * 2)
      obtain ⟨-, hg⟩ := own_base HO.out
      have lw : w.heap.size < wr.heap.size := by omega
      have Hat := Lib.hid hat
      clear hat
      go_wp2_with (first | (go_at_call 23; (with_reducible refine (HCl.out).mono ?_); rintro e w' ⟨rfl, hb⟩; obtain ⟨p, rfl⟩ := Xk.exw_of hb; clear hb))
      generalize hS : (⟨x.length, 0, true⟩ : P25.Col) = s0
      go_loopw [8, 9, 34] (fun u8 u9 u34 wr => ∃ (k : Nat) (s : P25.Col), k ≤ L.length ∧ s = P25.col x ((L.map rowOf).take k) q ∧ u8 = .int .i64 s.n ∧ u9 = .bool s.ints ∧ u34 = .int .i64 k ∧ Below W0.heap.size W0 wr ∧
        wr.ownsRow (w.heap.size + 1) 56 2 (.slice (some ⟨w.heap.size + 1, 0, none⟩) names.length names.length) names.length (ccells ((P25.colsUpto names (L.map rowOf) q).set q (s.wide, false)))) (fun _ _ x _ => L.length - (intOf x).toNat)
      case atStart => exact ⟨0, ⟨x.length, 0, true⟩, by omega, rfl, rfl, rfl, rfl, (by repeat (first | with_reducible exact HB.out | with_reducible exact Below.refl _ _ | ((with_reducible refine Below.setCell ?_ ?_ _); rotate_left; exact (by (try simp only [World.size_alloc, Xk.exw_size, World.size_setCell, World.size_drew, World.heap_drewN]); omega)) | ((with_reducible refine Below.alloc ?_ ?_ _); rotate_left; exact (by (try simp only [World.size_alloc, Xk.exw_size, World.size_setCell, World.size_drew, World.heap_drewN]); omega)) | ((with_reducible refine Xk.below_exw ?_ ?_ _); rotate_left; exact (by (try simp only [World.size_alloc, Xk.exw_size, World.size_setCell, World.size_drew, World.heap_drewN]); omega)) | (with_reducible refine Below.drew ?_))), by
        have h1 := (HO.out.stored (q * 2) (.int .i64 (P25.clean x).length)).1
        rw [ccells_set0 _ _ _ _ _ Hat.out, Hcl.out] at h1
        rw [Hcl.out]
        exact ownsRow_ext h1 (Xk.ext_exw _ _)⟩
      case round =>
        clear hS HO HB hc0 hc1 hf hg lw c0 c1 d1 lb
        obtain ⟨k, ⟨sw, sn, si⟩, hk, hs, rfl, rfl, rfl, hbw, ho⟩ := hrel
        dsimp only at ho
        have hsn : sn ≤ 100000 := by
          have := P25.col_n x ((L.map rowOf).take k) q
          rw [← hs] at this
          simp only [List.length_take, List.length_map] at this
          omega
        have HS := Lib.hid hs
        have HB := Lib.hid hbw
        have HO := Lib.hid ho
        clear hs hbw ho
        have c0 := Xk.ext_cell HB.out K0.out
        have c1 := Xk.ext_cell HB.out K1.out
        have hat := set_at (a := (sw, false)) Hat.out
        have hc0 := HO.out.cellAt (q * 2) (by omega)
        have hc1 := HO.out.cellAt (q * 2 + 1) (by omega)
        rw [(ccells_at _ _ _ hat).1] at hc0
        rw [(ccells_at _ _ _ hat).2] at hc1
        have Hat' := Lib.hid hat
        clear hat
        have hf := HO.out.frozenAt (q * 2)
        have hf1 := HO.out.frozenAt (q * 2 + 1)
        obtain ⟨-, hg⟩ := own_base HO.out
        have lw := Nat.lt_trans (Nat.lt_succ_self w.heap.size) hg
        by_cases hkl : k < L.length
        · have hk1 : L[k]? = some L[k] := by simp [hkl]
          have hll := HL.out L[k] (by simp)
          have hct : P25.col x ((L.map rowOf).take (k + 1)) q = (P25.col x ((L.map rowOf).take k) q).step q (rowOf L[k]) := by
            rw [P25.col_take _ _ _ _ (by simpa using hkl)]; simp
          generalize L[k] = l at hk1 hll hct
          obtain ⟨b1, o1, u1, rfl, e1, hrow⟩ := HR.out k l hk1
          obtain ⟨pa, ca, rfl, hrow'⟩ := hrow
          obtain ⟨b2, o2, u2, rfl, e2, hst⟩ := HT.out k (P25.cells (rowOf l) names.length) (by simp [hk1])
          obtain ⟨ps, cs, rfl, hst'⟩ := hst.parts
          rw [P25.cells_length] at e2
          obtain ⟨b3, o3, rfl, e3⟩ := hst' q (P25.text (rowOf l) q) (P25.cells_at _ _ _ hlt)
          rw [← HS.out] at hct
          have hxw := HW.out.trans HB.out
          have e1 := Xk.ext_cell hxw e1
          have e2 := Xk.ext_cell hxw e2
          have e3 := Xk.ext_cell hxw e3
          have l1 := World.block_lt_of_cell? _ _ e1
          have l2 := World.block_lt_of_cell? _ _ e2
          have l3 := World.block_lt_of_cell? _ _ e3
          have Hct := Lib.hid hct
          have hkb : (k : Int) < (L.length : Int) := by omega
          have hqb : (q : Int) < (names.length : Int) := by omega
          by_cases hql : q < l.length
          · have hy : l[q]? = some l[q] := by simp [hql]
            have hyi := hll.2 l[q] (by simp)
            generalize l[q] = y at hy hyi
            obtain ⟨b4, o4, rfl, g1, g2, g3, -⟩ := hrow' q y hy
            have l40 : b4 < w.heap.size := World.block_lt_of_cell? _ _ g1
            have nb : ¬ b4 = w.heap.size + 1 := by omega
            have nb' : ¬ w.heap.size + 1 = b4 := by omega
            have g1 := Xk.ext_cell hxw g1
            have g2 := Xk.ext_cell hxw g2
            have g3 := Xk.ext_cell hxw g3
            have l4 := World.block_lt_of_cell? _ _ g1
            have htx : P25.text (rowOf l) q = (cellOf y).2 := P25.text_some (by simp [rowOf, hy])
            have Hct2 : Hid (P25.col x ((L.map rowOf).take (k + 1)) q = ⟨max sw (P25.text (rowOf l) q).length, sn + 1, si && (decide (y.k = 2) && P6.isV y.k y.i y.s.data.toList)⟩) := Lib.hid (by rw [hct, P25.Col.step_some (c := cellOf y) (by simp [rowOf, hy]), htx]; rfl)
            have hI := fun p => is_any y.k y.i y.s (Xk.exw (wr.setCell ⟨w.heap.size + 1, q * 2, none⟩ (.int .i64 (max (sw : Int) ((P25.text (rowOf l) q).length : Int)))) p)
            generalize P25.text (rowOf l) q = t at e3 Hct2 htx hI
            generalize P6.isV y.k y.i y.s.data.toList = vb at Hct2 hI
            have HI := Lib.hid hI
            have hqb2 : (q : Int) < (l.length : Int) := by omega
            clear hct hxw hrow' hst' hst hk1 Hct hI htx hy hyi
            cases si
            · have Hct2 : Hid (P25.col x ((L.map rowOf).take (k + 1)) q = ⟨max sw t.length, sn + 1, false⟩) := Lib.hid (by rw [Hct2.out]; simp)
              go_wp2
              refine Xk.wp_region_rel' 18 [] trivial (by kernel_rfl) (by kernel_rfl) ?_
              simp only [List.take_succ_cons, List.take_zero, List.drop_succ_cons, List.drop_zero]
              repeat (first
                | (refine Xk.rel_det (Xk.wanted_none (by rfl)) (by rfl) (fun K hK => ?_); apply Exists.intro; refine ⟨fun p hp => ?_, ?_⟩; (go_simp; first | exact ⟨rfl, rfl⟩ | ((try refine ⟨by kernel_rfl, ?_⟩); (fail))); (go_simp; refine hK _ ?_; clear hK K))
                | (refine Xk.rel_skip (by rfl) (fun K hK => ?_); go_simp; refine hK _ ?_; clear hK K)
                | (refine Xk.rel_det (by rfl) (by rfl) (fun K hK => ?_); apply Exists.intro; refine ⟨fun p hp => ?_, ?_⟩; (go_simp; first | exact ⟨rfl, rfl⟩ | ((try refine ⟨by kernel_rfl, ?_⟩); (fail))); (go_simp; refine hK _ ?_; clear hK K)))
              refine Xk.rel_nil (fun p _ => ?_)
              go_wp2
              go_roundw
              case rel => exact ⟨k + 1, ⟨max sw t.length, sn + 1, false⟩, by omega, by rw [Hct2.out], by go_num, rfl, by go_num, (by repeat (first | with_reducible exact HB.out | with_reducible exact Below.refl _ _ | ((with_reducible refine Below.setCell ?_ ?_ _); rotate_left; exact (by (try simp only [World.size_alloc, Xk.exw_size, World.size_setCell, World.size_drew, World.heap_drewN]); omega)) | ((with_reducible refine Below.alloc ?_ ?_ _); rotate_left; exact (by (try simp only [World.size_alloc, Xk.exw_size, World.size_setCell, World.size_drew, World.heap_drewN]); omega)) | ((with_reducible refine Xk.below_exw ?_ ?_ _); rotate_left; exact (by (try simp only [World.size_alloc, Xk.exw_size, World.size_setCell, World.size_drew, World.heap_drewN]); omega)) | (with_reducible refine Below.drew ?_))), by
                have h1 := (HO.out.stored (q * 2) (.int .i64 (max (sw : Int) (t.length : Int)))).1
                have e1 : (ccells ((P25.colsUpto names (L.map rowOf) q).set q (sw, false))).set (q * 2) (.int .i64 (max (sw : Int) (t.length : Int))) = ccells ((P25.colsUpto names (L.map rowOf) q).set q (max sw t.length, false)) := by
                  rw [show (max (sw : Int) (t.length : Int)) = ((max sw t.length : Nat) : Int) by omega]
                  rw [ccells_set0 _ _ _ _ _ Hat'.out, set_set]
                rw [e1] at h1
                exact ownsRow_ext h1 (Xk.ext_exw _ _)⟩
              case measure => simp [intOf]; omega
            · by_cases hk2 : y.k = 2
              · have Hct3 : Hid (P25.col x ((L.map rowOf).take (k + 1)) q = ⟨max sw t.length, sn + 1, vb⟩) := Lib.hid (by rw [Hct2.out, hk2]; simp)
                obtain ⟨yk, yi, ys⟩ := y
                dsimp only at hk2 g1 g2 g3 HI
                subst hk2
                go_wp2
                refine Xk.wp_region_rel' 18 [] trivial (by kernel_rfl) (by kernel_rfl) ?_
                simp only [List.take_succ_cons, List.take_zero, List.drop_succ_cons, List.drop_zero]
                repeat (first
                  | (refine Xk.rel_det (Xk.wanted_none (by rfl)) (by rfl) (fun K hK => ?_); apply Exists.intro; refine ⟨fun p hp => ?_, ?_⟩; (go_simp; first | exact ⟨rfl, rfl⟩ | ((try refine ⟨by kernel_rfl, ?_⟩); (fail))); (go_simp; refine hK _ ?_; clear hK K))
                  | (refine Xk.rel_skip (by rfl) (fun K hK => ?_); go_simp; refine hK _ ?_; clear hK K)
                  | (refine Xk.rel_det (by rfl) (by rfl) (fun K hK => ?_); apply Exists.intro; refine ⟨fun p hp => ?_, ?_⟩; (go_simp; first | exact ⟨rfl, rfl⟩ | ((try refine ⟨by kernel_rfl, ?_⟩); (fail))); (go_simp; refine hK _ ?_; clear hK K)))
                refine Xk.rel_nil (fun p _ => ?_)
                go_wp2_with (first | (go_at_call 49; (with_reducible refine (HI.out _).mono ?_); rintro e w' ⟨rfl, hb⟩; obtain ⟨p, rfl⟩ := Xk.exw_of hb; clear hb))
                go_roundw
                case rel => exact ⟨k + 1, ⟨max sw t.length, sn + 1, vb⟩, by omega, by rw [Hct3.out], by go_num, rfl, by go_num, (by repeat (first | with_reducible exact HB.out | with_reducible exact Below.refl _ _ | ((with_reducible refine Below.setCell ?_ ?_ _); rotate_left; exact (by (try simp only [World.size_alloc, Xk.exw_size, World.size_setCell, World.size_drew, World.heap_drewN]); omega)) | ((with_reducible refine Below.alloc ?_ ?_ _); rotate_left; exact (by (try simp only [World.size_alloc, Xk.exw_size, World.size_setCell, World.size_drew, World.heap_drewN]); omega)) | ((with_reducible refine Xk.below_exw ?_ ?_ _); rotate_left; exact (by (try simp only [World.size_alloc, Xk.exw_size, World.size_setCell, World.size_drew, World.heap_drewN]); omega)) | (with_reducible refine Below.drew ?_))), by
                  have h1 := (HO.out.stored (q * 2) (.int .i64 (max (sw : Int) (t.length : Int)))).1
                  have e1 : (ccells ((P25.colsUpto names (L.map rowOf) q).set q (sw, false))).set (q * 2) (.int .i64 (max (sw : Int) (t.length : Int))) = ccells ((P25.colsUpto names (L.map rowOf) q).set q (max sw t.length, false)) := by
                    rw [show (max (sw : Int) (t.length : Int)) = ((max sw t.length : Nat) : Int) by omega]
                    rw [ccells_set0 _ _ _ _ _ Hat'.out, set_set]
                  rw [e1] at h1
                  exact ownsRow_ext h1 (Xk.ext_exw _ _)⟩
                case measure => simp [intOf]; omega
              · have hk2b : (y.k == 2) = false := by simpa using hk2
                have Hct2 : Hid (P25.col x ((L.map rowOf).take (k + 1)) q = ⟨max sw t.length, sn + 1, false⟩) := Lib.hid (by rw [Hct2.out]; simp [hk2])
                go_wp2
                refine Xk.wp_region_rel' 18 [] trivial (by kernel_rfl) (by kernel_rfl) ?_
                simp only [List.take_succ_cons, List.take_zero, List.drop_succ_cons, List.drop_zero]
                repeat (first
                  | (refine Xk.rel_det (Xk.wanted_none (by rfl)) (by rfl) (fun K hK => ?_); apply Exists.intro; refine ⟨fun p hp => ?_, ?_⟩; (go_simp; first | exact ⟨rfl, rfl⟩ | ((try refine ⟨by kernel_rfl, ?_⟩); (fail))); (go_simp; refine hK _ ?_; clear hK K))
                  | (refine Xk.rel_skip (by rfl) (fun K hK => ?_); go_simp; refine hK _ ?_; clear hK K)
                  | (refine Xk.rel_det (by rfl) (by rfl) (fun K hK => ?_); apply Exists.intro; refine ⟨fun p hp => ?_, ?_⟩; (go_simp; first | exact ⟨rfl, rfl⟩ | ((try refine ⟨by kernel_rfl, ?_⟩); (fail))); (go_simp; refine hK _ ?_; clear hK K)))
                refine Xk.rel_nil (fun p _ => ?_)
                go_wp2
                go_roundw
                case rel => exact ⟨k + 1, ⟨max sw t.length, sn + 1, false⟩, by omega, by rw [Hct2.out], by go_num, rfl, by go_num, (by repeat (first | with_reducible exact HB.out | with_reducible exact Below.refl _ _ | ((with_reducible refine Below.setCell ?_ ?_ _); rotate_left; exact (by (try simp only [World.size_alloc, Xk.exw_size, World.size_setCell, World.size_drew, World.heap_drewN]); omega)) | ((with_reducible refine Below.alloc ?_ ?_ _); rotate_left; exact (by (try simp only [World.size_alloc, Xk.exw_size, World.size_setCell, World.size_drew, World.heap_drewN]); omega)) | ((with_reducible refine Xk.below_exw ?_ ?_ _); rotate_left; exact (by (try simp only [World.size_alloc, Xk.exw_size, World.size_setCell, World.size_drew, World.heap_drewN]); omega)) | (with_reducible refine Below.drew ?_))), by
                  have h1 := (HO.out.stored (q * 2) (.int .i64 (max (sw : Int) (t.length : Int)))).1
                  have e1 : (ccells ((P25.colsUpto names (L.map rowOf) q).set q (sw, false))).set (q * 2) (.int .i64 (max (sw : Int) (t.length : Int))) = ccells ((P25.colsUpto names (L.map rowOf) q).set q (max sw t.length, false)) := by
                    rw [show (max (sw : Int) (t.length : Int)) = ((max sw t.length : Nat) : Int) by omega]
                    rw [ccells_set0 _ _ _ _ _ Hat'.out, set_set]
                  rw [e1] at h1
                  exact ownsRow_ext h1 (Xk.ext_exw _ _)⟩
                case measure => simp [intOf]; omega
          · have Hct2 : Hid (P25.col x ((L.map rowOf).take (k + 1)) q = ⟨sw, sn, si⟩) := Lib.hid (by rw [hct, P25.Col.step_none (by rw [rowOf_length]; omega)])
            have ht0 : P25.text (rowOf l) q = [] := P25.text_none (by rw [rowOf_length]; omega)
            rw [ht0] at e3
            clear hct ht0 hxw hrow' hst' hst hk1 Hct
            go_wp2
            refine Xk.wp_region_rel' 18 [] trivial (by kernel_rfl) (by kernel_rfl) ?_
            simp only [List.take_succ_cons, List.take_zero, List.drop_succ_cons, List.drop_zero]
            repeat (first
              | (refine Xk.rel_det (Xk.wanted_none (by rfl)) (by rfl) (fun K hK => ?_); apply Exists.intro; refine ⟨fun p hp => ?_, ?_⟩; (go_simp; first | exact ⟨rfl, rfl⟩ | ((try refine ⟨by kernel_rfl, ?_⟩); (fail))); (go_simp; refine hK _ ?_; clear hK K))
              | (refine Xk.rel_skip (by rfl) (fun K hK => ?_); go_simp; refine hK _ ?_; clear hK K)
              | (refine Xk.rel_det (by rfl) (by rfl) (fun K hK => ?_); apply Exists.intro; refine ⟨fun p hp => ?_, ?_⟩; (go_simp; first | exact ⟨rfl, rfl⟩ | ((try refine ⟨by kernel_rfl, ?_⟩); (fail))); (go_simp; refine hK _ ?_; clear hK K)))
            refine Xk.rel_nil (fun p _ => ?_)
            go_wp2
            go_roundw
            case rel => exact ⟨k + 1, ⟨sw, sn, si⟩, by omega, Hct2.out.symm, rfl, rfl, by go_num, (by repeat (first | with_reducible exact HB.out | with_reducible exact Below.refl _ _ | ((with_reducible refine Below.setCell ?_ ?_ _); rotate_left; exact (by (try simp only [World.size_alloc, Xk.exw_size, World.size_setCell, World.size_drew, World.heap_drewN]); omega)) | ((with_reducible refine Below.alloc ?_ ?_ _); rotate_left; exact (by (try simp only [World.size_alloc, Xk.exw_size, World.size_setCell, World.size_drew, World.heap_drewN]); omega)) | ((with_reducible refine Xk.below_exw ?_ ?_ _); rotate_left; exact (by (try simp only [World.size_alloc, Xk.exw_size, World.size_setCell, World.size_drew, World.heap_drewN]); omega)) | (with_reducible refine Below.drew ?_))), by
              have h1 := (HO.out.stored (q * 2) (.int .i64 sw)).1
              have e1 : (ccells ((P25.colsUpto names (L.map rowOf) q).set q (sw, false))).set (q * 2) (.int .i64 sw) = ccells ((P25.colsUpto names (L.map rowOf) q).set q (sw, false)) := by
                rw [ccells_set0 _ _ _ _ _ Hat'.out, set_set]
              rw [e1] at h1
              exact ownsRow_ext h1 (Xk.ext_exw _ _)⟩
            case measure => simp [intOf]; omega
        · obtain rfl : k = L.length := by omega
          have Hfin : Hid (P25.col (names.getD q []) (L.map rowOf) q = ⟨sw, sn, si⟩) := Lib.hid (by rw [Hxd.out, HS.out, List.take_of_length_le (by simp)])
          clear hkl
          cases si
          · go_wp2
            go_roundw
            case rel => exact ⟨q + 1, by omega, by go_num, (by repeat (first | with_reducible exact HB.out | with_reducible exact Below.refl _ _ | ((with_reducible refine Below.setCell ?_ ?_ _); rotate_left; exact (by (try simp only [World.size_alloc, Xk.exw_size, World.size_setCell, World.size_drew, World.heap_drewN]); omega)) | ((with_reducible refine Below.alloc ?_ ?_ _); rotate_left; exact (by (try simp only [World.size_alloc, Xk.exw_size, World.size_setCell, World.size_drew, World.heap_drewN]); omega)) | ((with_reducible refine Xk.below_exw ?_ ?_ _); rotate_left; exact (by (try simp only [World.size_alloc, Xk.exw_size, World.size_setCell, World.size_drew, World.heap_drewN]); omega)) | (with_reducible refine Below.drew ?_))), by
              have h1 := (HO.out.stored (q * 2 + 1) (.bool false)).1
              rw [ccells_set1 _ _ _ _ _ Hat'.out, set_set, show (sw, false) = (P25.col (names.getD q []) (L.map rowOf) q).out by rw [Hfin.out]; simp [P25.Col.out], P25.colsUpto_set _ _ _ (by omega)] at h1
              exact h1⟩
            case measure => simp [intOf]; omega
          · by_cases hs0 : 0 < sn
            · have hs1 : (0 : Int) < (sn : Int) := by omega
              go_wp2
              go_roundw
              case rel => exact ⟨q + 1, by omega, by go_num, (by repeat (first | with_reducible exact HB.out | with_reducible exact Below.refl _ _ | ((with_reducible refine Below.setCell ?_ ?_ _); rotate_left; exact (by (try simp only [World.size_alloc, Xk.exw_size, World.size_setCell, World.size_drew, World.heap_drewN]); omega)) | ((with_reducible refine Below.alloc ?_ ?_ _); rotate_left; exact (by (try simp only [World.size_alloc, Xk.exw_size, World.size_setCell, World.size_drew, World.heap_drewN]); omega)) | ((with_reducible refine Xk.below_exw ?_ ?_ _); rotate_left; exact (by (try simp only [World.size_alloc, Xk.exw_size, World.size_setCell, World.size_drew, World.heap_drewN]); omega)) | (with_reducible refine Below.drew ?_))), by
                have h1 := (HO.out.stored (q * 2 + 1) (.bool true)).1
                rw [ccells_set1 _ _ _ _ _ Hat'.out, set_set, show (sw, true) = (P25.col (names.getD q []) (L.map rowOf) q).out by rw [Hfin.out]; simp [P25.Col.out, hs0], P25.colsUpto_set _ _ _ (by omega)] at h1
                exact h1⟩
              case measure => simp [intOf]; omega
            · obtain rfl : sn = 0 := by omega
              go_wp2
              go_roundw
              case rel => exact ⟨q + 1, by omega, by go_num, (by repeat (first | with_reducible exact HB.out | with_reducible exact Below.refl _ _ | ((with_reducible refine Below.setCell ?_ ?_ _); rotate_left; exact (by (try simp only [World.size_alloc, Xk.exw_size, World.size_setCell, World.size_drew, World.heap_drewN]); omega)) | ((with_reducible refine Below.alloc ?_ ?_ _); rotate_left; exact (by (try simp only [World.size_alloc, Xk.exw_size, World.size_setCell, World.size_drew, World.heap_drewN]); omega)) | ((with_reducible refine Xk.below_exw ?_ ?_ _); rotate_left; exact (by (try simp only [World.size_alloc, Xk.exw_size, World.size_setCell, World.size_drew, World.heap_drewN]); omega)) | (with_reducible refine Below.drew ?_))), by
                have h1 := (HO.out.stored (q * 2 + 1) (.bool false)).1
                rw [ccells_set1 _ _ _ _ _ Hat'.out, set_set, show (sw, false) = (P25.col (names.getD q []) (L.map rowOf) q).out by rw [Hfin.out]; simp [P25.Col.out], P25.colsUpto_set _ _ _ (by omega)] at h1
                exact h1⟩
              case measure => simp [intOf]; omega
    · obtain rfl : q = names.length := by omega
      go_wp2
      go_ret
      exact ⟨_, rfl, ((Xo.lives_own HO.out (by simp)).imp fun W h => by have h := ColsAt.own h; rwa [P25.colsUpto_end] at h).le (by omega), HW.out.trans HB.out⟩
end Go.Proofs.YtmoippbmnanajaaGreatDoor
