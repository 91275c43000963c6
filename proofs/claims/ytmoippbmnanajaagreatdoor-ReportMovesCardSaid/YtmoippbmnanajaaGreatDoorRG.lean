/- Walks: report.Table, with columns. -/
import Derived.Test.YtmoippbmnanajaaGreatDoorRF
set_option linter.unusedSimpArgs false
set_option linter.unusedVariables false
namespace Go.Proofs.YtmoippbmnanajaaGreatDoor
open Go.RowKit
theorem rows_most {L : List (List V)} (hl : ∀ l ∈ L, l.length ≤ maxLen ∧ IOk l) : ∀ r ∈ L.map rowOf, ∀ c ∈ r, c.2.length ≤ 82 := by
  intro r hr c hc
  obtain ⟨l, hl', rfl⟩ := List.mem_map.1 hr
  obtain ⟨x, hx, rfl⟩ := List.mem_map.1 hc
  show (P25.clean _).length ≤ 82
  rw [P25.clean_length]
  exact print_small x ((hl l hl').2 x hx)
set_option maxRecDepth 100000 in
set_option maxHeartbeats 8000000 in
theorem table_some (vc vr : Value) (names : List (List UInt8)) (L : List (List V)) (cnt : Int) (w : World) (hE : Env w) (hc : StrsAt w vc names) (hr : RowsAt w vr L)
    (hn0 : 0 < names.length) (hn : names.length ≤ 4096) (hm : ∀ x ∈ names, x.length ≤ 4000000) (hL : L.length ≤ 4096) (hl : ∀ l ∈ L, l.length ≤ maxLen ∧ IOk l) :
    Calls Tryz.prog 10 #[.agg #[vc, vr, .int .i64 cnt]] w fun e w' => e = .returned (.string ⟨(P25.tableOf (P25.cols names (L.map rowOf)) names (L.map rowOf)).toArray⟩) ∧ Below w.heap.size w w' := by
  have hrm := rows_most hl
  have hwid := P25.table_widths names (L.map rowOf) 4000000 hm (fun r hr c hc => Nat.le_trans (hrm r hr c hc) (by omega))
  have HW1 := Lib.hid hwid.1
  have HW2 := Lib.hid hwid.2
  have HST := Lib.hid hc
  have HRT := Lib.hid hr
  obtain ⟨pc, cc, rfl, hc'⟩ := hc.parts
  obtain ⟨pr, cr, rfl, hr'⟩ := hr.parts
  have HC := Lib.hid hc'
  have HR := Lib.hid hr'
  have HL := Lib.hid hl
  have HM := Lib.hid hm
  have HE := Lib.hid hE
  have hnz : ((names.length : Int) == 0) = false := (beq_eq_false_iff_ne).2 (by omega)
  obtain ⟨i0, hi, hz0, hz1, hz2⟩ := info_parts Tryz.infoStrs
  have Hi := Lib.hid hi
  have Hz0 := Lib.hid hz0
  have Hz1 := Lib.hid hz1
  have Hz2 := Lib.hid hz2
  clear hi hz0 hz1 hz2 hc hr hl hm hE hc' hr' hrm hwid
  go_enter Tryz.func10, Tryz.ntmps10
  go_wp2
  generalize hW0 : w.alloc _ = W0
  have hz : W0.heap.size = w.heap.size + 1 := by rw [← hW0]; simp
  have hw0 : Xk.Ext w W0 := by rw [← hW0]; exact ext_alloc _ _
  have k0 : W0.cell? ⟨w.heap.size, 0, none⟩ = some (.slice pc names.length cc) := by rw [← hW0]; simp
  have k1 : W0.cell? ⟨w.heap.size, 1, none⟩ = some (.slice pr L.length cr) := by rw [← hW0]; simp
  have k2 : W0.cell? ⟨w.heap.size, 2, none⟩ = some (.int .i64 cnt) := by rw [← hW0]; simp
  have K0 := Lib.hid k0
  have K1 := Lib.hid k1
  have K2 := Lib.hid k2
  have HW := Lib.hid hw0
  clear hW0 k0 k1 k2 hw0
  go_loopw [3, 25] (fun v x wr => ∃ (q : Nat) (us : List Value), q ≤ L.length ∧ x = .int .i64 q ∧ Below W0.heap.size W0 wr ∧ wr.ownsRow W0.heap.size 22 1 v q us ∧
    ∀ (j : Nat) (u : Value) (l : List V), us[j]? = some u → L[j]? = some l → Xo.Lives W0.heap.size [v.ownBlock] wr (fun W => StrsAt W u (P25.cells (rowOf l) names.length))) (fun _ x _ => L.length - (intOf x).toNat)
  case atStart => exact ⟨0, [], by omega, rfl, Below.refl _ _, World.ownsRow_nil _ _ _ _, fun j u l h => by simp at h⟩
  case round =>
    obtain ⟨q, us, hq, rfl, hbw, ho, hu⟩ := hrel
    have HB := Lib.hid hbw
    have HO := Lib.hid ho
    have HU := Lib.hid hu
    have hsz := hbw.size
    have c0 := Xk.ext_cell hbw K0.out
    have c1 := Xk.ext_cell hbw K1.out
    have lw : w.heap.size < wr.heap.size := by omega
    clear hbw ho hu
    by_cases hlt : q < L.length
    · have hx : L[q]? = some L[q] := by simp [hlt]
      have hll := HL.out L[q] (by simp)
      generalize L[q] = l at hx hll
      obtain ⟨b1, o1, u1, rfl, e1, hrow⟩ := HR.out q l hx
      have hxw := HW.out.trans HB.out
      have e1 := Xk.ext_cell hxw e1
      have hrow1 := hrow.ext hxw
      obtain ⟨pa, ca, rfl, -⟩ := hrow
      have l1 := World.block_lt_of_cell? _ _ e1
      have hqb : (q : Int) < (L.length : Int) := by omega
      have HCe := Lib.hid (cells_any _ l names.length wr (HE.out.ext hxw) hrow1 hll.2 (by omega) hll.1)
      have Hx := Lib.hid hx
      clear hx hll hrow1 hxw
      go_wp2_with (first | (go_at_call 21; (with_reducible refine (HCe.out).mono ?_); rintro e w' ⟨x, rfl, hx, hb⟩; obtain ⟨p, rfl⟩ := Xk.exw_of hb; clear hb; have hx2 := hx.now; obtain ⟨px, cx, rfl, -⟩ := hx2; (try rw [Xk.exw_exw] at hx); have HX := Lib.hid hx; clear hx) | (at_builtin; refine Xo.wpList_appk (w0 := W0) rfl _ _ 49 rfl 22 i0 _ 1 24 Tryz.underlying49 Hi.out Hz0.out Hz1.out Hz2.out rfl (by decide) u3 q us rfl (by repeat (first | with_reducible exact HO.out | with_reducible refine Xo.own_alloc ?_ _ | with_reducible refine Xo.own_drew ?_ | with_reducible refine Xo.own_exw ?_ _)) _ 0 1 1 [.slice px (P25.cells (rowOf l) names.length).length cx] rfl (by decide) rfl (Xo.cells1 (by simp)) (Xo.one1 rfl) (by omega) (by repeat (first | with_reducible exact HB.out | with_reducible exact Below.refl _ _ | ((with_reducible refine Below.setCell ?_ ?_ _); rotate_left; exact (by (try simp only [World.size_alloc, Xk.exw_size, World.size_setCell, World.size_drew, World.heap_drewN]); omega)) | ((with_reducible refine Below.alloc ?_ ?_ _); rotate_left; exact (by (try simp only [World.size_alloc, Xk.exw_size, World.size_setCell, World.size_drew, World.heap_drewN]); omega)) | ((with_reducible refine Xk.below_exw ?_ ?_ _); rotate_left; exact (by (try simp only [World.size_alloc, Xk.exw_size, World.size_setCell, World.size_drew, World.heap_drewN]); omega)) | (with_reducible refine Below.drew ?_))) ?_; intro v' w' ho' hg' hk' hb'; have HO' := Lib.hid ho'; have HG' := Lib.hid hg'; have HK' := Lib.hid hk'; have HB' := Lib.hid hb'; clear ho' hg' hk' hb'))
      go_roundw
      case rel => exact ⟨q + 1, us ++ [.slice px (P25.cells (rowOf l) names.length).length cx], by omega, by go_num, HB'.out, HO'.out,
        Xo.elems_app (R := fun W u l => StrsAt W u (P25.cells (rowOf l) names.length)) HU.out ((Xk.ext_exw _ _).trans (ext_alloc _ _)) (by have := HO.out.1; omega) Hx.out (HX.out.alloc _) (fun b hb => (HO.out.lt b hb).2) HB.out.size HG'.out HK'.out⟩
      case measure => simp [intOf]; omega
    · obtain rfl : q = L.length := by omega
      have HV : Hid (Xo.Lives W0.heap.size [] wr fun W => TextsAt W u3 (L.map fun l => P25.cells (rowOf l) names.length)) := Lib.hid (texts_lives HO.out (by simp) fun j u x hj hx => by
        rw [List.getElem?_map, Option.map_eq_some_iff] at hx
        obtain ⟨l, hl, rfl⟩ := hx
        exact HU.out j u l hj hl)
      have hxw := HW.out.trans HB.out
      have HCo := Lib.hid (columns_any _ _ u3 names L cnt wr (HE.out.ext hxw) (HST.out.ext hxw) (HRT.out.ext hxw) HV.out.now (by omega) (fun x hx => Nat.le_trans (HM.out x hx) (by omega)) (by omega) HL.out)
      have c2 := Xk.ext_cell HB.out K2.out
      clear hxw
      go_wp2_with (first | (go_at_call 22; (with_reducible refine (HCo.out).mono ?_); rintro e w' ⟨x, rfl, hx, hb⟩; obtain ⟨p, rfl⟩ := Xk.exw_of hb; clear hb; have hx2 := hx.now; obtain ⟨px, cx, rfl, -⟩ := hx2; (try rw [Xk.exw_exw] at hx); have HX := Lib.hid hx; clear hx))
      have hb1 := Xk.below_exw HB.out HB.out.size p
      have hCV : Xo.Lives W0.heap.size [none, none] (Xk.exw wr p) fun W => ColsAt W (.slice px (P25.cols names (L.map rowOf)).length cx) (P25.cols names (L.map rowOf)) ∧ TextsAt W u3 (L.map fun l => P25.cells (rowOf l) names.length) :=
        ((HX.out.off (ks := [none, none]) (by simp) HB.out.size).and ((HV.out.ext (Xk.ext_exw _ p)).less (by simp)))
      have HCV := Lib.hid hCV
      have HB1 := Lib.hid hb1
      clear hb1 hCV HX HU HO HB HV HCo c0 c1 c2 hsz lw
      generalize Xk.exw wr p = W1 at HCV HB1
      have hjs := info_parts Tryz.infoStr
      clear Hi Hz0 Hz1 Hz2 i0
      obtain ⟨i0, hi, hz0, hz1, hz2⟩ := hjs
      have Hi := Lib.hid hi
      have Hz0 := Lib.hid hz0
      have Hz1 := Lib.hid hz1
      have Hz2 := Lib.hid hz2
      clear hi hz0 hz1 hz2
      go_loopw [7, 8, 44] (fun vn vk x wr => ∃ q : Nat, q ≤ names.length ∧ x = .int .i64 q ∧ Below W0.heap.size W0 wr ∧ wr.ownsRow W0.heap.size 9 1 vn q (scells ((names.map P25.clean).take q)) ∧
        wr.ownsRow W0.heap.size 9 1 vk q (scells ((P25.rules (P25.cols names (L.map rowOf))).take q)) ∧ (∀ b, vn.ownBlock = some b → vk.ownBlock ≠ some b) ∧
        Xo.Lives W0.heap.size [vn.ownBlock, vk.ownBlock] wr fun W => ColsAt W (.slice px (P25.cols names (L.map rowOf)).length cx) (P25.cols names (L.map rowOf)) ∧ TextsAt W u3 (L.map fun l => P25.cells (rowOf l) names.length)) (fun _ _ x _ => names.length - (intOf x).toNat)
      case atStart => exact ⟨0, by omega, rfl, HB1.out, World.ownsRow_nil _ _ _ _, World.ownsRow_nil _ _ _ _, fun b hb => by simp [Value.ownBlock] at hb, HCV.out⟩
      case round =>
        clear HCV HB1 hq hlt
        obtain ⟨q, hq, rfl, hbw, hon, hok, hne, hcv⟩ := hrel
        have HB := Lib.hid hbw
        have HN := Lib.hid hon
        have HK := Lib.hid hok
        have HNE := Lib.hid hne
        have HCV := Lib.hid hcv
        have c0 := Xk.ext_cell hbw K0.out
        have c1 := Xk.ext_cell hbw K1.out
        have hsz := hbw.size
        have lw := Nat.lt_of_lt_of_le (Nat.lt_of_lt_of_eq (Nat.lt_succ_self w.heap.size) hz.symm) hsz
        clear hbw hon hok hne hcv
        by_cases hlt : q < names.length
        · have hx : names[q]? = some names[q] := by simp [hlt]
          generalize names[q] = x at hx
          have hxm := HM.out x (List.mem_of_getElem? hx)
          obtain ⟨b1, o1, rfl, d1⟩ := HC.out q x hx
          have d1 := Xk.ext_cell (HW.out.trans HB.out) d1
          have l1 := World.block_lt_of_cell? _ _ d1
          obtain ⟨⟨cw, cb⟩, hcq⟩ : ∃ c, (P25.cols names (L.map rowOf))[q]? = some c := ⟨_, P25.cols_at _ _ _ hlt⟩
          have hcw : cw ≤ 4000000 := (HW1.out q _ (P25.clean x) hcq (by simp [hx])).2
          obtain ⟨pc2, cc2, e2, hpc⟩ := HCV.out.now.1.parts
          obtain ⟨bc, oc, rfl, -, -⟩ := hpc q _ hcq
          cases e2
          clear hpc
          have Hn := Lib.hid (P25.names_at hx)
          have Hk := Lib.hid (P25.rules_at hcq)
          obtain ⟨ks, hks⟩ : ∃ ks : Xe.Specs, ks = Xe.specOf 9 1 (q + 1) (scells ((names.map P25.clean).take q) ++ [.string ⟨(P25.clean x).toArray⟩]) u7 ++ Xe.specOf 9 1 (q + 1) (scells ((P25.rules (P25.cols names (L.map rowOf))).take q) ++ [.string ⟨(List.replicate cw (45 : UInt8)).toArray⟩]) u8 := ⟨_, rfl⟩
          have hs7 : ∀ k ∈ ks, u7.ownBlock = some k.1 → k ∈ Xe.specOf 9 1 (q + 1) (scells ((names.map P25.clean).take q) ++ [.string ⟨(P25.clean x).toArray⟩]) u7 := fun k hk e => by
            rw [hks] at hk
            rcases List.mem_append.1 hk with h | h
            · exact h
            · exact absurd (Xe.specOf_block h) (HNE.out _ e)
          have hs8 : ∀ k ∈ ks, u8.ownBlock = some k.1 → k ∈ Xe.specOf 9 1 (q + 1) (scells ((P25.rules (P25.cols names (L.map rowOf))).take q) ++ [.string ⟨(List.replicate cw (45 : UInt8)).toArray⟩]) u8 := fun k hk e => by
            rw [hks] at hk
            rcases List.mem_append.1 hk with h | h
            · exact absurd e (HNE.out _ (Xe.specOf_block h))
            · exact h
          have hsk : ∀ k ∈ ks, some k.1 ∈ [u7.ownBlock, u8.ownBlock] := fun k hk => by
            rw [hks] at hk
            rcases List.mem_append.1 hk with h | h
            · rw [Xe.specOf_block h]; simp
            · rw [Xe.specOf_block h]; simp
          have hsb : ∀ k ∈ ks, W0.heap.size ≤ k.1 ∧ k.1 < wr.heap.size := fun k hk => by
            have := hsk k hk
            simp only [List.mem_cons, List.not_mem_nil, or_false] at this
            rcases this with h | h
            · exact HN.out.lt _ h.symm
            · exact HK.out.lt _ h.symm
          have hxe : ∀ W, Xe.ES ks wr.drew W → Below W0.heap.size W0 W := fun W h => Xe.ES.below (w := wr.drew) (by have := HB.out; exact (by repeat (first | with_reducible exact HB.out | with_reducible exact Below.refl _ _ | ((with_reducible refine Below.setCell ?_ ?_ _); rotate_left; exact (by (try simp only [World.size_alloc, Xk.exw_size, World.size_setCell, World.size_drew, World.heap_drewN]); omega)) | ((with_reducible refine Below.alloc ?_ ?_ _); rotate_left; exact (by (try simp only [World.size_alloc, Xk.exw_size, World.size_setCell, World.size_drew, World.heap_drewN]); omega)) | ((with_reducible refine Xk.below_exw ?_ ?_ _); rotate_left; exact (by (try simp only [World.size_alloc, Xk.exw_size, World.size_setCell, World.size_drew, World.heap_drewN]); omega)) | (with_reducible refine Below.drew ?_)))) h (fun k hk => (hsb k hk).1) (by simpa using HB.out.size)
          have HXE := Lib.hid hxe
          have HF := Lib.hid fun W (h : Xe.ES ks wr.drew W) => (ColsAt.get (h.lives (ls' := [u7.ownBlock, u8.ownBlock]) (w := wr.drew) HCV.out hsk (fun b hb => .inl hb)).now.1 hcq).1
          have HCl := Lib.hid fun W (h : Xe.ES ks wr.drew W) => clean_any ⟨x.toArray⟩ (by show x.length ≤ _; omega) W (HE.out.ext (HW.out.trans (hxe W h)))
          have HRp := Lib.hid fun W => repeat_any 45 cw (by omega) W
          have HS7 := Lib.hid hs7
          have HS8 := Lib.hid hs8
          have HSK := Lib.hid hsk
          have HSB := Lib.hid hsb
          have HKS := Lib.hid hks
          have hqb : (q : Int) < ((P25.cols names (L.map rowOf)).length : Int) := by rw [P25.cols_length]; omega
          clear hx hxm hcq hks hs7 hs8 hsk hsb hxe
          go_wp2
          refine Xe.wp_region_rel (E := Xe.ES ks) (Xe.pre_ES _) 16 (Xe.O2 4 u7.ownBlock 13 u8.ownBlock) (Xe.O2_lt (fun b hb => (HN.out.lt b hb).2) (fun b hb => (HK.out.lt b hb).2)) (Xe.O2_ne HNE.out) [(3, Xe.newFact wr.heap.size (.string ⟨(P25.clean x).toArray⟩)), (4, Xe.appFact W0.heap.size 9 1 wr.heap.size u7 q 1 (scells ((names.map P25.clean).take q) ++ [.string ⟨(P25.clean x).toArray⟩])), (12, Xe.newFact wr.heap.size (.string ⟨(List.replicate cw (45 : UInt8)).toArray⟩)), (13, Xe.appFact W0.heap.size 9 1 wr.heap.size u8 q 1 (scells ((P25.rules (P25.cols names (L.map rowOf))).take q) ++ [.string ⟨(List.replicate cw (45 : UInt8)).toArray⟩]))] (by kernel_rfl) (by kernel_rfl) (Xe.stable_es (by
                      intro y hy
                      simp only [List.mem_cons, List.not_mem_nil, or_false] at hy
                      rcases hy with rfl | rfl | rfl | rfl
                      · exact Xe.newFact.es fun k hk => (HSB.out k hk).2
                      · exact Xe.appFact.es HS7.out fun k hk => (HSB.out k hk).2
                      · exact Xe.newFact.es fun k hk => (HSB.out k hk).2
                      · exact Xe.appFact.es HS8.out fun k hk => (HSB.out k hk).2)) ?_
          simp only [List.take_succ_cons, List.take_zero, List.drop_succ_cons, List.drop_zero]
          repeat (first
            | (refine Xe.rel_det (Xe.pre_ES _) (Xk.wanted_none (by rfl)) (by rfl) (fun K hK => ?_); apply Exists.intro; refine ⟨fun W hx hp => ?_, ?_⟩; (have f1 := HF.out _ hx; go_simp; first | exact ⟨rfl, rfl⟩ | ((try refine ⟨by kernel_rfl, ?_⟩); (first | (go_at_call 23; ((with_reducible refine (HCl.out _ hx).mono ?_); exact fun e w' h => h)) | (go_at_call 24; ((with_reducible refine (HRp.out _).mono ?_); exact fun e w' h => h))))); (go_simp; refine hK _ ?_; clear hK K))
            | (refine Xe.rel_skip (by rfl) (fun K hK => ?_); go_simp; refine hK _ ?_; clear hK K)
            | (refine Xe.rel_det (Xe.pre_ES _) (by rfl) (by rfl) (fun K hK => ?_); apply Exists.intro; refine ⟨fun W hx hp => ?_, ?_⟩; (have f1 := HF.out _ hx; go_simp; first | exact ⟨rfl, rfl⟩ | ((try refine ⟨by kernel_rfl, ?_⟩); (first | (go_at_call 23; ((with_reducible refine (HCl.out _ hx).mono ?_); exact fun e w' h => h)) | (go_at_call 24; ((with_reducible refine (HRp.out _).mono ?_); exact fun e w' h => h))))); (go_simp; refine hK _ ?_; clear hK K)))
          (refine Xe.rel_make (Xe.pre_ES _) (by rfl) (by rfl) (fun W hx hp => ?_) (fun y K hK => ?_); (go_simp; exact Xe.new_one _ _ _ (by have := hx.2.2.2.1; simpa using this)); (go_simp; refine hK _ ?_; clear hK K))
          (refine Xe.rel_make (Xe.pre_ES _) (by rfl) (by rfl) (fun W hx hp => ?_) (fun z1 K hK => ?_); (obtain ⟨g, rfl, hg, hc⟩ := Xe.facts_head hp (by kernel_rfl); exact Xe.make_app _ _ _ _ 22 (by rfl) 9 i0 _ 1 16 Tryz.underlying22 Hi.out Hz0.out Hz1.out Hz2.out rfl (by decide) u7 q (scells ((names.map P25.clean).take q)) (by rfl) (hx.own (m := 1) (news := [.string ⟨(P25.clean x).toArray⟩]) (Xo.own_drew HN.out) HS7.out ) ⟨g, 0, none⟩ 1 1 [.string ⟨(P25.clean x).toArray⟩] (by rfl) (by decide) rfl (Xo.one_at hc) (Xo.one1 rfl) (by omega) (by have := HB.out.size; have := hx.2.2.2.1; simp at this; omega) (by have := hx.2.2.2.1; simpa using this) (by rw [HKS.out]; exact fun k hk => List.mem_append_left _ hk) (by rfl)); (go_simp; refine hK _ ?_; clear hK K))
          repeat (first
            | (refine Xe.rel_det (Xe.pre_ES _) (Xk.wanted_none (by rfl)) (by rfl) (fun K hK => ?_); apply Exists.intro; refine ⟨fun W hx hp => ?_, ?_⟩; (have f1 := HF.out _ hx; go_simp; first | exact ⟨rfl, rfl⟩ | ((try refine ⟨by kernel_rfl, ?_⟩); (first | (go_at_call 23; ((with_reducible refine (HCl.out _ hx).mono ?_); exact fun e w' h => h)) | (go_at_call 24; ((with_reducible refine (HRp.out _).mono ?_); exact fun e w' h => h))))); (go_simp; refine hK _ ?_; clear hK K))
            | (refine Xe.rel_skip (by rfl) (fun K hK => ?_); go_simp; refine hK _ ?_; clear hK K)
            | (refine Xe.rel_det (Xe.pre_ES _) (by rfl) (by rfl) (fun K hK => ?_); apply Exists.intro; refine ⟨fun W hx hp => ?_, ?_⟩; (have f1 := HF.out _ hx; go_simp; first | exact ⟨rfl, rfl⟩ | ((try refine ⟨by kernel_rfl, ?_⟩); (first | (go_at_call 23; ((with_reducible refine (HCl.out _ hx).mono ?_); exact fun e w' h => h)) | (go_at_call 24; ((with_reducible refine (HRp.out _).mono ?_); exact fun e w' h => h))))); (go_simp; refine hK _ ?_; clear hK K)))
          (refine Xe.rel_make (Xe.pre_ES _) (by rfl) (by rfl) (fun W hx hp => ?_) (fun y K hK => ?_); (go_simp; exact Xe.new_one _ _ _ (by have := hx.2.2.2.1; simpa using this)); (go_simp; refine hK _ ?_; clear hK K))
          (refine Xe.rel_make (Xe.pre_ES _) (by rfl) (by rfl) (fun W hx hp => ?_) (fun z2 K hK => ?_); (obtain ⟨g, rfl, hg, hc⟩ := Xe.facts_head hp (by kernel_rfl); exact Xe.make_app _ _ _ _ 22 (by rfl) 9 i0 _ 1 16 Tryz.underlying22 Hi.out Hz0.out Hz1.out Hz2.out rfl (by decide) u8 q (scells ((P25.rules (P25.cols names (L.map rowOf))).take q)) (by rfl) (hx.own (m := 1) (news := [.string ⟨(List.replicate cw (45 : UInt8)).toArray⟩]) (Xo.own_drew HK.out) HS8.out ) ⟨g, 0, none⟩ 1 1 [.string ⟨(List.replicate cw (45 : UInt8)).toArray⟩] (by rfl) (by decide) rfl (Xo.one_at hc) (Xo.one1 rfl) (by omega) (by have := HB.out.size; have := hx.2.2.2.1; simp at this; omega) (by have := hx.2.2.2.1; simpa using this) (by rw [HKS.out]; exact fun k hk => List.mem_append_right _ hk) (by rfl)); (go_simp; refine hK _ ?_; clear hK K))
          repeat (first
            | (refine Xe.rel_det (Xe.pre_ES _) (Xk.wanted_none (by rfl)) (by rfl) (fun K hK => ?_); apply Exists.intro; refine ⟨fun W hx hp => ?_, ?_⟩; (skip; go_simp; first | exact ⟨rfl, rfl⟩ | ((try refine ⟨by kernel_rfl, ?_⟩); (fail))); (go_simp; refine hK _ ?_; clear hK K))
            | (refine Xe.rel_skip (by rfl) (fun K hK => ?_); go_simp; refine hK _ ?_; clear hK K)
            | (refine Xe.rel_det (Xe.pre_ES _) (by rfl) (by rfl) (fun K hK => ?_); apply Exists.intro; refine ⟨fun W hx hp => ?_, ?_⟩; (skip; go_simp; first | exact ⟨rfl, rfl⟩ | ((try refine ⟨by kernel_rfl, ?_⟩); (fail))); (go_simp; refine hK _ ?_; clear hK K)))
          refine Xe.rel_nil (fun W hx hp hg => ?_)
          simp only [Xk.factsAll] at hp
          obtain ⟨⟨q1, q2⟩, -, ⟨p1, p2⟩, -, -⟩ := hp
          have HQ1 := Lib.hid q1
          have HP1 := Lib.hid p1
          have HQ2 := Lib.hid q2
          have HP2 := Lib.hid p2
          have HG := Lib.hid hg
          have HX := Lib.hid hx
          clear q1 p1 q2 p2 hg hx
          go_wp2
          go_roundw
          case rel => exact ⟨q + 1, by omega, by go_num, HXE.out W HX.out, by rw [Hn.out, ← scells_snoc]; exact HP1.out, by rw [Hk.out, ← scells_snoc]; exact HQ1.out,
            Xe.apart_of HG.out (i := 4) (j := 13) (by simp) (by simp) (by decide),
            HX.out.lives HCV.out HSK.out fun b hb => by
              simp only [List.mem_cons, List.not_mem_nil, or_false] at hb ⊢
              rcases hb with hb | hb
              · rcases HP2.out with ⟨g, cap, e1, e2⟩ | ⟨b', hb', e1⟩
                · rw [e2] at hb; rw [e1]; exact .inl (.inl hb)
                · rw [e1] at hb; cases hb; exact .inr (by simpa using hb')
              · rcases HQ2.out with ⟨g, cap, e1, e2⟩ | ⟨b', hb', e1⟩
                · rw [e2] at hb; rw [e1]; exact .inl (.inr hb)
                · rw [e1] at hb; cases hb; exact .inr (by simpa using hb')⟩
          case measure => simp [intOf]; omega
        · obtain rfl : q = names.length := by omega
          have hcols := HCV.out.now.1
          have htx := HCV.out.now.2
          obtain ⟨pt, ct, rfl, -⟩ := htx.parts
          have hcl : (P25.cols names (L.map rowOf)).length = names.length := P25.cols_length _ _
          have hS7 : StrsAt wr u7 (names.map P25.clean) := by have h := StrsAt.own HN.out; rwa [List.take_of_length_le (by simp)] at h
          have hS8 : StrsAt wr u8 (P25.rules (P25.cols names (L.map rowOf))) := by have h := StrsAt.own HK.out; rwa [List.take_of_length_le (by rw [P25.rules_length, hcl]; omega)] at h
          have hmul : names.length * (4000000 + 3) ≤ 17000000000 := by
            have := Nat.mul_le_mul hn (Nat.le_refl (4000000 + 3))
            omega
          have HLn := Lib.hid (line_any _ u7 _ _ 4000000 wr hcols hS7 (by rw [hcl, List.length_map]) (by omega) HW1.out (by omega) (by rw [hcl]; omega))
          have hl1 := P25.line_most (cs := P25.cols names (L.map rowOf)) (l := names.map P25.clean) (by rw [hcl, List.length_map]) HW1.out
          have hl2 := P25.join_length P25.cross 4000000 (P25.rules (P25.cols names (L.map rowOf))) (fun y hy => by
            obtain ⟨c, hc, rfl⟩ := List.mem_map.1 hy
            obtain ⟨i, hi⟩ := List.mem_iff_getElem?.1 hc
            rw [List.length_replicate]
            have hlt : i < names.length := by have := (List.getElem?_eq_some_iff.1 hi).1; omega
            exact (HW1.out i c _ hi (by rw [List.getElem?_map, List.getElem?_eq_getElem hlt]; rfl)).2)
          rw [P25.rules_length, hcl] at hl2
          have hl3 : (Lib.join (P25.rules (P25.cols names (L.map rowOf))) P25.cross).length ≤ 17000000000 := Nat.le_trans hl2 hmul
          rw [hcl] at hl1
          have hl4 : (P25.line (P25.cols names (L.map rowOf)) (names.map P25.clean)).length ≤ 17000000001 := by omega
          have HJn := Lib.hid fun p => join_any u8 (P25.rules (P25.cols names (L.map rowOf))) P25.cross (Xk.exw wr p) (hS8.ext (Xk.ext_exw _ _)) (by rw [P25.rules_length]; omega) (by omega)
          unfold P25.cross at HJn
          have hhead : ((⟨(P25.line (P25.cols names (L.map rowOf)) (names.map P25.clean)).toArray⟩ : ByteArray) ++ ⟨(Lib.join (P25.rules (P25.cols names (L.map rowOf))) [45, 43, 45]).toArray⟩ ++ ⟨#[10]⟩) =
              ⟨(P25.line (P25.cols names (L.map rowOf)) (names.map P25.clean) ++ Lib.join (P25.rules (P25.cols names (L.map rowOf))) P25.cross ++ [10]).toArray⟩ := by
            apply bytes_ext
            simp [P25.cross]
          have hl5 : (P25.line (P25.cols names (L.map rowOf)) (names.map P25.clean) ++ Lib.join (P25.rules (P25.cols names (L.map rowOf))) P25.cross ++ [10]).length ≤ 34000000002 := by
            simp only [List.length_append, List.length_cons, List.length_nil]; omega
          unfold P25.cross at hl3
          have Hhead := Lib.hid hhead
          have HL4 := Lib.hid hl4
          have HL5 := Lib.hid hl5
          have HCT := Lib.hid (And.intro hcols htx)
          have Hmul := Lib.hid hmul
          have Hcl := Lib.hid hcl
          clear hhead hcols htx hS7 hS8 hl1 hl2 hcl hmul hl5
          have hL1 : (P25.line (P25.cols names (L.map rowOf)) (names.map P25.clean)).length + (Lib.join (P25.rules (P25.cols names (L.map rowOf))) [45, 43, 45]).length ≤ 34000000001 := by omega
          go_wp2_with (first | (go_at_call 25; (with_reducible refine (HLn.out).mono ?_); rintro e w' ⟨rfl, hb⟩; obtain ⟨p, rfl⟩ := Xk.exw_of hb; clear hb) | (go_at_call 26; (with_reducible refine (HJn.out _).mono ?_); rintro e w' ⟨rfl, hb⟩; obtain ⟨p, rfl⟩ := Xk.exw_of hb; clear hb))
          generalize hW2 : Xk.exw wr _ = W2
          have hx2 : Xk.Ext wr W2 := by rw [← hW2]; exact Xk.ext_exw _ _
          have HCT2 : Hid (Xo.Lives W0.heap.size [] W2 fun W => ColsAt W (.slice px (P25.cols names (L.map rowOf)).length cx) (P25.cols names (L.map rowOf)) ∧ TextsAt W (.slice pt (L.map fun l => P25.cells (rowOf l) names.length).length ct) (L.map fun l => P25.cells (rowOf l) names.length)) :=
            Lib.hid ((HCV.out.ext hx2).less (by simp))
          have HB2 := Lib.hid (HB.out.trans (hx2.mono HB.out.size))
          clear hx2 hW2
          clear HLn HJn HCV HB HN HK HNE HCT c0 c1 hsz lw hL1 hl3 hl4
          go_loopw [11, 73] (fun o x wr => ∃ (k : Nat) (s : List UInt8), k ≤ L.length ∧ x = .int .i64 k ∧ o = .string ⟨s.toArray⟩ ∧ Below W2.heap.size W2 wr ∧
            s = P25.line (P25.cols names (L.map rowOf)) (names.map P25.clean) ++ Lib.join (P25.rules (P25.cols names (L.map rowOf))) P25.cross ++ [10] ++ P25.lines (P25.cols names (L.map rowOf)) names.length ((L.map rowOf).take k)) (fun _ x _ => L.length - (intOf x).toNat)
          case atStart => exact ⟨0, _, by omega, rfl, congrArg Value.string Hhead.out, Below.refl _ _, by simp [P25.lines]⟩
          case round =>
            obtain ⟨k, s, hk, rfl, rfl, hbw, hs⟩ := hrel
            have HB := Lib.hid hbw
            have HS := Lib.hid hs
            have HCT3 := HCT2.out.ext hbw
            have hsz2 := hbw.size
            have hcols := HCT3.now.1
            have htx := HCT3.now.2
            have hwm : ∀ r ∈ L.map rowOf, (P25.line (P25.cols names (L.map rowOf)) (P25.cells r names.length)).length ≤ 17000000001 := fun r hr => by
              have h := P25.line_most (cs := P25.cols names (L.map rowOf)) (l := P25.cells r names.length) (by rw [Hcl.out, P25.cells_length]) (HW2.out r hr)
              rw [Hcl.out] at h
              have := Hmul.out
              omega
            have hslen : s.length ≤ 34000000002 + 4096 * 17000000001 := by
              rw [hs, List.length_append]
              have h1 := P25.lines_most ((L.map rowOf).take k) fun r hr => hwm r (List.mem_of_mem_take hr)
              have h2 : ((L.map rowOf).take k).length * 17000000001 ≤ 4096 * 17000000001 := Nat.mul_le_mul_right _ (by simp; omega)
              have := HL5.out
              omega
            clear hbw hs HCT3
            by_cases hlt : k < L.length
            · have hx : (L.map rowOf)[k]? = some (rowOf L[k]) := by simp [hlt]
              have hxc : (L.map fun l => P25.cells (rowOf l) names.length)[k]? = some (P25.cells (rowOf L[k]) names.length) := by simp [hlt]
              have hxm : rowOf L[k] ∈ L.map rowOf := List.mem_map_of_mem (List.getElem_mem _)
              generalize rowOf L[k] = r at hx hxc hxm
              obtain ⟨pt2, ct2, e2, hpt⟩ := htx.parts
              obtain ⟨b1, o1, u1, rfl, d1, hst⟩ := hpt k _ hxc
              cases e2
              have l1 := World.block_lt_of_cell? _ _ d1
              obtain ⟨pu, cu, rfl, -⟩ := hst.parts
              have HLn := Lib.hid (line_any _ _ _ _ 4000000 wr hcols hst (by rw [Hcl.out, P25.cells_length]) (by rw [Hcl.out]; omega) (HW2.out r hxm) (by omega) (by rw [Hcl.out]; have := Hmul.out; omega))
              have hll := hwm r hxm
              have Hla := Lib.hid (P25.lines_at (cs := P25.cols names (L.map rowOf)) (n := names.length) hx)
              have happ := str_app s (P25.line (P25.cols names (L.map rowOf)) (P25.cells r names.length))
              have Happ := Lib.hid happ
              clear happ hpt hcols htx hst hwm hx hxc hxm
              go_wp2_with (first | (go_at_call 25; (with_reducible refine (HLn.out).mono ?_); rintro e w' ⟨rfl, hb⟩; obtain ⟨p, rfl⟩ := Xk.exw_of hb; clear hb))
              go_roundw
              case rel => exact ⟨k + 1, _, by omega, by go_num, congrArg Value.string Happ.out, (by repeat (first | with_reducible exact HB.out | with_reducible exact Below.refl _ _ | ((with_reducible refine Below.setCell ?_ ?_ _); rotate_left; exact (by (try simp only [World.size_alloc, Xk.exw_size, World.size_setCell, World.size_drew, World.heap_drewN]); omega)) | ((with_reducible refine Below.alloc ?_ ?_ _); rotate_left; exact (by (try simp only [World.size_alloc, Xk.exw_size, World.size_setCell, World.size_drew, World.heap_drewN]); omega)) | ((with_reducible refine Xk.below_exw ?_ ?_ _); rotate_left; exact (by (try simp only [World.size_alloc, Xk.exw_size, World.size_setCell, World.size_drew, World.heap_drewN]); omega)) | (with_reducible refine Below.drew ?_))), by rw [HS.out, Hla.out]; simp⟩
              case measure => simp [intOf]; omega
            · obtain rfl : k = L.length := by omega
              clear hcols htx hwm
              go_wp2
              go_ret
              exact ⟨by rw [HS.out, List.take_of_length_le (by simp)]; rfl, HW.out.trans (HB2.out.trans (HB.out.mono HB2.out.size))⟩
end Go.Proofs.YtmoippbmnanajaaGreatDoor
