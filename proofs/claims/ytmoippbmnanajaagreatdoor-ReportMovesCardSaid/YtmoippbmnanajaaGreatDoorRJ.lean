/- Walks: report.cutAt. -/
import Derived.Test.YtmoippbmnanajaaGreatDoorRI
set_option linter.unusedSimpArgs false
set_option linter.unusedVariables false
namespace Go.Proofs.YtmoippbmnanajaaGreatDoor
open Go.RowKit
set_option maxRecDepth 100000 in
set_option maxHeartbeats 8000000 in
theorem cutAt_any (s : List UInt8) (vw : Value) (ws : List Nat) (w : World) (hw : IntsAt w vw ws) (hs : s.length ≤ 2000000000) (hn : ws.length ≤ 100000) (hm : ∀ n ∈ ws, n ≤ 4000000000) :
    Calls Tryz.prog 60 #[.string ⟨s.toArray⟩, vw] w (CutPost w (P25.cut 0 s ws)) := by
  obtain ⟨pw, cw, rfl, hw'⟩ := hw.parts
  have HWs := Lib.hid hw'
  have HM := Lib.hid hm
  obtain ⟨i0, hi, hz0, hz1, hz2⟩ := info_parts Tryz.infoStr
  have Hi := Lib.hid hi
  have Hz0 := Lib.hid hz0
  have Hz1 := Lib.hid hz1
  have Hz2 := Lib.hid hz2
  clear hi hz0 hz1 hz2 hw hw' hm
  go_enter Tryz.func60, Tryz.ntmps60
  go_wp2
  go_loopw [0, 6, 13] (fun a o x wr => ∃ (q : Nat) (t : List UInt8) (l : List (List UInt8)), q ≤ ws.length ∧ x = .int .i64 q ∧ a = .string ⟨t.toArray⟩ ∧ t.length ≤ s.length ∧ Below w.heap.size w wr ∧ wr.ownsRow w.heap.size 9 1 o q (scells l) ∧
    P25.cut 0 s ws = (P25.cut q t (ws.drop q)).map (l ++ ·)) (fun _ _ x _ => ws.length - (intOf x).toNat)
  case atStart => exact ⟨0, s, [], by omega, rfl, rfl, Nat.le_refl _, Below.refl _ _, World.ownsRow_nil _ _ _ _, by simp⟩
  case round =>
    obtain ⟨q, t, l, hq, rfl, rfl, ht, hbw, ho, hc⟩ := hrel
    have HB := Lib.hid hbw
    have HO := Lib.hid ho
    have HS := Lib.hid hc
    have hsz := hbw.size
    clear hbw ho hc
    by_cases hlt : q < ws.length
    · have hx : ws[q]? = some ws[q] := by simp [hlt]
      have Hd : Hid (ws.drop q = ws[q] :: ws.drop (q + 1)) := Lib.hid (List.drop_eq_getElem_cons hlt)
      generalize ws[q] = n at hx Hd
      have hnm := HM.out n (List.mem_of_getElem? hx)
      obtain ⟨b, off, rfl, d1⟩ := HWs.out q n hx
      have d1 := Xk.ext_cell HB.out d1
      have l1 := World.block_lt_of_cell? _ _ d1
      clear hx
      by_cases hq0 : 0 < q
      · have HCP := fun W => Tryz.strings_CutPrefix ⟨t.toArray⟩ ⟨#[32, 124, 32]⟩ W
        have hT : ∀ W, Calls Tryz.prog 61 #[.string ⟨t.toArray⟩] W fun e w' => e = .returned (.string ⟨(Lib.trimB t 32).toArray⟩) ∧ Below W.heap.size W w' := fun W => trimmed_any t (by omega) W
        cases hp : Lib.hasPrefix t P25.bar
        · have hp2 : Lib.hasPrefix (⟨t.toArray⟩ : ByteArray).data.toList (⟨#[32, 124, 32]⟩ : ByteArray).data.toList = false := hp
          have ht2 : Lib.trimPrefix (⟨t.toArray⟩ : ByteArray).data.toList (⟨#[32, 124, 32]⟩ : ByteArray).data.toList = t := by unfold Lib.trimPrefix; rw [if_neg (by rw [hp2]; decide)]
          rw [hp2, ht2] at HCP
          have HC := Lib.hid HCP
          clear HCP hp2 ht2
          by_cases hb1 : Lib.trimB t 32 = []
          · have HREST : P25.rest q t = some [] := by unfold P25.rest; rw [if_neg (by omega), if_neg (by rw [hp]; decide), if_pos (.inl hb1)]
            rw [hb1] at hT
            have HT := Lib.hid hT
            clear hT hb1 hp
            have hmin : min (n : Int) 0 = 0 := by omega
            have hx1 : (⟨#[]⟩ : ByteArray).extract 0 0 = ⟨#[]⟩ := rfl
            have Hdl : Hid (([] : List UInt8).length ≤ s.length) := Lib.hid (Nat.zero_le _)
            have Hrec : Hid (P25.cut 0 s ws = (P25.cut (q + 1) [] (ws.drop (q + 1))).map ((l ++ [[]]) ++ ·)) := Lib.hid (by
              have e : P25.cut q t (n :: ws.drop (q + 1)) = (P25.cut (q + 1) (([] : List UInt8).drop n) (ws.drop (q + 1))).map fun l => ([] : List UInt8).take n :: l := by rw [P25.cut, HREST]
              rw [HS.out, Hd.out, e, List.drop_nil, List.take_nil]
              cases P25.cut (q + 1) [] (ws.drop (q + 1)) <;> simp)
            clear HREST
            go_wp2_with (first | (go_at_call 90; (with_reducible refine (HC.out _).mono ?_); rintro e w' ⟨rfl, hw⟩; have hw := hw.symm; subst hw) | (go_at_call 61; (with_reducible refine (HT.out _).mono ?_); rintro e w' ⟨rfl, hb⟩; obtain ⟨p, rfl⟩ := Xk.exw_of hb; clear hb))
            generalize hW : Xk.exw wr _ = W1
            have HX1 : Hid (Xk.Ext wr W1) := Lib.hid (by rw [← hW]; exact Xk.ext_exw _ _)
            have HO := Lib.hid (Xo.own_ext HO.out HX1.out)
            have HB := Lib.hid (HB.out.trans (HX1.out.mono HB.out.size))
            clear hW
            have HOW : Hid (W1.ownsRow w.heap.size 9 1 u6 q (scells l)) := Lib.hid (by first | exact HO.out | exact Xo.own_exw HO.out _)
            have HBW : Hid (Below w.heap.size w W1) := Lib.hid (by have := HB.out; exact (by repeat (first | with_reducible exact HB.out | with_reducible exact Below.refl _ _ | ((with_reducible refine Below.setCell ?_ ?_ _); rotate_left; exact (by (try simp only [World.size_alloc, Xk.exw_size, World.size_setCell, World.size_drew, World.heap_drewN]); omega)) | ((with_reducible refine Below.alloc ?_ ?_ _); rotate_left; exact (by (try simp only [World.size_alloc, Xk.exw_size, World.size_setCell, World.size_drew, World.heap_drewN]); omega)) | ((with_reducible refine Xk.below_exw ?_ ?_ _); rotate_left; exact (by (try simp only [World.size_alloc, Xk.exw_size, World.size_setCell, World.size_drew, World.heap_drewN]); omega)) | (with_reducible refine Below.drew ?_))))
            obtain ⟨ks, hks⟩ : ∃ ks : Xe.Specs, ks = Xe.specOf 9 1 (q + 1) (scells l ++ [.string ⟨#[]⟩]) u6 := ⟨_, rfl⟩
            have HKS := Lib.hid hks
            have HS6 : Hid (∀ k ∈ ks, u6.ownBlock = some k.1 → k ∈ Xe.specOf 9 1 (q + 1) (scells l ++ [.string ⟨#[]⟩]) u6) := Lib.hid fun k hk _ => by rw [hks] at hk; exact hk
            have HSB : Hid (∀ k ∈ ks, w.heap.size ≤ k.1 ∧ k.1 < W1.heap.size) := Lib.hid fun k hk => by
              rw [hks] at hk
              exact HOW.out.lt _ (Xe.specOf_block hk)
            clear hks
            refine Xe.wp_region_rel (E := Xe.ES ks) (Xe.pre_ES _) 11 (Xe.O2 5 u6.ownBlock 99 none) (Xe.O2_lt (fun b hb => (HOW.out.lt b hb).2) (fun b hb => by cases hb)) (Xe.O2_ne (fun b hb e => by cases e)) [(4, Xe.newFact W1.heap.size (.string ⟨#[]⟩)), (5, Xe.appFact w.heap.size 9 1 W1.heap.size u6 q 1 (scells l ++ [.string ⟨#[]⟩]))] (by kernel_rfl) (by kernel_rfl) (Xe.stable_es (by
                          intro y hy
                          simp only [List.mem_cons, List.not_mem_nil, or_false] at hy
                          rcases hy with rfl | rfl
                          · exact Xe.newFact.es fun k hk => (HSB.out k hk).2
                          · exact Xe.appFact.es HS6.out fun k hk => (HSB.out k hk).2)) ?_
            simp only [List.take_succ_cons, List.take_zero, List.drop_succ_cons, List.drop_zero]
            repeat (first
              | (refine Xe.rel_det (Xe.pre_ES _) (Xk.wanted_none (by rfl)) (by rfl) (fun K hK => ?_); apply Exists.intro; refine ⟨fun W hx hp => ?_, ?_⟩; (skip; go_simp; first | exact ⟨rfl, rfl⟩ | ((try refine ⟨by kernel_rfl, ?_⟩); (fail))); (go_simp; refine hK _ ?_; clear hK K))
              | (refine Xe.rel_skip (by rfl) (fun K hK => ?_); go_simp; refine hK _ ?_; clear hK K)
              | (refine Xe.rel_det (Xe.pre_ES _) (by rfl) (by rfl) (fun K hK => ?_); apply Exists.intro; refine ⟨fun W hx hp => ?_, ?_⟩; (skip; go_simp; first | exact ⟨rfl, rfl⟩ | ((try refine ⟨by kernel_rfl, ?_⟩); (fail))); (go_simp; refine hK _ ?_; clear hK K)))
            (refine Xe.rel_make (Xe.pre_ES _) (by rfl) (by rfl) (fun W hx hp => ?_) (fun y K hK => ?_); (go_simp; exact Xe.new_one _ _ _ (by have := hx.2.2.2.1; simpa using this)); (go_simp; refine hK _ ?_; clear hK K))
            (refine Xe.rel_make (Xe.pre_ES _) (by rfl) (by rfl) (fun W hx hp => ?_) (fun z1 K hK => ?_); (obtain ⟨g, rfl, hg, hc⟩ := Xe.facts_head hp (by kernel_rfl); exact Xe.make_app _ _ _ _ 22 (by rfl) 9 i0 _ 1 16 Tryz.underlying22 Hi.out Hz0.out Hz1.out Hz2.out rfl (by decide) u6 q (scells l) (by rfl) (hx.own (m := 1) (news := [.string ⟨#[]⟩]) (Xo.own_drew HOW.out) HS6.out ) ⟨g, 0, none⟩ 1 1 [.string ⟨#[]⟩] (by rfl) (by decide) rfl (Xo.one_at hc) (Xo.one1 rfl) (by omega) (by have := HBW.out.size; have := hx.2.2.2.1; simp at this; omega) (by have := hx.2.2.2.1; simpa using this) (by rw [HKS.out]; exact fun k hk => hk) (by rfl)); (go_simp; refine hK _ ?_; clear hK K))
            repeat (first
              | (refine Xe.rel_det (Xe.pre_ES _) (Xk.wanted_none (by rfl)) (by rfl) (fun K hK => ?_); apply Exists.intro; refine ⟨fun W hx hp => ?_, ?_⟩; (skip; go_simp; first | exact ⟨rfl, rfl⟩ | ((try refine ⟨by kernel_rfl, ?_⟩); (fail))); (go_simp; refine hK _ ?_; clear hK K))
              | (refine Xe.rel_skip (by rfl) (fun K hK => ?_); go_simp; refine hK _ ?_; clear hK K)
              | (refine Xe.rel_det (Xe.pre_ES _) (by rfl) (by rfl) (fun K hK => ?_); apply Exists.intro; refine ⟨fun W hx hp => ?_, ?_⟩; (skip; go_simp; first | exact ⟨rfl, rfl⟩ | ((try refine ⟨by kernel_rfl, ?_⟩); (fail))); (go_simp; refine hK _ ?_; clear hK K)))
            refine Xe.rel_nil (fun W hx hp hg => ?_)
            simp only [Xk.factsAll] at hp
            obtain ⟨⟨p1, p2⟩, -, -⟩ := hp
            have HP1 := Lib.hid p1
            have HBE := Lib.hid (Xe.ES.below (w := W1.drew) (show Below w.heap.size w W1.drew from by have := HBW.out; exact (by repeat (first | with_reducible exact HBW.out | with_reducible exact Below.refl _ _ | ((with_reducible refine Below.setCell ?_ ?_ _); rotate_left; exact (by (try simp only [World.size_alloc, Xk.exw_size, World.size_setCell, World.size_drew, World.heap_drewN]); omega)) | ((with_reducible refine Below.alloc ?_ ?_ _); rotate_left; exact (by (try simp only [World.size_alloc, Xk.exw_size, World.size_setCell, World.size_drew, World.heap_drewN]); omega)) | ((with_reducible refine Xk.below_exw ?_ ?_ _); rotate_left; exact (by (try simp only [World.size_alloc, Xk.exw_size, World.size_setCell, World.size_drew, World.heap_drewN]); omega)) | (with_reducible refine Below.drew ?_)))) hx (fun k hk => (HSB.out k hk).1) (by simpa using HBW.out.size))
            clear p1 p2 hg hx hmin hx1
            go_wp2
            go_roundw
            case rel => exact ⟨q + 1, [], l ++ [[]], by omega, by go_num, rfl, Hdl.out, HBE.out, by rw [← scells_snoc]; exact HP1.out, Hrec.out⟩
            case measure => simp [intOf]; omega
          · by_cases hb2 : Lib.trimB t 32 = [124]
            · have HREST : P25.rest q t = some [] := by unfold P25.rest; rw [if_neg (by omega), if_neg (by rw [hp]; decide), if_pos (.inr hb2)]
              rw [hb2] at hT
              have HT := Lib.hid hT
              clear hT hb2 hp hb1
              have hmin : min (n : Int) 0 = 0 := by omega
              have hx1 : (⟨#[]⟩ : ByteArray).extract 0 0 = ⟨#[]⟩ := rfl
              have Hdl : Hid (([] : List UInt8).length ≤ s.length) := Lib.hid (Nat.zero_le _)
              have Hrec : Hid (P25.cut 0 s ws = (P25.cut (q + 1) [] (ws.drop (q + 1))).map ((l ++ [[]]) ++ ·)) := Lib.hid (by
                have e : P25.cut q t (n :: ws.drop (q + 1)) = (P25.cut (q + 1) (([] : List UInt8).drop n) (ws.drop (q + 1))).map fun l => ([] : List UInt8).take n :: l := by rw [P25.cut, HREST]
                rw [HS.out, Hd.out, e, List.drop_nil, List.take_nil]
                cases P25.cut (q + 1) [] (ws.drop (q + 1)) <;> simp)
              clear HREST
              go_wp2_with (first | (go_at_call 90; (with_reducible refine (HC.out _).mono ?_); rintro e w' ⟨rfl, hw⟩; have hw := hw.symm; subst hw) | (go_at_call 61; (with_reducible refine (HT.out _).mono ?_); rintro e w' ⟨rfl, hb⟩; obtain ⟨p, rfl⟩ := Xk.exw_of hb; clear hb))
              generalize hW : Xk.exw wr _ = W1
              have HX1 : Hid (Xk.Ext wr W1) := Lib.hid (by rw [← hW]; exact Xk.ext_exw _ _)
              have HO := Lib.hid (Xo.own_ext HO.out HX1.out)
              have HB := Lib.hid (HB.out.trans (HX1.out.mono HB.out.size))
              clear hW
              have HOW : Hid (W1.ownsRow w.heap.size 9 1 u6 q (scells l)) := Lib.hid (by first | exact HO.out | exact Xo.own_exw HO.out _)
              have HBW : Hid (Below w.heap.size w W1) := Lib.hid (by have := HB.out; exact (by repeat (first | with_reducible exact HB.out | with_reducible exact Below.refl _ _ | ((with_reducible refine Below.setCell ?_ ?_ _); rotate_left; exact (by (try simp only [World.size_alloc, Xk.exw_size, World.size_setCell, World.size_drew, World.heap_drewN]); omega)) | ((with_reducible refine Below.alloc ?_ ?_ _); rotate_left; exact (by (try simp only [World.size_alloc, Xk.exw_size, World.size_setCell, World.size_drew, World.heap_drewN]); omega)) | ((with_reducible refine Xk.below_exw ?_ ?_ _); rotate_left; exact (by (try simp only [World.size_alloc, Xk.exw_size, World.size_setCell, World.size_drew, World.heap_drewN]); omega)) | (with_reducible refine Below.drew ?_))))
              obtain ⟨ks, hks⟩ : ∃ ks : Xe.Specs, ks = Xe.specOf 9 1 (q + 1) (scells l ++ [.string ⟨#[]⟩]) u6 := ⟨_, rfl⟩
              have HKS := Lib.hid hks
              have HS6 : Hid (∀ k ∈ ks, u6.ownBlock = some k.1 → k ∈ Xe.specOf 9 1 (q + 1) (scells l ++ [.string ⟨#[]⟩]) u6) := Lib.hid fun k hk _ => by rw [hks] at hk; exact hk
              have HSB : Hid (∀ k ∈ ks, w.heap.size ≤ k.1 ∧ k.1 < W1.heap.size) := Lib.hid fun k hk => by
                rw [hks] at hk
                exact HOW.out.lt _ (Xe.specOf_block hk)
              clear hks
              refine Xe.wp_region_rel (E := Xe.ES ks) (Xe.pre_ES _) 11 (Xe.O2 5 u6.ownBlock 99 none) (Xe.O2_lt (fun b hb => (HOW.out.lt b hb).2) (fun b hb => by cases hb)) (Xe.O2_ne (fun b hb e => by cases e)) [(4, Xe.newFact W1.heap.size (.string ⟨#[]⟩)), (5, Xe.appFact w.heap.size 9 1 W1.heap.size u6 q 1 (scells l ++ [.string ⟨#[]⟩]))] (by kernel_rfl) (by kernel_rfl) (Xe.stable_es (by
                              intro y hy
                              simp only [List.mem_cons, List.not_mem_nil, or_false] at hy
                              rcases hy with rfl | rfl
                              · exact Xe.newFact.es fun k hk => (HSB.out k hk).2
                              · exact Xe.appFact.es HS6.out fun k hk => (HSB.out k hk).2)) ?_
              simp only [List.take_succ_cons, List.take_zero, List.drop_succ_cons, List.drop_zero]
              repeat (first
                | (refine Xe.rel_det (Xe.pre_ES _) (Xk.wanted_none (by rfl)) (by rfl) (fun K hK => ?_); apply Exists.intro; refine ⟨fun W hx hp => ?_, ?_⟩; (skip; go_simp; first | exact ⟨rfl, rfl⟩ | ((try refine ⟨by kernel_rfl, ?_⟩); (fail))); (go_simp; refine hK _ ?_; clear hK K))
                | (refine Xe.rel_skip (by rfl) (fun K hK => ?_); go_simp; refine hK _ ?_; clear hK K)
                | (refine Xe.rel_det (Xe.pre_ES _) (by rfl) (by rfl) (fun K hK => ?_); apply Exists.intro; refine ⟨fun W hx hp => ?_, ?_⟩; (skip; go_simp; first | exact ⟨rfl, rfl⟩ | ((try refine ⟨by kernel_rfl, ?_⟩); (fail))); (go_simp; refine hK _ ?_; clear hK K)))
              (refine Xe.rel_make (Xe.pre_ES _) (by rfl) (by rfl) (fun W hx hp => ?_) (fun y K hK => ?_); (go_simp; exact Xe.new_one _ _ _ (by have := hx.2.2.2.1; simpa using this)); (go_simp; refine hK _ ?_; clear hK K))
              (refine Xe.rel_make (Xe.pre_ES _) (by rfl) (by rfl) (fun W hx hp => ?_) (fun z1 K hK => ?_); (obtain ⟨g, rfl, hg, hc⟩ := Xe.facts_head hp (by kernel_rfl); exact Xe.make_app _ _ _ _ 22 (by rfl) 9 i0 _ 1 16 Tryz.underlying22 Hi.out Hz0.out Hz1.out Hz2.out rfl (by decide) u6 q (scells l) (by rfl) (hx.own (m := 1) (news := [.string ⟨#[]⟩]) (Xo.own_drew HOW.out) HS6.out ) ⟨g, 0, none⟩ 1 1 [.string ⟨#[]⟩] (by rfl) (by decide) rfl (Xo.one_at hc) (Xo.one1 rfl) (by omega) (by have := HBW.out.size; have := hx.2.2.2.1; simp at this; omega) (by have := hx.2.2.2.1; simpa using this) (by rw [HKS.out]; exact fun k hk => hk) (by rfl)); (go_simp; refine hK _ ?_; clear hK K))
              repeat (first
                | (refine Xe.rel_det (Xe.pre_ES _) (Xk.wanted_none (by rfl)) (by rfl) (fun K hK => ?_); apply Exists.intro; refine ⟨fun W hx hp => ?_, ?_⟩; (skip; go_simp; first | exact ⟨rfl, rfl⟩ | ((try refine ⟨by kernel_rfl, ?_⟩); (fail))); (go_simp; refine hK _ ?_; clear hK K))
                | (refine Xe.rel_skip (by rfl) (fun K hK => ?_); go_simp; refine hK _ ?_; clear hK K)
                | (refine Xe.rel_det (Xe.pre_ES _) (by rfl) (by rfl) (fun K hK => ?_); apply Exists.intro; refine ⟨fun W hx hp => ?_, ?_⟩; (skip; go_simp; first | exact ⟨rfl, rfl⟩ | ((try refine ⟨by kernel_rfl, ?_⟩); (fail))); (go_simp; refine hK _ ?_; clear hK K)))
              refine Xe.rel_nil (fun W hx hp hg => ?_)
              simp only [Xk.factsAll] at hp
              obtain ⟨⟨p1, p2⟩, -, -⟩ := hp
              have HP1 := Lib.hid p1
              have HBE := Lib.hid (Xe.ES.below (w := W1.drew) (show Below w.heap.size w W1.drew from by have := HBW.out; exact (by repeat (first | with_reducible exact HBW.out | with_reducible exact Below.refl _ _ | ((with_reducible refine Below.setCell ?_ ?_ _); rotate_left; exact (by (try simp only [World.size_alloc, Xk.exw_size, World.size_setCell, World.size_drew, World.heap_drewN]); omega)) | ((with_reducible refine Below.alloc ?_ ?_ _); rotate_left; exact (by (try simp only [World.size_alloc, Xk.exw_size, World.size_setCell, World.size_drew, World.heap_drewN]); omega)) | ((with_reducible refine Xk.below_exw ?_ ?_ _); rotate_left; exact (by (try simp only [World.size_alloc, Xk.exw_size, World.size_setCell, World.size_drew, World.heap_drewN]); omega)) | (with_reducible refine Below.drew ?_)))) hx (fun k hk => (HSB.out k hk).1) (by simpa using HBW.out.size))
              clear p1 p2 hg hx hmin hx1
              go_wp2
              go_roundw
              case rel => exact ⟨q + 1, [], l ++ [[]], by omega, by go_num, rfl, Hdl.out, HBE.out, by rw [← scells_snoc]; exact HP1.out, Hrec.out⟩
              case measure => simp [intOf]; omega
            · have HREST : P25.rest q t = none := by unfold P25.rest; rw [if_neg (by omega), if_neg (by rw [hp]; decide), if_neg (by rintro (h | h); exact hb1 h; exact hb2 h)]
              have hend : P25.cut 0 s ws = none := by rw [HS.out, Hd.out, P25.cut, HREST]; rfl
              have Hend := Lib.hid hend
              generalize Lib.trimB t 32 = u at hT hb1 hb2
              have hu0 : u.isEmpty = false := by
                cases u with
                | nil => exact absurd rfl hb1
                | cons a r => rfl
              have hu1 : (u == [124]) = false := by simpa using hb2
              have HT := Lib.hid hT
              clear hT hb1 hb2 hp HREST hend
              go_wp2_with (first | (go_at_call 90; (with_reducible refine (HC.out _).mono ?_); rintro e w' ⟨rfl, hw⟩; have hw := hw.symm; subst hw) | (go_at_call 61; (with_reducible refine (HT.out _).mono ?_); rintro e w' ⟨rfl, hb⟩; obtain ⟨p, rfl⟩ := Xk.exw_of hb; clear hb))
              go_ret2
              exact ⟨(by repeat (first | with_reducible exact HB.out | with_reducible exact Below.refl _ _ | ((with_reducible refine Below.setCell ?_ ?_ _); rotate_left; exact (by (try simp only [World.size_alloc, Xk.exw_size, World.size_setCell, World.size_drew, World.heap_drewN]); omega)) | ((with_reducible refine Below.alloc ?_ ?_ _); rotate_left; exact (by (try simp only [World.size_alloc, Xk.exw_size, World.size_setCell, World.size_drew, World.heap_drewN]); omega)) | ((with_reducible refine Xk.below_exw ?_ ?_ _); rotate_left; exact (by (try simp only [World.size_alloc, Xk.exw_size, World.size_setCell, World.size_drew, World.heap_drewN]); omega)) | (with_reducible refine Below.drew ?_))), by rw [Hend.out]; exact ⟨_, rfl⟩⟩
        · have hp2 : Lib.hasPrefix (⟨t.toArray⟩ : ByteArray).data.toList (⟨#[32, 124, 32]⟩ : ByteArray).data.toList = true := hp
          have ht2 : Lib.trimPrefix (⟨t.toArray⟩ : ByteArray).data.toList (⟨#[32, 124, 32]⟩ : ByteArray).data.toList = t.drop 3 := by unfold Lib.trimPrefix; rw [if_pos hp2]; rfl
          rw [hp2, ht2] at HCP
          have HC := Lib.hid HCP
          have HREST : P25.rest q t = some (t.drop 3) := by unfold P25.rest; rw [if_neg (by omega), if_pos hp]
          have htl : (t.drop 3).length ≤ s.length := by rw [List.length_drop]; omega
          generalize t.drop 3 = t1 at HC HREST htl
          clear HCP hp2 ht2 hT hp
          obtain ⟨m, hmd⟩ : ∃ m, m = min n t1.length := ⟨_, rfl⟩
          have hmin : min (n : Int) (t1.length : Int) = (m : Int) := by omega
          have hm1 : (m : Int) ≤ (t1.length : Int) := by omega
          have hm2 : m ≤ t1.length := by omega
          have hx1 : (⟨t1.toArray⟩ : ByteArray).extract 0 m = ⟨(t1.take n).toArray⟩ := take_str t1 n m hmd
          have hx2 : (⟨t1.toArray⟩ : ByteArray).extract m t1.length = ⟨(t1.drop n).toArray⟩ := drop_str t1 n m hmd
          have Hdl : Hid ((t1.drop n).length ≤ s.length) := Lib.hid (by rw [List.length_drop]; omega)
          have Hrec : Hid (P25.cut 0 s ws = (P25.cut (q + 1) (t1.drop n) (ws.drop (q + 1))).map ((l ++ [t1.take n]) ++ ·)) := Lib.hid (by
            have e : P25.cut q t (n :: ws.drop (q + 1)) = (P25.cut (q + 1) (t1.drop n) (ws.drop (q + 1))).map fun l => t1.take n :: l := by rw [P25.cut, HREST]
            rw [HS.out, Hd.out, e]
            cases P25.cut (q + 1) (t1.drop n) (ws.drop (q + 1)) <;> simp)
          clear hmd HREST
          go_wp2_with (first | (go_at_call 90; (with_reducible refine (HC.out _).mono ?_); rintro e w' ⟨rfl, hw⟩; have hw := hw.symm; subst hw))
          have HOW : Hid (wr.ownsRow w.heap.size 9 1 u6 q (scells l)) := Lib.hid (by first | exact HO.out | exact Xo.own_exw HO.out _)
          have HBW : Hid (Below w.heap.size w wr) := Lib.hid (by have := HB.out; exact (by repeat (first | with_reducible exact HB.out | with_reducible exact Below.refl _ _ | ((with_reducible refine Below.setCell ?_ ?_ _); rotate_left; exact (by (try simp only [World.size_alloc, Xk.exw_size, World.size_setCell, World.size_drew, World.heap_drewN]); omega)) | ((with_reducible refine Below.alloc ?_ ?_ _); rotate_left; exact (by (try simp only [World.size_alloc, Xk.exw_size, World.size_setCell, World.size_drew, World.heap_drewN]); omega)) | ((with_reducible refine Xk.below_exw ?_ ?_ _); rotate_left; exact (by (try simp only [World.size_alloc, Xk.exw_size, World.size_setCell, World.size_drew, World.heap_drewN]); omega)) | (with_reducible refine Below.drew ?_))))
          obtain ⟨ks, hks⟩ : ∃ ks : Xe.Specs, ks = Xe.specOf 9 1 (q + 1) (scells l ++ [.string ⟨(t1.take n).toArray⟩]) u6 := ⟨_, rfl⟩
          have HKS := Lib.hid hks
          have HS6 : Hid (∀ k ∈ ks, u6.ownBlock = some k.1 → k ∈ Xe.specOf 9 1 (q + 1) (scells l ++ [.string ⟨(t1.take n).toArray⟩]) u6) := Lib.hid fun k hk _ => by rw [hks] at hk; exact hk
          have HSB : Hid (∀ k ∈ ks, w.heap.size ≤ k.1 ∧ k.1 < wr.heap.size) := Lib.hid fun k hk => by
            rw [hks] at hk
            exact HOW.out.lt _ (Xe.specOf_block hk)
          clear hks
          refine Xe.wp_region_rel (E := Xe.ES ks) (Xe.pre_ES _) 11 (Xe.O2 5 u6.ownBlock 99 none) (Xe.O2_lt (fun b hb => (HOW.out.lt b hb).2) (fun b hb => by cases hb)) (Xe.O2_ne (fun b hb e => by cases e)) [(4, Xe.newFact wr.heap.size (.string ⟨(t1.take n).toArray⟩)), (5, Xe.appFact w.heap.size 9 1 wr.heap.size u6 q 1 (scells l ++ [.string ⟨(t1.take n).toArray⟩]))] (by kernel_rfl) (by kernel_rfl) (Xe.stable_es (by
                      intro y hy
                      simp only [List.mem_cons, List.not_mem_nil, or_false] at hy
                      rcases hy with rfl | rfl
                      · exact Xe.newFact.es fun k hk => (HSB.out k hk).2
                      · exact Xe.appFact.es HS6.out fun k hk => (HSB.out k hk).2)) ?_
          simp only [List.take_succ_cons, List.take_zero, List.drop_succ_cons, List.drop_zero]
          repeat (first
            | (refine Xe.rel_det (Xe.pre_ES _) (Xk.wanted_none (by rfl)) (by rfl) (fun K hK => ?_); apply Exists.intro; refine ⟨fun W hx hp => ?_, ?_⟩; (skip; go_simp; first | exact ⟨rfl, rfl⟩ | ((try refine ⟨by kernel_rfl, ?_⟩); (fail))); (go_simp; refine hK _ ?_; clear hK K))
            | (refine Xe.rel_skip (by rfl) (fun K hK => ?_); go_simp; refine hK _ ?_; clear hK K)
            | (refine Xe.rel_det (Xe.pre_ES _) (by rfl) (by rfl) (fun K hK => ?_); apply Exists.intro; refine ⟨fun W hx hp => ?_, ?_⟩; (skip; go_simp; first | exact ⟨rfl, rfl⟩ | ((try refine ⟨by kernel_rfl, ?_⟩); (fail))); (go_simp; refine hK _ ?_; clear hK K)))
          (refine Xe.rel_make (Xe.pre_ES _) (by rfl) (by rfl) (fun W hx hp => ?_) (fun y K hK => ?_); (go_simp; exact Xe.new_one _ _ _ (by have := hx.2.2.2.1; simpa using this)); (go_simp; refine hK _ ?_; clear hK K))
          (refine Xe.rel_make (Xe.pre_ES _) (by rfl) (by rfl) (fun W hx hp => ?_) (fun z1 K hK => ?_); (obtain ⟨g, rfl, hg, hc⟩ := Xe.facts_head hp (by kernel_rfl); exact Xe.make_app _ _ _ _ 22 (by rfl) 9 i0 _ 1 16 Tryz.underlying22 Hi.out Hz0.out Hz1.out Hz2.out rfl (by decide) u6 q (scells l) (by rfl) (hx.own (m := 1) (news := [.string ⟨(t1.take n).toArray⟩]) (Xo.own_drew HOW.out) HS6.out ) ⟨g, 0, none⟩ 1 1 [.string ⟨(t1.take n).toArray⟩] (by rfl) (by decide) rfl (Xo.one_at hc) (Xo.one1 rfl) (by omega) (by have := HBW.out.size; have := hx.2.2.2.1; simp at this; omega) (by have := hx.2.2.2.1; simpa using this) (by rw [HKS.out]; exact fun k hk => hk) (by rfl)); (go_simp; refine hK _ ?_; clear hK K))
          repeat (first
            | (refine Xe.rel_det (Xe.pre_ES _) (Xk.wanted_none (by rfl)) (by rfl) (fun K hK => ?_); apply Exists.intro; refine ⟨fun W hx hp => ?_, ?_⟩; (skip; go_simp; first | exact ⟨rfl, rfl⟩ | ((try refine ⟨by kernel_rfl, ?_⟩); (fail))); (go_simp; refine hK _ ?_; clear hK K))
            | (refine Xe.rel_skip (by rfl) (fun K hK => ?_); go_simp; refine hK _ ?_; clear hK K)
            | (refine Xe.rel_det (Xe.pre_ES _) (by rfl) (by rfl) (fun K hK => ?_); apply Exists.intro; refine ⟨fun W hx hp => ?_, ?_⟩; (skip; go_simp; first | exact ⟨rfl, rfl⟩ | ((try refine ⟨by kernel_rfl, ?_⟩); (fail))); (go_simp; refine hK _ ?_; clear hK K)))
          refine Xe.rel_nil (fun W hx hp hg => ?_)
          simp only [Xk.factsAll] at hp
          obtain ⟨⟨p1, p2⟩, -, -⟩ := hp
          have HP1 := Lib.hid p1
          have HBE := Lib.hid (Xe.ES.below (w := wr.drew) (show Below w.heap.size w wr.drew from by have := HBW.out; exact (by repeat (first | with_reducible exact HBW.out | with_reducible exact Below.refl _ _ | ((with_reducible refine Below.setCell ?_ ?_ _); rotate_left; exact (by (try simp only [World.size_alloc, Xk.exw_size, World.size_setCell, World.size_drew, World.heap_drewN]); omega)) | ((with_reducible refine Below.alloc ?_ ?_ _); rotate_left; exact (by (try simp only [World.size_alloc, Xk.exw_size, World.size_setCell, World.size_drew, World.heap_drewN]); omega)) | ((with_reducible refine Xk.below_exw ?_ ?_ _); rotate_left; exact (by (try simp only [World.size_alloc, Xk.exw_size, World.size_setCell, World.size_drew, World.heap_drewN]); omega)) | (with_reducible refine Below.drew ?_)))) hx (fun k hk => (HSB.out k hk).1) (by simpa using HBW.out.size))
          clear p1 p2 hg hx hmin hm1 hm2 hx1 hx2
          go_wp2
          go_roundw
          case rel => exact ⟨q + 1, t1.drop n, l ++ [t1.take n], by omega, by go_num, rfl, Hdl.out, HBE.out, by rw [← scells_snoc]; exact HP1.out, Hrec.out⟩
          case measure => simp [intOf]; omega
      · have HREST : P25.rest q t = some t := by unfold P25.rest; rw [if_pos (by omega)]
        obtain ⟨m, hmd⟩ : ∃ m, m = min n t.length := ⟨_, rfl⟩
        have hmin : min (n : Int) (t.length : Int) = (m : Int) := by omega
        have hm1 : (m : Int) ≤ (t.length : Int) := by omega
        have hm2 : m ≤ t.length := by omega
        have hx1 : (⟨t.toArray⟩ : ByteArray).extract 0 m = ⟨(t.take n).toArray⟩ := take_str t n m hmd
        have hx2 : (⟨t.toArray⟩ : ByteArray).extract m t.length = ⟨(t.drop n).toArray⟩ := drop_str t n m hmd
        have Hdl : Hid ((t.drop n).length ≤ s.length) := Lib.hid (by rw [List.length_drop]; omega)
        have Hrec : Hid (P25.cut 0 s ws = (P25.cut (q + 1) (t.drop n) (ws.drop (q + 1))).map ((l ++ [t.take n]) ++ ·)) := Lib.hid (by
          have e : P25.cut q t (n :: ws.drop (q + 1)) = (P25.cut (q + 1) (t.drop n) (ws.drop (q + 1))).map fun l => t.take n :: l := by rw [P25.cut, HREST]
          rw [HS.out, Hd.out, e]
          cases P25.cut (q + 1) (t.drop n) (ws.drop (q + 1)) <;> simp)
        clear hmd HREST
        go_wp2
        have HOW : Hid (wr.ownsRow w.heap.size 9 1 u6 q (scells l)) := Lib.hid (by first | exact HO.out | exact Xo.own_exw HO.out _)
        have HBW : Hid (Below w.heap.size w wr) := Lib.hid (by have := HB.out; exact (by repeat (first | with_reducible exact HB.out | with_reducible exact Below.refl _ _ | ((with_reducible refine Below.setCell ?_ ?_ _); rotate_left; exact (by (try simp only [World.size_alloc, Xk.exw_size, World.size_setCell, World.size_drew, World.heap_drewN]); omega)) | ((with_reducible refine Below.alloc ?_ ?_ _); rotate_left; exact (by (try simp only [World.size_alloc, Xk.exw_size, World.size_setCell, World.size_drew, World.heap_drewN]); omega)) | ((with_reducible refine Xk.below_exw ?_ ?_ _); rotate_left; exact (by (try simp only [World.size_alloc, Xk.exw_size, World.size_setCell, World.size_drew, World.heap_drewN]); omega)) | (with_reducible refine Below.drew ?_))))
        obtain ⟨ks, hks⟩ : ∃ ks : Xe.Specs, ks = Xe.specOf 9 1 (q + 1) (scells l ++ [.string ⟨(t.take n).toArray⟩]) u6 := ⟨_, rfl⟩
        have HKS := Lib.hid hks
        have HS6 : Hid (∀ k ∈ ks, u6.ownBlock = some k.1 → k ∈ Xe.specOf 9 1 (q + 1) (scells l ++ [.string ⟨(t.take n).toArray⟩]) u6) := Lib.hid fun k hk _ => by rw [hks] at hk; exact hk
        have HSB : Hid (∀ k ∈ ks, w.heap.size ≤ k.1 ∧ k.1 < wr.heap.size) := Lib.hid fun k hk => by
          rw [hks] at hk
          exact HOW.out.lt _ (Xe.specOf_block hk)
        clear hks
        refine Xe.wp_region_rel (E := Xe.ES ks) (Xe.pre_ES _) 11 (Xe.O2 5 u6.ownBlock 99 none) (Xe.O2_lt (fun b hb => (HOW.out.lt b hb).2) (fun b hb => by cases hb)) (Xe.O2_ne (fun b hb e => by cases e)) [(4, Xe.newFact wr.heap.size (.string ⟨(t.take n).toArray⟩)), (5, Xe.appFact w.heap.size 9 1 wr.heap.size u6 q 1 (scells l ++ [.string ⟨(t.take n).toArray⟩]))] (by kernel_rfl) (by kernel_rfl) (Xe.stable_es (by
                  intro y hy
                  simp only [List.mem_cons, List.not_mem_nil, or_false] at hy
                  rcases hy with rfl | rfl
                  · exact Xe.newFact.es fun k hk => (HSB.out k hk).2
                  · exact Xe.appFact.es HS6.out fun k hk => (HSB.out k hk).2)) ?_
        simp only [List.take_succ_cons, List.take_zero, List.drop_succ_cons, List.drop_zero]
        repeat (first
          | (refine Xe.rel_det (Xe.pre_ES _) (Xk.wanted_none (by rfl)) (by rfl) (fun K hK => ?_); apply Exists.intro; refine ⟨fun W hx hp => ?_, ?_⟩; (skip; go_simp; first | exact ⟨rfl, rfl⟩ | ((try refine ⟨by kernel_rfl, ?_⟩); (fail))); (go_simp; refine hK _ ?_; clear hK K))
          | (refine Xe.rel_skip (by rfl) (fun K hK => ?_); go_simp; refine hK _ ?_; clear hK K)
          | (refine Xe.rel_det (Xe.pre_ES _) (by rfl) (by rfl) (fun K hK => ?_); apply Exists.intro; refine ⟨fun W hx hp => ?_, ?_⟩; (skip; go_simp; first | exact ⟨rfl, rfl⟩ | ((try refine ⟨by kernel_rfl, ?_⟩); (fail))); (go_simp; refine hK _ ?_; clear hK K)))
        (refine Xe.rel_make (Xe.pre_ES _) (by rfl) (by rfl) (fun W hx hp => ?_) (fun y K hK => ?_); (go_simp; exact Xe.new_one _ _ _ (by have := hx.2.2.2.1; simpa using this)); (go_simp; refine hK _ ?_; clear hK K))
        (refine Xe.rel_make (Xe.pre_ES _) (by rfl) (by rfl) (fun W hx hp => ?_) (fun z1 K hK => ?_); (obtain ⟨g, rfl, hg, hc⟩ := Xe.facts_head hp (by kernel_rfl); exact Xe.make_app _ _ _ _ 22 (by rfl) 9 i0 _ 1 16 Tryz.underlying22 Hi.out Hz0.out Hz1.out Hz2.out rfl (by decide) u6 q (scells l) (by rfl) (hx.own (m := 1) (news := [.string ⟨(t.take n).toArray⟩]) (Xo.own_drew HOW.out) HS6.out ) ⟨g, 0, none⟩ 1 1 [.string ⟨(t.take n).toArray⟩] (by rfl) (by decide) rfl (Xo.one_at hc) (Xo.one1 rfl) (by omega) (by have := HBW.out.size; have := hx.2.2.2.1; simp at this; omega) (by have := hx.2.2.2.1; simpa using this) (by rw [HKS.out]; exact fun k hk => hk) (by rfl)); (go_simp; refine hK _ ?_; clear hK K))
        repeat (first
          | (refine Xe.rel_det (Xe.pre_ES _) (Xk.wanted_none (by rfl)) (by rfl) (fun K hK => ?_); apply Exists.intro; refine ⟨fun W hx hp => ?_, ?_⟩; (skip; go_simp; first | exact ⟨rfl, rfl⟩ | ((try refine ⟨by kernel_rfl, ?_⟩); (fail))); (go_simp; refine hK _ ?_; clear hK K))
          | (refine Xe.rel_skip (by rfl) (fun K hK => ?_); go_simp; refine hK _ ?_; clear hK K)
          | (refine Xe.rel_det (Xe.pre_ES _) (by rfl) (by rfl) (fun K hK => ?_); apply Exists.intro; refine ⟨fun W hx hp => ?_, ?_⟩; (skip; go_simp; first | exact ⟨rfl, rfl⟩ | ((try refine ⟨by kernel_rfl, ?_⟩); (fail))); (go_simp; refine hK _ ?_; clear hK K)))
        refine Xe.rel_nil (fun W hx hp hg => ?_)
        simp only [Xk.factsAll] at hp
        obtain ⟨⟨p1, p2⟩, -, -⟩ := hp
        have HP1 := Lib.hid p1
        have HBE := Lib.hid (Xe.ES.below (w := wr.drew) (show Below w.heap.size w wr.drew from by have := HBW.out; exact (by repeat (first | with_reducible exact HBW.out | with_reducible exact Below.refl _ _ | ((with_reducible refine Below.setCell ?_ ?_ _); rotate_left; exact (by (try simp only [World.size_alloc, Xk.exw_size, World.size_setCell, World.size_drew, World.heap_drewN]); omega)) | ((with_reducible refine Below.alloc ?_ ?_ _); rotate_left; exact (by (try simp only [World.size_alloc, Xk.exw_size, World.size_setCell, World.size_drew, World.heap_drewN]); omega)) | ((with_reducible refine Xk.below_exw ?_ ?_ _); rotate_left; exact (by (try simp only [World.size_alloc, Xk.exw_size, World.size_setCell, World.size_drew, World.heap_drewN]); omega)) | (with_reducible refine Below.drew ?_)))) hx (fun k hk => (HSB.out k hk).1) (by simpa using HBW.out.size))
        clear p1 p2 hg hx hmin hm1 hm2 hx1 hx2
        go_wp2
        go_roundw
        case rel => exact ⟨q + 1, t.drop n, l ++ [t.take n], by omega, by go_num, rfl, Hdl.out, HBE.out, by rw [← scells_snoc]; exact HP1.out, Hrec.out⟩
        case measure => simp [intOf]; omega
    · obtain rfl : q = ws.length := by omega
      rw [List.drop_of_length_le (Nat.le_refl _), P25.cut] at HS
      cases t with
      | nil =>
        have hend : P25.cut 0 s ws = some l := by rw [HS.out]; simp
        have Hend := Lib.hid hend
        clear hend
        go_wp2
        go_ret2
        exact ⟨HB.out, by rw [Hend.out]; exact ⟨_, rfl, (Xo.lives_own HO.out (by simp)).imp fun W h => StrsAt.own h⟩⟩
      | cons a r =>
        have hend : P25.cut 0 s ws = none := by rw [HS.out]; simp
        have Hend := Lib.hid hend
        clear hend
        go_wp2
        go_ret2
        exact ⟨HB.out, by rw [Hend.out]; exact ⟨_, rfl⟩⟩
end Go.Proofs.YtmoippbmnanajaaGreatDoor
