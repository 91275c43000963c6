/- Walks: pantilelaw25.ReportTables. -/
import Derived.Test.YtmoippbmnanajaaGreatDoorSI
set_option linter.unusedSimpArgs false
set_option linter.unusedVariables false
namespace Go.Proofs.YtmoippbmnanajaaGreatDoor
open Go.RowKit
/-- report.Table of an answer that isn't too large. -/
theorem tableB_any (vc vr : Value) (names : List (List UInt8)) (L : List (List V)) (cnt : Int) (w : World) (hE : Env w) (hc : StrsAt w vc names) (hr : RowsAt w vr L)
    (hn : names.length ≤ 4096) (hm : ∀ x ∈ names, x.length ≤ 4000000) (hL : L.length ≤ 4096) (hl : ∀ l ∈ L, l.length ≤ maxLen ∧ IOk l) (h0 : -9223372036854775808 ≤ cnt) (h1 : cnt ≤ 9223372036854775807) :
    Calls Tryz.prog 10 #[.agg #[vc, vr, .int .i64 cnt]] w fun e w' => e = .returned (.string ⟨(P25.table names (L.map rowOf) cnt).toArray⟩) ∧ Below w.heap.size w w' := by
  unfold P25.table
  by_cases hz : names = []
  · rw [if_pos hz]
    rw [hz] at hc
    exact table_none vc vr L cnt w hE hc hr h0 h1
  · rw [if_neg hz]
    exact table_some vc vr names L cnt w hE hc hr (List.length_pos_iff.2 hz) hn hm hL hl
/-- .. and the reference's. -/
theorem refTableB_any (vc vr : Value) (names : List (List UInt8)) (L : List (List V)) (cnt : Int) (w : World) (hE : Env w) (hc : StrsAt w vc names) (hr : RowsAt w vr L)
    (hn : names.length ≤ 4096) (hm : ∀ x ∈ names, x.length ≤ 4000000) (hL : L.length ≤ 4096) (hl : ∀ l ∈ L, l.length ≤ maxLen ∧ IOk l) (h0 : -9223372036854775808 ≤ cnt) (h1 : cnt ≤ 9223372036854775807) :
    Calls Tryz.prog 11 #[.agg #[vc, vr, .int .i64 cnt]] w fun e w' => e = .returned (.string ⟨(P25.table names (L.map rowOf) cnt).toArray⟩) ∧ Below w.heap.size w w' := by
  unfold P25.table
  by_cases hz : names = []
  · rw [if_pos hz]
    rw [hz] at hc
    exact refTable_none vc vr L cnt w hc hr h0 h1
  · rw [if_neg hz]
    exact refTable_some vc vr names L cnt w hE hc hr (List.length_pos_iff.2 hz) hn hm hL hl
theorem few_parts {α β : Type} {names : List α} {rows : List (List β)} (h : P25.fewA names rows = true) : names.length ≤ 12 ∧ rows.length ≤ 30 ∧ ∀ r ∈ rows, r.length ≤ 20 := by
  simp only [P25.fewA, Bool.and_eq_true, List.all_eq_true, decide_eq_true_eq] at h
  exact ⟨h.1.2, h.2, h.1.1⟩
set_option maxRecDepth 100000 in
set_option maxHeartbeats 4000000 in
theorem reportTables_any (vc vr : Value) (names : List (List UInt8)) (L : List (List V)) (cnt : Int) (w : World) (hE : EnvR w) (hc : StrsAt w vc names) (hr : RowsAt w vr L)
    (hn : names.length ≤ maxLen) (hm : ∀ x ∈ names, x.length ≤ 4000000) (hL : L.length ≤ maxLen) (hl : ∀ l ∈ L, l.length ≤ maxLen ∧ IOk l) (h0 : -9223372036854775808 ≤ cnt) (h1 : cnt ≤ 9223372036854775807) :
    Calls Tryz.prog 3 #[.agg #[vc, vr, .int .i64 cnt]] w fun e w' => e = .returned (.bool true) ∧ Below w.heap.size w w' := by
  have HKn := Lib.hid fun W (hx : Xk.Ext w W) => knownR_any W (hE.ext hx)
  have HF := Lib.hid fun W (hx : Xk.Ext w W) => few_any vc vr names L cnt W (hc.ext hx) (hr.ext hx) hn hL fun r hr => (hl r hr).1
  obtain ⟨pc, cc, ec, -⟩ := hc.parts
  obtain ⟨pr, cr, er, -⟩ := hr.parts
  cases hf : P25.fewA names L
  · rw [hf] at HF
    subst ec er
    clear hE hc hr hn hm hL hl h0 h1 hf
    go_enter Tryz.func3, Tryz.ntmps3
    go_wp2_with (first | (go_at_call 8; (with_reducible refine (HKn.out _ (ext_alloc _ _)).mono ?_); rintro e w' ⟨rfl, hb⟩; obtain ⟨p, rfl⟩ := Xk.exw_of hb; clear hb))
    refine Xk.wp_region_rel' 10 [] trivial (by kernel_rfl) (by kernel_rfl) ?_
    simp only [List.take_succ_cons, List.take_zero, List.drop_succ_cons, List.drop_zero]
    repeat (first
      | (refine Xk.rel_det (Xk.wanted_none (by rfl)) (by rfl) (fun K hK => ?_); apply Exists.intro; refine ⟨fun p hp => ?_, ?_⟩; (go_simp; first | exact ⟨rfl, rfl⟩ | ((try refine ⟨by kernel_rfl, ?_⟩); (first | (go_at_call 9; ((with_reducible refine (HF.out _ (by repeat (first | with_reducible exact Below.refl _ _ | ((with_reducible refine Below.setCell ?_ ?_ _); rotate_left; exact (by (try simp only [World.size_alloc, Xk.exw_size, World.size_setCell, World.size_drew, World.heap_drewN]); omega)) | ((with_reducible refine Below.alloc ?_ ?_ _); rotate_left; exact (by (try simp only [World.size_alloc, Xk.exw_size, World.size_setCell, World.size_drew, World.heap_drewN]); omega)) | ((with_reducible refine Xk.below_exw ?_ ?_ _); rotate_left; exact (by (try simp only [World.size_alloc, Xk.exw_size, World.size_setCell, World.size_drew, World.heap_drewN]); omega)) | (with_reducible refine Below.drew ?_)))).mono ?_); exact fun e w' h => h))))); (go_simp; refine hK _ ?_; clear hK K))
      | (refine Xk.rel_skip (by rfl) (fun K hK => ?_); go_simp; refine hK _ ?_; clear hK K)
      | (refine Xk.rel_det (by rfl) (by rfl) (fun K hK => ?_); apply Exists.intro; refine ⟨fun p hp => ?_, ?_⟩; (go_simp; first | exact ⟨rfl, rfl⟩ | ((try refine ⟨by kernel_rfl, ?_⟩); (first | (go_at_call 9; ((with_reducible refine (HF.out _ (by repeat (first | with_reducible exact Below.refl _ _ | ((with_reducible refine Below.setCell ?_ ?_ _); rotate_left; exact (by (try simp only [World.size_alloc, Xk.exw_size, World.size_setCell, World.size_drew, World.heap_drewN]); omega)) | ((with_reducible refine Below.alloc ?_ ?_ _); rotate_left; exact (by (try simp only [World.size_alloc, Xk.exw_size, World.size_setCell, World.size_drew, World.heap_drewN]); omega)) | ((with_reducible refine Xk.below_exw ?_ ?_ _); rotate_left; exact (by (try simp only [World.size_alloc, Xk.exw_size, World.size_setCell, World.size_drew, World.heap_drewN]); omega)) | (with_reducible refine Below.drew ?_)))).mono ?_); exact fun e w' h => h))))); (go_simp; refine hK _ ?_; clear hK K)))
    refine Xk.rel_nil (fun p _ => ?_)
    go_wp2
    go_ret
    exact ⟨rfl, (by repeat (first | with_reducible exact Below.refl _ _ | ((with_reducible refine Below.setCell ?_ ?_ _); rotate_left; exact (by (try simp only [World.size_alloc, Xk.exw_size, World.size_setCell, World.size_drew, World.heap_drewN]); omega)) | ((with_reducible refine Below.alloc ?_ ?_ _); rotate_left; exact (by (try simp only [World.size_alloc, Xk.exw_size, World.size_setCell, World.size_drew, World.heap_drewN]); omega)) | ((with_reducible refine Xk.below_exw ?_ ?_ _); rotate_left; exact (by (try simp only [World.size_alloc, Xk.exw_size, World.size_setCell, World.size_drew, World.heap_drewN]); omega)) | (with_reducible refine Below.drew ?_)))⟩
  · rw [hf] at HF
    obtain ⟨f1, f2, f3⟩ := few_parts hf
    have HT := Lib.hid fun W (hx : Xk.Ext w W) => tableB_any vc vr names L cnt W (hE.env.ext hx) (hc.ext hx) (hr.ext hx) (by omega) hm (by omega) hl h0 h1
    have HU := Lib.hid fun W (hx : Xk.Ext w W) => refTableB_any vc vr names L cnt W (hE.env.ext hx) (hc.ext hx) (hr.ext hx) (by omega) hm (by omega) hl h0 h1
    generalize P25.table names (L.map rowOf) cnt = T at HT HU
    subst ec er
    clear hE hc hr hn hm hL hl h0 h1 hf f1 f2 f3
    go_enter Tryz.func3, Tryz.ntmps3
    go_wp2_with (first | (go_at_call 8; (with_reducible refine (HKn.out _ (ext_alloc _ _)).mono ?_); rintro e w' ⟨rfl, hb⟩; obtain ⟨p, rfl⟩ := Xk.exw_of hb; clear hb))
    refine Xk.wp_region_rel' 10 [] trivial (by kernel_rfl) (by kernel_rfl) ?_
    simp only [List.take_succ_cons, List.take_zero, List.drop_succ_cons, List.drop_zero]
    repeat (first
      | (refine Xk.rel_det (Xk.wanted_none (by rfl)) (by rfl) (fun K hK => ?_); apply Exists.intro; refine ⟨fun p hp => ?_, ?_⟩; (go_simp; first | exact ⟨rfl, rfl⟩ | ((try refine ⟨by kernel_rfl, ?_⟩); (first | (go_at_call 9; ((with_reducible refine (HF.out _ (by repeat (first | with_reducible exact Below.refl _ _ | ((with_reducible refine Below.setCell ?_ ?_ _); rotate_left; exact (by (try simp only [World.size_alloc, Xk.exw_size, World.size_setCell, World.size_drew, World.heap_drewN]); omega)) | ((with_reducible refine Below.alloc ?_ ?_ _); rotate_left; exact (by (try simp only [World.size_alloc, Xk.exw_size, World.size_setCell, World.size_drew, World.heap_drewN]); omega)) | ((with_reducible refine Xk.below_exw ?_ ?_ _); rotate_left; exact (by (try simp only [World.size_alloc, Xk.exw_size, World.size_setCell, World.size_drew, World.heap_drewN]); omega)) | (with_reducible refine Below.drew ?_)))).mono ?_); exact fun e w' h => h)) | (go_at_call 10; ((with_reducible refine (HT.out _ (by repeat (first | with_reducible exact Below.refl _ _ | ((with_reducible refine Below.setCell ?_ ?_ _); rotate_left; exact (by (try simp only [World.size_alloc, Xk.exw_size, World.size_setCell, World.size_drew, World.heap_drewN]); omega)) | ((with_reducible refine Below.alloc ?_ ?_ _); rotate_left; exact (by (try simp only [World.size_alloc, Xk.exw_size, World.size_setCell, World.size_drew, World.heap_drewN]); omega)) | ((with_reducible refine Xk.below_exw ?_ ?_ _); rotate_left; exact (by (try simp only [World.size_alloc, Xk.exw_size, World.size_setCell, World.size_drew, World.heap_drewN]); omega)) | (with_reducible refine Below.drew ?_)))).mono ?_); exact fun e w' h => h)) | (go_at_call 11; ((with_reducible refine (HU.out _ (by repeat (first | with_reducible exact Below.refl _ _ | ((with_reducible refine Below.setCell ?_ ?_ _); rotate_left; exact (by (try simp only [World.size_alloc, Xk.exw_size, World.size_setCell, World.size_drew, World.heap_drewN]); omega)) | ((with_reducible refine Below.alloc ?_ ?_ _); rotate_left; exact (by (try simp only [World.size_alloc, Xk.exw_size, World.size_setCell, World.size_drew, World.heap_drewN]); omega)) | ((with_reducible refine Xk.below_exw ?_ ?_ _); rotate_left; exact (by (try simp only [World.size_alloc, Xk.exw_size, World.size_setCell, World.size_drew, World.heap_drewN]); omega)) | (with_reducible refine Below.drew ?_)))).mono ?_); exact fun e w' h => h))))); (go_simp; refine hK _ ?_; clear hK K))
      | (refine Xk.rel_skip (by rfl) (fun K hK => ?_); go_simp; refine hK _ ?_; clear hK K)
      | (refine Xk.rel_det (by rfl) (by rfl) (fun K hK => ?_); apply Exists.intro; refine ⟨fun p hp => ?_, ?_⟩; (go_simp; first | exact ⟨rfl, rfl⟩ | ((try refine ⟨by kernel_rfl, ?_⟩); (first | (go_at_call 9; ((with_reducible refine (HF.out _ (by repeat (first | with_reducible exact Below.refl _ _ | ((with_reducible refine Below.setCell ?_ ?_ _); rotate_left; exact (by (try simp only [World.size_alloc, Xk.exw_size, World.size_setCell, World.size_drew, World.heap_drewN]); omega)) | ((with_reducible refine Below.alloc ?_ ?_ _); rotate_left; exact (by (try simp only [World.size_alloc, Xk.exw_size, World.size_setCell, World.size_drew, World.heap_drewN]); omega)) | ((with_reducible refine Xk.below_exw ?_ ?_ _); rotate_left; exact (by (try simp only [World.size_alloc, Xk.exw_size, World.size_setCell, World.size_drew, World.heap_drewN]); omega)) | (with_reducible refine Below.drew ?_)))).mono ?_); exact fun e w' h => h)) | (go_at_call 10; ((with_reducible refine (HT.out _ (by repeat (first | with_reducible exact Below.refl _ _ | ((with_reducible refine Below.setCell ?_ ?_ _); rotate_left; exact (by (try simp only [World.size_alloc, Xk.exw_size, World.size_setCell, World.size_drew, World.heap_drewN]); omega)) | ((with_reducible refine Below.alloc ?_ ?_ _); rotate_left; exact (by (try simp only [World.size_alloc, Xk.exw_size, World.size_setCell, World.size_drew, World.heap_drewN]); omega)) | ((with_reducible refine Xk.below_exw ?_ ?_ _); rotate_left; exact (by (try simp only [World.size_alloc, Xk.exw_size, World.size_setCell, World.size_drew, World.heap_drewN]); omega)) | (with_reducible refine Below.drew ?_)))).mono ?_); exact fun e w' h => h)) | (go_at_call 11; ((with_reducible refine (HU.out _ (by repeat (first | with_reducible exact Below.refl _ _ | ((with_reducible refine Below.setCell ?_ ?_ _); rotate_left; exact (by (try simp only [World.size_alloc, Xk.exw_size, World.size_setCell, World.size_drew, World.heap_drewN]); omega)) | ((with_reducible refine Below.alloc ?_ ?_ _); rotate_left; exact (by (try simp only [World.size_alloc, Xk.exw_size, World.size_setCell, World.size_drew, World.heap_drewN]); omega)) | ((with_reducible refine Xk.below_exw ?_ ?_ _); rotate_left; exact (by (try simp only [World.size_alloc, Xk.exw_size, World.size_setCell, World.size_drew, World.heap_drewN]); omega)) | (with_reducible refine Below.drew ?_)))).mono ?_); exact fun e w' h => h))))); (go_simp; refine hK _ ?_; clear hK K)))
    refine Xk.rel_nil (fun p _ => ?_)
    go_wp2
    go_ret
    exact ⟨rfl, (by repeat (first | with_reducible exact Below.refl _ _ | ((with_reducible refine Below.setCell ?_ ?_ _); rotate_left; exact (by (try simp only [World.size_alloc, Xk.exw_size, World.size_setCell, World.size_drew, World.heap_drewN]); omega)) | ((with_reducible refine Below.alloc ?_ ?_ _); rotate_left; exact (by (try simp only [World.size_alloc, Xk.exw_size, World.size_setCell, World.size_drew, World.heap_drewN]); omega)) | ((with_reducible refine Xk.below_exw ?_ ?_ _); rotate_left; exact (by (try simp only [World.size_alloc, Xk.exw_size, World.size_setCell, World.size_drew, World.heap_drewN]); omega)) | (with_reducible refine Below.drew ?_)))⟩
end Go.Proofs.YtmoippbmnanajaaGreatDoor
