/- Walks: pantilelaw25.known. -/
import Derived.Test.YtmoippbmnanajaaGreatDoorRV
import Derived.Test.YtmoippbmnanajaaGreatDoorRW
import Derived.Deep.RegionWith
set_option linter.unusedSimpArgs false
set_option linter.unusedVariables false
namespace Go.Proofs.YtmoippbmnanajaaGreatDoor
open Go.RowKit
theorem known_ok : AnsOk 4096 known_a where
  names := by decide
  name := fun x hx => by simp [known_a] at hx; subst hx; decide
  rows := by decide
  row := fun r hr => by
    simp only [known_a, List.mem_cons, List.not_mem_nil, or_false] at hr
    rcases hr with rfl | rfl
    · exact ⟨by decide, fun x hx => by simp only [List.mem_cons, List.not_mem_nil, or_false] at hx; subst hx; kernel_rfl, fun x hx => by simp only [List.mem_cons, List.not_mem_nil, or_false] at hx; subst hx; exact ⟨by decide, by decide⟩⟩
    · exact ⟨by decide, fun x hx => by simp only [List.mem_cons, List.not_mem_nil, or_false] at hx; subst hx; kernel_rfl, fun x hx => by simp only [List.mem_cons, List.not_mem_nil, or_false] at hx; subst hx; exact ⟨by decide, by decide⟩⟩
  lo := by decide
  hi := by decide
theorem sameA_self (a : Ans) : sameA a a = true := by simp [sameA]
set_option maxRecDepth 100000 in
set_option maxHeartbeats 4000000 in
theorem answer_any (w : World) :
    Calls Tryz.prog 19 #[] w fun e w' => ∃ pc cc pr cr, e = .returned (.agg #[.slice pc 1 cc, .slice pr 2 cr, .int .i64 0]) ∧ (StrsAt w' (.slice pc 1 cc) known_a.names ∧ RowsAt w' (.slice pr 2 cr) known_a.rows) ∧ Below w.heap.size w w' := by
  go_enter Tryz.func19, Tryz.ntmps19
  go_wp2
  generalize hW : World.alloc _ _ = W
  have hx : Xk.Ext w W := by rw [← hW]; exact (by repeat (first | with_reducible exact Below.refl _ _ | ((with_reducible refine Below.setCell ?_ ?_ _); rotate_left; exact (by (try simp only [World.size_alloc, Xk.exw_size, World.size_setCell, World.size_drew, World.heap_drewN]); omega)) | ((with_reducible refine Below.alloc ?_ ?_ _); rotate_left; exact (by (try simp only [World.size_alloc, Xk.exw_size, World.size_setCell, World.size_drew, World.heap_drewN]); omega)) | ((with_reducible refine Xk.below_exw ?_ ?_ _); rotate_left; exact (by (try simp only [World.size_alloc, Xk.exw_size, World.size_setCell, World.size_drew, World.heap_drewN]); omega)) | (with_reducible refine Below.drew ?_)))
  have c0 : W.cell? ⟨w.heap.size, 0, none⟩ = some (.slice (some ⟨w.heap.size + 1, 0, none⟩) 1 1) := by subst hW; go_simp
  have c1 : W.cell? ⟨w.heap.size, 1, none⟩ = some (.slice (some ⟨w.heap.size + 1 + 1 + 1 + 1, 0, none⟩) 2 2) := by subst hW; go_simp
  have c2 : W.cell? ⟨w.heap.size, 2, none⟩ = some (.int .i64 0) := by subst hW; go_simp
  have d0 : W.cell? ⟨w.heap.size + 1, 0, none⟩ = some (.string ⟨#[97]⟩) := by subst hW; go_simp
  have e0 : W.cell? ⟨w.heap.size + 1 + 1, 0, none⟩ = some (.int .i64 2) := by subst hW; go_simp
  have e1 : W.cell? ⟨w.heap.size + 1 + 1, 1, none⟩ = some (.int .i64 1) := by subst hW; go_simp
  have e2 : W.cell? ⟨w.heap.size + 1 + 1, 2, none⟩ = some (.string ⟨#[]⟩) := by subst hW; go_simp
  have f0 : W.cell? ⟨w.heap.size + 1 + 1 + 1, 0, none⟩ = some (.int .i64 2) := by subst hW; go_simp
  have f1 : W.cell? ⟨w.heap.size + 1 + 1 + 1, 1, none⟩ = some (.int .i64 10) := by subst hW; go_simp
  have f2 : W.cell? ⟨w.heap.size + 1 + 1 + 1, 2, none⟩ = some (.string ⟨#[]⟩) := by subst hW; go_simp
  have g0 : W.cell? ⟨w.heap.size + 1 + 1 + 1 + 1, 0, none⟩ = some (.slice (some ⟨w.heap.size + 1 + 1, 0, none⟩) 1 1) := by subst hW; go_simp
  have g1 : W.cell? ⟨w.heap.size + 1 + 1 + 1 + 1, 1, none⟩ = some (.slice (some ⟨w.heap.size + 1 + 1 + 1, 0, none⟩) 1 1) := by subst hW; go_simp
  clear hW
  refine bodyPost_ret (v := .agg #[.slice (some ⟨w.heap.size + 1, 0, none⟩) 1 1, .slice (some ⟨w.heap.size + 1 + 1 + 1 + 1, 0, none⟩) 2 2, .int .i64 0]) (by simp [results, Tryz.results19, go_sem, c0, c1, c2]) rfl ⟨_, _, _, _, rfl, ⟨?_, ?_⟩, hx⟩
  · refine ⟨_, _, rfl, Nat.le_refl _, fun j x hj => ⟨_, _, rfl, ?_⟩⟩
    match j, hj with
    | 0, hj => cases hj; exact d0
    | j + 1, hj => simp [known_a] at hj
  · refine ⟨_, _, rfl, Nat.le_refl _, fun j x hj => ⟨_, _, rfl, ?_⟩⟩
    match j, hj with
    | 0, hj =>
      cases hj
      refine ⟨_, g0, _, _, rfl, fun j x hj => ⟨_, _, rfl, ?_⟩⟩
      match j, hj with
      | 0, hj => cases hj; exact ⟨e0, e1, e2, by decide⟩
      | j + 1, hj => simp at hj
    | 1, hj =>
      cases hj
      refine ⟨_, g1, _, _, rfl, fun j x hj => ⟨_, _, rfl, ?_⟩⟩
      match j, hj with
      | 0, hj => cases hj; exact ⟨f0, f1, f2, by decide⟩
      | j + 1, hj => simp at hj
    | j + 2, hj => simp [known_a] at hj
set_option maxRecDepth 100000 in
set_option maxHeartbeats 4000000 in
theorem knownR_any (w : World) (hE : EnvR w) :
    Calls Tryz.prog 8 #[] w fun e w' => e = .returned (.bool true) ∧ Below w.heap.size w w' := by
  have HP : Hid (∀ W, Xk.Ext w W → Calls Tryz.prog 13 #[.string ⟨#[32, 97, 10, 45, 45, 10, 32, 49, 10, 49, 48, 10]⟩] W fun e w' => ∃ p1 c1 p2 c2, e = .returned (.tuple #[.agg #[.slice p1 1 c1, .slice p2 2 c2, .int .i64 0], .int .i64 0]) ∧ (StrsAt w' (.slice p1 1 c1) known_a.names ∧ RowsAt w' (.slice p2 2 c2) known_a.rows) ∧ Below W.heap.size W w') := Lib.hid fun W hx => by
    have h := parse_any known_s W (hE.ext hx) (by decide)
    rw [known_parse] at h
    refine h.mono fun e w' ⟨hb, vc, vr, he, hl⟩ => ?_
    obtain ⟨hl1, hl2⟩ := hl.now
    obtain ⟨p1, c1, e1, -⟩ := hl1.parts
    obtain ⟨p2, c2, e2, -⟩ := hl2.parts
    obtain rfl : vc = .slice p1 1 c1 := e1
    obtain rfl : vr = .slice p2 2 c2 := e2
    exact ⟨_, _, _, _, he, ⟨hl1, hl2⟩, hb⟩
  have HT : Hid (∀ vc vr W, Xk.Ext w W → StrsAt W vc known_a.names → RowsAt W vr known_a.rows → Calls Tryz.prog 10 #[.agg #[vc, vr, .int .i64 0]] W fun e w' => e = .returned (.string ⟨#[32, 97, 10, 45, 45, 10, 32, 49, 10, 49, 48, 10]⟩) ∧ Below W.heap.size W w') := Lib.hid fun vc vr W hx hc hr => by
    have h := tableA_any vc vr known_a W (hE.env.ext hx) hc hr known_ok
    rw [known_table] at h
    exact h
  have HA : Hid (∀ vc vr uc ur W, StrsAt W vc known_a.names → RowsAt W vr known_a.rows → StrsAt W uc known_a.names → RowsAt W ur known_a.rows → Calls Tryz.prog 14 #[.agg #[vc, vr, .int .i64 0], .agg #[uc, ur, .int .i64 0]] W fun e w' => e = .returned (.bool true) ∧ Below W.heap.size W w') := Lib.hid fun vc vr uc ur W h1 h2 h3 h4 => by
    have h := answers_any vc vr uc ur known_a known_a W h1 h2 h3 h4 known_ok known_ok
    rw [sameA_self] at h
    exact h
  have HW := Lib.hid answer_any
  clear hE
  go_enter Tryz.func8, Tryz.ntmps8
  go_wp2_with (first | (go_at_call 13; (with_reducible refine (HP.out _ (by repeat (first | with_reducible exact Below.refl _ _ | ((with_reducible refine Below.setCell ?_ ?_ _); rotate_left; exact (by (try simp only [World.size_alloc, Xk.exw_size, World.size_setCell, World.size_drew, World.heap_drewN]); omega)) | ((with_reducible refine Below.alloc ?_ ?_ _); rotate_left; exact (by (try simp only [World.size_alloc, Xk.exw_size, World.size_setCell, World.size_drew, World.heap_drewN]); omega)) | ((with_reducible refine Xk.below_exw ?_ ?_ _); rotate_left; exact (by (try simp only [World.size_alloc, Xk.exw_size, World.size_setCell, World.size_drew, World.heap_drewN]); omega)) | (with_reducible refine Below.drew ?_)))).mono ?_); rintro e W1 ⟨p1, c1, p2, c2, rfl, ⟨hl1, hl2⟩, hb⟩; have HB1 := Lib.hid hb; have HL1 := Lib.hid hl1; have HL2 := Lib.hid hl2; clear hb hl1 hl2))
  generalize hW2 : W1.alloc _ = W2
  have hx2 : Xk.Ext W1 W2 := by rw [← hW2]; exact ext_alloc _ _
  have HX2 := Lib.hid (Xk.Ext.trans HB1.out hx2)
  have HM1 := Lib.hid (HL1.out.ext hx2)
  have HM2 := Lib.hid (HL2.out.ext hx2)
  have lt2 : W1.heap.size < W2.heap.size := by subst hW2; go_simp
  have k0 : W2.cell? ⟨W1.heap.size, 0, none⟩ = some (.slice p1 1 c1) := by subst hW2; go_simp
  have k1 : W2.cell? ⟨W1.heap.size, 1, none⟩ = some (.slice p2 2 c2) := by subst hW2; go_simp
  have k2 : W2.cell? ⟨W1.heap.size, 2, none⟩ = some (.int .i64 0) := by subst hW2; go_simp
  have K0 := Lib.hid k0
  have K1 := Lib.hid k1
  have K2 := Lib.hid k2
  have HD2 : Hid (Xk.Ext W2 (World.drew W2)) := Lib.hid (by repeat (first | with_reducible exact Below.refl _ _ | ((with_reducible refine Below.setCell ?_ ?_ _); rotate_left; exact (by (try simp only [World.size_alloc, Xk.exw_size, World.size_setCell, World.size_drew, World.heap_drewN]); omega)) | ((with_reducible refine Below.alloc ?_ ?_ _); rotate_left; exact (by (try simp only [World.size_alloc, Xk.exw_size, World.size_setCell, World.size_drew, World.heap_drewN]); omega)) | ((with_reducible refine Xk.below_exw ?_ ?_ _); rotate_left; exact (by (try simp only [World.size_alloc, Xk.exw_size, World.size_setCell, World.size_drew, World.heap_drewN]); omega)) | (with_reducible refine Below.drew ?_)))
  clear hW2 hx2 HL1 HL2
  go_region_with (first
    | (go_at_call 19; (with_reducible refine (HW.out (World.drew W2)).mono ?_); rintro e Wa ⟨pc, cc, pr, cr, rfl, ⟨hs, hr⟩, hb⟩; have HS := Lib.hid hs; have HR := Lib.hid hr; have he := Xk.Ext.trans HD2.out hb; have HEa := Lib.hid he; have ka0 := Xk.ext_cell he K0.out; have ka1 := Xk.ext_cell he K1.out; have ka2 := Xk.ext_cell he K2.out; clear he hs hr hb)
    | (go_at_call 19; (with_reducible refine (HW.out _).mono ?_); rintro e Wa ⟨pc, cc, pr, cr, rfl, ⟨hs, hr⟩, hb⟩; have HS := Lib.hid hs; have HR := Lib.hid hr; have HEb := Lib.hid (Xk.Ext.trans HEa.out (Xk.Ext.trans (Xk.ext_exw _ _) hb)); clear hs hr hb)
    | (go_at_call 14; (with_reducible refine (HA.out _ _ _ _ _ (HM1.out.ext HEa.out) (HM2.out.ext HEa.out) HS.out HR.out).mono ?_); rintro e w' ⟨rfl, hb⟩; obtain ⟨p, rfl⟩ := Xk.exw_of hb; clear hb)
    | (go_at_call 10; (with_reducible refine (HT.out _ _ _ (Xk.Ext.trans HX2.out HEb.out) HS.out HR.out).mono ?_); rintro e w' ⟨rfl, hb⟩; obtain ⟨p, rfl⟩ := Xk.exw_of hb; clear hb))
  all_goals
    go_wp2
    go_ret
    exact ⟨rfl, Xk.Ext.trans HX2.out (Xk.Ext.trans HEb.out (Xk.ext_exw _ _))⟩
end Go.Proofs.YtmoippbmnanajaaGreatDoor
