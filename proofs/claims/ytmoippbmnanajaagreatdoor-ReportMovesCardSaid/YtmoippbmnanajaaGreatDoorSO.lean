/- Walks: report.Parse of a table of an answer that fits. -/
import Derived.Test.YtmoippbmnanajaaGreatDoorSN
import Derived.Test.YtmoippbmnanajaaGreatDoorSJ
set_option linter.unusedSimpArgs false
set_option linter.unusedVariables false
namespace Go.Proofs.YtmoippbmnanajaaGreatDoor
open Go.RowKit
/-- How large an answer is that comes back. -/
structure AnsFit (a : Ans) : Prop where
  names : a.names.length ≤ 4096
  name : ∀ x ∈ a.names, x.length ≤ 4000000
  rows : a.rows.length ≤ 4096
  row : ∀ r ∈ a.rows, r.length ≤ 4096 ∧ (∀ x ∈ r, isX x = true) ∧ IOk r
  lo : -9223372036854775808 ≤ a.n
  hi : a.n ≤ 9223372036854775807
theorem tableF_any (vc vr : Value) (a : Ans) (w : World) (hE : Env w) (hc : StrsAt w vc a.names) (hr : RowsAt w vr a.rows) (hk : AnsFit a) :
    Calls Tryz.prog 10 #[.agg #[vc, vr, .int .i64 a.n]] w fun e w' => e = .returned (.string ⟨(tableA a).toArray⟩) ∧ Below w.heap.size w w' :=
  tableB_any vc vr a.names a.rows a.n w hE hc hr hk.names hk.name hk.rows (fun r hr => ⟨Nat.le_trans (hk.row r hr).1 (by unfold maxLen; omega), (hk.row r hr).2.2⟩) hk.lo hk.hi
set_option maxRecDepth 100000 in
set_option maxHeartbeats 4000000 in
theorem parse_fit (s : List UInt8) (w : World) (hE : EnvR w) (hs : s.length ≤ 2000000000) (a : Ans) (hg : guess s = some a) (hG : ∀ W, Xk.Ext w W → Calls Tryz.prog 31 #[.string ⟨s.toArray⟩] W (GuessPost W (guess s))) (hk : AnsFit a) :
    Calls Tryz.prog 13 #[.string ⟨s.toArray⟩] w (ParsePost w (parse s)) := by
  have HG := Lib.hid hG
  have HE := Lib.hid hE
  have HK := Lib.hid hk
  have HGs := Lib.hid hg
  have HP : Hid (parse s = if tableA a = s ∧ (a.names.any fun x => Lib.contains x [32]) = false ∧ (a.rows.any fun r => r.any partX) = false then some a else none) := Lib.hid (by unfold parse; rw [hg])
  have HN := Lib.hid fun v W (h : Xk.Ext w W) (hv : StrsAt W v a.names) => find_texts v a.names W (hE.env.ext h) hv (Nat.le_trans hk.names (by omega)) fun x hx => Nat.le_trans (hk.name x hx) (by omega)
  have HW := Lib.hid fun v W (h : Xk.Ext w W) (hv : RowsAt W v a.rows) => find_rows v a.rows W (hE.env.ext h) hv (Nat.le_trans hk.rows (by omega)) fun r hr => ⟨Nat.le_trans (hk.row r hr).1 (by omega), fun x hx => Nat.le_trans (isX_size ((hk.row r hr).2.1 x hx)) (by omega)⟩
  have HT := Lib.hid fun vc vr W (h : Xk.Ext w W) (hc : StrsAt W vc a.names) (hr : RowsAt W vr a.rows) => tableF_any vc vr a W (hE.env.ext h) hc hr hk
  generalize tableA a = T at HP HT
  generalize (a.names.any fun x => Lib.contains x [32]) = b1 at HP HN
  generalize (a.rows.any fun r => r.any partX) = b2 at HP HW
  clear hE hg hk
  by_cases ht : T = s
  · cases b1
    · cases b2
      · have HP2 : Hid (parse s = some a) := Lib.hid (by rw [HP.out, if_pos ⟨ht, rfl, rfl⟩])
        subst ht
        go_enter Tryz.func13, Tryz.ntmps13
        go_wp2_with (first
          | (go_at_call 31; (with_reducible refine (HG.out _ (ext_alloc _ _)).mono ?_); rintro e W1 ⟨hb, hm⟩; rw [HGs.out] at hm; obtain ⟨vc, vr, rfl, hl⟩ := hm; obtain ⟨p1, c1, rfl, -⟩ := hl.now.1.parts; obtain ⟨p2, c2, rfl, -⟩ := hl.now.2.parts; have hr := heap_exw_alloc hb; have lw := (Array.getElem?_eq_some_iff.1 hr).1; have lne : w.heap.size ≠ W1.heap.size := (by omega); obtain ⟨g1, g2, g3, g4, g5, g6⟩ := Xe.cells_of3 hr; have HR := Lib.hid hr; have HB1 := Lib.hid ((ext_alloc w _).trans hb); have HL := Lib.hid hl; clear hb hr hl)
          | (go_at_call 10; (with_reducible refine (HT.out _ _ _ (by repeat (first | with_reducible exact HB1.out | with_reducible exact Below.refl _ _ | ((with_reducible refine Below.setCell ?_ ?_ _); rotate_left; exact (by (try simp only [World.size_alloc, Xk.exw_size, World.size_setCell, World.size_drew, World.heap_drewN]); omega)) | ((with_reducible refine Below.alloc ?_ ?_ _); rotate_left; exact (by (try simp only [World.size_alloc, Xk.exw_size, World.size_setCell, World.size_drew, World.heap_drewN]); omega)) | ((with_reducible refine Xk.below_exw ?_ ?_ _); rotate_left; exact (by (try simp only [World.size_alloc, Xk.exw_size, World.size_setCell, World.size_drew, World.heap_drewN]); omega)) | (with_reducible refine Below.drew ?_))) (HL.out.now.1.ext (ext_alloc _ _)) (HL.out.now.2.ext (ext_alloc _ _))).mono ?_); rintro e w' ⟨rfl, hb⟩; obtain ⟨p, rfl⟩ := Xk.exw_of hb; clear hb)
          | (go_at_call 32; (with_reducible refine (HN.out _ _ (by repeat (first | with_reducible exact HB1.out | with_reducible exact Below.refl _ _ | ((with_reducible refine Below.setCell ?_ ?_ _); rotate_left; exact (by (try simp only [World.size_alloc, Xk.exw_size, World.size_setCell, World.size_drew, World.heap_drewN]); omega)) | ((with_reducible refine Below.alloc ?_ ?_ _); rotate_left; exact (by (try simp only [World.size_alloc, Xk.exw_size, World.size_setCell, World.size_drew, World.heap_drewN]); omega)) | ((with_reducible refine Xk.below_exw ?_ ?_ _); rotate_left; exact (by (try simp only [World.size_alloc, Xk.exw_size, World.size_setCell, World.size_drew, World.heap_drewN]); omega)) | (with_reducible refine Below.drew ?_))) ((HL.out.now.1.ext (ext_alloc _ _)).ext (Xk.ext_exw _ _))).mono ?_); rintro e w' ⟨rfl, hb⟩; obtain ⟨p, rfl⟩ := Xk.exw_of hb; clear hb)
          | (go_at_call 35; (with_reducible refine (HW.out _ _ (by repeat (first | with_reducible exact HB1.out | with_reducible exact Below.refl _ _ | ((with_reducible refine Below.setCell ?_ ?_ _); rotate_left; exact (by (try simp only [World.size_alloc, Xk.exw_size, World.size_setCell, World.size_drew, World.heap_drewN]); omega)) | ((with_reducible refine Below.alloc ?_ ?_ _); rotate_left; exact (by (try simp only [World.size_alloc, Xk.exw_size, World.size_setCell, World.size_drew, World.heap_drewN]); omega)) | ((with_reducible refine Xk.below_exw ?_ ?_ _); rotate_left; exact (by (try simp only [World.size_alloc, Xk.exw_size, World.size_setCell, World.size_drew, World.heap_drewN]); omega)) | (with_reducible refine Below.drew ?_))) ((HL.out.now.2.ext (ext_alloc _ _)).ext (Xk.ext_exw _ _))).mono ?_); rintro e w' ⟨rfl, hb⟩; obtain ⟨p, rfl⟩ := Xk.exw_of hb; clear hb))
        generalize hWf : Xk.exw _ _ = Wf
        have hs3 := (Xe.set3 (x := .slice p1 a.names.length c1) (y := .slice p2 a.rows.length c2) (z := .int .i64 a.n) HR.out).1
        have hx : Xk.Ext (((W1.setCell ⟨w.heap.size, 0, none⟩ (.slice p1 a.names.length c1)).setCell ⟨w.heap.size, 1, none⟩ (.slice p2 a.rows.length c2)).setCell ⟨w.heap.size, 2, none⟩ (.int .i64 a.n)) Wf := by rw [← hWf]; exact (by repeat (first | with_reducible exact Below.refl _ _ | ((with_reducible refine Below.setCell ?_ ?_ _); rotate_left; exact (by (try simp only [World.size_alloc, Xk.exw_size, World.size_setCell, World.size_drew, World.heap_drewN]); omega)) | ((with_reducible refine Below.alloc ?_ ?_ _); rotate_left; exact (by (try simp only [World.size_alloc, Xk.exw_size, World.size_setCell, World.size_drew, World.heap_drewN]); omega)) | ((with_reducible refine Xk.below_exw ?_ ?_ _); rotate_left; exact (by (try simp only [World.size_alloc, Xk.exw_size, World.size_setCell, World.size_drew, World.heap_drewN]); omega)) | (with_reducible refine Below.drew ?_)))
        clear hWf
        obtain ⟨z1, z2, z3, -⟩ := Xe.cells_of3 ((hx.block _ (Array.getElem?_eq_some_iff.1 hs3).1).trans hs3)
        have hbx := ((HB1.out.setCell (p := ⟨w.heap.size, 0, none⟩) (Nat.le_refl _) (.slice p1 a.names.length c1)).setCell (p := ⟨w.heap.size, 1, none⟩) (Nat.le_refl _) (.slice p2 a.rows.length c2)).setCell (p := ⟨w.heap.size, 2, none⟩) (Nat.le_refl _) (.int .i64 a.n)
        refine bodyPost_ret (v := .tuple #[.agg #[.slice p1 a.names.length c1, .slice p2 a.rows.length c2, .int .i64 a.n], .int .i64 0]) (by simp [results, Tryz.results13, go_sem, z1, z2, z3]) rfl ⟨hbx.trans (hx.mono hbx.size), ?_⟩
        rw [HP2.out]
        exact ⟨_, _, rfl, (((((HL.out.setCell (.inl (by simp)) _).setCell (.inl (by simp)) _).setCell (.inl (by simp)) _).ext hx).le (by simp))⟩
      · have HP2 : Hid (parse s = none) := Lib.hid (by rw [HP.out, if_neg (fun h => by cases h.2.2)])
        subst ht
        go_enter Tryz.func13, Tryz.ntmps13
        go_wp2_with (first
          | (go_at_call 31; (with_reducible refine (HG.out _ (ext_alloc _ _)).mono ?_); rintro e W1 ⟨hb, hm⟩; rw [HGs.out] at hm; obtain ⟨vc, vr, rfl, hl⟩ := hm; obtain ⟨p1, c1, rfl, -⟩ := hl.now.1.parts; obtain ⟨p2, c2, rfl, -⟩ := hl.now.2.parts; have hr := heap_exw_alloc hb; have lw := (Array.getElem?_eq_some_iff.1 hr).1; have lne : w.heap.size ≠ W1.heap.size := (by omega); obtain ⟨g1, g2, g3, g4, g5, g6⟩ := Xe.cells_of3 hr; have HR := Lib.hid hr; have HB1 := Lib.hid ((ext_alloc w _).trans hb); have HL := Lib.hid hl; clear hb hr hl)
          | (go_at_call 10; (with_reducible refine (HT.out _ _ _ (by repeat (first | with_reducible exact HB1.out | with_reducible exact Below.refl _ _ | ((with_reducible refine Below.setCell ?_ ?_ _); rotate_left; exact (by (try simp only [World.size_alloc, Xk.exw_size, World.size_setCell, World.size_drew, World.heap_drewN]); omega)) | ((with_reducible refine Below.alloc ?_ ?_ _); rotate_left; exact (by (try simp only [World.size_alloc, Xk.exw_size, World.size_setCell, World.size_drew, World.heap_drewN]); omega)) | ((with_reducible refine Xk.below_exw ?_ ?_ _); rotate_left; exact (by (try simp only [World.size_alloc, Xk.exw_size, World.size_setCell, World.size_drew, World.heap_drewN]); omega)) | (with_reducible refine Below.drew ?_))) (HL.out.now.1.ext (ext_alloc _ _)) (HL.out.now.2.ext (ext_alloc _ _))).mono ?_); rintro e w' ⟨rfl, hb⟩; obtain ⟨p, rfl⟩ := Xk.exw_of hb; clear hb)
          | (go_at_call 32; (with_reducible refine (HN.out _ _ (by repeat (first | with_reducible exact HB1.out | with_reducible exact Below.refl _ _ | ((with_reducible refine Below.setCell ?_ ?_ _); rotate_left; exact (by (try simp only [World.size_alloc, Xk.exw_size, World.size_setCell, World.size_drew, World.heap_drewN]); omega)) | ((with_reducible refine Below.alloc ?_ ?_ _); rotate_left; exact (by (try simp only [World.size_alloc, Xk.exw_size, World.size_setCell, World.size_drew, World.heap_drewN]); omega)) | ((with_reducible refine Xk.below_exw ?_ ?_ _); rotate_left; exact (by (try simp only [World.size_alloc, Xk.exw_size, World.size_setCell, World.size_drew, World.heap_drewN]); omega)) | (with_reducible refine Below.drew ?_))) ((HL.out.now.1.ext (ext_alloc _ _)).ext (Xk.ext_exw _ _))).mono ?_); rintro e w' ⟨rfl, hb⟩; obtain ⟨p, rfl⟩ := Xk.exw_of hb; clear hb)
          | (go_at_call 35; (with_reducible refine (HW.out _ _ (by repeat (first | with_reducible exact HB1.out | with_reducible exact Below.refl _ _ | ((with_reducible refine Below.setCell ?_ ?_ _); rotate_left; exact (by (try simp only [World.size_alloc, Xk.exw_size, World.size_setCell, World.size_drew, World.heap_drewN]); omega)) | ((with_reducible refine Below.alloc ?_ ?_ _); rotate_left; exact (by (try simp only [World.size_alloc, Xk.exw_size, World.size_setCell, World.size_drew, World.heap_drewN]); omega)) | ((with_reducible refine Xk.below_exw ?_ ?_ _); rotate_left; exact (by (try simp only [World.size_alloc, Xk.exw_size, World.size_setCell, World.size_drew, World.heap_drewN]); omega)) | (with_reducible refine Below.drew ?_))) ((HL.out.now.2.ext (ext_alloc _ _)).ext (Xk.ext_exw _ _))).mono ?_); rintro e w' ⟨rfl, hb⟩; obtain ⟨p, rfl⟩ := Xk.exw_of hb; clear hb))
        generalize hWf : Xk.exw _ _ = Wf
        have hs3 := (Xe.set3 (x := .slice none 0 0) (y := .slice none 0 0) (z := .int .i64 0) HR.out).1
        have hx : Xk.Ext (((W1.setCell ⟨w.heap.size, 0, none⟩ (.slice none 0 0)).setCell ⟨w.heap.size, 1, none⟩ (.slice none 0 0)).setCell ⟨w.heap.size, 2, none⟩ (.int .i64 0)) Wf := by rw [← hWf]; exact (by repeat (first | with_reducible exact Below.refl _ _ | ((with_reducible refine Below.setCell ?_ ?_ _); rotate_left; exact (by (try simp only [World.size_alloc, Xk.exw_size, World.size_setCell, World.size_drew, World.heap_drewN]); omega)) | ((with_reducible refine Below.alloc ?_ ?_ _); rotate_left; exact (by (try simp only [World.size_alloc, Xk.exw_size, World.size_setCell, World.size_drew, World.heap_drewN]); omega)) | ((with_reducible refine Xk.below_exw ?_ ?_ _); rotate_left; exact (by (try simp only [World.size_alloc, Xk.exw_size, World.size_setCell, World.size_drew, World.heap_drewN]); omega)) | (with_reducible refine Below.drew ?_)))
        clear hWf
        obtain ⟨z1, z2, z3, -⟩ := Xe.cells_of3 ((hx.block _ (Array.getElem?_eq_some_iff.1 hs3).1).trans hs3)
        have hbx := ((HB1.out.setCell (p := ⟨w.heap.size, 0, none⟩) (Nat.le_refl _) (.slice none 0 0)).setCell (p := ⟨w.heap.size, 1, none⟩) (Nat.le_refl _) (.slice none 0 0)).setCell (p := ⟨w.heap.size, 2, none⟩) (Nat.le_refl _) (.int .i64 0)
        refine bodyPost_ret (v := .tuple #[.agg #[.slice none 0 0, .slice none 0 0, .int .i64 0], .int .i64 240]) (by simp [results, Tryz.results13, go_sem, z1, z2, z3]) rfl ⟨hbx.trans (hx.mono hbx.size), ?_⟩
        rw [HP2.out]
    · have HP2 : Hid (parse s = none) := Lib.hid (by rw [HP.out, if_neg (fun h => by cases h.2.1)])
      subst ht
      go_enter Tryz.func13, Tryz.ntmps13
      go_wp2_with (first
        | (go_at_call 31; (with_reducible refine (HG.out _ (ext_alloc _ _)).mono ?_); rintro e W1 ⟨hb, hm⟩; rw [HGs.out] at hm; obtain ⟨vc, vr, rfl, hl⟩ := hm; obtain ⟨p1, c1, rfl, -⟩ := hl.now.1.parts; obtain ⟨p2, c2, rfl, -⟩ := hl.now.2.parts; have hr := heap_exw_alloc hb; have lw := (Array.getElem?_eq_some_iff.1 hr).1; have lne : w.heap.size ≠ W1.heap.size := (by omega); obtain ⟨g1, g2, g3, g4, g5, g6⟩ := Xe.cells_of3 hr; have HR := Lib.hid hr; have HB1 := Lib.hid ((ext_alloc w _).trans hb); have HL := Lib.hid hl; clear hb hr hl)
        | (go_at_call 10; (with_reducible refine (HT.out _ _ _ (by repeat (first | with_reducible exact HB1.out | with_reducible exact Below.refl _ _ | ((with_reducible refine Below.setCell ?_ ?_ _); rotate_left; exact (by (try simp only [World.size_alloc, Xk.exw_size, World.size_setCell, World.size_drew, World.heap_drewN]); omega)) | ((with_reducible refine Below.alloc ?_ ?_ _); rotate_left; exact (by (try simp only [World.size_alloc, Xk.exw_size, World.size_setCell, World.size_drew, World.heap_drewN]); omega)) | ((with_reducible refine Xk.below_exw ?_ ?_ _); rotate_left; exact (by (try simp only [World.size_alloc, Xk.exw_size, World.size_setCell, World.size_drew, World.heap_drewN]); omega)) | (with_reducible refine Below.drew ?_))) (HL.out.now.1.ext (ext_alloc _ _)) (HL.out.now.2.ext (ext_alloc _ _))).mono ?_); rintro e w' ⟨rfl, hb⟩; obtain ⟨p, rfl⟩ := Xk.exw_of hb; clear hb)
        | (go_at_call 32; (with_reducible refine (HN.out _ _ (by repeat (first | with_reducible exact HB1.out | with_reducible exact Below.refl _ _ | ((with_reducible refine Below.setCell ?_ ?_ _); rotate_left; exact (by (try simp only [World.size_alloc, Xk.exw_size, World.size_setCell, World.size_drew, World.heap_drewN]); omega)) | ((with_reducible refine Below.alloc ?_ ?_ _); rotate_left; exact (by (try simp only [World.size_alloc, Xk.exw_size, World.size_setCell, World.size_drew, World.heap_drewN]); omega)) | ((with_reducible refine Xk.below_exw ?_ ?_ _); rotate_left; exact (by (try simp only [World.size_alloc, Xk.exw_size, World.size_setCell, World.size_drew, World.heap_drewN]); omega)) | (with_reducible refine Below.drew ?_))) ((HL.out.now.1.ext (ext_alloc _ _)).ext (Xk.ext_exw _ _))).mono ?_); rintro e w' ⟨rfl, hb⟩; obtain ⟨p, rfl⟩ := Xk.exw_of hb; clear hb)
        | (go_at_call 35; (with_reducible refine (HW.out _ _ (by repeat (first | with_reducible exact HB1.out | with_reducible exact Below.refl _ _ | ((with_reducible refine Below.setCell ?_ ?_ _); rotate_left; exact (by (try simp only [World.size_alloc, Xk.exw_size, World.size_setCell, World.size_drew, World.heap_drewN]); omega)) | ((with_reducible refine Below.alloc ?_ ?_ _); rotate_left; exact (by (try simp only [World.size_alloc, Xk.exw_size, World.size_setCell, World.size_drew, World.heap_drewN]); omega)) | ((with_reducible refine Xk.below_exw ?_ ?_ _); rotate_left; exact (by (try simp only [World.size_alloc, Xk.exw_size, World.size_setCell, World.size_drew, World.heap_drewN]); omega)) | (with_reducible refine Below.drew ?_))) ((HL.out.now.2.ext (ext_alloc _ _)).ext (Xk.ext_exw _ _))).mono ?_); rintro e w' ⟨rfl, hb⟩; obtain ⟨p, rfl⟩ := Xk.exw_of hb; clear hb))
      generalize hWf : Xk.exw _ _ = Wf
      have hs3 := (Xe.set3 (x := .slice none 0 0) (y := .slice none 0 0) (z := .int .i64 0) HR.out).1
      have hx : Xk.Ext (((W1.setCell ⟨w.heap.size, 0, none⟩ (.slice none 0 0)).setCell ⟨w.heap.size, 1, none⟩ (.slice none 0 0)).setCell ⟨w.heap.size, 2, none⟩ (.int .i64 0)) Wf := by rw [← hWf]; exact (by repeat (first | with_reducible exact Below.refl _ _ | ((with_reducible refine Below.setCell ?_ ?_ _); rotate_left; exact (by (try simp only [World.size_alloc, Xk.exw_size, World.size_setCell, World.size_drew, World.heap_drewN]); omega)) | ((with_reducible refine Below.alloc ?_ ?_ _); rotate_left; exact (by (try simp only [World.size_alloc, Xk.exw_size, World.size_setCell, World.size_drew, World.heap_drewN]); omega)) | ((with_reducible refine Xk.below_exw ?_ ?_ _); rotate_left; exact (by (try simp only [World.size_alloc, Xk.exw_size, World.size_setCell, World.size_drew, World.heap_drewN]); omega)) | (with_reducible refine Below.drew ?_)))
      clear hWf
      obtain ⟨z1, z2, z3, -⟩ := Xe.cells_of3 ((hx.block _ (Array.getElem?_eq_some_iff.1 hs3).1).trans hs3)
      have hbx := ((HB1.out.setCell (p := ⟨w.heap.size, 0, none⟩) (Nat.le_refl _) (.slice none 0 0)).setCell (p := ⟨w.heap.size, 1, none⟩) (Nat.le_refl _) (.slice none 0 0)).setCell (p := ⟨w.heap.size, 2, none⟩) (Nat.le_refl _) (.int .i64 0)
      refine bodyPost_ret (v := .tuple #[.agg #[.slice none 0 0, .slice none 0 0, .int .i64 0], .int .i64 240]) (by simp [results, Tryz.results13, go_sem, z1, z2, z3]) rfl ⟨hbx.trans (hx.mono hbx.size), ?_⟩
      rw [HP2.out]
  · have HP2 : Hid (parse s = none) := Lib.hid (by rw [HP.out, if_neg (fun h => ht h.1)])
    have ht2 : (T == s) = false := beq_eq_false_iff_ne.2 ht
    go_enter Tryz.func13, Tryz.ntmps13
    go_wp2_with (first
      | (go_at_call 31; (with_reducible refine (HG.out _ (ext_alloc _ _)).mono ?_); rintro e W1 ⟨hb, hm⟩; rw [HGs.out] at hm; obtain ⟨vc, vr, rfl, hl⟩ := hm; obtain ⟨p1, c1, rfl, -⟩ := hl.now.1.parts; obtain ⟨p2, c2, rfl, -⟩ := hl.now.2.parts; have hr := heap_exw_alloc hb; have lw := (Array.getElem?_eq_some_iff.1 hr).1; have lne : w.heap.size ≠ W1.heap.size := (by omega); obtain ⟨g1, g2, g3, g4, g5, g6⟩ := Xe.cells_of3 hr; have HR := Lib.hid hr; have HB1 := Lib.hid ((ext_alloc w _).trans hb); have HL := Lib.hid hl; clear hb hr hl)
      | (go_at_call 10; (with_reducible refine (HT.out _ _ _ (by repeat (first | with_reducible exact HB1.out | with_reducible exact Below.refl _ _ | ((with_reducible refine Below.setCell ?_ ?_ _); rotate_left; exact (by (try simp only [World.size_alloc, Xk.exw_size, World.size_setCell, World.size_drew, World.heap_drewN]); omega)) | ((with_reducible refine Below.alloc ?_ ?_ _); rotate_left; exact (by (try simp only [World.size_alloc, Xk.exw_size, World.size_setCell, World.size_drew, World.heap_drewN]); omega)) | ((with_reducible refine Xk.below_exw ?_ ?_ _); rotate_left; exact (by (try simp only [World.size_alloc, Xk.exw_size, World.size_setCell, World.size_drew, World.heap_drewN]); omega)) | (with_reducible refine Below.drew ?_))) (HL.out.now.1.ext (ext_alloc _ _)) (HL.out.now.2.ext (ext_alloc _ _))).mono ?_); rintro e w' ⟨rfl, hb⟩; obtain ⟨p, rfl⟩ := Xk.exw_of hb; clear hb)
      | (go_at_call 32; (with_reducible refine (HN.out _ _ (by repeat (first | with_reducible exact HB1.out | with_reducible exact Below.refl _ _ | ((with_reducible refine Below.setCell ?_ ?_ _); rotate_left; exact (by (try simp only [World.size_alloc, Xk.exw_size, World.size_setCell, World.size_drew, World.heap_drewN]); omega)) | ((with_reducible refine Below.alloc ?_ ?_ _); rotate_left; exact (by (try simp only [World.size_alloc, Xk.exw_size, World.size_setCell, World.size_drew, World.heap_drewN]); omega)) | ((with_reducible refine Xk.below_exw ?_ ?_ _); rotate_left; exact (by (try simp only [World.size_alloc, Xk.exw_size, World.size_setCell, World.size_drew, World.heap_drewN]); omega)) | (with_reducible refine Below.drew ?_))) ((HL.out.now.1.ext (ext_alloc _ _)).ext (Xk.ext_exw _ _))).mono ?_); rintro e w' ⟨rfl, hb⟩; obtain ⟨p, rfl⟩ := Xk.exw_of hb; clear hb)
      | (go_at_call 35; (with_reducible refine (HW.out _ _ (by repeat (first | with_reducible exact HB1.out | with_reducible exact Below.refl _ _ | ((with_reducible refine Below.setCell ?_ ?_ _); rotate_left; exact (by (try simp only [World.size_alloc, Xk.exw_size, World.size_setCell, World.size_drew, World.heap_drewN]); omega)) | ((with_reducible refine Below.alloc ?_ ?_ _); rotate_left; exact (by (try simp only [World.size_alloc, Xk.exw_size, World.size_setCell, World.size_drew, World.heap_drewN]); omega)) | ((with_reducible refine Xk.below_exw ?_ ?_ _); rotate_left; exact (by (try simp only [World.size_alloc, Xk.exw_size, World.size_setCell, World.size_drew, World.heap_drewN]); omega)) | (with_reducible refine Below.drew ?_))) ((HL.out.now.2.ext (ext_alloc _ _)).ext (Xk.ext_exw _ _))).mono ?_); rintro e w' ⟨rfl, hb⟩; obtain ⟨p, rfl⟩ := Xk.exw_of hb; clear hb))
    generalize hWf : Xk.exw _ _ = Wf
    have hs3 := (Xe.set3 (x := .slice none 0 0) (y := .slice none 0 0) (z := .int .i64 0) HR.out).1
    have hx : Xk.Ext (((W1.setCell ⟨w.heap.size, 0, none⟩ (.slice none 0 0)).setCell ⟨w.heap.size, 1, none⟩ (.slice none 0 0)).setCell ⟨w.heap.size, 2, none⟩ (.int .i64 0)) Wf := by rw [← hWf]; exact (by repeat (first | with_reducible exact Below.refl _ _ | ((with_reducible refine Below.setCell ?_ ?_ _); rotate_left; exact (by (try simp only [World.size_alloc, Xk.exw_size, World.size_setCell, World.size_drew, World.heap_drewN]); omega)) | ((with_reducible refine Below.alloc ?_ ?_ _); rotate_left; exact (by (try simp only [World.size_alloc, Xk.exw_size, World.size_setCell, World.size_drew, World.heap_drewN]); omega)) | ((with_reducible refine Xk.below_exw ?_ ?_ _); rotate_left; exact (by (try simp only [World.size_alloc, Xk.exw_size, World.size_setCell, World.size_drew, World.heap_drewN]); omega)) | (with_reducible refine Below.drew ?_)))
    clear hWf
    obtain ⟨z1, z2, z3, -⟩ := Xe.cells_of3 ((hx.block _ (Array.getElem?_eq_some_iff.1 hs3).1).trans hs3)
    have hbx := ((HB1.out.setCell (p := ⟨w.heap.size, 0, none⟩) (Nat.le_refl _) (.slice none 0 0)).setCell (p := ⟨w.heap.size, 1, none⟩) (Nat.le_refl _) (.slice none 0 0)).setCell (p := ⟨w.heap.size, 2, none⟩) (Nat.le_refl _) (.int .i64 0)
    refine bodyPost_ret (v := .tuple #[.agg #[.slice none 0 0, .slice none 0 0, .int .i64 0], .int .i64 240]) (by simp [results, Tryz.results13, go_sem, z1, z2, z3]) rfl ⟨hbx.trans (hx.mono hbx.size), ?_⟩
    rw [HP2.out]
/-- How long a table is. -/
theorem tableOf_most (names : List (List UInt8)) (L : List (List V)) (hn : names.length ≤ 12) (hm : ∀ x ∈ names, x.length ≤ 1048576) (hL : L.length ≤ 30) (hl : ∀ l ∈ L, l.length ≤ maxLen ∧ IOk l) :
    (P25.tableOf (P25.cols names (L.map rowOf)) names (L.map rowOf)).length ≤ 2000000000 := by
  have hrm := rows_most hl
  obtain ⟨hw1, hw2⟩ := P25.table_widths names (L.map rowOf) 1048658 (fun x hx => Nat.le_trans (hm x hx) (by omega)) (fun r hr c hc => Nat.le_trans (hrm r hr c hc) (by omega))
  have hcl : (P25.cols names (L.map rowOf)).length = names.length := P25.cols_length _ _
  have hmul : names.length * (1048658 + 3) ≤ 12 * (1048658 + 3) := Nat.mul_le_mul hn (Nat.le_refl _)
  have h1 := P25.line_most (cs := P25.cols names (L.map rowOf)) (l := names.map P25.clean) (by rw [hcl, List.length_map]) hw1
  have h2 := P25.join_length P25.cross 1048658 (P25.rules (P25.cols names (L.map rowOf))) (fun y hy => by
    obtain ⟨c, hc, rfl⟩ := List.mem_map.1 hy
    obtain ⟨i, hi⟩ := List.mem_iff_getElem?.1 hc
    rw [List.length_replicate]
    have hlt : i < names.length := by have := (List.getElem?_eq_some_iff.1 hi).1; omega
    exact (hw1 i c _ hi (by rw [List.getElem?_map, List.getElem?_eq_getElem hlt]; rfl)).2)
  have h3 := P25.lines_most (cs := P25.cols names (L.map rowOf)) (n := names.length) (W := 12583933) (L.map rowOf) fun r hr => by
    have h := P25.line_most (cs := P25.cols names (L.map rowOf)) (l := P25.cells r names.length) (by rw [hcl, P25.cells_length]) (hw2 r hr)
    rw [hcl] at h
    omega
  rw [hcl] at h1
  rw [P25.rules_length, hcl, show P25.cross.length = 3 from rfl] at h2
  have h4 : (L.map rowOf).length * 12583933 ≤ 30 * 12583933 := Nat.mul_le_mul_right _ (by simpa using hL)
  unfold P25.tableOf
  simp only [List.length_append, List.length_cons, List.length_nil]
  omega
/-- What is read of the table of an answer that fits. -/
theorem parse_table (a : Ans) (w : World) (hE : EnvR w) (hf : fitA a = true) (hk : AnsFit a) (hn : a.names.length ≤ 12) (hm : ∀ x ∈ a.names, x.length ≤ 1048576) (hL : a.rows.length ≤ 30) :
    Calls Tryz.prog 13 #[.string ⟨(tableA a).toArray⟩] w (ParsePost w (some a)) := by
  have hb := fit_back a hf (fun l hl => (hk.row l hl).2.2) hk.lo hk.hi
  have hg : guess (tableA a) = some a := by
    have h := hb
    unfold parse at h
    split at h
    · cases h
    · rename_i b hb'
      split at h
      · cases h; exact hb'
      · cases h
  have hl : ∀ l ∈ a.rows, l.length ≤ maxLen ∧ IOk l := fun r hr => ⟨Nat.le_trans (hk.row r hr).1 (by unfold maxLen; omega), (hk.row r hr).2.2⟩
  rw [← hb]
  by_cases hz : a.names = []
  · have ht : tableA a = Lib.itoa a.n ++ [10] := by unfold tableA P25.table; rw [if_pos hz]
    have hlen : (tableA a).length ≤ 100 := by
      rw [ht]
      have := Lib.itoa_length_le a.n hk.lo hk.hi
      simp only [List.length_append, List.length_cons, List.length_nil]
      omega
    exact parse_fit _ w hE (by omega) a hg (fun W hx => guess_any _ W (hE.ext hx) (by omega)) hk
  · have ht : tableA a = P25.tableOf (P25.cols a.names (a.rows.map rowOf)) a.names (a.rows.map rowOf) := by unfold tableA P25.table; rw [if_neg hz]
    have hlen : (tableA a).length ≤ 2000000000 := by rw [ht]; exact tableOf_most _ _ hn hm hL hl
    have hls := table_lines (P25.cols a.names (a.rows.map rowOf)) a.names (a.rows.map rowOf) (rowOf_ten a.rows)
    rw [← ht] at hls
    obtain ⟨-, h2⟩ := lines_most (tableA a)
    have hll : (linesOf (tableA a)).length = a.rows.length + 3 := by rw [hls]; simp
    have hcs : P25.cols a.names (a.rows.map rowOf) ≠ [] := fun e => hz (by have := congrArg List.length e; rw [P25.cols_length] at this; exact List.eq_nil_of_length_eq_zero this)
    have h1 : (linesOf (tableA a)).getD 1 [] = Lib.join (P25.rules (P25.cols a.names (a.rows.map rowOf))) P25.cross := by rw [hls]; rfl
    have hw : widths ((linesOf (tableA a)).getD 1 []) = (P25.cols a.names (a.rows.map rowOf)).map Prod.fst := by rw [h1, widths_rules _ hcs]
    have h3 := getD_most (linesOf (tableA a)) 1 _ h2
    obtain ⟨-, g2⟩ := P25.split_most ((linesOf (tableA a)).getD 1 []) [45, 43, 45] (by decide)
    exact parse_fit _ w hE hlen a hg (fun W hx => guess_many _ W (hE.ext hx) hlen (by omega) (by omega) (fun x hx => Nat.le_trans (h2 x hx) hlen) (by rw [hw, List.length_map, P25.cols_length]; omega) (fun x hx => Nat.le_trans (g2 x hx) (Nat.le_trans h3 hlen))) hk
theorem fit_parts {names : List (List UInt8)} {L : List (List V)} {cnt : Int} (h : fitA ⟨names, L, cnt⟩ = true) (hf : P25.fewA names L = true) (hm : ∀ x ∈ names, x.length ≤ 1048576) (hi : ∀ l ∈ L, IOk l) (h0 : -9223372036854775808 ≤ cnt) (h1 : cnt ≤ 9223372036854775807) : AnsFit ⟨names, L, cnt⟩ := by
  obtain ⟨f1, f2, f3⟩ := few_parts hf
  have hx : ∀ r ∈ L, ∀ x ∈ r, isX x = true := by
    unfold fitA at h
    dsimp only at h
    split at h
    · rw [List.isEmpty_iff] at h
      subst h
      intro r hr; cases hr
    · simp only [Bool.and_eq_true, List.all_eq_true] at h
      intro r hr x hx
      exact ((row_parts (h.2 r hr)).2 x hx).1
  exact ⟨by dsimp only; omega, fun x hx => Nat.le_trans (hm x hx) (by omega), by dsimp only; omega, fun r hr => ⟨Nat.le_trans (f3 r hr) (by omega), hx r hr, hi r hr⟩, h0, h1⟩
set_option maxRecDepth 100000 in
set_option maxHeartbeats 4000000 in
theorem reportBack_any (vc vr : Value) (names : List (List UInt8)) (L : List (List V)) (cnt : Int) (w : World) (hE : EnvR w) (hc : StrsAt w vc names) (hr : RowsAt w vr L)
    (hn : names.length ≤ maxLen) (hm : ∀ x ∈ names, x.length ≤ 1048576) (hL : L.length ≤ maxLen) (hl : ∀ l ∈ L, l.length ≤ maxLen ∧ IOk l) (h0 : -9223372036854775808 ≤ cnt) (h1 : cnt ≤ 9223372036854775807) :
    Calls Tryz.prog 4 #[.agg #[vc, vr, .int .i64 cnt]] w fun e w' => e = .returned (.bool true) ∧ Below w.heap.size w w' := by
  have HKn := Lib.hid fun W (hx : Xk.Ext w W) => knownR_any W (hE.ext hx)
  have HF := Lib.hid fun W (hx : Xk.Ext w W) => few_any vc vr names L cnt W (hc.ext hx) (hr.ext hx) hn hL fun r hr => (hl r hr).1
  have HFt := Lib.hid fun W (hx : Xk.Ext w W) => fit_any vc vr names L cnt W (hc.ext hx) (hr.ext hx) hn hL (fun x hx => Nat.le_trans (hm x hx) (by unfold maxLen; omega)) fun r hr => (hl r hr).1
  have HC := Lib.hid hc
  have HR := Lib.hid hr
  obtain ⟨pc, cc, ec, -⟩ := hc.parts
  obtain ⟨pr, cr, er, -⟩ := hr.parts
  cases hf : P25.fewA names L
  · rw [hf] at HF
    subst ec er
    clear hE hc hr hn hm hL hl h0 h1 hf HFt HC HR
    go_enter Tryz.func4, Tryz.ntmps4
    go_wp2_with (first | (go_at_call 8; (with_reducible refine (HKn.out _ (by repeat (first | with_reducible exact Below.refl _ _ | ((with_reducible refine Below.setCell ?_ ?_ _); rotate_left; exact (by (try simp only [World.size_alloc, Xk.exw_size, World.size_setCell, World.size_drew, World.heap_drewN]); omega)) | ((with_reducible refine Below.alloc ?_ ?_ _); rotate_left; exact (by (try simp only [World.size_alloc, Xk.exw_size, World.size_setCell, World.size_drew, World.heap_drewN]); omega)) | ((with_reducible refine Xk.below_exw ?_ ?_ _); rotate_left; exact (by (try simp only [World.size_alloc, Xk.exw_size, World.size_setCell, World.size_drew, World.heap_drewN]); omega)) | (with_reducible refine Below.drew ?_)))).mono ?_); rintro e w' ⟨rfl, hb⟩; obtain ⟨p, rfl⟩ := Xk.exw_of hb; clear hb) | (go_at_call 9; (with_reducible refine (HF.out _ (by repeat (first | with_reducible exact Below.refl _ _ | ((with_reducible refine Below.setCell ?_ ?_ _); rotate_left; exact (by (try simp only [World.size_alloc, Xk.exw_size, World.size_setCell, World.size_drew, World.heap_drewN]); omega)) | ((with_reducible refine Below.alloc ?_ ?_ _); rotate_left; exact (by (try simp only [World.size_alloc, Xk.exw_size, World.size_setCell, World.size_drew, World.heap_drewN]); omega)) | ((with_reducible refine Xk.below_exw ?_ ?_ _); rotate_left; exact (by (try simp only [World.size_alloc, Xk.exw_size, World.size_setCell, World.size_drew, World.heap_drewN]); omega)) | (with_reducible refine Below.drew ?_)))).mono ?_); rintro e w' ⟨rfl, hb⟩; obtain ⟨p, rfl⟩ := Xk.exw_of hb; clear hb))
    go_ret
    exact ⟨rfl, (by repeat (first | with_reducible exact Below.refl _ _ | ((with_reducible refine Below.setCell ?_ ?_ _); rotate_left; exact (by (try simp only [World.size_alloc, Xk.exw_size, World.size_setCell, World.size_drew, World.heap_drewN]); omega)) | ((with_reducible refine Below.alloc ?_ ?_ _); rotate_left; exact (by (try simp only [World.size_alloc, Xk.exw_size, World.size_setCell, World.size_drew, World.heap_drewN]); omega)) | ((with_reducible refine Xk.below_exw ?_ ?_ _); rotate_left; exact (by (try simp only [World.size_alloc, Xk.exw_size, World.size_setCell, World.size_drew, World.heap_drewN]); omega)) | (with_reducible refine Below.drew ?_)))⟩
  · rw [hf] at HF
    cases hft : fitA ⟨names, L, cnt⟩
    · rw [hft] at HFt
      subst ec er
      clear hE hc hr hn hm hL hl h0 h1 hf HC HR
      go_enter Tryz.func4, Tryz.ntmps4
      go_wp2_with (first | (go_at_call 8; (with_reducible refine (HKn.out _ (by repeat (first | with_reducible exact Below.refl _ _ | ((with_reducible refine Below.setCell ?_ ?_ _); rotate_left; exact (by (try simp only [World.size_alloc, Xk.exw_size, World.size_setCell, World.size_drew, World.heap_drewN]); omega)) | ((with_reducible refine Below.alloc ?_ ?_ _); rotate_left; exact (by (try simp only [World.size_alloc, Xk.exw_size, World.size_setCell, World.size_drew, World.heap_drewN]); omega)) | ((with_reducible refine Xk.below_exw ?_ ?_ _); rotate_left; exact (by (try simp only [World.size_alloc, Xk.exw_size, World.size_setCell, World.size_drew, World.heap_drewN]); omega)) | (with_reducible refine Below.drew ?_)))).mono ?_); rintro e w' ⟨rfl, hb⟩; obtain ⟨p, rfl⟩ := Xk.exw_of hb; clear hb) | (go_at_call 9; (with_reducible refine (HF.out _ (by repeat (first | with_reducible exact Below.refl _ _ | ((with_reducible refine Below.setCell ?_ ?_ _); rotate_left; exact (by (try simp only [World.size_alloc, Xk.exw_size, World.size_setCell, World.size_drew, World.heap_drewN]); omega)) | ((with_reducible refine Below.alloc ?_ ?_ _); rotate_left; exact (by (try simp only [World.size_alloc, Xk.exw_size, World.size_setCell, World.size_drew, World.heap_drewN]); omega)) | ((with_reducible refine Xk.below_exw ?_ ?_ _); rotate_left; exact (by (try simp only [World.size_alloc, Xk.exw_size, World.size_setCell, World.size_drew, World.heap_drewN]); omega)) | (with_reducible refine Below.drew ?_)))).mono ?_); rintro e w' ⟨rfl, hb⟩; obtain ⟨p, rfl⟩ := Xk.exw_of hb; clear hb) | (go_at_call 12; (with_reducible refine (HFt.out _ (by repeat (first | with_reducible exact Below.refl _ _ | ((with_reducible refine Below.setCell ?_ ?_ _); rotate_left; exact (by (try simp only [World.size_alloc, Xk.exw_size, World.size_setCell, World.size_drew, World.heap_drewN]); omega)) | ((with_reducible refine Below.alloc ?_ ?_ _); rotate_left; exact (by (try simp only [World.size_alloc, Xk.exw_size, World.size_setCell, World.size_drew, World.heap_drewN]); omega)) | ((with_reducible refine Xk.below_exw ?_ ?_ _); rotate_left; exact (by (try simp only [World.size_alloc, Xk.exw_size, World.size_setCell, World.size_drew, World.heap_drewN]); omega)) | (with_reducible refine Below.drew ?_)))).mono ?_); rintro e w' ⟨rfl, hb⟩; obtain ⟨p, rfl⟩ := Xk.exw_of hb; clear hb))
      go_ret
      exact ⟨rfl, (by repeat (first | with_reducible exact Below.refl _ _ | ((with_reducible refine Below.setCell ?_ ?_ _); rotate_left; exact (by (try simp only [World.size_alloc, Xk.exw_size, World.size_setCell, World.size_drew, World.heap_drewN]); omega)) | ((with_reducible refine Below.alloc ?_ ?_ _); rotate_left; exact (by (try simp only [World.size_alloc, Xk.exw_size, World.size_setCell, World.size_drew, World.heap_drewN]); omega)) | ((with_reducible refine Xk.below_exw ?_ ?_ _); rotate_left; exact (by (try simp only [World.size_alloc, Xk.exw_size, World.size_setCell, World.size_drew, World.heap_drewN]); omega)) | (with_reducible refine Below.drew ?_)))⟩
    · rw [hft] at HFt
      have hk := fit_parts hft hf hm (fun l hl' => (hl l hl').2) h0 h1
      obtain ⟨f1, f2, f3⟩ := few_parts hf
      have HT := Lib.hid fun W (hx : Xk.Ext w W) => tableF_any vc vr ⟨names, L, cnt⟩ W (hE.env.ext hx) (hc.ext hx) (hr.ext hx) hk
      have HP := Lib.hid fun W (hx : Xk.Ext w W) => parse_table ⟨names, L, cnt⟩ W (hE.ext hx) hft hk f1 hm f2
      have hcn : AnsCount ⟨names, L, cnt⟩ := ⟨hk.names, hk.rows, fun r hr => (hk.row r hr).1⟩
      have HA := Lib.hid fun uc ur W (hx : Xk.Ext w W) (hc' : StrsAt W uc names) (hr' : RowsAt W ur L) => answersC_any vc vr uc ur ⟨names, L, cnt⟩ ⟨names, L, cnt⟩ W (hc.ext hx) (hr.ext hx) hc' hr' hcn hcn
      rw [sameA_self] at HA
      dsimp only at HT HA
      generalize tableA ⟨names, L, cnt⟩ = T at HT HP
      subst ec er
      clear hE hc hr hn hm hL hl h0 h1 hf hft hk f1 f2 f3 hcn
      go_enter Tryz.func4, Tryz.ntmps4
      go_wp2_with (first
        | (go_at_call 8; (with_reducible refine (HKn.out _ (by repeat (first | with_reducible exact Below.refl _ _ | ((with_reducible refine Below.setCell ?_ ?_ _); rotate_left; exact (by (try simp only [World.size_alloc, Xk.exw_size, World.size_setCell, World.size_drew, World.heap_drewN]); omega)) | ((with_reducible refine Below.alloc ?_ ?_ _); rotate_left; exact (by (try simp only [World.size_alloc, Xk.exw_size, World.size_setCell, World.size_drew, World.heap_drewN]); omega)) | ((with_reducible refine Xk.below_exw ?_ ?_ _); rotate_left; exact (by (try simp only [World.size_alloc, Xk.exw_size, World.size_setCell, World.size_drew, World.heap_drewN]); omega)) | (with_reducible refine Below.drew ?_)))).mono ?_); rintro e w' ⟨rfl, hb⟩; obtain ⟨p, rfl⟩ := Xk.exw_of hb; clear hb) | (go_at_call 9; (with_reducible refine (HF.out _ (by repeat (first | with_reducible exact Below.refl _ _ | ((with_reducible refine Below.setCell ?_ ?_ _); rotate_left; exact (by (try simp only [World.size_alloc, Xk.exw_size, World.size_setCell, World.size_drew, World.heap_drewN]); omega)) | ((with_reducible refine Below.alloc ?_ ?_ _); rotate_left; exact (by (try simp only [World.size_alloc, Xk.exw_size, World.size_setCell, World.size_drew, World.heap_drewN]); omega)) | ((with_reducible refine Xk.below_exw ?_ ?_ _); rotate_left; exact (by (try simp only [World.size_alloc, Xk.exw_size, World.size_setCell, World.size_drew, World.heap_drewN]); omega)) | (with_reducible refine Below.drew ?_)))).mono ?_); rintro e w' ⟨rfl, hb⟩; obtain ⟨p, rfl⟩ := Xk.exw_of hb; clear hb) | (go_at_call 12; (with_reducible refine (HFt.out _ (by repeat (first | with_reducible exact Below.refl _ _ | ((with_reducible refine Below.setCell ?_ ?_ _); rotate_left; exact (by (try simp only [World.size_alloc, Xk.exw_size, World.size_setCell, World.size_drew, World.heap_drewN]); omega)) | ((with_reducible refine Below.alloc ?_ ?_ _); rotate_left; exact (by (try simp only [World.size_alloc, Xk.exw_size, World.size_setCell, World.size_drew, World.heap_drewN]); omega)) | ((with_reducible refine Xk.below_exw ?_ ?_ _); rotate_left; exact (by (try simp only [World.size_alloc, Xk.exw_size, World.size_setCell, World.size_drew, World.heap_drewN]); omega)) | (with_reducible refine Below.drew ?_)))).mono ?_); rintro e w' ⟨rfl, hb⟩; obtain ⟨p, rfl⟩ := Xk.exw_of hb; clear hb) | (go_at_call 10; (with_reducible refine (HT.out _ (by repeat (first | with_reducible exact Below.refl _ _ | ((with_reducible refine Below.setCell ?_ ?_ _); rotate_left; exact (by (try simp only [World.size_alloc, Xk.exw_size, World.size_setCell, World.size_drew, World.heap_drewN]); omega)) | ((with_reducible refine Below.alloc ?_ ?_ _); rotate_left; exact (by (try simp only [World.size_alloc, Xk.exw_size, World.size_setCell, World.size_drew, World.heap_drewN]); omega)) | ((with_reducible refine Xk.below_exw ?_ ?_ _); rotate_left; exact (by (try simp only [World.size_alloc, Xk.exw_size, World.size_setCell, World.size_drew, World.heap_drewN]); omega)) | (with_reducible refine Below.drew ?_)))).mono ?_); rintro e w' ⟨rfl, hb⟩; obtain ⟨p, rfl⟩ := Xk.exw_of hb; clear hb)
        | (go_at_call 13; (with_reducible refine (HP.out _ (by repeat (first | with_reducible exact Below.refl _ _ | ((with_reducible refine Below.setCell ?_ ?_ _); rotate_left; exact (by (try simp only [World.size_alloc, Xk.exw_size, World.size_setCell, World.size_drew, World.heap_drewN]); omega)) | ((with_reducible refine Below.alloc ?_ ?_ _); rotate_left; exact (by (try simp only [World.size_alloc, Xk.exw_size, World.size_setCell, World.size_drew, World.heap_drewN]); omega)) | ((with_reducible refine Xk.below_exw ?_ ?_ _); rotate_left; exact (by (try simp only [World.size_alloc, Xk.exw_size, World.size_setCell, World.size_drew, World.heap_drewN]); omega)) | (with_reducible refine Below.drew ?_)))).mono ?_); rintro e W1 ⟨hb, uc, ur, rfl, hl⟩; obtain ⟨hl1, hl2⟩ := hl.now; obtain ⟨p1, c1, rfl, -⟩ := hl1.parts; obtain ⟨p2, c2, rfl, -⟩ := hl2.parts; have q0 : W1.cell? ⟨w.heap.size, 0, none⟩ = some (.slice pc names.length cc) := Xk.ext_cell hb (by go_simp); have q1 : W1.cell? ⟨w.heap.size, 1, none⟩ = some (.slice pr L.length cr) := Xk.ext_cell hb (by go_simp); have q2 : W1.cell? ⟨w.heap.size, 2, none⟩ = some (.int .i64 cnt) := Xk.ext_cell hb (by go_simp); have lt1 := World.block_lt_of_cell? _ _ q0; have HB1 := Lib.hid (Xk.Ext.trans (Xk.Ext.trans (ext_alloc w _) (Xk.ext_exw _ _)) hb); have HL1 := Lib.hid hl1; have HL2 := Lib.hid hl2; clear hb hl hl1 hl2)
        | (go_at_call 14; (with_reducible refine (HA.out _ _ _ (by repeat (first | with_reducible exact HB1.out | with_reducible exact Below.refl _ _ | ((with_reducible refine Below.setCell ?_ ?_ _); rotate_left; exact (by (try simp only [World.size_alloc, Xk.exw_size, World.size_setCell, World.size_drew, World.heap_drewN]); omega)) | ((with_reducible refine Below.alloc ?_ ?_ _); rotate_left; exact (by (try simp only [World.size_alloc, Xk.exw_size, World.size_setCell, World.size_drew, World.heap_drewN]); omega)) | ((with_reducible refine Xk.below_exw ?_ ?_ _); rotate_left; exact (by (try simp only [World.size_alloc, Xk.exw_size, World.size_setCell, World.size_drew, World.heap_drewN]); omega)) | (with_reducible refine Below.drew ?_))) (HL1.out.ext (ext_alloc _ _)) (HL2.out.ext (ext_alloc _ _))).mono ?_); rintro e w' ⟨rfl, hb⟩; obtain ⟨p, rfl⟩ := Xk.exw_of hb; clear hb))
      go_ret
      exact ⟨rfl, (by repeat (first | with_reducible exact HB1.out | with_reducible exact Below.refl _ _ | ((with_reducible refine Below.setCell ?_ ?_ _); rotate_left; exact (by (try simp only [World.size_alloc, Xk.exw_size, World.size_setCell, World.size_drew, World.heap_drewN]); omega)) | ((with_reducible refine Below.alloc ?_ ?_ _); rotate_left; exact (by (try simp only [World.size_alloc, Xk.exw_size, World.size_setCell, World.size_drew, World.heap_drewN]); omega)) | ((with_reducible refine Xk.below_exw ?_ ?_ _); rotate_left; exact (by (try simp only [World.size_alloc, Xk.exw_size, World.size_setCell, World.size_drew, World.heap_drewN]); omega)) | (with_reducible refine Below.drew ?_)))⟩
end Go.Proofs.YtmoippbmnanajaaGreatDoor
