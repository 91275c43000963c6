/- Walks: pantilelaw25.ReportReads. -/
import Derived.Test.YtmoippbmnanajaaGreatDoorRX
set_option linter.unusedSimpArgs false
set_option linter.unusedVariables false
namespace Go.Proofs.YtmoippbmnanajaaGreatDoor
open Go.RowKit
def no_a : Ans := ⟨[], [], 0⟩
theorem no_ok : AnsOk 4096 no_a where
  names := by decide
  name := fun x hx => by cases hx
  rows := by decide
  row := fun r hr => by cases hr
  lo := by decide
  hi := by decide
set_option maxRecDepth 100000 in
set_option maxHeartbeats 4000000 in
theorem reads_list (s : List UInt8) (w : World) (hE : EnvR w) (hs : s.length ≤ 9223372036854775807) :
    Calls Tryz.prog 5 #[.string ⟨s.toArray⟩] w fun e w' => e = .returned (.bool true) ∧ Below w.heap.size w w' := by
  have HKn := Lib.hid (knownR_any w hE)
  by_cases h2 : (2000 : Int) < (s.length : Int)
  · clear hE
    go_enter Tryz.func5, Tryz.ntmps5
    go_wp2_with (first | (go_at_call 8; (with_reducible refine (HKn.out).mono ?_); rintro e w' ⟨rfl, hb⟩; obtain ⟨p, rfl⟩ := Xk.exw_of hb; clear hb))
    go_ret
    exact ⟨rfl, (by repeat (first | with_reducible exact Below.refl _ _ | ((with_reducible refine Below.setCell ?_ ?_ _); rotate_left; exact (by (try simp only [World.size_alloc, Xk.exw_size, World.size_setCell, World.size_drew, World.heap_drewN]); omega)) | ((with_reducible refine Below.alloc ?_ ?_ _); rotate_left; exact (by (try simp only [World.size_alloc, Xk.exw_size, World.size_setCell, World.size_drew, World.heap_drewN]); omega)) | ((with_reducible refine Xk.below_exw ?_ ?_ _); rotate_left; exact (by (try simp only [World.size_alloc, Xk.exw_size, World.size_setCell, World.size_drew, World.heap_drewN]); omega)) | (with_reducible refine Below.drew ?_)))⟩
  · have hlen : s.length ≤ 2000 := by omega
    cases hp : parse s with
    | none =>
      have HP := Lib.hid fun W (h : Xk.Ext w W) => parse_any s W (hE.ext h) (by omega)
      rw [hp] at HP
      have HA := Lib.hid fun W => answers_any (.slice none 0 0) (.slice none 0 0) (.slice none 0 0) (.slice none 0 0) no_a no_a W (nil_ans W).1 (nil_ans W).2 (nil_ans W).1 (nil_ans W).2 no_ok no_ok
      rw [sameA_self] at HA
      have HA2 : Hid (∀ W, Calls Tryz.prog 14 #[.agg #[.slice none 0 0, .slice none 0 0, .int .i64 0], .agg #[.slice none 0 0, .slice none 0 0, .int .i64 0]] W fun e w' => e = .returned (.bool true) ∧ Below W.heap.size W w') := HA
      clear hE HA hp
      go_enter Tryz.func5, Tryz.ntmps5
      go_wp2_with (first
        | (go_at_call 8; (with_reducible refine (HKn.out).mono ?_); rintro e w' ⟨rfl, hb⟩; obtain ⟨p, rfl⟩ := Xk.exw_of hb; clear hb)
        | (go_at_call 13; (with_reducible refine (HP.out _ (Xk.ext_exw _ _)).mono ?_); rintro e w' ⟨hb, rfl⟩; obtain ⟨p, rfl⟩ := Xk.exw_of hb; clear hb)
        | (go_at_call 14; (with_reducible refine (HA2.out _).mono ?_); rintro e w' ⟨rfl, hb⟩; obtain ⟨p, rfl⟩ := Xk.exw_of hb; clear hb))
      go_ret
      exact ⟨rfl, (by repeat (first | with_reducible exact Below.refl _ _ | ((with_reducible refine Below.setCell ?_ ?_ _); rotate_left; exact (by (try simp only [World.size_alloc, Xk.exw_size, World.size_setCell, World.size_drew, World.heap_drewN]); omega)) | ((with_reducible refine Below.alloc ?_ ?_ _); rotate_left; exact (by (try simp only [World.size_alloc, Xk.exw_size, World.size_setCell, World.size_drew, World.heap_drewN]); omega)) | ((with_reducible refine Xk.below_exw ?_ ?_ _); rotate_left; exact (by (try simp only [World.size_alloc, Xk.exw_size, World.size_setCell, World.size_drew, World.heap_drewN]); omega)) | (with_reducible refine Below.drew ?_)))⟩
    | some a =>
      have HP := Lib.hid fun W (h : Xk.Ext w W) => parse_any s W (hE.ext h) (by omega)
      rw [hp] at HP
      have hg : guess s = some a ∧ tableA a = s := by
        unfold parse at hp
        split at hp
        · cases hp
        · rename_i b hb
          split at hp
          · rename_i h; cases hp; exact ⟨hb, h.1⟩
          · cases hp
      have hk := guess_most hg.1
      have hk : AnsOk 4096 a := ⟨Nat.le_trans hk.names (by omega), fun x hx => Nat.le_trans (hk.name x hx) (by omega), Nat.le_trans hk.rows (by omega), fun r hr => ⟨Nat.le_trans (hk.row r hr).1 (by omega), (hk.row r hr).2⟩, hk.lo, hk.hi⟩
      have HT : Hid (∀ vc vr W, Xk.Ext w W → StrsAt W vc a.names → RowsAt W vr a.rows → Calls Tryz.prog 10 #[.agg #[vc, vr, .int .i64 a.n]] W fun e w' => e = .returned (.string ⟨s.toArray⟩) ∧ Below W.heap.size W w') := Lib.hid fun vc vr W hx hc hr => by
        have h := tableA_any vc vr a W (hE.env.ext hx) hc hr hk
        rw [hg.2] at h
        exact h
      clear hE hp hg hk
      go_enter Tryz.func5, Tryz.ntmps5
      go_wp2_with (first
        | (go_at_call 8; (with_reducible refine (HKn.out).mono ?_); rintro e w' ⟨rfl, hb⟩; obtain ⟨p, rfl⟩ := Xk.exw_of hb; clear hb)
        | (go_at_call 13; (with_reducible refine (HP.out _ (Xk.ext_exw _ _)).mono ?_); rintro e W1 ⟨hb, vc, vr, rfl, hl⟩; obtain ⟨hl1, hl2⟩ := hl.now; obtain ⟨p1, c1, rfl, -⟩ := hl1.parts; obtain ⟨p2, c2, rfl, -⟩ := hl2.parts; have HB1 := Lib.hid ((Xk.ext_exw w _).trans hb); have HL1 := Lib.hid hl1; have HL2 := Lib.hid hl2; clear hb hl hl1 hl2)
        | (go_at_call 10; (with_reducible refine (HT.out _ _ _ (Xk.Ext.trans HB1.out (ext_alloc _ _)) (HL1.out.ext (ext_alloc _ _)) (HL2.out.ext (ext_alloc _ _))).mono ?_); rintro e w' ⟨rfl, hb⟩; obtain ⟨p, rfl⟩ := Xk.exw_of hb; clear hb))
      go_ret
      exact ⟨rfl, Xk.Ext.trans HB1.out (by repeat (first | with_reducible exact Below.refl _ _ | ((with_reducible refine Below.setCell ?_ ?_ _); rotate_left; exact (by (try simp only [World.size_alloc, Xk.exw_size, World.size_setCell, World.size_drew, World.heap_drewN]); omega)) | ((with_reducible refine Below.alloc ?_ ?_ _); rotate_left; exact (by (try simp only [World.size_alloc, Xk.exw_size, World.size_setCell, World.size_drew, World.heap_drewN]); omega)) | ((with_reducible refine Xk.below_exw ?_ ?_ _); rotate_left; exact (by (try simp only [World.size_alloc, Xk.exw_size, World.size_setCell, World.size_drew, World.heap_drewN]); omega)) | (with_reducible refine Below.drew ?_)))⟩
theorem reads_any (s : ByteArray) (w : World) (hE : EnvR w) (hs : s.size ≤ maxLen) :
    Calls Tryz.prog 5 #[.string s] w fun e w' => e = .returned (.bool true) ∧ Below w.heap.size w w' := by
  have h := reads_list s.data.toList w hE (by have : s.data.toList.length = s.size := rfl; unfold maxLen at hs; omega)
  exact h
end Go.Proofs.YtmoippbmnanajaaGreatDoor
