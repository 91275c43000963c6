/- Walks: the reference's Print; what is known; the statements' own functions. -/
import Derived.Test.YtmoippbmnanajaaGreatDoorH
set_option linter.unusedSimpArgs false
set_option linter.unusedVariables false
namespace Go.Proofs.YtmoippbmnanajaaGreatDoor
open Go.RowKit

set_option maxRecDepth 100000 in
set_option maxHeartbeats 2000000 in
theorem refPrint_any (k i : Int) (s : ByteArray) (h0 : -9223372036854775808 ≤ i) (h1 : i ≤ 9223372036854775807) (hs : s.size ≤ maxLen) (w : World) :
    Calls Tryz.prog 15 #[vv k i s] w fun e w' => e = .returned (.string ⟨(P6.printV k i s.data.toList).toArray⟩) ∧ Below w.heap.size w w' := by
  have hI := fun w => refIs_any k i s w hs
  cases hi : P6.isV k i s.data.toList
  · simp only [hi] at hI
    have HI := Lib.hid hI
    have Hv : Hid (P6.printV k i s.data.toList = [63]) := by show _ = _; simp [P6.printV, hi]
    clear hi hI h0 h1 hs
    go_enter Tryz.func15, Tryz.ntmps15
    go_wp2_with (go_at_call 27; (with_reducible refine (HI.out _).mono ?_); rintro e w' ⟨rfl, hb⟩; obtain ⟨p, rfl⟩ := Xk.exw_of hb; clear hb)
    go_ret
    exact ⟨by rw [Hv.out]; rfl, (by repeat (first | with_reducible exact Below.refl _ _ | ((with_reducible refine Below.setCell ?_ ?_ _); rotate_left; exact (by (try simp only [World.size_alloc, Xk.exw_size, World.size_setCell, World.size_drew, World.heap_drewN]); omega)) | ((with_reducible refine Below.alloc ?_ ?_ _); rotate_left; exact (by (try simp only [World.size_alloc, Xk.exw_size, World.size_setCell, World.size_drew, World.heap_drewN]); omega)) | ((with_reducible refine Xk.below_exw ?_ ?_ _); rotate_left; exact (by (try simp only [World.size_alloc, Xk.exw_size, World.size_setCell, World.size_drew, World.heap_drewN]); omega)) | (with_reducible refine Below.drew ?_)))⟩
  simp only [hi] at hI
  have HI := Lib.hid hI
  clear hI hs
  by_cases k0 : k = 0
  · subst k0
    have Hv : Hid (P6.printV 0 i s.data.toList = [78, 85, 76, 76]) := by show _ = _; simp [P6.printV, hi]
    clear hi h0 h1
    go_enter Tryz.func15, Tryz.ntmps15
    go_wp2_with (go_at_call 27; (with_reducible refine (HI.out _).mono ?_); rintro e w' ⟨rfl, hb⟩; obtain ⟨p, rfl⟩ := Xk.exw_of hb; clear hb)
    go_ret
    exact ⟨by rw [Hv.out]; rfl, (by repeat (first | with_reducible exact Below.refl _ _ | ((with_reducible refine Below.setCell ?_ ?_ _); rotate_left; exact (by (try simp only [World.size_alloc, Xk.exw_size, World.size_setCell, World.size_drew, World.heap_drewN]); omega)) | ((with_reducible refine Below.alloc ?_ ?_ _); rotate_left; exact (by (try simp only [World.size_alloc, Xk.exw_size, World.size_setCell, World.size_drew, World.heap_drewN]); omega)) | ((with_reducible refine Xk.below_exw ?_ ?_ _); rotate_left; exact (by (try simp only [World.size_alloc, Xk.exw_size, World.size_setCell, World.size_drew, World.heap_drewN]); omega)) | (with_reducible refine Below.drew ?_)))⟩
  by_cases k1 : k = 1
  · subst k1
    have hi01 : i = 0 ∨ i = 1 := by
      rw [P6.isV, if_neg (by decide), if_pos rfl] at hi
      simp at hi; exact hi.1
    rcases hi01 with rfl | rfl
    · have Hv : Hid (P6.printV 1 0 s.data.toList = [70, 65, 76, 83, 69]) := by show _ = _; simp [P6.printV, hi]
      clear hi h0 h1 k0
      go_enter Tryz.func15, Tryz.ntmps15
      go_wp2_with (go_at_call 27; (with_reducible refine (HI.out _).mono ?_); rintro e w' ⟨rfl, hb⟩; obtain ⟨p, rfl⟩ := Xk.exw_of hb; clear hb)
      go_ret
      exact ⟨by rw [Hv.out]; rfl, (by repeat (first | with_reducible exact Below.refl _ _ | ((with_reducible refine Below.setCell ?_ ?_ _); rotate_left; exact (by (try simp only [World.size_alloc, Xk.exw_size, World.size_setCell, World.size_drew, World.heap_drewN]); omega)) | ((with_reducible refine Below.alloc ?_ ?_ _); rotate_left; exact (by (try simp only [World.size_alloc, Xk.exw_size, World.size_setCell, World.size_drew, World.heap_drewN]); omega)) | ((with_reducible refine Xk.below_exw ?_ ?_ _); rotate_left; exact (by (try simp only [World.size_alloc, Xk.exw_size, World.size_setCell, World.size_drew, World.heap_drewN]); omega)) | (with_reducible refine Below.drew ?_)))⟩
    · have Hv : Hid (P6.printV 1 1 s.data.toList = [84, 82, 85, 69]) := by show _ = _; simp [P6.printV, hi]
      clear hi h0 h1 k0
      go_enter Tryz.func15, Tryz.ntmps15
      go_wp2_with (go_at_call 27; (with_reducible refine (HI.out _).mono ?_); rintro e w' ⟨rfl, hb⟩; obtain ⟨p, rfl⟩ := Xk.exw_of hb; clear hb)
      go_ret
      exact ⟨by rw [Hv.out]; rfl, (by repeat (first | with_reducible exact Below.refl _ _ | ((with_reducible refine Below.setCell ?_ ?_ _); rotate_left; exact (by (try simp only [World.size_alloc, Xk.exw_size, World.size_setCell, World.size_drew, World.heap_drewN]); omega)) | ((with_reducible refine Below.alloc ?_ ?_ _); rotate_left; exact (by (try simp only [World.size_alloc, Xk.exw_size, World.size_setCell, World.size_drew, World.heap_drewN]); omega)) | ((with_reducible refine Xk.below_exw ?_ ?_ _); rotate_left; exact (by (try simp only [World.size_alloc, Xk.exw_size, World.size_setCell, World.size_drew, World.heap_drewN]); omega)) | (with_reducible refine Below.drew ?_)))⟩
  by_cases k2 : k = 2
  · subst k2
    have Hv : Hid (P6.printV 2 i s.data.toList = Lib.itoa i) := by show _ = _; simp [P6.printV, hi]
    have HF := Lib.hid (digits_any i h0 h1)
    clear hi h0 h1 k0 k1
    go_enter Tryz.func15, Tryz.ntmps15
    go_wp2_with (first | (go_at_call 27; (with_reducible refine (HI.out _).mono ?_); rintro e w' ⟨rfl, hb⟩; obtain ⟨p, rfl⟩ := Xk.exw_of hb; clear hb) | (go_at_call 17; (with_reducible refine (HF.out _).mono ?_); rintro e w' ⟨rfl, hb⟩; obtain ⟨p, rfl⟩ := Xk.exw_of hb; clear hb))
    go_ret
    exact ⟨by rw [Hv.out]; rfl, (by repeat (first | with_reducible exact Below.refl _ _ | ((with_reducible refine Below.setCell ?_ ?_ _); rotate_left; exact (by (try simp only [World.size_alloc, Xk.exw_size, World.size_setCell, World.size_drew, World.heap_drewN]); omega)) | ((with_reducible refine Below.alloc ?_ ?_ _); rotate_left; exact (by (try simp only [World.size_alloc, Xk.exw_size, World.size_setCell, World.size_drew, World.heap_drewN]); omega)) | ((with_reducible refine Xk.below_exw ?_ ?_ _); rotate_left; exact (by (try simp only [World.size_alloc, Xk.exw_size, World.size_setCell, World.size_drew, World.heap_drewN]); omega)) | (with_reducible refine Below.drew ?_)))⟩
  by_cases k3 : k = 3
  · subst k3
    have hsz : s.size ≤ 40 := by
      rw [P6.isV, if_neg (by decide), if_neg (by decide), if_neg (by decide), if_pos rfl] at hi
      simp at hi; exact hi.1.2
    have Hv : Hid (P6.printV 3 i s.data.toList = P6.quote s.data.toList) := by show _ = _; simp [P6.printV, hi]
    have HF := Lib.hid (quote_any s (by omega))
    clear hi h0 h1 k0 k1 k2
    go_enter Tryz.func15, Tryz.ntmps15
    go_wp2_with (first | (go_at_call 27; (with_reducible refine (HI.out _).mono ?_); rintro e w' ⟨rfl, hb⟩; obtain ⟨p, rfl⟩ := Xk.exw_of hb; clear hb) | (go_at_call 39; (with_reducible refine (HF.out _).mono ?_); rintro e w' ⟨rfl, hb⟩; obtain ⟨p, rfl⟩ := Xk.exw_of hb; clear hb))
    go_ret
    exact ⟨by rw [Hv.out]; rfl, (by repeat (first | with_reducible exact Below.refl _ _ | ((with_reducible refine Below.setCell ?_ ?_ _); rotate_left; exact (by (try simp only [World.size_alloc, Xk.exw_size, World.size_setCell, World.size_drew, World.heap_drewN]); omega)) | ((with_reducible refine Below.alloc ?_ ?_ _); rotate_left; exact (by (try simp only [World.size_alloc, Xk.exw_size, World.size_setCell, World.size_drew, World.heap_drewN]); omega)) | ((with_reducible refine Xk.below_exw ?_ ?_ _); rotate_left; exact (by (try simp only [World.size_alloc, Xk.exw_size, World.size_setCell, World.size_drew, World.heap_drewN]); omega)) | (with_reducible refine Below.drew ?_)))⟩
  · exact absurd hi (by simp [P6.isV, k0, k1, k2, k3])

theorem known_test : testT 3 0 0 ⟨#[]⟩ 0 0 ⟨#[]⟩ = (2, 0) := by decide
theorem known_cmp : cmpV 0 0 ⟨#[]⟩ 1 0 ⟨#[]⟩ = -1 := by decide
theorem known_print : (⟨(P6.printV 3 0 (⟨#[105, 116, 39, 115]⟩ : ByteArray).data.toList).toArray⟩ : ByteArray) = ⟨#[39, 105, 116, 39, 39, 115, 39]⟩ := by
  congr 1

end Go.Proofs.YtmoippbmnanajaaGreatDoor
