/- Walks: report.clean, report.cells. -/
import Derived.Test.YtmoippbmnanajaaGreatDoorRK
set_option linter.unusedSimpArgs false
set_option linter.unusedVariables false
namespace Go.Proofs.YtmoippbmnanajaaGreatDoor
open Go.RowKit
set_option maxRecDepth 100000 in
set_option maxHeartbeats 2000000 in
theorem clean_any (s : ByteArray) (hs : s.size ≤ 4000000000) (w : World) (hE : Env w) :
    Calls Tryz.prog 23 #[.string s] w fun e w' => e = .returned (.string ⟨(P25.clean s.data.toList).toArray⟩) ∧ Below w.heap.size w w' := by
  obtain ⟨m, hm⟩ := hE.max
  have hc := Lib.countB_mul_le ⟨#[10]⟩ (by decide) s.size s (Nat.le_refl _)
  have h1 : (⟨#[10]⟩ : ByteArray).size = 1 := rfl
  have h2 : (⟨#[63]⟩ : ByteArray).size = 1 := rfl
  rw [h1] at hc
  have hR := Tryz.strings_ReplaceAll s ⟨#[10]⟩ ⟨#[63]⟩ m w (by omega) hm (by rw [h1]; omega) (by rw [h2]; omega)
  have e : Lib.replaceAll s.data.toList [10] [63] = P25.clean s.data.toList := P25.replaceAll_clean _
  rw [show Lib.replaceAll s.data.toList (⟨#[10]⟩ : ByteArray).data.toList (⟨#[63]⟩ : ByteArray).data.toList = P25.clean s.data.toList from e] at hR
  have HR := Lib.hid hR
  clear hR e hc h1 h2 hm hE
  go_enter Tryz.func23, Tryz.ntmps23
  go_wp2_with (go_at_call 50; (with_reducible refine (HR.out).mono ?_); rintro e w' ⟨rfl, hb⟩; obtain ⟨p, rfl⟩ := Xk.exw_of hb; clear hb)
  go_ret
  exact ⟨rfl, (by repeat (first | with_reducible exact Below.refl _ _ | ((with_reducible refine Below.setCell ?_ ?_ _); rotate_left; exact (by (try simp only [World.size_alloc, Xk.exw_size, World.size_setCell, World.size_drew, World.heap_drewN]); omega)) | ((with_reducible refine Below.alloc ?_ ?_ _); rotate_left; exact (by (try simp only [World.size_alloc, Xk.exw_size, World.size_setCell, World.size_drew, World.heap_drewN]); omega)) | ((with_reducible refine Xk.below_exw ?_ ?_ _); rotate_left; exact (by (try simp only [World.size_alloc, Xk.exw_size, World.size_setCell, World.size_drew, World.heap_drewN]); omega)) | (with_reducible refine Below.drew ?_)))⟩
theorem Tryz.infoStr : (Tryz.prog.info? 9).map (fun i => (i.zero, i.size, i.bytes)) = some (some (.string ⟨#[]⟩), 1, 16) := by kernel_rfl
theorem print_small (x : V) (h : -9223372036854775808 ≤ x.i ∧ x.i ≤ 9223372036854775807) : (P6.printV x.k x.i x.s.data.toList).length ≤ 82 := by
  unfold P6.printV
  split
  · rename_i hv
    split
    · decide
    · split
      · split <;> decide
      · split
        · have := Lib.itoa_length_le x.i h.1 h.2
          omega
        · unfold P6.quote
          have h1 := P6.dbl_length x.s.data.toList
          have h2 : x.s.data.toList.length ≤ 40 := by
            unfold P6.isV at hv
            repeat' split at hv
            all_goals simp_all
          simp only [List.length_cons, List.length_append, List.length_nil]
          omega
  · decide
end Go.Proofs.YtmoippbmnanajaaGreatDoor
