/- Walks: report.trimmed, report.cutAt. -/
import Derived.Test.YtmoippbmnanajaaGreatDoorRG
import Derived.Test.YtmoippbmnanajaaGreatDoorRH
set_option linter.unusedSimpArgs false
set_option linter.unusedVariables false
namespace Go.Proofs.YtmoippbmnanajaaGreatDoor
open Go.RowKit
theorem trimmed_any (s : List UInt8) (hs : s.length ≤ 4000000000) (w : World) :
    Calls Tryz.prog 61 #[.string ⟨s.toArray⟩] w fun e w' => e = .returned (.string ⟨(Lib.trimB s 32).toArray⟩) ∧ Below w.heap.size w w' := by
  have HT := Lib.hid (Tryz.strings_Trim_one ⟨s.toArray⟩ 32 (by decide) w (by show s.length ≤ _; omega))
  go_enter Tryz.func61, Tryz.ntmps61
  go_wp2_with (go_at_call 91; (with_reducible refine (HT.out).mono ?_); rintro e w' ⟨rfl, hw⟩)
  rcases hw with rfl | rfl
  · go_wp2
    go_ret
    exact ⟨rfl, (by repeat (first | with_reducible exact Below.refl _ _ | ((with_reducible refine Below.setCell ?_ ?_ _); rotate_left; exact (by (try simp only [World.size_alloc, Xk.exw_size, World.size_setCell, World.size_drew, World.heap_drewN]); omega)) | ((with_reducible refine Below.alloc ?_ ?_ _); rotate_left; exact (by (try simp only [World.size_alloc, Xk.exw_size, World.size_setCell, World.size_drew, World.heap_drewN]); omega)) | ((with_reducible refine Xk.below_exw ?_ ?_ _); rotate_left; exact (by (try simp only [World.size_alloc, Xk.exw_size, World.size_setCell, World.size_drew, World.heap_drewN]); omega)) | (with_reducible refine Below.drew ?_)))⟩
  · go_wp2
    go_ret
    exact ⟨rfl, (by repeat (first | with_reducible exact Below.refl _ _ | ((with_reducible refine Below.setCell ?_ ?_ _); rotate_left; exact (by (try simp only [World.size_alloc, Xk.exw_size, World.size_setCell, World.size_drew, World.heap_drewN]); omega)) | ((with_reducible refine Below.alloc ?_ ?_ _); rotate_left; exact (by (try simp only [World.size_alloc, Xk.exw_size, World.size_setCell, World.size_drew, World.heap_drewN]); omega)) | ((with_reducible refine Xk.below_exw ?_ ?_ _); rotate_left; exact (by (try simp only [World.size_alloc, Xk.exw_size, World.size_setCell, World.size_drew, World.heap_drewN]); omega)) | (with_reducible refine Below.drew ?_)))⟩
def intR (w : World) (b o : Nat) (x : Nat) : Prop := w.cell? ⟨b, o, none⟩ = some (.int .i64 x)
abbrev IntsAt := SlAt 1 intR
theorem IntsAt.parts {w : World} {v : Value} {l : List Nat} (h : IntsAt w v l) : ∃ pa cap, v = .slice pa l.length cap ∧ ∀ (j : Nat) (x : Nat), l[j]? = some x → ∃ b off, pa = some ⟨b, off, none⟩ ∧ w.cell? ⟨b, off + j, none⟩ = some (.int .i64 x) := by
  obtain ⟨pa, cap, hv, -, hl⟩ := h
  refine ⟨pa, cap, hv, fun j x hj => ?_⟩
  obtain ⟨b, off, h1, h2⟩ := hl j x hj
  unfold intR at h2
  rw [Nat.mul_one] at h2
  exact ⟨b, off, h1, h2⟩
theorem take_str (t : List UInt8) (n m : Nat) (h : m = min n t.length) : (⟨t.toArray⟩ : ByteArray).extract 0 m = ⟨(t.take n).toArray⟩ := by
  apply bytes_ext
  rw [Lib.extract_from_zero]
  simp only [List.toList_toArray]
  rw [h]
  by_cases hn : n ≤ t.length
  · rw [Nat.min_eq_left hn]
  · rw [Nat.min_eq_right (by omega), List.take_length, List.take_of_length_le (by omega)]
theorem drop_str (t : List UInt8) (n m : Nat) (h : m = min n t.length) : (⟨t.toArray⟩ : ByteArray).extract m t.length = ⟨(t.drop n).toArray⟩ := by
  have e := Lib.extract_to_end ⟨t.toArray⟩ m
  apply bytes_ext
  have e2 : ((⟨t.toArray⟩ : ByteArray).extract m t.length).data.toList = t.drop m := by
    have : (⟨t.toArray⟩ : ByteArray).size = t.length := by simp [ByteArray.size]
    rw [← this]
    simpa using e
  rw [e2]
  simp only [List.toList_toArray]
  rw [h]
  by_cases hn : n ≤ t.length
  · rw [Nat.min_eq_left hn]
  · rw [Nat.min_eq_right (by omega), List.drop_length, List.drop_of_length_le (by omega)]
/-- How cutAt ends. -/
def CutPost (w : World) (r : Option (List (List UInt8))) (e : Ending) (w' : World) : Prop := Below w.heap.size w w' ∧ match r with
  | some l => ∃ v, e = .returned (.tuple #[v, .bool true]) ∧ Xo.Lives w.heap.size [] w' fun W => StrsAt W v l
  | none => ∃ v, e = .returned (.tuple #[v, .bool false])
end Go.Proofs.YtmoippbmnanajaaGreatDoor
