/- Walks of the small functions of value and cmp: what each computes. -/
import Derived.Test.YtmoippbmnanajaaGreatDoorRows
import Derived.Test.YtmoippbmnanajaaGreatDoorShelf
import Derived.Test.YtmoippbmnanajaaGreatDoorP6
import Derived.WalkKit
import Derived.WalkSpells
import Derived.Outline
import Derived.WalkLawsBesides
import Derived.Lib.Hide
import Derived.Deep.Light
import Derived.Lib.Bytealg
import Derived.Lib.IndexLaws
set_option linter.unusedSimpArgs false
set_option linter.unusedVariables false
namespace Go.Proofs.YtmoippbmnanajaaGreatDoor
open Go.RowKit

theorem isNaN_int64 (a : Int) (w : World) :
    Calls Tryz.prog 132 #[.int .i64 a] w fun e w' => e = .returned (.bool false) ∧ w = w' := by
  go_enter Tryz.func132, Tryz.ntmps132
  go_wp2
  go_ret
  exact ⟨by simp, rfl⟩

theorem isNaN_string (a : ByteArray) (w : World) :
    Calls Tryz.prog 133 #[.string a] w fun e w' => e = .returned (.bool false) ∧ w = w' := by
  go_enter Tryz.func133, Tryz.ntmps133
  go_wp2
  go_ret
  exact ⟨by simp, rfl⟩

theorem compare_int (a b : Int) (w : World) :
    Calls Tryz.prog 73 #[.int .i64 a, .int .i64 b] w fun e w' => e = .returned (.int .i64 (P6.cmpInt a b)) ∧ w = w' := by
  go_enter Tryz.func73, Tryz.ntmps73
  go_wp2_with (go_at_call 102; refine (Tryz.cmp_isNaN_int _ _).mono ?_; rintro e w' ⟨rfl, rfl⟩)
  all_goals
    go_ret
    exact ⟨congrArg (fun x => Ending.returned (.int .i64 x)) (by unfold P6.cmpInt; (repeat' split) <;> omega), rfl⟩

theorem compare_int64 (a b : Int) (w : World) :
    Calls Tryz.prog 100 #[.int .i64 a, .int .i64 b] w fun e w' => e = .returned (.int .i64 (P6.cmpInt a b)) ∧ w = w' := by
  go_enter Tryz.func100, Tryz.ntmps100
  go_wp2_with (go_at_call 132; refine (isNaN_int64 _ _).mono ?_; rintro e w' ⟨rfl, rfl⟩)
  all_goals
    go_ret
    exact ⟨congrArg (fun x => Ending.returned (.int .i64 x)) (by unfold P6.cmpInt; (repeat' split) <;> omega), rfl⟩

theorem compare_string (a b : ByteArray) (w : World) :
    Calls Tryz.prog 101 #[.string a, .string b] w fun e w' => e = .returned (.int .i64 (P6.cmpStr a.toList b.toList)) ∧ w = w' := by
  go_enter Tryz.func101, Tryz.ntmps101
  go_wp2_with (go_at_call 133; refine (isNaN_string _ _).mono ?_; rintro e w' ⟨rfl, rfl⟩)
  all_goals
    go_ret
    exact ⟨congrArg (fun x => Ending.returned (.int .i64 x)) (by
      unfold P6.cmpStr; simp_all), rfl⟩

theorem and_one (i : Int) : ∃ j, bits .and .i64 i 1 = j ∧ j = i % 2 := by
  refine ⟨_, rfl, ?_⟩
  have h2 : (0 : Int) ≤ i % ((2 ^ 64 : Nat) : Int) := Int.emod_nonneg _ (by decide)
  have e : (((BitVec.ofInt 64 i &&& BitVec.ofInt 64 1).toNat : Nat) : Int) = i % 2 := by
    rw [BitVec.toNat_and, BitVec.toNat_ofInt, BitVec.toNat_ofInt, show ((1 : Int) % ((2 ^ 64 : Nat) : Int)).toNat = 1 from by decide, Nat.and_one_is_mod, Int.natCast_emod, Int.toNat_of_nonneg h2]
    exact Int.emod_emod_of_dvd _ (by decide)
  show IntKind.wrap .i64 (((BitVec.ofInt 64 i &&& BitVec.ofInt 64 1).toNat : Nat) : Int) = i % 2
  rw [e]
  have h5 : 0 ≤ i % 2 := Int.emod_nonneg _ (by decide)
  have h6 : i % 2 < 2 := Int.emod_lt_of_pos _ (by decide)
  exact IntWalk.i64_in _ (by omega)
theorem retB {a b : Bool} (h : a = b) : Ending.returned (.bool a) = .returned (.bool b) := by rw [h]
theorem retI {a b : Int} {k : IntKind} (h : a = b) : Ending.returned (.int k a) = .returned (.int k b) := by rw [h]
theorem index_zero (l : List UInt8) : (Lib.indexByte l 0 < 0) = (l.contains 0 = false) := by
  have g := Lib.indexByte_ge l 0
  apply propext
  constructor
  · intro h
    have := Lib.indexByte_none (show Lib.indexByte l 0 = -1 by omega)
    rw [List.contains_eq_mem, decide_eq_false_iff_not, List.mem_iff_getElem?]
    rintro ⟨k, hk⟩; exact this k hk
  · intro h
    rw [List.contains_eq_mem, decide_eq_false_iff_not, List.mem_iff_getElem?] at h
    by_cases hn : Lib.indexByte l 0 < 0
    · exact hn
    · obtain ⟨o, ho⟩ := Int.eq_ofNat_of_zero_le (show 0 ≤ Lib.indexByte l 0 by omega)
      exact absurd ⟨o, (Lib.indexByte_some ho).1⟩ h

set_option maxRecDepth 100000 in
theorem is_any (k i : Int) (s : ByteArray) (w : World) :
    Calls Tryz.prog 49 #[.agg #[.int .i64 k, .int .i64 i, .string s]] w fun e w' => e = .returned (.bool (P6.isV k i s.data.toList)) ∧ Below w.heap.size w w' := by
  by_cases h0 : k = 0
  · subst h0
    go_enter Tryz.func49, Tryz.ntmps49
    go_wp2_with (go_at_call 76; refine (Tryz.strings_IndexByte _ _ _).mono ?_; rintro e w' ⟨rfl, rfl⟩)
    all_goals
      go_ret
      refine ⟨retB ?_, (Below.refl _ _).alloc (Nat.le_refl _) _⟩
      go_light
      simp_all [P6.isV, ByteArray.toList_eq]
  by_cases h1 : k = 1
  · subst h1
    obtain ⟨j, hb, hj⟩ := and_one i
    have Hj := Lib.hid hj; clear hj
    go_enter Tryz.func49, Tryz.ntmps49
    go_wp2_with (go_at_call 76; refine (Tryz.strings_IndexByte _ _ _).mono ?_; rintro e w' ⟨rfl, rfl⟩)
    all_goals
      go_ret
      refine ⟨retB ?_, (Below.refl _ _).alloc (Nat.le_refl _) _⟩
      go_light
      have hj := Hj.out
      clear hb
      have e : (i = j) ↔ (i = 0 ∨ i = 1) := by omega
      clear hj Hj
      simp_all [P6.isV, ByteArray.toList_eq]
  by_cases h2 : k = 2
  · subst h2
    go_enter Tryz.func49, Tryz.ntmps49
    go_wp2_with (go_at_call 76; refine (Tryz.strings_IndexByte _ _ _).mono ?_; rintro e w' ⟨rfl, rfl⟩)
    all_goals
      go_ret
      refine ⟨retB ?_, (Below.refl _ _).alloc (Nat.le_refl _) _⟩
      go_light
      simp [P6.isV, ByteArray.toList_eq]
  by_cases h3 : k = 3
  · subst h3
    go_enter Tryz.func49, Tryz.ntmps49
    go_wp2_with (go_at_call 76; refine (Tryz.strings_IndexByte _ _ _).mono ?_; rintro e w' ⟨rfl, rfl⟩)
    all_goals
      go_ret
      refine ⟨retB ?_, (Below.refl _ _).alloc (Nat.le_refl _) _⟩
      go_light
      clear h0 h1 h2
      simp only [P6.isV]
      have hz : s.data.toList.length = s.size := rfl
      rw [hz]
      simp_all [index_zero]
      try omega
  · go_enter Tryz.func49, Tryz.ntmps49
    go_wp2_with (go_at_call 76; refine (Tryz.strings_IndexByte _ _ _).mono ?_; rintro e w' ⟨rfl, rfl⟩)
    all_goals
      go_ret
      refine ⟨retB ?_, (Below.refl _ _).alloc (Nat.le_refl _) _⟩
      go_light
      simp [P6.isV, h0, h1, h2, h3]
end Go.Proofs.YtmoippbmnanajaaGreatDoor
