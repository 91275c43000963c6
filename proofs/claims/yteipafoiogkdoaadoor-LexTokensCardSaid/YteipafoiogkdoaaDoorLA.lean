/- Walks: the lexer's letters, digits and runs. -/
import Derived.Test.YteipafoiogkdoaaDoorL
import Derived.Test.YteipafoiogkdoaaDoorPM
import Derived.Test.YteipafoiogkdoaaDoorShelf
import Derived.WalkKit
import Derived.WalkSpells
import Derived.Outline
import Derived.WalkLawsBesides
import Derived.Lib.Hide
import Derived.Deep.Light
set_option linter.unusedSimpArgs false
set_option linter.unusedVariables false
namespace Go.Proofs.YteipafoiogkdoaaDoor
open Go.RowKit

theorem letter_int (c : UInt8) : P11.letter c = decide ((97 ≤ (c.toNat : Int) ∧ (c.toNat : Int) ≤ 122) ∨ (65 ≤ (c.toNat : Int) ∧ (c.toNat : Int) ≤ 90) ∨ (c.toNat : Int) = 95) := by
  rw [Bool.eq_iff_iff]
  simp [P11.letter, UInt8.le_iff_toNat_le, ← UInt8.toNat_inj]
  omega
theorem digit_int (c : UInt8) : P11.digit c = decide (48 ≤ (c.toNat : Int) ∧ (c.toNat : Int) ≤ 57) := by
  rw [Bool.eq_iff_iff]
  simp [P11.digit, UInt8.le_iff_toNat_le]
  omega
theorem ret_bool {a b : Bool} (h : a = b) : Ending.returned (.bool a) = .returned (.bool b) := by rw [h]
set_option maxRecDepth 100000 in
set_option maxHeartbeats 2000000 in
theorem letter_any (c : UInt8) (w : World) : Calls Tryd.prog 17 #[.int .i32 c.toNat] w fun e w' => e = .returned (.bool (P11.letter c)) ∧ w = w' := by
  have hl := letter_int c
  have h2 : (c.toNat : Int) < 256 := by have := c.toNat_lt; omega
  have HL := Lib.hid hl
  clear hl
  go_enter Tryd.func17, Tryd.ntmps17
  go_wp2
  all_goals
    go_ret
    refine ⟨ret_bool ?_, rfl⟩
    rw [HL.out, Bool.eq_iff_iff]
    simp
    try omega
set_option maxRecDepth 100000 in
set_option maxHeartbeats 2000000 in
theorem digit_any (c : UInt8) (w : World) : Calls Tryd.prog 20 #[.int .i32 c.toNat] w fun e w' => e = .returned (.bool (P11.digit c)) ∧ w = w' := by
  have hl := digit_int c
  have h2 : (c.toNat : Int) < 256 := by have := c.toNat_lt; omega
  have HL := Lib.hid hl
  clear hl
  go_enter Tryd.func20, Tryd.ntmps20
  go_wp2
  all_goals
    go_ret
    refine ⟨ret_bool ?_, rfl⟩
    rw [HL.out, Bool.eq_iff_iff]
    simp
    try omega
set_option maxRecDepth 100000 in
set_option maxHeartbeats 2000000 in
theorem alnum_any (c : UInt8) (w : World) : Calls Tryd.prog 19 #[.int .i32 c.toNat] w fun e w' => e = .returned (.bool (P11.alnum c)) ∧ w = w' := by
  have h1 := fun w => letter_any c w
  have h2 := fun w => digit_any c w
  cases hl : P11.letter c
  all_goals
    rw [hl] at h1
    have HA : Hid (P11.alnum c = (_ || P11.digit c)) := Lib.hid (by rw [P11.alnum, hl])
    have H1 := Lib.hid h1
    have H2 := Lib.hid h2
    clear h1 h2 hl
    go_enter Tryd.func19, Tryd.ntmps19
    go_wp2_with (first | (go_at_call 17; (with_reducible refine (H1.out _).mono ?_); rintro e w' ⟨rfl, rfl⟩) | (go_at_call 20; (with_reducible refine (H2.out _).mono ?_); rintro e w' ⟨rfl, rfl⟩))
    go_ret
    refine ⟨ret_bool ?_, rfl⟩
    rw [HA.out]
    simp
theorem run_end (p : UInt8 → Bool) (l : List UInt8) (a k : Nat) (h1 : a ≤ k) (h2 : k ≤ l.length) (h3 : ∀ j (h : j < l.length), a ≤ j → j < k → p l[j] = true) (h4 : ∀ h : k < l.length, p l[k] = false) : k = a + ((l.drop a).takeWhile p).length := by
  induction h : k - a generalizing a with
  | zero =>
    obtain rfl : k = a := by omega
    by_cases hk : k < l.length
    · rw [List.drop_eq_getElem_cons hk, List.takeWhile, h4 hk]; rfl
    · rw [List.drop_of_length_le (by omega)]; rfl
  | succ n ih =>
    have ha : a < l.length := by omega
    rw [List.drop_eq_getElem_cons ha, List.takeWhile, h3 a ha (Nat.le_refl _) (by omega)]
    have := ih (a + 1) (by omega) (fun j hj h5 h6 => h3 j hj (by omega) h6) (by omega)
    simp only [List.length_cons]; omega
set_option maxRecDepth 100000 in
set_option maxHeartbeats 4000000 in
theorem run_alnum (s : ByteArray) (a : Nat) (ha : a ≤ s.size) (hs : s.size ≤ 1000000) (w : World) :
    Calls Tryd.prog 18 #[.string s, .int .i64 a, .func (.func 19) #[] #[]] w fun e w' => e = .returned (.int .i64 (a + ((s.data.toList.drop a).takeWhile P11.alnum).length : Nat)) ∧ w = w' := by
  have HA := Lib.hid ha
  clear ha
  go_enter Tryd.func18, Tryd.ntmps18
  go_wp2
  go_loop [7] (fun x => ∃ k : Nat, a ≤ k ∧ k ≤ s.size ∧ x = .int .i64 k ∧ Hid (∀ j (h : j < s.data.toList.length), a ≤ j → j < k → P11.alnum s.data.toList[j] = true)) (fun x => s.size - (intOf x).toNat)
  case atStart => exact ⟨a, Nat.le_refl _, HA.out, rfl, Lib.hid fun j h h1 h2 => by omega⟩
  case round =>
    obtain ⟨k, h1, h2, rfl, H3⟩ := hrel
    by_cases hlt : k < s.size
    · have hb8 : (s[k].toNat : Int) < 256 := by have := s[k].toNat_lt; omega
      have hb : ∀ w, Calls Tryd.prog 19 #[.int .i32 s[k].toNat] w fun e w' => e = .returned (.bool (P11.alnum s[k])) ∧ w = w' := fun w => alnum_any s[k] w
      cases hp : P11.alnum s[k]
      · rw [hp] at hb
        have HB := Lib.hid hb
        have HP := Lib.hid hp
        clear hb hp
        go_wp2_with (go_at_call 19; (with_reducible refine (HB.out _).mono ?_); rintro e w' ⟨rfl, rfl⟩)
        go_ret
        exact ⟨congrArg (fun n : Nat => Ending.returned (.int .i64 n)) (run_end _ _ _ _ h1 h2 H3.out fun _ => HP.out), rfl⟩
      · rw [hp] at hb
        have HB := Lib.hid hb
        have HP := Lib.hid hp
        clear hb hp
        go_wp2_with (go_at_call 19; (with_reducible refine (HB.out _).mono ?_); rintro e w' ⟨rfl, rfl⟩)
        go_round
        case rel => exact ⟨k + 1, by omega, by omega, by go_num, Lib.hid fun j h h5 h6 => by
          by_cases hjk : j = k
          · subst hjk; exact HP.out
          · exact H3.out j h h5 (by omega)⟩
        case measure => simp [intOf]; omega
    · go_wp2
      go_ret
      exact ⟨congrArg (fun n : Nat => Ending.returned (.int .i64 n)) (run_end _ _ _ _ h1 h2 H3.out fun h => absurd h hlt), rfl⟩
set_option maxRecDepth 100000 in
set_option maxHeartbeats 4000000 in
theorem run_digit (s : ByteArray) (a : Nat) (ha : a ≤ s.size) (hs : s.size ≤ 1000000) (w : World) :
    Calls Tryd.prog 18 #[.string s, .int .i64 a, .func (.func 20) #[] #[]] w fun e w' => e = .returned (.int .i64 (a + ((s.data.toList.drop a).takeWhile P11.digit).length : Nat)) ∧ w = w' := by
  have HA := Lib.hid ha
  clear ha
  go_enter Tryd.func18, Tryd.ntmps18
  go_wp2
  go_loop [7] (fun x => ∃ k : Nat, a ≤ k ∧ k ≤ s.size ∧ x = .int .i64 k ∧ Hid (∀ j (h : j < s.data.toList.length), a ≤ j → j < k → P11.digit s.data.toList[j] = true)) (fun x => s.size - (intOf x).toNat)
  case atStart => exact ⟨a, Nat.le_refl _, HA.out, rfl, Lib.hid fun j h h1 h2 => by omega⟩
  case round =>
    obtain ⟨k, h1, h2, rfl, H3⟩ := hrel
    by_cases hlt : k < s.size
    · have hb8 : (s[k].toNat : Int) < 256 := by have := s[k].toNat_lt; omega
      have hb : ∀ w, Calls Tryd.prog 20 #[.int .i32 s[k].toNat] w fun e w' => e = .returned (.bool (P11.digit s[k])) ∧ w = w' := fun w => digit_any s[k] w
      cases hp : P11.digit s[k]
      · rw [hp] at hb
        have HB := Lib.hid hb
        have HP := Lib.hid hp
        clear hb hp
        go_wp2_with (go_at_call 20; (with_reducible refine (HB.out _).mono ?_); rintro e w' ⟨rfl, rfl⟩)
        go_ret
        exact ⟨congrArg (fun n : Nat => Ending.returned (.int .i64 n)) (run_end _ _ _ _ h1 h2 H3.out fun _ => HP.out), rfl⟩
      · rw [hp] at hb
        have HB := Lib.hid hb
        have HP := Lib.hid hp
        clear hb hp
        go_wp2_with (go_at_call 20; (with_reducible refine (HB.out _).mono ?_); rintro e w' ⟨rfl, rfl⟩)
        go_round
        case rel => exact ⟨k + 1, by omega, by omega, by go_num, Lib.hid fun j h h5 h6 => by
          by_cases hjk : j = k
          · subst hjk; exact HP.out
          · exact H3.out j h h5 (by omega)⟩
        case measure => simp [intOf]; omega
    · go_wp2
      go_ret
      exact ⟨congrArg (fun n : Nat => Ending.returned (.int .i64 n)) (run_end _ _ _ _ h1 h2 H3.out fun h => absurd h hlt), rfl⟩
end Go.Proofs.YteipafoiogkdoaaDoor
