/- Walks: the reference's letters, digits, words, signs. -/
import Derived.Test.YteipafoiogkdoaaDoorLQ
set_option linter.unusedSimpArgs false
set_option linter.unusedVariables false
namespace Go.Proofs.YteipafoiogkdoaaDoor
open Go.RowKit Go.Maps
set_option maxRecDepth 100000 in
set_option maxHeartbeats 2000000 in
theorem refLetter_any (c : UInt8) (w : World) : Calls Tryd.prog 28 #[.int .u8 c.toNat] w fun e w' => e = .returned (.bool (P11.letter c)) ∧ w = w' := by
  have hl := letter_int c
  have h2 : (c.toNat : Int) < 256 := by have := c.toNat_lt; omega
  have HL := Lib.hid hl
  clear hl
  go_enter Tryd.func28, Tryd.ntmps28
  go_wp2
  all_goals
    go_ret
    refine ⟨ret_bool ?_, rfl⟩
    rw [HL.out, Bool.eq_iff_iff]
    simp
    try omega
set_option maxRecDepth 100000 in
set_option maxHeartbeats 2000000 in
theorem refDigit_any (c : UInt8) (w : World) : Calls Tryd.prog 29 #[.int .u8 c.toNat] w fun e w' => e = .returned (.bool (P11.digit c)) ∧ w = w' := by
  have hl := digit_int c
  have h2 : (c.toNat : Int) < 256 := by have := c.toNat_lt; omega
  have HL := Lib.hid hl
  clear hl
  go_enter Tryd.func29, Tryd.ntmps29
  go_wp2
  all_goals
    go_ret
    refine ⟨ret_bool ?_, rfl⟩
    rw [HL.out, Bool.eq_iff_iff]
    simp
    try omega
set_option maxRecDepth 100000 in
set_option maxHeartbeats 2000000 in
theorem refWords_any (w : World) : Calls Tryd.prog 13 #[] w fun e w' => ∃ v, e = .returned v ∧ StrsAt w' v P11.words ∧ Below w.heap.size w w' := by
  go_enter Tryd.func13, Tryd.ntmps13
  go_wp2
  go_ret
  exact ⟨_, rfl, StrsAt.new w P11.words _ _ 43 (by kernel_rfl) (by kernel_rfl), (by repeat (first | with_reducible exact Below.refl _ _ | ((with_reducible refine Below.setCell ?_ ?_ _); rotate_left; exact (by (try simp only [World.size_alloc, Xk.exw_size, World.size_setCell, World.size_drew, World.heap_drewN]); omega)) | ((with_reducible refine Below.alloc ?_ ?_ _); rotate_left; exact (by (try simp only [World.size_alloc, Xk.exw_size, World.size_setCell, World.size_drew, World.heap_drewN]); omega)) | ((with_reducible refine Xk.below_exw ?_ ?_ _); rotate_left; exact (by (try simp only [World.size_alloc, Xk.exw_size, World.size_setCell, World.size_drew, World.heap_drewN]); omega)) | (with_reducible refine Below.drew ?_)))⟩
def wordB (u : List UInt8) : Bool := P11.words.contains u
set_option maxRecDepth 100000 in
set_option maxHeartbeats 4000000 in
theorem isWord_any (u : List UInt8) (w : World) : Calls Tryd.prog 31 #[.string ⟨u.toArray⟩] w fun e w' => e = .returned (.bool (wordB u)) ∧ Below w.heap.size w w' := by
  go_enter Tryd.func31, Tryd.ntmps31
  go_wp2_with fail
  (with_reducible refine (refWords_any _).mono ?_)
  rintro e w1 ⟨v, rfl, ⟨b, off, cap, rfl, hc⟩, hb⟩
  have h43 : P11.words.length = 43 := rfl
  rw [h43]
  have HC := Lib.hid hc
  have HB := Lib.hid hb
  clear hc hb h43
  go_wp2
  go_loop [4] (fun x => ∃ q : Nat, q ≤ 43 ∧ x = .int .i64 q ∧ Hid (∀ (j : Nat) y, j < q → P11.words[j]? = some y → y ≠ u)) (fun x => 43 - (intOf x).toNat)
  case atStart => exact ⟨0, Nat.zero_le _, rfl, Lib.hid fun j y hj => by omega⟩
  case round =>
    obtain ⟨q, hq, rfl, HN⟩ := hrel
    by_cases hlt : q < 43
    · have hx : P11.words[q]? = some (P11.words[q]'hlt) := List.getElem?_eq_getElem _
      have c1 := HC.out q _ hx
      have HX := Lib.hid hx
      have q1 : (q : Int) < 43 := by omega
      clear hx
      generalize P11.words[q]'hlt = x at *
      by_cases he : x = u
      · subst he
        have hc : wordB x = true := by unfold wordB; simpa using List.mem_of_getElem? HX.out
        have HCn := Lib.hid hc
        clear hc
        go_wp2
        go_ret
        exact ⟨ret_bool HCn.out.symm, HB.out⟩
      · have HE := Lib.hid he
        have hne : (x == u) = false := by simpa using he
        go_wp2
        go_round
        case rel => exact ⟨q + 1, by omega, by go_num, Lib.hid fun j y hj hy => by
          by_cases hjq : j = q
          · subst hjq; rw [HX.out] at hy; cases hy; exact HE.out
          · exact HN.out j y (by omega) hy⟩
        case measure => simp [intOf]; omega
    · have hc : wordB u = false := by
        unfold wordB
        rw [Bool.eq_false_iff]
        intro h
        obtain ⟨j, hj⟩ := List.mem_iff_getElem?.1 (by simpa using h : u ∈ P11.words)
        have hj43 : j < 43 := (List.getElem?_eq_some_iff.1 hj).1
        exact HN.out j u (by omega) hj rfl
      have HCn := Lib.hid hc
      clear hc
      go_wp2
      go_ret
      exact ⟨ret_bool HCn.out.symm, HB.out⟩
end Go.Proofs.YteipafoiogkdoaaDoor
