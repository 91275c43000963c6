/- What the claim's proof leans on, part 4: walks of functions and plain laws. -/
import Derived.Test.YtlpcdpkgnfdpeaaGreatDoorSB
import Derived.Test.YtlpcdpkgnfdpeaaGreatDoorSA
import Derived.WalkKit
import Derived.WalkSpells
import Derived.Outline
import Derived.WalkLawsBesides
import Derived.Lib.Hide
import Derived.Deep.Light
import Derived.Lib.IndexLaws
import Derived.Lib.IndexBytes
import Derived.Maps.OwnSet
import Derived.Maps.Views
import Derived.ScopeJumps
import Derived.WalkMore
import Derived.Laws.OwnMore
import Derived.Lib.ConvBytes
import Derived.Lib.AtoiErrMem
set_option linter.unusedSimpArgs false
set_option linter.unusedVariables false
set_option maxRecDepth 100000
set_option maxHeartbeats 80000000
namespace Go.Proofs.YtlpcdpkgnfdpeaaGreatDoor
open Go.RowKit
theorem letter_int (c : UInt8) : P11.letter c = decide ((97 ≤ (c.toNat : Int) ∧ (c.toNat : Int) ≤ 122) ∨ (65 ≤ (c.toNat : Int) ∧ (c.toNat : Int) ≤ 90) ∨ (c.toNat : Int) = 95) := by
 rw [Bool.eq_iff_iff]
 simp [P11.letter, UInt8.le_iff_toNat_le, ← UInt8.toNat_inj]
 omega
theorem digit_int (c : UInt8) : P11.digit c = decide (48 ≤ (c.toNat : Int) ∧ (c.toNat : Int) ≤ 57) := by
 rw [Bool.eq_iff_iff]
 simp [P11.digit, UInt8.le_iff_toNat_le]
 omega
theorem ret_bool {a b : Bool} (h : a = b) : Ending.returned (.bool a) = .returned (.bool b) := by rw [h]
theorem letter_any (c : UInt8) (w : World) : Calls Tryz.prog 169 #[.int .i32 c.toNat] w fun e w' => e = .returned (.bool (P11.letter c)) ∧ w = w' := by
 have hl := letter_int c
 have h2 : (c.toNat : Int) < 256 := by have := c.toNat_lt; omega
 have HL := Lib.hid hl
 clear hl
 go_enter Tryz.func169, Tryz.ntmps169
 go_wp2
 all_goals
  go_ret
  refine ⟨ret_bool ?_, rfl⟩
  rw [HL.out, Bool.eq_iff_iff]
  simp
  try omega
theorem digit_any (c : UInt8) (w : World) : Calls Tryz.prog 172 #[.int .i32 c.toNat] w fun e w' => e = .returned (.bool (P11.digit c)) ∧ w = w' := by
 have hl := digit_int c
 have h2 : (c.toNat : Int) < 256 := by have := c.toNat_lt; omega
 have HL := Lib.hid hl
 clear hl
 go_enter Tryz.func172, Tryz.ntmps172
 go_wp2
 all_goals
  go_ret
  refine ⟨ret_bool ?_, rfl⟩
  rw [HL.out, Bool.eq_iff_iff]
  simp
  try omega
theorem alnum_any (c : UInt8) (w : World) : Calls Tryz.prog 171 #[.int .i32 c.toNat] w fun e w' => e = .returned (.bool (P11.alnum c)) ∧ w = w' := by
 have h1 := fun w => letter_any c w
 have h2 := fun w => digit_any c w
 cases hl : P11.letter c
 all_goals
  rw [hl] at h1
  have HA : Hid (P11.alnum c = (_ || P11.digit c)) := Lib.hid (by rw [P11.alnum, hl])
  have H1 := Lib.hid h1
  have H2 := Lib.hid h2
  clear h1 h2 hl
  go_enter Tryz.func171, Tryz.ntmps171
  go_wp2_with (first | (go_at_call 169; (with_reducible refine (H1.out _).mono ?_); rintro e w' ⟨rfl, rfl⟩) | (go_at_call 172; (with_reducible refine (H2.out _).mono ?_); rintro e w' ⟨rfl, rfl⟩))
  go_ret
  refine ⟨ret_bool ?_, rfl⟩
  rw [HA.out]
  simp
theorem run_end (p : UInt8 → Bool) (l : List UInt8) (a k : Nat) (h1 : a ≤ k) (h2 : k ≤ l.length) (h3 : ∀ j (h : j < l.length), a ≤ j → j < k → p l[j] = true) (h4 : ∀ h : k < l.length, p l[k] = false) : k = a + ((l.drop a).takeWhile p).length := by
 induction h : k - a generalizing a with
 | zero =>
  obtain rfl : k = a := by omega
  by_cases hk : k < l.length
  ·rw [List.drop_eq_getElem_cons hk, List.takeWhile, h4 hk]; rfl
  ·rw [List.drop_of_length_le (by omega)]; rfl
 | succ n ih =>
  have ha : a < l.length := by omega
  rw [List.drop_eq_getElem_cons ha, List.takeWhile, h3 a ha (Nat.le_refl _) (by omega)]
  have := ih (a + 1) (by omega) (fun j hj h5 h6 => h3 j hj (by omega) h6) (by omega)
  simp only [List.length_cons]; omega
theorem run_alnum (s : ByteArray) (a : Nat) (ha : a ≤ s.size) (hs : s.size ≤ 1000000) (w : World) :
  Calls Tryz.prog 170 #[.string s, .int .i64 a, .func (.func 171) #[] #[]] w fun e w' => e = .returned (.int .i64 (a + ((s.data.toList.drop a).takeWhile P11.alnum).length : Nat)) ∧ w = w' := by
 have HA := Lib.hid ha
 clear ha
 go_enter Tryz.func170, Tryz.ntmps170
 go_wp2
 go_loop [7] (fun x => ∃ k : Nat, a ≤ k ∧ k ≤ s.size ∧ x = .int .i64 k ∧ Hid (∀ j (h : j < s.data.toList.length), a ≤ j → j < k → P11.alnum s.data.toList[j] = true)) (fun x => s.size - (intOf x).toNat)
 case atStart => exact ⟨a, Nat.le_refl _, HA.out, rfl, Lib.hid fun j h h1 h2 => by omega⟩
 case round =>
  obtain ⟨k, h1, h2, rfl, H3⟩ := hrel
  by_cases hlt : k < s.size
  ·have hb8 : (s[k].toNat : Int) < 256 := by have := s[k].toNat_lt; omega
   have hb : ∀ w, Calls Tryz.prog 171 #[.int .i32 s[k].toNat] w fun e w' => e = .returned (.bool (P11.alnum s[k])) ∧ w = w' := fun w => alnum_any s[k] w
   cases hp : P11.alnum s[k]
   ·rw [hp] at hb
    have HB := Lib.hid hb
    have HP := Lib.hid hp
    clear hb hp
    go_wp2_with (go_at_call 171; (with_reducible refine (HB.out _).mono ?_); rintro e w' ⟨rfl, rfl⟩)
    go_ret
    exact ⟨congrArg (fun n : Nat => Ending.returned (.int .i64 n)) (run_end _ _ _ _ h1 h2 H3.out fun _ => HP.out), rfl⟩
   ·rw [hp] at hb
    have HB := Lib.hid hb
    have HP := Lib.hid hp
    clear hb hp
    go_wp2_with (go_at_call 171; (with_reducible refine (HB.out _).mono ?_); rintro e w' ⟨rfl, rfl⟩)
    go_round
    case rel => exact ⟨k + 1, by omega, by omega, by go_num, Lib.hid fun j h h5 h6 => by
     by_cases hjk : j = k
     ·subst hjk; exact HP.out
     ·exact H3.out j h h5 (by omega)⟩
    case measure => simp [intOf]; omega
  ·go_wp2
   go_ret
   exact ⟨congrArg (fun n : Nat => Ending.returned (.int .i64 n)) (run_end _ _ _ _ h1 h2 H3.out fun h => absurd h hlt), rfl⟩
theorem run_digit (s : ByteArray) (a : Nat) (ha : a ≤ s.size) (hs : s.size ≤ 1000000) (w : World) :
  Calls Tryz.prog 170 #[.string s, .int .i64 a, .func (.func 172) #[] #[]] w fun e w' => e = .returned (.int .i64 (a + ((s.data.toList.drop a).takeWhile P11.digit).length : Nat)) ∧ w = w' := by
 have HA := Lib.hid ha
 clear ha
 go_enter Tryz.func170, Tryz.ntmps170
 go_wp2
 go_loop [7] (fun x => ∃ k : Nat, a ≤ k ∧ k ≤ s.size ∧ x = .int .i64 k ∧ Hid (∀ j (h : j < s.data.toList.length), a ≤ j → j < k → P11.digit s.data.toList[j] = true)) (fun x => s.size - (intOf x).toNat)
 case atStart => exact ⟨a, Nat.le_refl _, HA.out, rfl, Lib.hid fun j h h1 h2 => by omega⟩
 case round =>
  obtain ⟨k, h1, h2, rfl, H3⟩ := hrel
  by_cases hlt : k < s.size
  ·have hb8 : (s[k].toNat : Int) < 256 := by have := s[k].toNat_lt; omega
   have hb : ∀ w, Calls Tryz.prog 172 #[.int .i32 s[k].toNat] w fun e w' => e = .returned (.bool (P11.digit s[k])) ∧ w = w' := fun w => digit_any s[k] w
   cases hp : P11.digit s[k]
   ·rw [hp] at hb
    have HB := Lib.hid hb
    have HP := Lib.hid hp
    clear hb hp
    go_wp2_with (go_at_call 172; (with_reducible refine (HB.out _).mono ?_); rintro e w' ⟨rfl, rfl⟩)
    go_ret
    exact ⟨congrArg (fun n : Nat => Ending.returned (.int .i64 n)) (run_end _ _ _ _ h1 h2 H3.out fun _ => HP.out), rfl⟩
   ·rw [hp] at hb
    have HB := Lib.hid hb
    have HP := Lib.hid hp
    clear hb hp
    go_wp2_with (go_at_call 172; (with_reducible refine (HB.out _).mono ?_); rintro e w' ⟨rfl, rfl⟩)
    go_round
    case rel => exact ⟨k + 1, by omega, by omega, by go_num, Lib.hid fun j h h5 h6 => by
     by_cases hjk : j = k
     ·subst hjk; exact HP.out
     ·exact H3.out j h h5 (by omega)⟩
    case measure => simp [intOf]; omega
  ·go_wp2
   go_ret
   exact ⟨congrArg (fun n : Nat => Ending.returned (.int .i64 n)) (run_end _ _ _ _ h1 h2 H3.out fun h => absurd h hlt), rfl⟩
end Go.Proofs.YtlpcdpkgnfdpeaaGreatDoor
namespace P11
theorem textOf_none : ∀ r : List UInt8, 39 ∉ r → textOf r = none
 | [], _ => rfl
 | c :: r, h => by
  rw [textOf_ne c r (fun e => h (by rw [e]; exact List.mem_cons_self ..)), textOf_none r (fun m => h (List.mem_cons_of_mem _ m))]; rfl
theorem textOf_skip (r2 : List UInt8) : ∀ r1 : List UInt8, 39 ∉ r1 → textOf (r1 ++ 39 :: r2) = (textOf (39 :: r2)).map fun y => (r1 ++ y.1, y.2 + r1.length)
 | [], _ => by simp
 | c :: r1, h => by
  rw [List.cons_append, textOf_ne c _ (fun e => h (by rw [e]; exact List.mem_cons_self ..)), textOf_skip r2 r1 (fun m => h (List.mem_cons_of_mem _ m))]
  cases textOf (39 :: r2) with
  | none => rfl
  | some y => simp; omega
open Go.Lib (indexByte)
theorem index_cases (c : UInt8) : ∀ r : List UInt8, (indexByte r c = -1 ∧ c ∉ r) ∨ ∃ n : Nat, indexByte r c = n ∧ n < r.length ∧ c ∉ r.take n ∧ r.drop n = c :: r.drop (n + 1)
 | [] => .inl ⟨rfl, by simp⟩
 | b :: r => by
  rw [indexByte]
  by_cases hb : b = c
  ·subst hb
   exact .inr ⟨0, by simp, by simp, by simp, rfl⟩
  ·rw [if_neg (by simpa using hb)]
   rcases index_cases c r with ⟨h1, h2⟩ | ⟨n, h1, h2, h3, h4⟩
   ·exact .inl ⟨by rw [h1]; rfl, by simp only [List.mem_cons, not_or]; exact ⟨fun e => hb e.symm, h2⟩⟩
   ·refine .inr ⟨n + 1, ?_, by simp; omega, ?_, ?_⟩
    ·rw [h1, if_neg (by simp)]; rfl
    ·rw [List.take_succ_cons]; simp only [List.mem_cons, not_or]; exact ⟨fun e => hb e.symm, h3⟩
    ·rw [List.drop_succ_cons, List.drop_succ_cons]; exact h4
end P11
namespace Go.Proofs.YtlpcdpkgnfdpeaaGreatDoor
open Go.RowKit
theorem ix_any (s : ByteArray) (a : Nat) (c : UInt8) (k v : Int) (hk : k.toNat.toUInt8 = c) (h : Lib.indexByte (s.data.toList.drop a) c = v) (w : World) :
  Calls Tryz.prog 118 #[.string (s.extract a s.size), .int .u8 k] w fun e w' => e = .returned (.int .i64 v) ∧ w = w' := by
 refine (Tryz.strings_IndexByte _ _ _).mono ?_
 rintro e w' ⟨rfl, rfl⟩
 refine ⟨?_, rfl⟩
 rw [Lib.extract_to_end, ← h, hk]
def textR (a : Nat) : Option (List UInt8 × Nat) → Value
 | none => .tuple #[.int .i64 0, .string ⟨#[]⟩, .bool false]
 | some x => .tuple #[.int .i64 ((a + 1 + x.2 : Nat) : Int), .string ⟨x.1.toArray⟩, .bool true]
theorem cat_list (t : List UInt8) (s : ByteArray) (a b : Nat) : (⟨t.toArray⟩ : ByteArray) ++ s.extract a b = ⟨(t ++ (s.data.toList.drop a).take (b - a)).toArray⟩ := by
 have h : ∀ x y : ByteArray, x.data.toList = y.data.toList → x = y := fun ⟨x⟩ ⟨y⟩ h => by
  simp at h; rw [h]
 apply h
 simp only [ByteArray.data_append, Array.toList_append, Lib.extract_data]
theorem text_any (s : ByteArray) (a : Nat) (ha : a < s.size) (hs : s.size ≤ 1000000) (w : World) :
  Calls Tryz.prog 178 #[.string s, .int .i64 a] w fun e w' => e = .returned (textR a (P11.textOf (s.data.toList.drop (a + 1)))) ∧ w = w' := by
 have HA := Lib.hid ha
 clear ha
 go_enter Tryz.func178, Tryz.ntmps178
 go_wp2
 go_loop [1, 7] (fun x o => ∃ (b : Nat) (t : List UInt8), a ≤ b ∧ b < s.size ∧ t.length ≤ b ∧ x = .int .i64 b ∧ o = .string ⟨t.toArray⟩ ∧ Hid (P11.textOf (s.data.toList.drop (a + 1)) = (P11.textOf (s.data.toList.drop (b + 1))).map fun y => (t ++ y.1, y.2 + (b - a)))) (fun x _ => s.size - (intOf x).toNat)
 case atStart => exact ⟨a, [], Nat.le_refl _, HA.out, Nat.zero_le _, rfl, rfl, Lib.hid (by cases P11.textOf (s.data.toList.drop (a + 1)) <;> simp)⟩
 case round =>
  obtain ⟨b, t, h1, h2, ht, rfl, rfl, HT⟩ := hrel
  rcases P11.index_cases 39 (s.data.toList.drop (b + 1)) with ⟨e1, e2⟩ | ⟨n, e1, e2, e3, e4⟩
  ·have HX := Lib.hid (fun w => ix_any s (b + 1) 39 39 _ rfl e1 w)
   have HN : Hid (P11.textOf (s.data.toList.drop (a + 1)) = none) := Lib.hid (by rw [HT.out, P11.textOf_none _ e2]; rfl)
   clear e1 e2
   go_wp2_with (go_at_call 118; (with_reducible refine (HX.out _).mono ?_); rintro e w' ⟨rfl, rfl⟩)
   go_ret3
   exact ⟨by rw [HN.out]; rfl, rfl⟩
  ·have HX := Lib.hid (fun w => ix_any s (b + 1) 39 39 _ rfl e1 w)
   have h3 : b + 1 + n < s.size := by simp at e2; omega
   have e5 : s.data.toList.drop (b + 1) = (s.data.toList.drop (b + 1)).take n ++ 39 :: s.data.toList.drop (b + n + 2) := by
    have := List.take_append_drop n (s.data.toList.drop (b + 1))
    rw [e4, List.drop_drop] at this
    rw [show b + n + 2 = b + 1 + (n + 1) by omega]
    exact this.symm
   have e6 : ((s.data.toList.drop (b + 1)).take n).length = n := by simp at e2 ⊢; omega
   have e7 : P11.textOf (s.data.toList.drop (b + 1)) = (P11.textOf (39 :: s.data.toList.drop (b + n + 2))).map fun y => ((s.data.toList.drop (b + 1)).take n ++ y.1, y.2 + n) := by
    have := P11.textOf_skip (s.data.toList.drop (b + n + 2)) _ e3
    rw [e6] at this
    rw [← this, ← e5]
   have e8 := cat_list t s (b + 1) (b + 1 + n)
   rw [Nat.add_sub_cancel_left] at e8
   have H8 := Lib.hid e8
   have H7 := Lib.hid e7
   clear e1 e2 e3 e4 e5 e6 e7 e8
   by_cases hz : b + n + 2 = s.size
   ·have HN : Hid (textR a (P11.textOf (s.data.toList.drop (a + 1))) = .tuple #[.int .i64 s.size, .string (⟨t.toArray⟩ ++ s.extract (b + 1) (b + 1 + n)), .bool true]) := Lib.hid (by
     rw [HT.out, H7.out, hz, List.drop_of_length_le (Nat.le_refl s.size), H8.out]
     rw [P11.textOf_q [] (by decide)]
     simp only [Option.map_some, textR, List.append_nil]
     rw [show a + 1 + (1 + n + (b - a)) = s.size by omega])
    have hz1 : (b : Int) + ((n : Int) + 2) = (s.size : Int) := by omega
    have Hz := Lib.hid hz
    clear hz H7 H8
    go_wp2_with (go_at_call 118; (with_reducible refine (HX.out _).mono ?_); rintro e w' ⟨rfl, rfl⟩)
    go_ret3
    exact ⟨by rw [HN.out]; rfl, rfl⟩
   ·have hz1 : ((b : Int) + ((n : Int) + 2) == (s.size : Int)) = false := by rw [beq_eq_false_iff_ne]; omega
    have hz2 : (b : Int) + ((n : Int) + 2) < (s.size : Int) := by omega
    have h4 : b + n + 2 < s.size := by omega
    have h4 : b + (n + 2) < s.size := by omega
    by_cases hc : s[b + (n + 2)] = 39
    ·have hc1 : ((s[b + (n + 2)].toNat : Int) == 39) = true := by rw [hc]; rfl
     have hc2 : ((s[b + (n + 2)].toNat : Int) != 39) = false := by rw [bne, hc1]; rfl
     have e9 : s.data.toList.drop (b + n + 2) = 39 :: s.data.toList.drop (b + n + 2 + 1) := by
      rw [List.drop_eq_getElem_cons (show b + n + 2 < s.data.toList.length from by show b + n + 2 < s.size; omega)]
      congr 1
     have HN : Hid (P11.textOf (s.data.toList.drop (a + 1)) = (P11.textOf (s.data.toList.drop (b + n + 2 + 1))).map fun y => (t ++ (s.data.toList.drop (b + 1)).take n ++ [39] ++ y.1, y.2 + (b + n + 2 - a))) := Lib.hid (by
      rw [HT.out, H7.out, e9, P11.textOf_qq]
      cases P11.textOf (s.data.toList.drop (b + n + 2 + 1)) with
      | none => rfl
      | some y => simp; omega)
     have e10 : (⟨t.toArray⟩ ++ s.extract (b + 1) (b + 1 + n) ++ ⟨#[39]⟩ : ByteArray) = ⟨(t ++ (s.data.toList.drop (b + 1)).take n ++ [39]).toArray⟩ := by
      rw [H8.out]
      have h : ∀ x y : ByteArray, x.data.toList = y.data.toList → x = y := fun ⟨x⟩ ⟨y⟩ h => by
       simp at h; rw [h]
      apply h
      simp [ByteArray.data_append]
     have H10 := Lib.hid e10
     have hl : (t ++ (s.data.toList.drop (b + 1)).take n ++ [39]).length ≤ b + n + 2 := by
      have := List.length_take_le n (s.data.toList.drop (b + 1))
      simp only [List.length_append, List.length_singleton]; omega
     have HL := Lib.hid hl
     clear hc e9 e10 hl H7 H8 HT
     go_wp2_with (go_at_call 118; (with_reducible refine (HX.out _).mono ?_); rintro e w' ⟨rfl, rfl⟩)
     go_round
     case rel => exact ⟨b + n + 2, _, by omega, by omega, HL.out, by go_num, congrArg Value.string H10.out, HN⟩
     case measure => simp [intOf]; omega
    ·have hc1 : ((s[b + (n + 2)].toNat : Int) == 39) = false := by
      rw [beq_eq_false_iff_ne]; intro h; exact hc (UInt8.toNat_inj.1 (by rw [show (39 : UInt8).toNat = 39 from rfl]; omega))
     have hc2 : ((s[b + (n + 2)].toNat : Int) != 39) = true := by rw [bne, hc1]; rfl
     have HN : Hid (textR a (P11.textOf (s.data.toList.drop (a + 1))) = .tuple #[.int .i64 (b + (n + 2)), .string (⟨t.toArray⟩ ++ s.extract (b + 1) (b + 1 + n)), .bool true]) := Lib.hid (by
      have hb : (s.data.toList.drop (b + n + 2)).head? ≠ some 39 := by
       rw [List.head?_drop, List.getElem?_eq_getElem (show b + n + 2 < s.data.toList.length from by show b + n + 2 < s.size; omega)]
       intro h
       exact hc (Option.some.inj h)
      rw [HT.out, H7.out, H8.out, P11.textOf_q _ hb]
      simp only [Option.map_some, textR, List.append_nil]
      rw [show ((a + 1 + (1 + n + (b - a)) : Nat) : Int) = b + (n + 2) by omega])
     clear hc H7 H8 HT
     go_wp2_with (go_at_call 118; (with_reducible refine (HX.out _).mono ?_); rintro e w' ⟨rfl, rfl⟩)
     go_ret3
     exact ⟨by rw [HN.out]; rfl, rfl⟩
end Go.Proofs.YtlpcdpkgnfdpeaaGreatDoor
namespace Go.Proofs.YtlpcdpkgnfdpeaaGreatDoor
open Go.RowKit Go.Maps
def StrsAt (w : World) (v : Value) (l : List (List UInt8)) : Prop :=
 ∃ b off cap, v = .slice (some ⟨b, off, none⟩) l.length cap ∧ ∀ (j : Nat) (x : List UInt8), l[j]? = some x → w.cell? ⟨b, off + j, none⟩ = some (.string ⟨x.toArray⟩)
theorem StrsAt.ext {w w' : World} {v : Value} {l : List (List UInt8)} (h : StrsAt w v l) (hx : Xk.Ext w w') : StrsAt w' v l := by
 obtain ⟨b, off, cap, hv, hl⟩ := h
 exact ⟨b, off, cap, hv, fun j x hj => Xk.ext_cell hx (hl j x hj)⟩
theorem StrsAt.new (w : World) (l : List (List UInt8)) (C : Array Value) (t : TypeId) (n : Nat) (hn : l.length = n) (h : C.toList = l.map fun x => Value.string ⟨x.toArray⟩) : StrsAt (w.alloc (.cells C t)) (.slice (some ⟨w.heap.size, 0, none⟩) n n) l := by
 refine ⟨w.heap.size, 0, n, by rw [hn], fun j x hj => ?_⟩
 rw [World.cell?_alloc_mark]
 simp only [Nat.zero_add]
 rw [← Array.getElem?_toList, h, List.getElem?_map, hj]; rfl
theorem signs_any (w : World) : Calls Tryz.prog 176 #[] w fun e w' => ∃ v, e = .returned v ∧ StrsAt w' v P11.signs ∧ Below w.heap.size w w' := by
 go_enter Tryz.func176, Tryz.ntmps176
 go_wp2
 go_ret
 exact ⟨_, rfl, StrsAt.new w P11.signs _ _ 17 (by kernel_rfl) (by kernel_rfl), Xk.xt⟩
theorem pre_any (s p : ByteArray) (a : Nat) (w : World) : Calls Tryz.prog 168 #[.string (s.extract a s.size), .string p] w fun e w' => e = .returned (.bool (p.data.toList.isPrefixOf (s.data.toList.drop a))) ∧ w = w' := by
 refine (Tryz.strings_HasPrefix _ _ _).mono ?_
 rintro e w' ⟨rfl, rfl⟩
 refine ⟨?_, rfl⟩
 rw [Lib.hasPrefix, Lib.extract_to_end]
def signAt (s : ByteArray) (a : Nat) (x : List UInt8) : Bool := x.isPrefixOf (s.data.toList.drop a)
theorem closure_any (s : ByteArray) (a : Nat) (x : List UInt8) (bs ba : Nat) (w : World) (cs : w.cell? ⟨bs, 0, none⟩ = some (.string s)) (ca : w.cell? ⟨ba, 0, none⟩ = some (.int .i64 a)) (ha : a ≤ s.size) (hs : s.size ≤ 1000000) :
  Calls Tryz.prog 177 #[.string ⟨x.toArray⟩, .pointer (some ⟨bs, 0, none⟩), .pointer (some ⟨ba, 0, none⟩)] w fun e w' => e = .returned (.bool (signAt s a x)) ∧ w = w' := by
 have HP := Lib.hid (fun w => pre_any s ⟨x.toArray⟩ a w)
 go_enter Tryz.func177, Tryz.ntmps177
 go_wp2_with (go_at_call 168; (with_reducible refine (HP.out _).mono ?_); rintro e w' ⟨rfl, rfl⟩)
 go_ret
 exact ⟨rfl, rfl⟩
def firstSign (p : List UInt8 → Bool) : List (List UInt8) → Int
 | [] => -1
 | x :: l => if p x then 0 else if firstSign p l = -1 then -1 else firstSign p l + 1
theorem firstSign_hit {p : List UInt8 → Bool} : ∀ {l : List (List UInt8)} {q : Nat} {x : List UInt8}, l[q]? = some x → p x = true → (∀ j y, j < q → l[j]? = some y → p y = false) → firstSign p l = q
 | [], _, _, h, _, _ => by simp at h
 | y :: l, 0, x, h, hp, _ => by
  simp at h; subst h; rw [firstSign, if_pos hp]; rfl
 | y :: l, q + 1, x, h, hp, hn => by
  have := firstSign_hit (l := l) (q := q) (by simpa using h) hp (fun j z hj hz => hn (j + 1) z (by omega) (by simpa using hz))
  rw [firstSign, if_neg (by rw [hn 0 y (by omega) rfl]; decide), if_neg (by omega), this]; rfl
theorem firstSign_none {p : List UInt8 → Bool} : ∀ {l : List (List UInt8)}, (∀ (j : Nat) y, l[j]? = some y → p y = false) → firstSign p l = -1
 | [], _ => rfl
 | y :: l, hn => by
  have := firstSign_none (l := l) (fun j z hz => hn (j + 1) z (by simpa using hz))
  rw [firstSign, if_neg (by rw [hn 0 y rfl]; decide), if_pos this]
theorem firstSign_find {p : List UInt8 → Bool} : ∀ l : List (List UInt8), (firstSign p l = -1 ∧ l.find? p = none) ∨ ∃ (q : Nat) (x : List UInt8), firstSign p l = q ∧ l[q]? = some x ∧ l.find? p = some x
 | [] => .inl ⟨rfl, rfl⟩
 | y :: l => by
  rw [firstSign, List.find?]
  cases hp : p y
  ·rw [if_neg (by decide)]
   rcases firstSign_find (p := p) l with ⟨h1, h2⟩ | ⟨q, x, h1, h2, h3⟩
   ·exact .inl ⟨by rw [if_pos h1], h2⟩
   ·exact .inr ⟨q + 1, x, by rw [if_neg (by omega), h1]; rfl, by simpa using h2, h3⟩
  ·exact .inr ⟨0, y, by rw [if_pos rfl]; rfl, rfl, rfl⟩
theorem indexFunc_any (s : ByteArray) (a : Nat) (v : Value) (l : List (List UInt8)) (bs ba : Nat) (w : World) (hv : StrsAt w v l) (hl : l.length ≤ 1000) (cs : w.cell? ⟨bs, 0, none⟩ = some (.string s)) (ca : w.cell? ⟨ba, 0, none⟩ = some (.int .i64 a)) (ha : a ≤ s.size) (hs : s.size ≤ 1000000) :
  Calls Tryz.prog 175 #[v, .func (.func 177) #[] #[.pointer (some ⟨bs, 0, none⟩), .pointer (some ⟨ba, 0, none⟩)]] w fun e w' => e = .returned (.int .i64 (firstSign (signAt s a) l)) ∧ w = w' := by
 obtain ⟨b, off, cap, rfl, hc⟩ := hv
 have HC := Lib.hid hc
 have HK := Lib.hid (fun x => closure_any s a x bs ba w cs ca ha hs)
 clear hc cs ca ha hs
 go_enter Tryz.func175, Tryz.ntmps175
 go_wp2
 go_loop [5, 8] (fun _ x => ∃ q : Nat, q ≤ l.length ∧ x = .int .i64 q ∧ Hid (∀ (j : Nat) y, j < q → l[j]? = some y → signAt s a y = false)) (fun _ x => l.length - (intOf x).toNat)
 case atStart => exact ⟨0, Nat.zero_le _, rfl, Lib.hid fun j y hj => by omega⟩
 case round =>
  obtain ⟨q, hq, rfl, HN⟩ := hrel
  by_cases hlt : q < l.length
  ·have hx : l[q]? = some (l[q]'hlt) := List.getElem?_eq_getElem _
   have HX := Lib.hid hx
   have c1 := HC.out q _ hx
   have hk := HK.out (l[q]'hlt)
   clear hx
   generalize l[q]'hlt = x at *
   cases hp : signAt s a x
   ·rw [hp] at hk
    have Hk := Lib.hid hk
    have HP := Lib.hid hp
    clear hk hp
    go_wp2_with (go_at_call 177; (with_reducible refine (Hk.out).mono ?_); rintro e w' ⟨rfl, rfl⟩)
    go_round
    case rel => exact ⟨q + 1, by omega, by go_num, Lib.hid fun j y hj hy => by
     by_cases hjq : j = q
     ·subst hjq; rw [HX.out] at hy; cases hy; exact HP.out
     ·exact HN.out j y (by omega) hy⟩
    case measure => simp [intOf]; omega
   ·rw [hp] at hk
    have Hk := Lib.hid hk
    have HP := Lib.hid hp
    clear hk hp
    go_wp2_with (go_at_call 177; (with_reducible refine (Hk.out).mono ?_); rintro e w' ⟨rfl, rfl⟩)
    go_ret
    exact ⟨congrArg (fun n : Int => Ending.returned (.int .i64 n)) (firstSign_hit HX.out HP.out HN.out).symm, rfl⟩
  ·go_wp2
   go_ret
   exact ⟨congrArg (fun n : Int => Ending.returned (.int .i64 n)) (firstSign_none fun j y hy => HN.out j y (by have := (List.getElem?_eq_some_iff.1 hy).1; omega) hy).symm, rfl⟩
end Go.Proofs.YtlpcdpkgnfdpeaaGreatDoor
namespace P11
def setW (n : Nat) : Go.DataW Unit := Go.Maps.setOf (.agg []) ((words.take n).map Go.Lit.string)
theorem has_setW (k : List UInt8) : Go.Maps.has (setW 43) (.string k) = words.contains k := by
 rw [setW, Go.Maps.has_setOf _ _ _ (fun x hx => by
  obtain ⟨y, -, rfl⟩ := List.mem_map.1 hx; trivial), List.take_of_length_le (by decide)]
 rw [Bool.eq_iff_iff]
 simp [Go.Lit.sameKey]
def wordOf (w : List UInt8) : Int × List UInt8 := if words.contains (w.map Go.Lib.upperB) then (2, w.map Go.Lib.upperB) else (1, w.map Go.Lib.lowerB)
end P11
namespace Go.Proofs.YtlpcdpkgnfdpeaaGreatDoor
open Go.RowKit Go.Maps
theorem exw_alloc_exw (w : World) (p q : Regrown) (o : Obj) : Xk.exw ((Xk.exw w p).alloc o) q = Xk.exw w ⟨q.d, p.os.push o ++ q.os⟩ := by
 simp [Xk.exw, Go.Sort.grow, redrawn, World.alloc, Array.append_assoc]
attribute [local go_sem] exw_alloc_exw
theorem keyLaw : Keyed Tryz.prog 9 := string_keyed Tryz.underlying9
theorem zeroUnit (w : World) : (zeroValue 206).run Tryz.prog w = .ok (.agg #[]) w := by kernel_rfl
def WordsAt (w : World) (B n : Nat) : Prop := w.ownsMap Tryz.prog 9 (unitElem (H := Unit)) B n (P11.setW n)
theorem WordsAt.ext {w w' : World} {B n : Nat} (h : WordsAt w B n) (hx : Xk.Ext w w') : WordsAt w' B n := by
 have := h.lt
 unfold WordsAt World.ownsMap at *
 rw [hx.block B this]
 exact h
theorem alnum_ascii (c : UInt8) (h : P11.alnum c = true) : c.toNat < 128 := by
 have := P11.u8_imp (p := P11.alnum) (q := fun c => decide (c.toNat < 128)) (by decide +kernel) c h
 simpa using this
theorem word_any (s : ByteArray) (a : Int) (B : Nat) (w : World) (hw : WordsAt w B 43) (hs : s.size ≤ 1000000) (ha : s.data.toList.all P11.alnum = true) :
  Calls Tryz.prog 173 #[.string s, .int .i64 a, .map (some B)] w fun e w' => e = .returned (.agg #[.int .i64 (P11.wordOf s.data.toList).1, .string ⟨(P11.wordOf s.data.toList).2.toArray⟩, .int .i64 a]) ∧ Below w.heap.size w w' := by
 have hasc : ∀ (j : Nat) (b : UInt8), s.data.toList[j]? = some b → b.toNat < 128 := fun j b hj => alnum_ascii b (List.all_eq_true.1 ha b (List.mem_of_getElem? hj))
 have HU := Lib.hid (fun w => Tryz.strings_ToUpper_ascii s w (by omega) hasc)
 have HL := Lib.hid (fun w => Tryz.strings_ToLower_ascii s w (by omega) hasc)
 have hW := fun o p => hw.ext ((((Below.refl _ w).alloc (Nat.le_refl _) o)).trans ((Xk.ext_exw (w.alloc o) p).mono (by simp)))
 have HW := Lib.hid hW
 have hsz : (⟨(Lib.toUpperA s.data.toList).toArray⟩ : ByteArray).size ≤ maxLen := by
  have : (⟨(Lib.toUpperA s.data.toList).toArray⟩ : ByteArray).size = s.size := by
   show (Lib.toUpperA s.data.toList).toArray.size = s.data.size
   simp [Lib.toUpperA]
  unfold maxLen; omega
 have HK := Lib.hid (Go.WideMaps.keyOf_string_mk Tryz.underlying9 hsz)
 clear hW hsz hw ha
 cases hc : P11.words.contains (s.data.toList.map Lib.upperB)
 ·have hv : Maps.has (P11.setW 43) (.string (Lib.toUpperA s.data.toList)) = false := (P11.has_setW _).trans hc
  have HR : Hid (P11.wordOf s.data.toList = (1, Lib.toLowerA s.data.toList)) := Lib.hid (by unfold P11.wordOf; rw [hc]; rfl)
  clear hc hasc
  go_enter Tryz.func173, Tryz.ntmps173
  go_wp2_with (first | (go_at_call 42; with_reducible refine Xk.cl (HU.out _) fun p => ?_) | (go_at_call 218; with_reducible refine Xk.cl (HL.out _) fun p => ?_) | (at_lookup; refine wpList_lookup_own_unit _ rfl _ _ 205 rfl 9 206 keyLaw Tryz.underlying205 (zeroUnit _) B 43 _ rfl (HW.out _ _) _ _ rfl HK.out ?_))
  rw [HR.out]
  exact bodyPost_ret (v := .agg #[.int .i64 1, .string ⟨(Lib.toLowerA s.data.toList).toArray⟩, .int .i64 a]) (by simp [results, Tryz.results173, go_sem]) rfl ⟨rfl, Xk.xt⟩
 ·have hv : Maps.has (P11.setW 43) (.string (Lib.toUpperA s.data.toList)) = true := (P11.has_setW _).trans hc
  have HR : Hid (P11.wordOf s.data.toList = (2, Lib.toUpperA s.data.toList)) := Lib.hid (by unfold P11.wordOf; rw [hc]; rfl)
  clear hc hasc
  go_enter Tryz.func173, Tryz.ntmps173
  go_wp2_with (first | (go_at_call 42; with_reducible refine Xk.cl (HU.out _) fun p => ?_) | (go_at_call 218; with_reducible refine Xk.cl (HL.out _) fun p => ?_) | (at_lookup; refine wpList_lookup_own_unit _ rfl _ _ 205 rfl 9 206 keyLaw Tryz.underlying205 (zeroUnit _) B 43 _ rfl (HW.out _ _) _ _ rfl HK.out ?_))
  rw [HR.out]
  exact bodyPost_ret (v := .agg #[.int .i64 2, .string ⟨(Lib.toUpperA s.data.toList).toArray⟩, .int .i64 a]) (by simp [results, Tryz.results173, go_sem]) rfl ⟨rfl, Xk.xt⟩
end Go.Proofs.YtlpcdpkgnfdpeaaGreatDoor
namespace Go.Xk
open Go.RowKit
def jumps (J : Nat → Act → World → Prop) (Q : Exit → Act → World → Prop) : Exit → Act → World → Prop
 | .goto l, a, w => J l a w
 | e, a, w => Q e a w
section
variable {J : Nat → Act → World → Prop} {Q : Exit → Act → World → Prop} {a : Act} {w : World}
@[go_sem] theorem jumps_goto (l : Nat) : jumps J Q (.goto l) a w = J l a w := rfl
@[go_sem] theorem jumps_normal : jumps J Q .normal a w = Q .normal a w := rfl
@[go_sem] theorem jumps_exit (id : Nat) : jumps J Q (.exit id) a w = Q (.exit id) a w := rfl
@[go_sem] theorem jumps_ret : jumps J Q .ret a w = Q .ret a w := rfl
@[go_sem] theorem jumps_panic (ch : List PanicEntry) : jumps J Q (.panic ch) a w = Q (.panic ch) a w := rfl
end
theorem wp_scope_labels {P : Program} {a : Act} {w : World} {Q : Exit → Act → World → Prop} {c : Code} (J : Nat → Nat → Act → World → Prop)
  (first : c.wp P (jumps (fun l a w => ∃ n, J n l a w) Q) a w)
  (pass : ∀ n l a w, J n l a w → ∃ rest, findLabel c l = some rest ∧ rest.wp P (jumps (fun l' a' w' => ∃ m, m < n ∧ J m l' a' w') Q) a w) : (Code.scope c).wp P Q a w := by
 intro b k cs
 have key : ∀ n l a w, J n l a w → ∃ rest e a' w', findLabel c l = some rest ∧ Q e a' w' ∧ Arrives P (lone (b.at a (.code rest :: .inScope c :: k)) cs w) b k cs e a' w' := by
  intro n
  induction n using Nat.strongRecOn with
  | _ n ih =>
   intro l a w hJ
   obtain ⟨rest, hf, hw⟩ := pass n l a w hJ
   obtain ⟨e, a₁, w₁, hq, harr⟩ := hw b (.inScope c :: k) cs
   refine ⟨rest, ?_⟩
   cases e with
   | normal => exact ⟨.normal, a₁, w₁, hf, hq, Steps.trans harr (.one step_inScope)⟩
   | exit id => exact ⟨.exit id, a₁, w₁, hf, hq, fun k' hk => harr k' (by simp [exitTo, hk])⟩
   | goto l' =>
    obtain ⟨m, hlt, hJ'⟩ := hq
    obtain ⟨rest₂, e₂, a₂, w₂, hf₂, hq₂, harr₂⟩ := ih m hlt l' a₁ w₁ hJ'
    exact ⟨e₂, a₂, w₂, hf, hq₂, .of_steps (harr _ (by simp [gotoIn, hf₂])) harr₂⟩
   | ret => exact ⟨_, a₁, w₁, hf, hq, harr⟩
   | panic ch => exact ⟨_, a₁, w₁, hf, hq, harr⟩
   | outgrown => exact ⟨_, a₁, w₁, hf, hq, harr⟩
 obtain ⟨e, a₁, w₁, hq, harr⟩ := first b (.inScope c :: k) cs
 cases e with
 | normal => exact ⟨.normal, a₁, w₁, hq, .head step_scope (Steps.trans harr (.one step_inScope))⟩
 | exit id => exact ⟨.exit id, a₁, w₁, hq, fun k' hk => .head step_scope (harr k' (by simp [exitTo, hk]))⟩
 | goto l' =>
  obtain ⟨n, hJ'⟩ := hq
  obtain ⟨rest₂, e₂, a₂, w₂, hf₂, hq₂, harr₂⟩ := key n l' a₁ w₁ hJ'
  exact ⟨e₂, a₂, w₂, hq₂, .of_steps (.head step_scope (harr _ (by simp [gotoIn, hf₂]))) harr₂⟩
 | ret => exact ⟨_, a₁, w₁, hq, .of_steps (.one step_scope) harr⟩
 | panic ch => exact ⟨_, a₁, w₁, hq, .of_steps (.one step_scope) harr⟩
 | outgrown => exact ⟨_, a₁, w₁, hq, .of_steps (.one step_scope) harr⟩
theorem ownsRow_ext {w w' : World} {base : Nat} {e : TypeId} {size : Nat} {v : Value} {n : Nat} {xs : List Value} (h : w.ownsRow base e size v n xs) (hx : Ext w w') : w'.ownsRow base e size v n xs := by
 obtain ⟨h1, h2⟩ := h
 refine ⟨h1, ?_⟩
 rcases h2 with h2 | ⟨g, cap, cur, hv, hb, hg, r⟩
 ·exact .inl h2
 ·exact .inr ⟨g, cap, cur, hv, hb, by rw [hx.block g (Array.getElem?_eq_some_iff.1 hg).1]; exact hg, r⟩
theorem own_more {W : World} {d d' : Nat} {os os' : Array Obj} {base : Nat} {e : TypeId} {size : Nat} {v : Value} {n : Nat} {xs : List Value} (h : (exw W ⟨d, os⟩).ownsRow base e size v n xs) : (exw W ⟨d', os ++ os'⟩).ownsRow base e size v n xs := by
 rw [← exw_exw W ⟨d, os⟩ ⟨d', os'⟩]
 exact ownsRow_ext h (ext_exw _ _)
theorem own_d {W : World} {p : Regrown} {d' : Nat} {base : Nat} {e : TypeId} {size : Nat} {v : Value} {n : Nat} {xs : List Value} (h : (exw W p).ownsRow base e size v n xs) : (exw W ⟨d', p.os⟩).ownsRow base e size v n xs := by
 have := own_more (d := p.d) (d' := d') (os := p.os) (os' := #[]) h
 simpa using this
theorem own_alloc {w : World} {base : Nat} {e : TypeId} {size : Nat} {v : Value} {n : Nat} {xs : List Value} (h : w.ownsRow base e size v n xs) (o : Obj) : (w.alloc o).ownsRow base e size v n xs := h.alloc o
theorem own_drew {w : World} {base : Nat} {e : TypeId} {size : Nat} {v : Value} {n : Nat} {xs : List Value} (h : w.ownsRow base e size v n xs) : (w.drew).ownsRow base e size v n xs := h.drew
theorem wpList_own {P : Program} {w0 w : World} {ops : Array Oper} {rest : List Oper} {o : Oper} {a : Act} {Q : Exit → Act → World → Prop} (hgd : o.guard = none) (s x : Operand) (t : TypeId)
  (ho : o.op = .call { callee := .builtin .append, args := #[s, x], argTypes := #[t, t] })
  (e : TypeId) (i : TypeInfo) (z : Value) (size bytes : Nat) (ht : P.underlying t = some (.slice e)) (hi : P.info? e = some i) (hz : i.zero = some z)
  (hsize : i.size = size) (hby : i.bytes = bytes) (hzs : z.cells.size = size) (hsz : 0 < size)
  (v : Value) (n : Nat) (xs : List Value) (hs : a.eval s = v) (hown : w.ownsRow w0.heap.size e size v n xs)
  (g goff m c : Nat) (news : List Value) (hx : a.eval x = .slice (some ⟨g, goff, none⟩) m c) (hl : news.length = m * size) (hnews0 : ∀ j u, news[j]? = some u → w.cell? ⟨g, goff + j, none⟩ = some u) (h1 : ∀ u ∈ news, u.oneCell' = true)
  (hb : n ≤ 1000000 ∧ m ≤ 1000000 ∧ bytes ≤ 1000) (hbel : Below w0.heap.size w0 w)
  (h : ∀ v' p, (exw w0 p).ownsRow w0.heap.size e size v' (n + m) (xs ++ news) → wpList P ops Q rest (a.put o.dst v') (exw w0 p)) : wpList P ops Q (o :: rest) a w := by
 have hnews : ∀ j u, news[j]? = some u → w.cell? (Addr.add ⟨g, goff, none⟩ j) = some u := fun j u hj => by rw [addr_add]; exact hnews0 j u hj
 have hm : (n + m) * bytes ≤ 2000000 * 1000 := Nat.mul_le_mul (by omega) hb.2.2
 refine wpList_append_own w hgd s x t ho w0.heap.size e i z size bytes ht hi hz hsize hby hzs hsz v n xs hs hown _ m c news hx hl hnews h1 (by unfold maxLen; omega) (by omega) hbel.size fun v' w' ho' hg _ => ?_
 obtain ⟨p, rfl⟩ := exw_of (hbel.grown hg hbel.size (ownBlock_ge hown))
 exact h v' p ho'
theorem cells3 {W : World} {g : Nat} {x y z : Value} {t : TypeId} (h : g = W.heap.size) : ∀ (j : Nat) u, [x, y, z][j]? = some u → (W.alloc (.cells #[x, y, z] t)).cell? ⟨g, 0 + j, none⟩ = some u := by
 subst h
 intro j u hj
 rw [World.cell?_alloc_mark]
 match j, hj with
 | 0, hj => simpa using hj
 | 1, hj => simpa using hj
 | 2, hj => simpa using hj
end Go.Xk
namespace Go.Proofs.YtlpcdpkgnfdpeaaGreatDoor
open Go.RowKit Go.Maps
theorem Tryz.infoTok : (Tryz.prog.info? 82).map (fun i => (i.zero, i.size, i.bytes)) = some (some (.agg #[.int .i64 0, .string ⟨#[]⟩, .int .i64 0]), 3, 32) := by kernel_rfl
def tokCells (l : List P11.Tok) : List Value := l.flatMap fun t => [.int .i64 t.kind, .string ⟨t.text.toArray⟩, .int .i64 t.pos]
theorem tokCells_snoc (l : List P11.Tok) (t : P11.Tok) : tokCells (l ++ [t]) = tokCells l ++ [.int .i64 t.kind, .string ⟨t.text.toArray⟩, .int .i64 t.pos] := by simp [tokCells]
theorem tokCells_at : ∀ (l : List P11.Tok) (j : Nat) (t : P11.Tok), l[j]? = some t → (tokCells l)[j * 3]? = some (.int .i64 t.kind) ∧ (tokCells l)[j * 3 + 1]? = some (.string ⟨t.text.toArray⟩) ∧ (tokCells l)[j * 3 + 2]? = some (.int .i64 t.pos)
 | [], _, _, h => by simp at h
 | x :: l, 0, t, h => by
  simp at h; subst h
  exact ⟨rfl, rfl, rfl⟩
 | x :: l, j + 1, t, h => by
  obtain ⟨h1, h2, h3⟩ := tokCells_at l j t (by simpa using h)
  have e : tokCells (x :: l) = .int .i64 x.kind :: .string ⟨x.text.toArray⟩ :: .int .i64 x.pos :: tokCells l := rfl
  rw [e, show (j + 1) * 3 = j * 3 + 1 + 1 + 1 by omega]
  exact ⟨by simpa using h1, by simpa using h2, by simpa using h3⟩
def ToksAt (w : World) (v : Value) (l : List P11.Tok) : Prop :=
 ∃ pa cap, v = .slice pa l.length cap ∧ ∀ (j : Nat) (t : P11.Tok), l[j]? = some t → ∃ b off, pa = some ⟨b, off, none⟩ ∧
  w.cell? ⟨b, off + j * 3, none⟩ = some (.int .i64 t.kind) ∧ w.cell? ⟨b, off + j * 3 + 1, none⟩ = some (.string ⟨t.text.toArray⟩) ∧ w.cell? ⟨b, off + j * 3 + 2, none⟩ = some (.int .i64 t.pos) ∧ l.length ≤ cap
def LexPost (s : ByteArray) (w0 : World) (e : Ending) (w' : World) : Prop :=
 Below w0.heap.size w0 w' ∧ ((∃ l v, P11.lexed s.data.toList = .inl l ∧ e = .returned (.tuple #[v, .int .i64 0, .int .i64 0]) ∧ ToksAt w' v l) ∨
  ∃ (a : Nat) (k : Int), P11.lexed s.data.toList = .inr (a, k) ∧ e = .returned (.tuple #[.slice none 0 0, .int .i64 a, .int .i64 k]))
noncomputable def scopeCode : Code := match Tryz.f97.body with
 | some (.seq _ (.scope c)) => c
 | _ => .skip
def Fr (s : ByteArray) (bs B ba : Nat) (v : Value) (a : Act) : Prop :=
 ∃ f : Nat → Value, a = { tmps := #[.string s, .pointer (some ⟨bs, 0, none⟩), f 2, f 3, f 4, .map (some B), f 6, f 7, v, .pointer (some ⟨ba, 0, none⟩), f 10, f 11, f 12, f 13, f 14, f 15, f 16, f 17, f 18, f 19, f 20, f 21, f 22, f 23, f 24, f 25, f 26, f 27, f 28, f 29, f 30, f 31, f 32, f 33, f 34, f 35, f 36, f 37, f 38, f 39, f 40, f 41, f 42, f 43, f 44, f 45, f 46, f 47, f 48, f 49, f 50, f 51, f 52, f 53, f 54, f 55, f 56, f 57, f 58, f 59, f 60, f 61, f 62, f 63, f 64, f 65, f 66, f 67, f 68, f 69, f 70, f 71, f 72, f 73, f 74, f 75, f 76, f 77, f 78, f 79, f 80, f 81, f 82, f 83, f 84, f 85, f 86, f 87, f 88, f 89, f 90, f 91, f 92, f 93, f 94, f 95, f 96, f 97, f 98, f 99, f 100, f 101, f 102, f 103, f 104, f 105, f 106, f 107, f 108, f 109, f 110, f 111, f 112, f 113, f 114, f 115, f 116, f 117, f 118, f 119, f 120, f 121, f 122, f 123, f 124, f 125, f 126, f 127, f 128, f 129, f 130, f 131, f 132, f 133, f 134, f 135, f 136, f 137, f 138, f 139, f 140, f 141, f 142, f 143, f 144, f 145, f 146, f 147, f 148, f 149, f 150, f 151, f 152, f 153, f 154, f 155, f 156, f 157, f 158, f 159, f 160, f 161, f 162, f 163, f 164, f 165, f 166, f 167, f 168, f 169, f 170, f 171], defers := [] }
theorem Fr.of {s : ByteArray} {bs B ba : Nat} {v : Value} {a : Act} (h : a = { tmps := #[.string s, .pointer (some ⟨bs, 0, none⟩), a.tmps.getD 2 undef, a.tmps.getD 3 undef, a.tmps.getD 4 undef, .map (some B), a.tmps.getD 6 undef, a.tmps.getD 7 undef, v, .pointer (some ⟨ba, 0, none⟩), a.tmps.getD 10 undef, a.tmps.getD 11 undef, a.tmps.getD 12 undef, a.tmps.getD 13 undef, a.tmps.getD 14 undef, a.tmps.getD 15 undef, a.tmps.getD 16 undef, a.tmps.getD 17 undef, a.tmps.getD 18 undef, a.tmps.getD 19 undef, a.tmps.getD 20 undef, a.tmps.getD 21 undef, a.tmps.getD 22 undef, a.tmps.getD 23 undef, a.tmps.getD 24 undef, a.tmps.getD 25 undef, a.tmps.getD 26 undef, a.tmps.getD 27 undef, a.tmps.getD 28 undef, a.tmps.getD 29 undef, a.tmps.getD 30 undef, a.tmps.getD 31 undef, a.tmps.getD 32 undef, a.tmps.getD 33 undef, a.tmps.getD 34 undef, a.tmps.getD 35 undef, a.tmps.getD 36 undef, a.tmps.getD 37 undef, a.tmps.getD 38 undef, a.tmps.getD 39 undef, a.tmps.getD 40 undef, a.tmps.getD 41 undef, a.tmps.getD 42 undef, a.tmps.getD 43 undef, a.tmps.getD 44 undef, a.tmps.getD 45 undef, a.tmps.getD 46 undef, a.tmps.getD 47 undef, a.tmps.getD 48 undef, a.tmps.getD 49 undef, a.tmps.getD 50 undef, a.tmps.getD 51 undef, a.tmps.getD 52 undef, a.tmps.getD 53 undef, a.tmps.getD 54 undef, a.tmps.getD 55 undef, a.tmps.getD 56 undef, a.tmps.getD 57 undef, a.tmps.getD 58 undef, a.tmps.getD 59 undef, a.tmps.getD 60 undef, a.tmps.getD 61 undef, a.tmps.getD 62 undef, a.tmps.getD 63 undef, a.tmps.getD 64 undef, a.tmps.getD 65 undef, a.tmps.getD 66 undef, a.tmps.getD 67 undef, a.tmps.getD 68 undef, a.tmps.getD 69 undef, a.tmps.getD 70 undef, a.tmps.getD 71 undef, a.tmps.getD 72 undef, a.tmps.getD 73 undef, a.tmps.getD 74 undef, a.tmps.getD 75 undef, a.tmps.getD 76 undef, a.tmps.getD 77 undef, a.tmps.getD 78 undef, a.tmps.getD 79 undef, a.tmps.getD 80 undef, a.tmps.getD 81 undef, a.tmps.getD 82 undef, a.tmps.getD 83 undef, a.tmps.getD 84 undef, a.tmps.getD 85 undef, a.tmps.getD 86 undef, a.tmps.getD 87 undef, a.tmps.getD 88 undef, a.tmps.getD 89 undef, a.tmps.getD 90 undef, a.tmps.getD 91 undef, a.tmps.getD 92 undef, a.tmps.getD 93 undef, a.tmps.getD 94 undef, a.tmps.getD 95 undef, a.tmps.getD 96 undef, a.tmps.getD 97 undef, a.tmps.getD 98 undef, a.tmps.getD 99 undef, a.tmps.getD 100 undef, a.tmps.getD 101 undef, a.tmps.getD 102 undef, a.tmps.getD 103 undef, a.tmps.getD 104 undef, a.tmps.getD 105 undef, a.tmps.getD 106 undef, a.tmps.getD 107 undef, a.tmps.getD 108 undef, a.tmps.getD 109 undef, a.tmps.getD 110 undef, a.tmps.getD 111 undef, a.tmps.getD 112 undef, a.tmps.getD 113 undef, a.tmps.getD 114 undef, a.tmps.getD 115 undef, a.tmps.getD 116 undef, a.tmps.getD 117 undef, a.tmps.getD 118 undef, a.tmps.getD 119 undef, a.tmps.getD 120 undef, a.tmps.getD 121 undef, a.tmps.getD 122 undef, a.tmps.getD 123 undef, a.tmps.getD 124 undef, a.tmps.getD 125 undef, a.tmps.getD 126 undef, a.tmps.getD 127 undef, a.tmps.getD 128 undef, a.tmps.getD 129 undef, a.tmps.getD 130 undef, a.tmps.getD 131 undef, a.tmps.getD 132 undef, a.tmps.getD 133 undef, a.tmps.getD 134 undef, a.tmps.getD 135 undef, a.tmps.getD 136 undef, a.tmps.getD 137 undef, a.tmps.getD 138 undef, a.tmps.getD 139 undef, a.tmps.getD 140 undef, a.tmps.getD 141 undef, a.tmps.getD 142 undef, a.tmps.getD 143 undef, a.tmps.getD 144 undef, a.tmps.getD 145 undef, a.tmps.getD 146 undef, a.tmps.getD 147 undef, a.tmps.getD 148 undef, a.tmps.getD 149 undef, a.tmps.getD 150 undef, a.tmps.getD 151 undef, a.tmps.getD 152 undef, a.tmps.getD 153 undef, a.tmps.getD 154 undef, a.tmps.getD 155 undef, a.tmps.getD 156 undef, a.tmps.getD 157 undef, a.tmps.getD 158 undef, a.tmps.getD 159 undef, a.tmps.getD 160 undef, a.tmps.getD 161 undef, a.tmps.getD 162 undef, a.tmps.getD 163 undef, a.tmps.getD 164 undef, a.tmps.getD 165 undef, a.tmps.getD 166 undef, a.tmps.getD 167 undef, a.tmps.getD 168 undef, a.tmps.getD 169 undef, a.tmps.getD 170 undef, a.tmps.getD 171 undef], defers := [] }) : Fr s bs B ba v a := ⟨fun i => a.tmps.getD i undef, h⟩
structure LW (w0 : World) (s : ByteArray) (bs B ba : Nat) (W : World) (a : Nat) : Prop where
 below : Below w0.heap.size w0 W
 cs : W.cell? ⟨bs, 0, none⟩ = some (.string s)
 ca : W.cell? ⟨ba, 0, none⟩ = some (.int .i64 a)
 fa : W.frozen? ⟨ba, 0, none⟩ = false
 words : WordsAt W B 43
 ls : bs < W.heap.size
 la : ba < W.heap.size
 ha : w0.heap.size ≤ ba
 ne : bs ≠ ba
 nB : B ≠ ba
theorem LW.step {w0 : World} {s : ByteArray} {bs B ba : Nat} {W : World} {a : Nat} (h : LW w0 s bs B ba W a) (b : Nat) : LW w0 s bs B ba (W.setCell ⟨ba, 0, none⟩ (.int .i64 b)) b where
 below := h.below.setCell h.ha _
 cs := by
  rw [← h.cs]
  exact World.cell?_of_block (Below.heap_setCell W ⟨ba, 0, none⟩ _ bs (by simpa using h.ne))
 ca := by
  exact World.cell?_setCell_same W _ _ h.ca
 fa := by rw [World.frozen?_setCell]; exact h.fa
 words := h.words.setCell (by simpa using h.nB) _
 ls := by simpa using h.ls
 la := by simpa using h.la
 ha := h.ha
 ne := h.ne
 nB := h.nB
def J0 (w0 : World) (s : ByteArray) (bs B ba : Nat) (n : Nat) (act : Act) (w : World) : Prop :=
 ∃ (W : World) (p : Regrown) (a : Nat) (v : Value) (acc : List P11.Tok), w = Xk.exw W p ∧ LW w0 s bs B ba W a ∧ a ≤ s.size ∧ n = 2 * (s.size - a) + 1 ∧ acc.length ≤ a ∧ Fr s bs B ba v act ∧
  (Xk.exw W p).ownsRow W.heap.size 82 3 v acc.length (tokCells acc) ∧ P11.toks s.data.toList 0 = P11.after acc (P11.toks (s.data.toList.drop a) a)
def JN (w0 : World) (s : ByteArray) (bs B ba : Nat) (what : List UInt8) (n : Nat) (act : Act) (w : World) : Prop :=
 ∃ (W : World) (p : Regrown) (a : Nat) (v : Value) (acc : List P11.Tok), w = Xk.exw W p ∧ LW w0 s bs B ba W a ∧ a ≤ s.size ∧ n = 2 * (s.size - a) ∧ acc.length ≤ a ∧ Fr s bs B ba v act ∧
  (Xk.exw W p).ownsRow W.heap.size 82 3 v acc.length (tokCells acc) ∧ P11.toks s.data.toList 0 = P11.after acc (P11.toks (s.data.toList.drop a) a) ∧ what.isPrefixOf (s.data.toList.drop a) = true
def JL (w0 : World) (s : ByteArray) (bs B ba : Nat) (n l : Nat) (act : Act) (w : World) : Prop :=
 (l = 0 ∧ J0 w0 s bs B ba n act w) ∨ (l = 1 ∧ JN w0 s bs B ba [45, 45] n act w) ∨ (l = 2 ∧ JN w0 s bs B ba [39] n act w)
end Go.Proofs.YtlpcdpkgnfdpeaaGreatDoor
namespace Go.Proofs.YtlpcdpkgnfdpeaaGreatDoor
open Go.RowKit Go.Maps
abbrev Pass (w0 : World) (s : ByteArray) (bs B ba n l : Nat) (act : Act) (w : World) : Prop :=
 ∃ rest, findLabel scopeCode l = some (Code.skip.seq rest) ∧ rest.wp Tryz.prog (Xk.jumps (fun l' a' w' => ∃ m, m < n ∧ JL w0 s bs B ba m l' a' w') (bodyPost Tryz.prog Tryz.f97 (LexPost s w0))) act w
theorem rowsCell {W : World} {p : Regrown} {e : TypeId} {v : Value} {n : Nat} {xs : List Value} (h : (Xk.exw W p).ownsRow W.heap.size e 3 v n xs) {ad : Addr} (ha : ad.block < W.heap.size) (hs : ad.spot = none) (u : Value) : (Xk.exw (W.setCell ad u) p).ownsRow (W.setCell ad u).heap.size e 3 v n xs := by
 obtain ⟨b, o, sp⟩ := ad
 cases hs
 rw [← Xk.exw_setCell W p b o u ha, World.size_setCell]
 exact ownsRow_setCell_below h ha u
theorem goto0 {w0 : World} {s : ByteArray} {bs B ba n : Nat} {act : Act} {w : World} {W : World} {p : Regrown} {a : Nat} {v : Value} {acc : List P11.Tok} (hW : LW w0 s bs B ba W a) (b : Nat) (hn : 2 * (s.size - b) + 1 < n) (hb : a < b) (hbs : b ≤ s.size) (hw : w = Xk.exw (W.setCell ⟨ba, 0, none⟩ (.int .i64 b)) p)
  (hacc : acc.length ≤ b) (hF : Fr s bs B ba v act) (hrow : (Xk.exw W p).ownsRow W.heap.size 82 3 v acc.length (tokCells acc)) (hT : P11.toks s.data.toList 0 = P11.after acc (P11.toks (s.data.toList.drop b) b)) : ∃ m, m < n ∧ JL w0 s bs B ba m 0 act w :=
 ⟨2 * (s.size - b) + 1, hn, .inl ⟨rfl, _, p, b, v, acc, hw, hW.step b, hbs, rfl, hacc, hF, rowsCell hrow hW.la rfl _, hT⟩⟩
theorem drop_at (s : ByteArray) (a : Nat) (h : a < s.size) : s.data.toList.drop a = s[a] :: s.data.toList.drop (a + 1) := List.drop_eq_getElem_cons h
theorem pass_blank {w0 : World} {s : ByteArray} {bs B ba n : Nat} {act : Act} {w : World} (W : World) (p : Regrown) (a : Nat) (v : Value) (acc : List P11.Tok) (hw : w = Xk.exw W p) (hW : LW w0 s bs B ba W a) (hs : s.size ≤ 4096)
  (hn : n = 2 * (s.size - a) + 1) (hacc : acc.length ≤ a) (hF : Fr s bs B ba v act) (hrow : (Xk.exw W p).ownsRow W.heap.size 82 3 v acc.length (tokCells acc)) (hT : P11.toks s.data.toList 0 = P11.after acc (P11.toks (s.data.toList.drop a) a)) (hlt : a < s.size) (hb : P11.blank s[a] = true) : Pass w0 s bs B ba n 0 act w := by
 have hT' : P11.toks s.data.toList 0 = P11.after acc (P11.toks (s.data.toList.drop (a + 1)) (a + 1)) := by
  rw [hT, drop_at s a hlt, P11.after_blank hb]
 have HT' := Lib.hid hT'
 clear hT'
 subst hw
 unfold Fr at hF
 obtain ⟨f, rfl⟩ := hF
 unfold Pass
 generalize hQ : bodyPost Tryz.prog Tryz.f97 (LexPost s w0) = Q
 have HQ := Lib.hid hQ
 clear hQ
 generalize hJL : (fun (l' : Nat) (a' : Act) (w' : World) => ∃ m, m < n ∧ JL w0 s bs B ba m l' a' w') = J
 have HJ := Lib.hid hJL
 clear hJL
 unfold scopeCode Tryz.f97
 simp only [findLabel]
 refine ⟨_, rfl, ?_⟩
 have cs := hW.cs
 have ca := hW.ca
 have fa := hW.fa
 have ls := hW.ls
 have la := hW.la
 have HW := Lib.hid hW
 have HN := Lib.hid hn
 have HR := Lib.hid hrow
 have HT := Lib.hid hT
 clear hW hn hrow hT
 have hb8 : (s[a].toNat : Int) < 256 := by have := s[a].toNat_lt; omega
 have hc : s[a] = 32 ∨ s[a] = 9 ∨ s[a] = 10 ∨ s[a] = 13 := by simpa [P11.blank, or_assoc] using hb
 clear hb
 rcases hc with hc | hc | hc | hc
 all_goals
  have hv : (s[a].toNat : Int) = _ := congrArg (fun c : UInt8 => (c.toNat : Int)) hc
  clear hc
  go_wp2_with fail
  go_step3
  simp only [Exit.inBlock, Exit.then, Xk.jumps_goto, ↓reduceIte]
  rw [← HJ.out]
  exact goto0 HW.out (a + 1) (by rw [HN.out]; omega) (by omega) (by omega) rfl (by omega) (Fr.of (by kernel_rfl)) HR.out HT'.out
end Go.Proofs.YtlpcdpkgnfdpeaaGreatDoor
namespace Go.Proofs.YtlpcdpkgnfdpeaaGreatDoor
open Go.RowKit Go.Maps
theorem ne_byte {c d : UInt8} (h : c ≠ d) (n : Int) (hn : n = d.toNat) : ((c.toNat : Int) == n) = false := by
 rw [beq_eq_false_iff_ne]; intro e; exact h (UInt8.toNat_inj.1 (by omega))
theorem eq_byte {c d : UInt8} (h : c = d) (n : Int) (hn : n = d.toNat) : ((c.toNat : Int) == n) = true := by
 rw [beq_iff_eq, h, hn]
theorem not_blank {c : UInt8} (h : P11.blank c = false) : ((c.toNat : Int) == 32) = false ∧ ((c.toNat : Int) == 9) = false ∧ ((c.toNat : Int) == 10) = false ∧ ((c.toNat : Int) == 13) = false := by
 simp only [P11.blank, Bool.or_eq_false_iff, beq_eq_false_iff_ne] at h
 exact ⟨ne_byte h.1.1.1 32 rfl, ne_byte h.1.1.2 9 rfl, ne_byte h.1.2 10 rfl, ne_byte h.2 13 rfl⟩
theorem gotoN {w0 : World} {s : ByteArray} {bs B ba n : Nat} {act : Act} {w : World} {W : World} {p : Regrown} {a : Nat} {v : Value} {acc : List P11.Tok} (hW : LW w0 s bs B ba W a) (hn : n = 2 * (s.size - a) + 1) (ha : a ≤ s.size) (hw : w = Xk.exw W p)
  (hacc : acc.length ≤ a) (hF : Fr s bs B ba v act) (hrow : (Xk.exw W p).ownsRow W.heap.size 82 3 v acc.length (tokCells acc)) (hT : P11.toks s.data.toList 0 = P11.after acc (P11.toks (s.data.toList.drop a) a)) {what : List UInt8} (hp : what.isPrefixOf (s.data.toList.drop a) = true) {l : Nat} (hl : (l = 1 ∧ what = [45, 45]) ∨ (l = 2 ∧ what = [39])) : ∃ m, m < n ∧ JL w0 s bs B ba m l act w := by
 have h : JN w0 s bs B ba what (2 * (s.size - a)) act w := ⟨_, p, a, v, acc, hw, hW, ha, rfl, hacc, hF, hrow, hT, hp⟩
 refine ⟨2 * (s.size - a), by omega, ?_⟩
 rcases hl with ⟨rfl, rfl⟩ | ⟨rfl, rfl⟩
 ·exact .inr (.inl ⟨rfl, h⟩)
 ·exact .inr (.inr ⟨rfl, h⟩)
theorem pass_note {w0 : World} {s : ByteArray} {bs B ba n : Nat} {act : Act} {w : World} (W : World) (p : Regrown) (a : Nat) (v : Value) (acc : List P11.Tok) (hw : w = Xk.exw W p) (hW : LW w0 s bs B ba W a) (hs : s.size ≤ 4096)
  (hn : n = 2 * (s.size - a) + 1) (hacc : acc.length ≤ a) (hF : Fr s bs B ba v act) (hrow : (Xk.exw W p).ownsRow W.heap.size 82 3 v acc.length (tokCells acc)) (hT : P11.toks s.data.toList 0 = P11.after acc (P11.toks (s.data.toList.drop a) a)) (hlt : a < s.size) (hb : P11.blank s[a] = false) (hp : ([45, 45] : List UInt8).isPrefixOf (s.data.toList.drop a) = true) : Pass w0 s bs B ba n 0 act w := by
 have nb : ((s[a].toNat : Int) == 32) = false ∧ ((s[a].toNat : Int) == 9) = false ∧ ((s[a].toNat : Int) == 10) = false ∧ ((s[a].toNat : Int) == 13) = false := not_blank hb
 obtain ⟨nb1, nb2, nb3, nb4⟩ := nb
 have hpre := fun w => pre_any s ⟨#[45, 45]⟩ a w
 rw [show (⟨#[45, 45]⟩ : ByteArray).data.toList = [45, 45] from rfl, hp] at hpre
 have HP := Lib.hid hp
 have HX := Lib.hid hpre
 clear hp hpre hb
 subst hw
 unfold Fr at hF
 obtain ⟨f, rfl⟩ := hF
 unfold Pass
 generalize hQ : bodyPost Tryz.prog Tryz.f97 (LexPost s w0) = Q
 have HQ := Lib.hid hQ
 clear hQ
 generalize hJL : (fun (l' : Nat) (a' : Act) (w' : World) => ∃ m, m < n ∧ JL w0 s bs B ba m l' a' w') = J
 have HJ := Lib.hid hJL
 clear hJL
 unfold scopeCode Tryz.f97
 simp only [findLabel]
 refine ⟨_, rfl, ?_⟩
 have cs := hW.cs
 have ca := hW.ca
 have fa := hW.fa
 have ls := hW.ls
 have la := hW.la
 have HW := Lib.hid hW
 have HN := Lib.hid hn
 have HR := Lib.hid hrow
 have HT := Lib.hid hT
 clear hW hn hrow hT
 have hb8 : (s[a].toNat : Int) < 256 := by have := s[a].toNat_lt; omega
 go_wp2_with (go_at_call 168; (with_reducible refine (HX.out _).mono ?_); rintro e w' ⟨rfl, rfl⟩)
 go_step3
 simp only [Exit.inBlock, Exit.then, Xk.jumps_goto, ↓reduceIte]
 rw [← HJ.out]
 exact gotoN HW.out HN.out (by omega) rfl hacc (Fr.of (by kernel_rfl)) HR.out HT.out HP.out (.inl ⟨rfl, rfl⟩)
theorem pass_text {w0 : World} {s : ByteArray} {bs B ba n : Nat} {act : Act} {w : World} (W : World) (p : Regrown) (a : Nat) (v : Value) (acc : List P11.Tok) (hw : w = Xk.exw W p) (hW : LW w0 s bs B ba W a) (hs : s.size ≤ 4096)
  (hn : n = 2 * (s.size - a) + 1) (hacc : acc.length ≤ a) (hF : Fr s bs B ba v act) (hrow : (Xk.exw W p).ownsRow W.heap.size 82 3 v acc.length (tokCells acc)) (hT : P11.toks s.data.toList 0 = P11.after acc (P11.toks (s.data.toList.drop a) a)) (hlt : a < s.size) (hc : s[a] = 39) : Pass w0 s bs B ba n 0 act w := by
 have hb : P11.blank s[a] = false := by rw [hc]; decide
 have nb : ((s[a].toNat : Int) == 32) = false ∧ ((s[a].toNat : Int) == 9) = false ∧ ((s[a].toNat : Int) == 10) = false ∧ ((s[a].toNat : Int) == 13) = false := not_blank hb
 obtain ⟨nb1, nb2, nb3, nb4⟩ := nb
 have hd : s.data.toList.drop a = 39 :: s.data.toList.drop (a + 1) := by rw [drop_at s a hlt, hc]
 have hp : ([45, 45] : List UInt8).isPrefixOf (s.data.toList.drop a) = false := by rw [hd]; simp [List.isPrefixOf]
 have hq : ([39] : List UInt8).isPrefixOf (s.data.toList.drop a) = true := by rw [hd]; simp [List.isPrefixOf]
 have hpre := fun w => pre_any s ⟨#[45, 45]⟩ a w
 rw [show (⟨#[45, 45]⟩ : ByteArray).data.toList = [45, 45] from rfl, hp] at hpre
 have HP := Lib.hid hq
 have HX := Lib.hid hpre
 have h39 : ((s[a].toNat : Int) == 39) = true := eq_byte hc 39 rfl
 clear hp hq hpre hb hd hc
 subst hw
 unfold Fr at hF
 obtain ⟨f, rfl⟩ := hF
 unfold Pass
 generalize hQ : bodyPost Tryz.prog Tryz.f97 (LexPost s w0) = Q
 have HQ := Lib.hid hQ
 clear hQ
 generalize hJL : (fun (l' : Nat) (a' : Act) (w' : World) => ∃ m, m < n ∧ JL w0 s bs B ba m l' a' w') = J
 have HJ := Lib.hid hJL
 clear hJL
 unfold scopeCode Tryz.f97
 simp only [findLabel]
 refine ⟨_, rfl, ?_⟩
 have cs := hW.cs
 have ca := hW.ca
 have fa := hW.fa
 have ls := hW.ls
 have la := hW.la
 have HW := Lib.hid hW
 have HN := Lib.hid hn
 have HR := Lib.hid hrow
 have HT := Lib.hid hT
 clear hW hn hrow hT
 have hb8 : (s[a].toNat : Int) < 256 := by have := s[a].toNat_lt; omega
 go_wp2_with (go_at_call 168; (with_reducible refine (HX.out _).mono ?_); rintro e w' ⟨rfl, rfl⟩)
 go_step3
 simp only [Exit.inBlock, Exit.then, Xk.jumps_goto, ↓reduceIte]
 rw [← HJ.out]
 exact gotoN HW.out HN.out (by omega) rfl hacc (Fr.of (by kernel_rfl)) HR.out HT.out HP.out (.inr ⟨rfl, rfl⟩)
theorem own_toks {W : World} {base : Nat} {v : Value} {l : List P11.Tok} (h : W.ownsRow base 82 3 v l.length (tokCells l)) : ToksAt W v l := by
 obtain ⟨h1, h2⟩ := h
 rcases h2 with ⟨rfl, h0⟩ | ⟨g, cap, cur, rfl, hg, hb, hn, hcap, hcs, hx⟩
 ·obtain rfl : l = [] := List.length_eq_zero_iff.1 h0
  exact ⟨none, 0, rfl, fun j t hj => by simp at hj⟩
 ·refine ⟨some ⟨g, 0, none⟩, cap, rfl, fun j t hj => ?_⟩
  have hjl : j < l.length := (List.getElem?_eq_some_iff.1 hj).1
  obtain ⟨e1, e2, e3⟩ := tokCells_at l j t hj
  have cell : ∀ (k : Nat) u, (tokCells l)[k]? = some u → W.cell? ⟨g, 0 + k, none⟩ = some u := fun k u hk => by
   have hk' : k < l.length * 3 := by rw [← h1]; exact (List.getElem?_eq_some_iff.1 hk).1
   rw [← hx, List.getElem?_take, if_pos hk'] at hk
   simp only [World.cell?, hb, Nat.zero_add, Option.isSome_none, Bool.false_eq_true, if_false]
   simpa using hk
  exact ⟨g, 0, rfl, cell _ _ e1, cell _ _ e2, cell _ _ e3, hn⟩
theorem pass_end {w0 : World} {s : ByteArray} {bs B ba n : Nat} {act : Act} {w : World} (W : World) (p : Regrown) (a : Nat) (v : Value) (acc : List P11.Tok) (hw : w = Xk.exw W p) (hW : LW w0 s bs B ba W a) (hs : s.size ≤ 4096)
  (hn : n = 2 * (s.size - a) + 1) (hacc : acc.length ≤ a) (hF : Fr s bs B ba v act) (hrow : (Xk.exw W p).ownsRow W.heap.size 82 3 v acc.length (tokCells acc)) (hT : P11.toks s.data.toList 0 = P11.after acc (P11.toks (s.data.toList.drop a) a)) (hge : a = s.size) : Pass w0 s bs B ba n 0 act w := by
 have hL : P11.lexed s.data.toList = .inl (acc ++ [⟨0, [], s.size⟩]) := by
  rw [P11.lexed, if_neg (by show ¬ 4096 < s.size; omega), hT, List.drop_of_length_le (by show s.size ≤ a; omega), P11.toks_nil, hge]; rfl
 have HL := Lib.hid hL
 clear hL
 obtain ⟨i0, hi, hz0, hz1, hz2⟩ := info_parts Tryz.infoTok
 have Hi := Lib.hid hi
 have Hz0 := Lib.hid hz0
 have Hz1 := Lib.hid hz1
 have Hz2 := Lib.hid hz2
 clear hi hz0 hz1 hz2
 subst hw
 unfold Fr at hF
 obtain ⟨f, rfl⟩ := hF
 unfold Pass
 generalize hQ : bodyPost Tryz.prog Tryz.f97 (LexPost s w0) = Q
 have HQ := Lib.hid hQ
 clear hQ
 generalize hJL : (fun (l' : Nat) (a' : Act) (w' : World) => ∃ m, m < n ∧ JL w0 s bs B ba m l' a' w') = J
 have HJ := Lib.hid hJL
 clear hJL
 unfold scopeCode Tryz.f97
 simp only [findLabel]
 refine ⟨_, rfl, ?_⟩
 have cs := hW.cs
 have ca := hW.ca
 have fa := hW.fa
 have ls := hW.ls
 have la := hW.la
 have HW := Lib.hid hW
 have HN := Lib.hid hn
 have HR := Lib.hid hrow
 have HT := Lib.hid hT
 clear hW hn hrow hT
 have hge1 : (s.size : Int) ≤ (a : Int) := by omega
 have hge2 : ¬ a < s.size := by omega
 have hge3 : a ≤ s.size := by omega
 clear hge
 go_wp2_with (first | (at_builtin; refine Xk.wpList_own (w0 := W) rfl _ _ 74 rfl 82 i0 _ 3 32 Tryz.underlying74 Hi.out Hz0.out Hz1.out Hz2.out rfl (by decide) v acc.length (tokCells acc) rfl (Xs.ow HR.out) _ 0 1 1 [.int .i64 0, .string ⟨#[]⟩, .int .i64 s.size] rfl rfl (Xk.cells3 (by simp)) Xs.m3 (by omega) Xk.xt ?_; intro v' p' ho'; have Ho := Lib.hid ho'; clear ho'))
 rw [← HQ.out]
 go_ret3
 have ho : (Xk.exw W p').ownsRow W.heap.size 82 3 v' (acc ++ [(⟨0, [], s.size⟩ : P11.Tok)]).length (tokCells (acc ++ [(⟨0, [], s.size⟩ : P11.Tok)])) := by
  rw [tokCells_snoc, List.length_append]; exact Ho.out
 exact ⟨HW.out.below.trans ((Xk.ext_exw W p').mono HW.out.below.size), .inl ⟨_, _, HL.out, rfl, own_toks ho⟩⟩
end Go.Proofs.YtlpcdpkgnfdpeaaGreatDoor
namespace P11
theorem numOf_eq : ∀ (l : List UInt8) (d : UInt8), numOf (l ++ [d]) = l.dropWhile (· == 48) ++ [d]
 | [], d => rfl
 | [c], d => by
  rw [List.cons_append, List.nil_append, numOf, List.dropWhile]
  by_cases h : c = 48
  ·subst h; rfl
  ·rw [if_neg h]
   have : (c == 48) = false := by simpa using h
   simp [this]
 | c :: e :: l, d => by
  have ih := numOf_eq (e :: l) d
  rw [List.cons_append, List.cons_append, numOf]
  rw [List.cons_append] at ih
  by_cases h : c = 48
  ·subst h; rw [if_pos rfl, ih]; rfl
  ·rw [if_neg h]
   have : (c == 48) = false := by simpa using h
   rw [List.dropWhile, this]; rfl
theorem step_digit {c : UInt8} {t : List UInt8} (h : digit c = true) : step (c :: t) = .inl (((c :: t).takeWhile digit).length, some (3, numOf ((c :: t).takeWhile digit))) := by
 have hf := digit_first c h
 simp only [Bool.and_eq_true, Bool.not_eq_true', bne_iff_ne] at hf
 obtain ⟨⟨⟨h1, h2⟩, h3⟩, h4⟩ := hf
 rw [step, if_neg (by rw [h1]; decide), if_neg (by simp [List.isPrefixOf]; exact fun h => absurd h.symm h2), if_neg h3, if_neg (by rw [h4]; decide), if_pos h]
theorem step_letter {c : UInt8} {t : List UInt8} (h : letter c = true) : step (c :: t) = .inl (((c :: t).takeWhile alnum).length, some (wordOf ((c :: t).takeWhile alnum))) := by
 have hf := letter_first c h
 simp only [Bool.and_eq_true, Bool.not_eq_true', bne_iff_ne] at hf
 obtain ⟨⟨h1, h2⟩, h3⟩ := hf
 rw [step, if_neg (by rw [h1]; decide), if_neg (by simp [List.isPrefixOf]; exact fun h => absurd h.symm h2), if_neg h3, if_pos h]
 rfl
theorem numOf_take (l : List UInt8) (d : Nat) (h : d < l.length) : numOf (l.take (d + 1)) = (l.take d).dropWhile (· == 48) ++ (l.drop d).take 1 := by
 rw [List.take_succ_eq_append_getElem h, numOf_eq, List.drop_eq_getElem_cons h, List.take_succ_cons, List.take_zero]
theorem run_take (p : UInt8 → Bool) (l : List UInt8) (a : Nat) : ((l.drop a).takeWhile p) = (l.drop a).take ((l.drop a).takeWhile p).length := by
 have := List.takeWhile_prefix (l := l.drop a) p
 exact (List.prefix_iff_eq_take.1 this)
end P11
namespace Go.Proofs.YtlpcdpkgnfdpeaaGreatDoor
open Go.RowKit Go.Maps
theorem pass_digit {w0 : World} {s : ByteArray} {bs B ba n : Nat} {act : Act} {w : World} (W : World) (p : Regrown) (a : Nat) (v : Value) (acc : List P11.Tok) (hw : w = Xk.exw W p) (hW : LW w0 s bs B ba W a) (hs : s.size ≤ 4096)
  (hn : n = 2 * (s.size - a) + 1) (hacc : acc.length ≤ a) (hF : Fr s bs B ba v act) (hrow : (Xk.exw W p).ownsRow W.heap.size 82 3 v acc.length (tokCells acc)) (hT : P11.toks s.data.toList 0 = P11.after acc (P11.toks (s.data.toList.drop a) a)) (hlt : a < s.size) (hc : P11.digit s[a] = true) : Pass w0 s bs B ba n 0 act w := by
 have hf := P11.digit_first s[a] hc
 simp only [Bool.and_eq_true, Bool.not_eq_true', bne_iff_ne] at hf
 obtain ⟨⟨⟨hb, hf2⟩, hf3⟩, hf4⟩ := hf
 have nb : ((s[a].toNat : Int) == 32) = false ∧ ((s[a].toNat : Int) == 9) = false ∧ ((s[a].toNat : Int) == 10) = false ∧ ((s[a].toNat : Int) == 13) = false := not_blank hb
 obtain ⟨nb1, nb2, nb3, nb4⟩ := nb
 have hd := drop_at s a hlt
 have hp : ([45, 45] : List UInt8).isPrefixOf (s.data.toList.drop a) = false := by rw [hd]; simp [List.isPrefixOf]; exact fun h => absurd h.symm hf2
 have hpre := fun w => pre_any s ⟨#[45, 45]⟩ a w
 rw [show (⟨#[45, 45]⟩ : ByteArray).data.toList = [45, 45] from rfl, hp] at hpre
 have HX := Lib.hid hpre
 have h39 : ((s[a].toNat : Int) == 39) = false := ne_byte hf3 39 rfl
 have hL := fun w => letter_any s[a] w
 rw [hf4] at hL
 have HL := Lib.hid hL
 have hD := fun w => digit_any s[a] w
 rw [hc] at hD
 have HD := Lib.hid hD
 have hrun := fun w => run_digit s a (by omega) (by omega) w
 have hlen : 0 < ((s.data.toList.drop a).takeWhile P11.digit).length ∧ a + ((s.data.toList.drop a).takeWhile P11.digit).length ≤ s.size := by
  constructor
  ·rw [hd, List.takeWhile, hc]; simp
  ·have := (List.takeWhile_prefix (l := s.data.toList.drop a) P11.digit).length_le
   simp at this ⊢; omega
 have hT' : P11.toks s.data.toList 0 = P11.after (acc ++ [⟨3, P11.numOf ((s.data.toList.drop a).takeWhile P11.digit), a⟩]) (P11.toks (s.data.toList.drop (a + ((s.data.toList.drop a).takeWhile P11.digit).length)) (a + ((s.data.toList.drop a).takeWhile P11.digit).length)) := by
  have e := P11.step_digit (t := s.data.toList.drop (a + 1)) hc
  rw [← hd] at e
  rw [hT]
  conv => lhs; rw [hd]
  rw [hd] at e
  rw [P11.after_some e, ← hd, List.drop_drop]
 have hw2 := P11.run_take P11.digit s.data.toList a
 generalize hk : ((s.data.toList.drop a).takeWhile P11.digit).length = k at *
 obtain ⟨d, rfl⟩ : ∃ d, k = d + 1 := ⟨k - 1, by omega⟩
 have hnum : P11.numOf ((s.data.toList.drop a).takeWhile P11.digit) = ((s.data.toList.drop a).take d).dropWhile (· == 48) ++ (s.data.toList.drop (a + d)).take 1 := by
  rw [hw2, P11.numOf_take _ _ (by simp; omega), List.drop_drop]
 rw [hnum, show a + (d + 1) = a + d + 1 by omega] at hT'
 rw [show a + (d + 1) = a + d + 1 by omega] at hlen hrun
 have hdq : d = a + d - a := by omega
 rw [hdq] at hT'
 rw [show a + (a + d - a) = a + d by omega] at hT'
 clear hdq hnum hw2 hk hd hpre hL hD hp hf2 hf3 hf4 hb hc
 obtain ⟨-, hlen⟩ := hlen
 have haq : a ≤ a + d := by omega
 generalize a + d = q at *
 have hT1 := fun w => (Tryz.strings_TrimLeft_one (s.extract a q) 48 (by decide) w).mono (R' := fun e w' => e = .returned (.string ⟨(Lib.trimLeftB (s.extract a q).data.toList 48).toArray⟩) ∧ w = w') fun e w' h => ⟨h.1, h.2.symm⟩
 have e1 : (s.extract a q).data.toList = (s.data.toList.drop a).take (q - a) := Lib.extract_data s a q
 rw [e1] at hT1
 generalize ht : Lib.trimLeftB ((s.data.toList.drop a).take (q - a)) 48 = t at hT1
 have hcat := cat_list t s q (q + 1)
 rw [show q + 1 - q = 1 by omega] at hcat
 have htl : t.length ≤ q := by
  rw [← ht]
  have h1 := (List.dropWhile_suffix (l := (s.data.toList.drop a).take (q - a)) (· == 48)).length_le
  have h2 := List.length_take_le (q - a) (s.data.toList.drop a)
  show (List.dropWhile _ _).length ≤ q
  omega
 have hT2 : P11.toks s.data.toList 0 = P11.after (acc ++ [⟨3, t ++ (s.data.toList.drop q).take 1, a⟩]) (P11.toks (s.data.toList.drop (q + 1)) (q + 1)) := by
  rw [← ht]; exact hT'
 have HT' := Lib.hid hT2
 have HC := Lib.hid hcat
 have HRun := Lib.hid hrun
 have HTr := Lib.hid hT1
 clear hT' hT2 hcat hrun hT1 ht e1
 obtain ⟨i0, hi, hz0, hz1, hz2⟩ := info_parts Tryz.infoTok
 have Hi := Lib.hid hi
 have Hz0 := Lib.hid hz0
 have Hz1 := Lib.hid hz1
 have Hz2 := Lib.hid hz2
 clear hi hz0 hz1 hz2
 subst hw
 unfold Fr at hF
 obtain ⟨f, rfl⟩ := hF
 unfold Pass
 generalize hQ : bodyPost Tryz.prog Tryz.f97 (LexPost s w0) = Q
 have HQ := Lib.hid hQ
 clear hQ
 generalize hJL : (fun (l' : Nat) (a' : Act) (w' : World) => ∃ m, m < n ∧ JL w0 s bs B ba m l' a' w') = J
 have HJ := Lib.hid hJL
 clear hJL
 unfold scopeCode Tryz.f97
 simp only [findLabel]
 refine ⟨_, rfl, ?_⟩
 have cs := hW.cs
 have ca := hW.ca
 have fa := hW.fa
 have ls := hW.ls
 have la := hW.la
 have HW := Lib.hid hW
 have HN := Lib.hid hn
 have HR := Lib.hid hrow
 have HT := Lib.hid hT
 clear hW hn hrow hT
 have hb8 : (s[a].toNat : Int) < 256 := by have := s[a].toNat_lt; omega
 go_wp2_with (first | (go_at_call 168; (with_reducible refine (HX.out _).mono ?_); rintro e w' ⟨rfl, rfl⟩) | (go_at_call 169; (with_reducible refine (HL.out _).mono ?_); rintro e w' ⟨rfl, rfl⟩) | (go_at_call 172; (with_reducible refine (HD.out _).mono ?_); rintro e w' ⟨rfl, rfl⟩) | (go_at_call 170; (with_reducible refine (HRun.out _).mono ?_); rintro e w' ⟨rfl, rfl⟩))
 have q1 : IntKind.i64.wrap (q : Int) = (q : Int) := IntWalk.i64_in _ (by omega)
 have q2 : (a : Int) ≤ (q : Int) := by omega
 have q3 : (q : Int) + 1 ≤ (s.size : Int) := by omega
 have q4 : (q : Int) ≤ (s.size : Int) := by omega
 have q5 : ((q : Int) + 1).toNat = q + 1 := by omega
 have q6 : (q : Int) ≤ (q : Int) + 1 := by omega
 have q7 : ¬ 9223372036854775807 < t.length + 1 := by omega
 refine Xk.reg 13 (Xk.w1 HTr.out fun p => ?_)
 clear q1 q5 q7
 go_wp2_with (first | (at_builtin; refine Xk.wpList_own (w0 := W) rfl _ _ 74 rfl 82 i0 _ 3 32 Tryz.underlying74 Hi.out Hz0.out Hz1.out Hz2.out rfl (by decide) v acc.length (tokCells acc) rfl (Xs.ow HR.out) _ 0 1 1 [.int .i64 3, .string (⟨t.toArray⟩ ++ s.extract q (q + 1)), .int .i64 a] rfl rfl (Xk.cells3 (by simp)) Xs.m3 (by omega) Xk.xt ?_; intro v' p' ho'; have Ho := Lib.hid ho'; clear ho'))
 go_step3
 simp only [Exit.inBlock, Exit.then, Xk.jumps_goto, ↓reduceIte]
 rw [← HJ.out]
 have ho : (Xk.exw W p').ownsRow W.heap.size 82 3 v' (acc ++ [(⟨3, t ++ (s.data.toList.drop q).take 1, a⟩ : P11.Tok)]).length (tokCells (acc ++ [(⟨3, t ++ (s.data.toList.drop q).take 1, a⟩ : P11.Tok)])) := by
  rw [tokCells_snoc, List.length_append]
  have := Ho.out
  rw [HC.out] at this
  exact this
 exact goto0 HW.out (q + 1) (by rw [HN.out]; omega) (by omega) (by omega) rfl (by rw [List.length_append, List.length_singleton]; omega) (Fr.of (by kernel_rfl)) ho HT'.out
end Go.Proofs.YtlpcdpkgnfdpeaaGreatDoor
namespace P11
theorem after_some' {c : UInt8} {t : List UInt8} {n : Nat} {p : Nat} {x : Int × List UInt8} {acc : List Tok} (h : step (c :: t) = .inl (n, some x)) : after acc (toks (c :: t) p) = after (acc ++ [⟨x.1, x.2, p⟩]) (toks ((c :: t).drop n) (p + n)) := after_some (k := x.1) (u := x.2) h
end P11
namespace Go.Proofs.YtlpcdpkgnfdpeaaGreatDoor
open Go.RowKit Go.Maps
def Tok3 (k : Int) (t : ByteArray) (a : Int) (v : Value) (w : World) : Prop :=
 ∃ b, v = .slice (some ⟨b, 0, none⟩) 1 1 ∧ ∀ (j : Nat) u, [Value.int .i64 k, .string t, .int .i64 a][j]? = some u → w.cell? ⟨b, 0 + j, none⟩ = some u
theorem Tok3.ext {k : Int} {t : ByteArray} {a : Int} (v : Value) (w w' : World) (hx : Xk.Ext w w') (h : Tok3 k t a v w) : Tok3 k t a v w' := by
 obtain ⟨b, hv, hc⟩ := h
 exact ⟨b, hv, fun j u hj => Xk.ext_cell hx (hc j u hj)⟩
theorem pass_letter {w0 : World} {s : ByteArray} {bs B ba n : Nat} {act : Act} {w : World} (W : World) (p : Regrown) (a : Nat) (v : Value) (acc : List P11.Tok) (hw : w = Xk.exw W p) (hW : LW w0 s bs B ba W a) (hs : s.size ≤ 4096)
  (hn : n = 2 * (s.size - a) + 1) (hacc : acc.length ≤ a) (hF : Fr s bs B ba v act) (hrow : (Xk.exw W p).ownsRow W.heap.size 82 3 v acc.length (tokCells acc)) (hT : P11.toks s.data.toList 0 = P11.after acc (P11.toks (s.data.toList.drop a) a)) (hlt : a < s.size) (hc : P11.letter s[a] = true) : Pass w0 s bs B ba n 0 act w := by
 have hf := P11.letter_first s[a] hc
 simp only [Bool.and_eq_true, Bool.not_eq_true', bne_iff_ne] at hf
 obtain ⟨⟨hb, hf2⟩, hf3⟩ := hf
 have nb : ((s[a].toNat : Int) == 32) = false ∧ ((s[a].toNat : Int) == 9) = false ∧ ((s[a].toNat : Int) == 10) = false ∧ ((s[a].toNat : Int) == 13) = false := not_blank hb
 obtain ⟨nb1, nb2, nb3, nb4⟩ := nb
 have hd := drop_at s a hlt
 have hp : ([45, 45] : List UInt8).isPrefixOf (s.data.toList.drop a) = false := by rw [hd]; simp [List.isPrefixOf]; exact fun h => absurd h.symm hf2
 have hpre := fun w => pre_any s ⟨#[45, 45]⟩ a w
 rw [show (⟨#[45, 45]⟩ : ByteArray).data.toList = [45, 45] from rfl, hp] at hpre
 have HX := Lib.hid hpre
 have h39 : ((s[a].toNat : Int) == 39) = false := ne_byte hf3 39 rfl
 have hL := fun w => letter_any s[a] w
 rw [hc] at hL
 have HL := Lib.hid hL
 have hrun := fun w => run_alnum s a (by omega) (by omega) w
 have hlen : 0 < ((s.data.toList.drop a).takeWhile P11.alnum).length ∧ a + ((s.data.toList.drop a).takeWhile P11.alnum).length ≤ s.size := by
  constructor
  ·rw [hd, List.takeWhile, P11.letter_alnum hc]; simp
  ·have := (List.takeWhile_prefix (l := s.data.toList.drop a) P11.alnum).length_le
   simp at this ⊢; omega
 have hT' : P11.toks s.data.toList 0 = P11.after (acc ++ [⟨(P11.wordOf ((s.data.toList.drop a).takeWhile P11.alnum)).1, (P11.wordOf ((s.data.toList.drop a).takeWhile P11.alnum)).2, a⟩]) (P11.toks (s.data.toList.drop (a + ((s.data.toList.drop a).takeWhile P11.alnum).length)) (a + ((s.data.toList.drop a).takeWhile P11.alnum).length)) := by
  have e := P11.step_letter (t := s.data.toList.drop (a + 1)) hc
  rw [hT]
  conv => lhs; rw [hd]
  rw [P11.after_some' e, ← hd, List.drop_drop]
 have hw2 := P11.run_take P11.alnum s.data.toList a
 have hall := P11.takeWhile_all P11.alnum (s.data.toList.drop a)
 have hex : ∀ k, a + k ≤ s.size → (s.extract a (a + k)).data.toList = (s.data.toList.drop a).take k := fun k hk => by
  rw [Lib.extract_data, show a + k - a = k by omega]
 generalize hk : (s.data.toList.drop a).takeWhile P11.alnum = u at *
 obtain ⟨hl1, hl2⟩ := hlen
 have hex := hex _ hl2
 rw [← hw2] at hex
 generalize hq : a + u.length = q at *
 have haq : a < q := by omega
 have hww := fun r => word_any (s.extract a q) a B (Xk.exw W r) (hW.words.ext (Xk.ext_exw W r)) (by simp; omega) (by rw [hex]; exact hall)
 rw [hex] at hww
 generalize P11.wordOf u = x at *
 obtain ⟨k, t⟩ := x
 dsimp only at hww hT'
 have HT' := Lib.hid hT'
 have HRun := Lib.hid hrun
 have HWw := Lib.hid hww
 clear hT' hrun hww hex hw2 hall hk hl1 hq hd hpre hL hp hf2 hf3 hb hc
 obtain ⟨i0, hi, hz0, hz1, hz2⟩ := info_parts Tryz.infoTok
 have Hi := Lib.hid hi
 have Hz0 := Lib.hid hz0
 have Hz1 := Lib.hid hz1
 have Hz2 := Lib.hid hz2
 clear hi hz0 hz1 hz2
 subst hw
 unfold Fr at hF
 obtain ⟨f, rfl⟩ := hF
 unfold Pass
 generalize hQ : bodyPost Tryz.prog Tryz.f97 (LexPost s w0) = Q
 have HQ := Lib.hid hQ
 clear hQ
 generalize hJL : (fun (l' : Nat) (a' : Act) (w' : World) => ∃ m, m < n ∧ JL w0 s bs B ba m l' a' w') = J
 have HJ := Lib.hid hJL
 clear hJL
 unfold scopeCode Tryz.f97
 simp only [findLabel]
 refine ⟨_, rfl, ?_⟩
 have cs := hW.cs
 have ca := hW.ca
 have fa := hW.fa
 have ls := hW.ls
 have la := hW.la
 have HW := Lib.hid hW
 have HN := Lib.hid hn
 have HR := Lib.hid hrow
 have HT := Lib.hid hT
 clear hW hn hrow hT
 have hb8 : (s[a].toNat : Int) < 256 := by have := s[a].toNat_lt; omega
 go_wp2_with (first | (go_at_call 168; (with_reducible refine (HX.out _).mono ?_); rintro e w' ⟨rfl, rfl⟩) | (go_at_call 169; (with_reducible refine (HL.out _).mono ?_); rintro e w' ⟨rfl, rfl⟩) | (go_at_call 170; (with_reducible refine (HRun.out _).mono ?_); rintro e w' ⟨rfl, rfl⟩))
 have q2 : (a : Int) ≤ (q : Int) := by omega
 have q3 : (q : Int) ≤ (s.size : Int) := by omega
 have q4 : (a : Int) ≤ (s.size : Int) := by omega
 refine Xk.wp_region_rel' 9 [(8, Tok3 k ⟨t.toArray⟩ a)] ⟨fun v w w' => Tok3.ext v w w', trivial⟩ (by kernel_rfl) (by kernel_rfl) ?_
 simp only [List.take_succ_cons, List.take_zero, List.drop_succ_cons, List.drop_zero]
 repeat (first
  | ((first | refine Xk.rel_det (Xk.wanted_none (by rfl)) (by rfl) (fun K hK => ?_) | refine Xk.rel_det (by rfl) (by rfl) (fun K hK => ?_)); apply Exists.intro; refine ⟨fun p hp => ?_, ?_⟩; (go_simp; first | exact ⟨rfl, rfl⟩ | ((try refine ⟨by kernel_rfl, ?_⟩); (first | (go_at_call 173; ((with_reducible refine (HWw.out _).mono ?_); exact fun e w' h => h))))); (go_simp; refine hK _ ?_; clear hK K))
  | (refine Xk.rel_skip (by rfl) (fun K hK => ?_); go_simp; refine hK _ ?_; clear hK K))
 refine Xk.rel_make (by rfl) (by rfl) (fun p hp => ?_) (fun x K hK => ?_)
 ·go_simp
  exact ⟨(Below.refl _ _).alloc (Nat.le_refl _) _, _, rfl, Xk.cells3 (by simp)⟩
 go_simp
 refine hK _ ?_
 clear hK K
 refine Xk.rel_nil (fun p hp => ?_)
 obtain ⟨b, rfl, hc⟩ : Tok3 k ⟨t.toArray⟩ a x _ := hp.1
 clear hp
 rw [Xk.exw_drew, Xk.exw_exw] at hc ⊢
 have HC := Lib.hid hc
 clear hc
 go_wp2_with (first | (at_builtin; refine Xk.wpList_own (w0 := W) rfl _ _ 74 rfl 82 i0 _ 3 32 Tryz.underlying74 Hi.out Hz0.out Hz1.out Hz2.out rfl (by decide) v acc.length (tokCells acc) rfl (Xs.ow HR.out) _ 0 1 1 [.int .i64 k, .string ⟨t.toArray⟩, .int .i64 a] rfl rfl HC.out Xs.m3 (by omega) Xk.xt ?_; intro v' p' ho'; have Ho := Lib.hid ho'; clear ho'))
 go_step3
 simp only [Exit.inBlock, Exit.then, Xk.jumps_goto, ↓reduceIte]
 rw [← HJ.out]
 have ho : (Xk.exw W p').ownsRow W.heap.size 82 3 v' (acc ++ [(⟨k, t, a⟩ : P11.Tok)]).length (tokCells (acc ++ [(⟨k, t, a⟩ : P11.Tok)])) := by
  rw [tokCells_snoc, List.length_append]
  exact Ho.out
 exact goto0 HW.out q (by rw [HN.out]; omega) (by omega) (by omega) rfl (by rw [List.length_append, List.length_singleton]; omega) (Fr.of (by kernel_rfl)) ho HT'.out
end Go.Proofs.YtlpcdpkgnfdpeaaGreatDoor
namespace Go.Xk
theorem facts_head {m i : Nat} {φ : World → Prop} {r : Facts} {w : World} (h : factsAnc m ((i, φ) :: r) w) (hm : m.testBit i = true) : φ w := by
 unfold factsAnc at h
 rw [if_pos hm] at h
 exact h.1
end Go.Xk
namespace Go.Proofs.YtlpcdpkgnfdpeaaGreatDoor
open Go.RowKit Go.Maps
theorem step_plain {c : UInt8} {t : List UInt8} (hb : P11.blank c = false) (hp : ([45, 45] : List UInt8).isPrefixOf (c :: t) = false) (hq : c ≠ 39) (hl : P11.letter c = false) (hd : P11.digit c = false) :
  P11.step (c :: t) = match P11.signOf (c :: t) with | none => .inr (0, 111) | some x => .inl (x.length, some (5, x)) := by
 rw [P11.step, if_neg (by rw [hb]; decide), if_neg (by rw [hp]; decide), if_neg hq, if_neg (by rw [hl]; decide), if_neg (by rw [hd]; decide)]
 rfl
theorem pass_bad {w0 : World} {s : ByteArray} {bs B ba n : Nat} {act : Act} {w : World} (W : World) (p : Regrown) (a : Nat) (v : Value) (acc : List P11.Tok) (hw : w = Xk.exw W p) (hW : LW w0 s bs B ba W a) (hs : s.size ≤ 4096)
  (hn : n = 2 * (s.size - a) + 1) (hacc : acc.length ≤ a) (hF : Fr s bs B ba v act) (hrow : (Xk.exw W p).ownsRow W.heap.size 82 3 v acc.length (tokCells acc)) (hT : P11.toks s.data.toList 0 = P11.after acc (P11.toks (s.data.toList.drop a) a)) (hlt : a < s.size) (hb : P11.blank s[a] = false) (hp : ([45, 45] : List UInt8).isPrefixOf (s.data.toList.drop a) = false) (hq : s[a] ≠ 39) (hl : P11.letter s[a] = false) (hdg : P11.digit s[a] = false)
  (hg : P11.signOf (s.data.toList.drop a) = none) : Pass w0 s bs B ba n 0 act w := by
 have nb : ((s[a].toNat : Int) == 32) = false ∧ ((s[a].toNat : Int) == 9) = false ∧ ((s[a].toNat : Int) == 10) = false ∧ ((s[a].toNat : Int) == 13) = false := not_blank hb
 obtain ⟨nb1, nb2, nb3, nb4⟩ := nb
 have hd := drop_at s a hlt
 have hL : P11.lexed s.data.toList = .inr (a, 111) := by
  have hS := step_plain (t := s.data.toList.drop (a + 1)) hb (by rw [← hd]; exact hp) hq hl hdg
  rw [← hd, hg] at hS
  rw [P11.lexed, if_neg (by show ¬ 4096 < s.size; omega), hT, hd]
  rw [hd] at hS
  rw [P11.after_err hS]; rfl
 have HL' := Lib.hid hL
 have hpre := fun w => pre_any s ⟨#[45, 45]⟩ a w
 rw [show (⟨#[45, 45]⟩ : ByteArray).data.toList = [45, 45] from rfl, hp] at hpre
 have HX := Lib.hid hpre
 have h39 : ((s[a].toNat : Int) == 39) = false := ne_byte hq 39 rfl
 have hLt := fun w => letter_any s[a] w
 rw [hl] at hLt
 have HL := Lib.hid hLt
 have hD := fun w => digit_any s[a] w
 rw [hdg] at hD
 have HD := Lib.hid hD
 have hI := fun q v hv => indexFunc_any s a v P11.signs bs ba (Xk.exw W q) hv (by decide) (by rw [Xk.exw_cell _ _ _ _ hW.ls]; exact hW.cs) (by rw [Xk.exw_cell _ _ _ _ hW.la]; exact hW.ca) (by omega) (by omega)
 have hfs : firstSign (signAt s a) P11.signs = -1 := by
  rcases firstSign_find (p := signAt s a) P11.signs with ⟨h1, h2⟩ | ⟨q, x, h1, h2, h3⟩
  ·exact h1
  ·have : P11.signOf (s.data.toList.drop a) = some x := h3
   rw [hg] at this; cases this
 rw [hfs] at hI
 have HI := Lib.hid hI
 clear hI hfs hD hLt hpre hL hd hb hp hq hl hdg hg
 subst hw
 unfold Fr at hF
 obtain ⟨f, rfl⟩ := hF
 unfold Pass
 generalize hQ : bodyPost Tryz.prog Tryz.f97 (LexPost s w0) = Q
 have HQ := Lib.hid hQ
 clear hQ
 generalize hJL : (fun (l' : Nat) (a' : Act) (w' : World) => ∃ m, m < n ∧ JL w0 s bs B ba m l' a' w') = J
 have HJ := Lib.hid hJL
 clear hJL
 unfold scopeCode Tryz.f97
 simp only [findLabel]
 refine ⟨_, rfl, ?_⟩
 have cs := hW.cs
 have ca := hW.ca
 have fa := hW.fa
 have ls := hW.ls
 have la := hW.la
 have HW := Lib.hid hW
 have HN := Lib.hid hn
 have HR := Lib.hid hrow
 have HT := Lib.hid hT
 clear hW hn hrow hT
 have hb8 : (s[a].toNat : Int) < 256 := by have := s[a].toNat_lt; omega
 go_wp2_with (first | (go_at_call 168; (with_reducible refine (HX.out _).mono ?_); rintro e w' ⟨rfl, rfl⟩) | (go_at_call 169; (with_reducible refine (HL.out _).mono ?_); rintro e w' ⟨rfl, rfl⟩) | (go_at_call 172; (with_reducible refine (HD.out _).mono ?_); rintro e w' ⟨rfl, rfl⟩) | (go_at_call 176; (with_reducible refine (signs_any _).mono ?_); rintro e w' ⟨x, rfl, hx, hb⟩; obtain ⟨p, rfl⟩ := Xk.exw_of hb; clear hb; (try rw [Xk.exw_exw] at hx); have HS := Lib.hid hx; clear hx) | (go_at_call 175; (with_reducible refine (HI.out _ _ HS.out).mono ?_); rintro e w' ⟨rfl, rfl⟩))
 refine Xk.reg 4 (Xk.w0 fun p => ?_)
 go_wp2
 rw [← HQ.out]
 go_ret3
 exact ⟨HW.out.below.trans ((Below.refl _ _).trans (by first | exact (Xk.ext_exw W _).mono HW.out.below.size | (rw [Xk.exw_drew, Xk.exw_exw]; exact (Xk.ext_exw W _).mono HW.out.below.size))), .inr ⟨a, 111, HL'.out, rfl⟩⟩
def ptrAt (v : Value) (i : Nat) : Value := match v with
 | .slice (some ⟨b, off, _⟩) _ _ => .pointer (some ⟨b, off + i, none⟩)
 | _ => undef
@[go_sem] theorem ptrAt_slice (b off len cap i : Nat) : ptrAt (.slice (some ⟨b, off, none⟩) len cap) i = .pointer (some ⟨b, off + i, none⟩) := rfl
theorem pass_sign {w0 : World} {s : ByteArray} {bs B ba n : Nat} {act : Act} {w : World} (W : World) (p : Regrown) (a : Nat) (v : Value) (acc : List P11.Tok) (hw : w = Xk.exw W p) (hW : LW w0 s bs B ba W a) (hs : s.size ≤ 4096)
  (hn : n = 2 * (s.size - a) + 1) (hacc : acc.length ≤ a) (hF : Fr s bs B ba v act) (hrow : (Xk.exw W p).ownsRow W.heap.size 82 3 v acc.length (tokCells acc)) (hT : P11.toks s.data.toList 0 = P11.after acc (P11.toks (s.data.toList.drop a) a)) (hlt : a < s.size) (hb : P11.blank s[a] = false) (hp : ([45, 45] : List UInt8).isPrefixOf (s.data.toList.drop a) = false) (hq : s[a] ≠ 39) (hl : P11.letter s[a] = false) (hdg : P11.digit s[a] = false)
  {y : List UInt8} (hg : P11.signOf (s.data.toList.drop a) = some y) : Pass w0 s bs B ba n 0 act w := by
 have nb : ((s[a].toNat : Int) == 32) = false ∧ ((s[a].toNat : Int) == 9) = false ∧ ((s[a].toNat : Int) == 10) = false ∧ ((s[a].toNat : Int) == 13) = false := not_blank hb
 obtain ⟨nb1, nb2, nb3, nb4⟩ := nb
 have hd := drop_at s a hlt
 have hpos := P11.signOf_pre hg
 have hlen : a + y.length ≤ s.size := by
  have := (List.isPrefixOf_iff_prefix.1 hpos.2).length_le
  simp at this; omega
 have hT' : P11.toks s.data.toList 0 = P11.after (acc ++ [⟨5, y, a⟩]) (P11.toks (s.data.toList.drop (a + y.length)) (a + y.length)) := by
  have hS := step_plain (t := s.data.toList.drop (a + 1)) hb (by rw [← hd]; exact hp) hq hl hdg
  rw [← hd, hg] at hS
  rw [hT]
  conv => lhs; rw [hd]
  rw [hd] at hS
  rw [P11.after_some hS, ← hd, List.drop_drop]
 have HT' := Lib.hid hT'
 have hpre := fun w => pre_any s ⟨#[45, 45]⟩ a w
 rw [show (⟨#[45, 45]⟩ : ByteArray).data.toList = [45, 45] from rfl, hp] at hpre
 have HX := Lib.hid hpre
 have h39 : ((s[a].toNat : Int) == 39) = false := ne_byte hq 39 rfl
 have hLt := fun w => letter_any s[a] w
 rw [hl] at hLt
 have HL := Lib.hid hLt
 have hD := fun w => digit_any s[a] w
 rw [hdg] at hD
 have HD := Lib.hid hD
 have hI := fun q v hv => indexFunc_any s a v P11.signs bs ba (Xk.exw W q) hv (by decide) (by rw [Xk.exw_cell _ _ _ _ hW.ls]; exact hW.cs) (by rw [Xk.exw_cell _ _ _ _ hW.la]; exact hW.ca) (by omega) (by omega)
 obtain ⟨i, hi, hy⟩ : ∃ i : Nat, firstSign (signAt s a) P11.signs = i ∧ P11.signs[i]? = some y := by
  rcases firstSign_find (p := signAt s a) P11.signs with ⟨h1, h2⟩ | ⟨q, x, h1, h2, h3⟩
  ·have : P11.signOf (s.data.toList.drop a) = none := h2
   rw [hg] at this; cases this
  ·have : P11.signOf (s.data.toList.drop a) = some x := h3
   rw [hg] at this; cases this
   exact ⟨q, h1, h2⟩
 rw [hi] at hI
 have HI := Lib.hid hI
 have HY := Lib.hid hy
 have hi17 : i < 17 := (List.getElem?_eq_some_iff.1 hy).1
 have hy0 := hpos.1
 clear hI hi hD hLt hpre hT' hd hb hp hq hl hdg hg hy hpos
 obtain ⟨i0, hi, hz0, hz1, hz2⟩ := info_parts Tryz.infoTok
 have Hi := Lib.hid hi
 have Hz0 := Lib.hid hz0
 have Hz1 := Lib.hid hz1
 have Hz2 := Lib.hid hz2
 clear hi hz0 hz1 hz2
 subst hw
 unfold Fr at hF
 obtain ⟨f, rfl⟩ := hF
 unfold Pass
 generalize hQ : bodyPost Tryz.prog Tryz.f97 (LexPost s w0) = Q
 have HQ := Lib.hid hQ
 clear hQ
 generalize hJL : (fun (l' : Nat) (a' : Act) (w' : World) => ∃ m, m < n ∧ JL w0 s bs B ba m l' a' w') = J
 have HJ := Lib.hid hJL
 clear hJL
 unfold scopeCode Tryz.f97
 simp only [findLabel]
 refine ⟨_, rfl, ?_⟩
 have cs := hW.cs
 have ca := hW.ca
 have fa := hW.fa
 have ls := hW.ls
 have la := hW.la
 have HW := Lib.hid hW
 have HN := Lib.hid hn
 have HR := Lib.hid hrow
 have HT := Lib.hid hT
 clear hW hn hrow hT
 have hb8 : (s[a].toNat : Int) < 256 := by have := s[a].toNat_lt; omega
 go_wp2_with (first | (go_at_call 168; (with_reducible refine (HX.out _).mono ?_); rintro e w' ⟨rfl, rfl⟩) | (go_at_call 169; (with_reducible refine (HL.out _).mono ?_); rintro e w' ⟨rfl, rfl⟩) | (go_at_call 172; (with_reducible refine (HD.out _).mono ?_); rintro e w' ⟨rfl, rfl⟩) | (go_at_call 176; (with_reducible refine (signs_any _).mono ?_); rintro e w' ⟨x, rfl, hx, hb⟩; obtain ⟨p, rfl⟩ := Xk.exw_of hb; clear hb; (try rw [Xk.exw_exw] at hx); have HS := Lib.hid hx; clear hx) | (go_at_call 175; (with_reducible refine (HI.out _ _ HS.out).mono ?_); rintro e w' ⟨rfl, rfl⟩))
 have i1 : (i : Int) < 17 := by omega
 clear HI HS
 refine Xk.wp_region_rel' 8 [(1, fun v w => StrsAt w v P11.signs), (7, Tok3 5 ⟨y.toArray⟩ a)] ⟨fun v w w' hx h => h.ext hx, fun v w w' => Tok3.ext v w w', trivial⟩ (by kernel_rfl) (by kernel_rfl) ?_
 simp only [List.take_succ_cons, List.take_zero, List.drop_succ_cons, List.drop_zero]
 (refine Xs.k2 ?_)
 refine Xk.rel_make (by rfl) (by rfl) (fun p hp => ?_) (fun x K hK => ?_)
 ·go_simp
  go_at_call 176
  exact (signs_any _).mono fun e w' ⟨v, he, hs, hb⟩ => ⟨v, he, hb, hs⟩
 go_simp
 refine hK _ ?_
 clear hK K
 (refine Xs.k2 ?_)
 refine Xk.rel_det (Xk.wanted_none (by rfl)) (by rfl) (fun K hK => ⟨ptrAt x i, fun p hp => ?_, ?_⟩)
 ·obtain ⟨b, off, cap, rfl, hc⟩ : StrsAt _ x P11.signs := Xk.facts_head hp (by kernel_rfl)
  clear hp hK
  have h17 : P11.signs.length = 17 := rfl
  rw [h17]
  go_simp
  exact ⟨rfl, rfl⟩
 go_simp
 refine hK _ ?_
 clear hK K
 refine Xk.rel_det (Xk.wanted_none (by rfl)) (by rfl) (fun K hK => ⟨.string ⟨y.toArray⟩, fun p hp => ?_, ?_⟩)
 ·obtain ⟨b, off, cap, rfl, hc⟩ : StrsAt _ x P11.signs := Xk.facts_head hp (by kernel_rfl)
  clear hp hK
  have hcy := hc i y HY.out
  simp only [Xk.exw_drew, Xk.exw_exw, Array.append_assoc] at hcy
  go_simp
  exact ⟨rfl, rfl⟩
 go_simp
 refine hK _ ?_
 clear hK K
 (refine Xs.k2 ?_)
 (refine Xs.k2 ?_)
 refine Xk.rel_make (by rfl) (by rfl) (fun p hp => ?_) (fun z K hK => ?_)
 ·go_simp
  exact ⟨(Below.refl _ _).alloc (Nat.le_refl _) _, _, rfl, Xk.cells3 (by simp)⟩
 go_simp
 refine hK _ ?_
 clear hK K
 refine Xk.rel_nil (fun p hp => ?_)
 obtain ⟨b, rfl, hc⟩ : Tok3 5 ⟨y.toArray⟩ a z _ := hp.1
 clear hp
 rw [Xk.exw_drew, Xk.exw_exw] at hc ⊢
 have HC := Lib.hid hc
 clear hc
 go_wp2_with (first | (at_builtin; refine Xk.wpList_own (w0 := W) rfl _ _ 74 rfl 82 i0 _ 3 32 Tryz.underlying74 Hi.out Hz0.out Hz1.out Hz2.out rfl (by decide) v acc.length (tokCells acc) rfl (Xs.ow HR.out) _ 0 1 1 [.int .i64 5, .string ⟨y.toArray⟩, .int .i64 a] rfl rfl HC.out Xs.m3 (by omega) Xk.xt ?_; intro v' p' ho'; have Ho := Lib.hid ho'; clear ho'))
 have j1 : IntKind.i64.wrap ((a : Int) + (y.length : Int)) = (a : Int) + (y.length : Int) := IntWalk.i64_in _ (by omega)
 refine Xk.wp_region_rel' 7 [(1, fun v w => StrsAt w v P11.signs)] ⟨fun v w w' hx h => h.ext hx, trivial⟩ (by kernel_rfl) (by kernel_rfl) ?_
 simp only [List.take_succ_cons, List.take_zero, List.drop_succ_cons, List.drop_zero]
 (refine Xs.k2 ?_)
 refine Xk.rel_make (by rfl) (by rfl) (fun p hp => ?_) (fun x K hK => ?_)
 ·go_simp
  go_at_call 176
  exact (signs_any _).mono fun e w' ⟨v, he, hs, hb⟩ => ⟨v, he, hb, hs⟩
 go_simp
 refine hK _ ?_
 clear hK K
 (refine Xs.k2 ?_)
 refine Xk.rel_det (Xk.wanted_none (by rfl)) (by rfl) (fun K hK => ⟨ptrAt x i, fun p hp => ?_, ?_⟩)
 ·obtain ⟨b, off, cap, rfl, hc⟩ : StrsAt _ x P11.signs := Xk.facts_head hp (by kernel_rfl)
  clear hp hK
  have h17 : P11.signs.length = 17 := rfl
  rw [h17]
  go_simp
  exact ⟨rfl, rfl⟩
 go_simp
 refine hK _ ?_
 clear hK K
 refine Xk.rel_det (Xk.wanted_none (by rfl)) (by rfl) (fun K hK => ⟨.string ⟨y.toArray⟩, fun p hp => ?_, ?_⟩)
 ·obtain ⟨b, off, cap, rfl, hc⟩ : StrsAt _ x P11.signs := Xk.facts_head hp (by kernel_rfl)
  clear hp hK
  have hcy := hc i y HY.out
  simp only [Xk.exw_drew, Xk.exw_exw, Array.append_assoc] at hcy
  go_simp
  exact ⟨rfl, rfl⟩
 go_simp
 refine hK _ ?_
 clear hK K
 (refine Xs.k2 ?_)
 (refine Xs.k2 ?_)
 refine Xk.rel_nil (fun p hp => ?_)
 clear hp j1
 go_wp2
 go_step3
 simp only [Exit.inBlock, Exit.then, Xk.jumps_goto, ↓reduceIte]
 rw [← HJ.out]
 have ho : (Xk.exw W p').ownsRow W.heap.size 82 3 v' (acc ++ [(⟨5, y, a⟩ : P11.Tok)]).length (tokCells (acc ++ [(⟨5, y, a⟩ : P11.Tok)])) := by
  rw [tokCells_snoc, List.length_append]
  exact Ho.out
 exact goto0 HW.out (a + y.length) (by rw [HN.out]; omega) (by omega) hlen rfl (by rw [List.length_append, List.length_singleton]; omega) (Fr.of (by kernel_rfl)) (by first | exact Xk.own_more (d := 0) (Xk.own_d ho) | exact ho) HT'.out
end Go.Proofs.YtlpcdpkgnfdpeaaGreatDoor
namespace P11
theorem takeWhile_len (d : UInt8) : ∀ (l : List UInt8), d ∉ l → (l.takeWhile (· != d)).length = l.length
 | [], _ => rfl
 | c :: l, h => by
  have hc : (c != d) = true := by rw [bne_iff_ne]; intro e; exact h (by rw [e]; exact List.mem_cons_self ..)
  rw [List.takeWhile, hc, List.length_cons, List.length_cons, takeWhile_len d l (fun m => h (List.mem_cons_of_mem _ m))]
theorem takeWhile_at (d : UInt8) : ∀ (l : List UInt8) (n : Nat), d ∉ l.take n → l.drop n = d :: l.drop (n + 1) → (l.takeWhile (· != d)).length = n
 | [], n, _, h => by simp at h
 | c :: l, 0, _, h => by
  simp at h; subst h; simp [List.takeWhile]
 | c :: l, n + 1, h, h' => by
  rw [List.take_succ_cons] at h
  have hc : (c != d) = true := by rw [bne_iff_ne]; intro e; exact h (by rw [e]; exact List.mem_cons_self ..)
  rw [List.takeWhile, hc, List.length_cons, takeWhile_at d l n (fun m => h (List.mem_cons_of_mem _ m)) (by simpa using h')]
theorem step_note {r : List UInt8} (h : ([45, 45] : List UInt8).isPrefixOf r = true) : ∃ c t, r = c :: t ∧ step (c :: t) = .inl (lineLen (c :: t), none) ∧ 0 < lineLen (c :: t) := by
 cases r with
 | nil => simp [List.isPrefixOf] at h
 | cons c t =>
  have hc : c = 45 := by simp [List.isPrefixOf] at h; exact h.1.symm
  refine ⟨c, t, rfl, ?_, ?_⟩
  ·rw [step, if_neg (by rw [hc]; decide), if_pos h]
  ·unfold lineLen; subst hc; simp [List.takeWhile]
theorem step_text {r : List UInt8} (h : ([39] : List UInt8).isPrefixOf r = true) : ∃ t, r = 39 :: t ∧ step (39 :: t) = match textOf t with
   | none => .inr (0, 112)
   | some x => if ((39 :: t).take (x.2 + 1)).contains 0 then .inr (((39 :: t).take (x.2 + 1)).idxOf 0, 111) else .inl (x.2 + 1, some (4, x.1)) := by
 cases r with
 | nil => simp [List.isPrefixOf] at h
 | cons c t =>
  have hc : c = 39 := by simp [List.isPrefixOf] at h; exact h.symm
  subst hc
  exact ⟨t, rfl, by rw [step, if_neg (by decide), if_neg (by simp [List.isPrefixOf]), if_pos rfl]; rfl⟩
theorem idx_at (d : UInt8) : ∀ (l : List UInt8) (n : Nat), d ∉ l.take n → l.drop n = d :: l.drop (n + 1) → l.idxOf d = n
 | [], n, _, h => by simp at h
 | c :: l, 0, _, h => by
  simp at h; subst h; simp
 | c :: l, n + 1, h, h' => by
  rw [List.take_succ_cons] at h
  have hc : c ≠ d := by intro e; exact h (by rw [e]; exact List.mem_cons_self ..)
  have e := idx_at d l n (fun m => h (List.mem_cons_of_mem _ m)) (by simpa using h')
  have hb : (c == d) = false := by simpa using hc
  simp [List.idxOf_cons, hb, e]
end P11
namespace Go.Proofs.YtlpcdpkgnfdpeaaGreatDoor
open Go.RowKit Go.Maps
theorem ix_ext (s : ByteArray) (a b : Nat) (c : UInt8) (k v : Int) (hk : k.toNat.toUInt8 = c) (h : Lib.indexByte ((s.data.toList.drop a).take (b - a)) c = v) (w : World) :
  Calls Tryz.prog 118 #[.string (s.extract a b), .int .u8 k] w fun e w' => e = .returned (.int .i64 v) ∧ w = w' := by
 refine (Tryz.strings_IndexByte _ _ _).mono ?_
 rintro e w' ⟨rfl, rfl⟩
 refine ⟨?_, rfl⟩
 rw [Lib.extract_data, ← h, hk]
theorem pass1 {w0 : World} {s : ByteArray} {bs B ba n : Nat} {act : Act} {w : World} (W : World) (p : Regrown) (a : Nat) (v : Value) (acc : List P11.Tok) (hw : w = Xk.exw W p) (hW : LW w0 s bs B ba W a) (hs : s.size ≤ 4096)
  (hn : n = 2 * (s.size - a)) (hacc : acc.length ≤ a) (hF : Fr s bs B ba v act) (hrow : (Xk.exw W p).ownsRow W.heap.size 82 3 v acc.length (tokCells acc)) (hT : P11.toks s.data.toList 0 = P11.after acc (P11.toks (s.data.toList.drop a) a)) (ha : a ≤ s.size) (hp : ([45, 45] : List UInt8).isPrefixOf (s.data.toList.drop a) = true) : Pass w0 s bs B ba n 1 act w := by
 obtain ⟨c, t, hd, hstep, hpos⟩ := P11.step_note hp
 have hT' : P11.toks s.data.toList 0 = P11.after acc (P11.toks (s.data.toList.drop (a + P11.lineLen (s.data.toList.drop a))) (a + P11.lineLen (s.data.toList.drop a))) := by
  rw [hT]
  conv => lhs; rw [hd]
  rw [P11.after_none hstep, ← hd, List.drop_drop]
 rw [← hd] at hpos
 have hlt : a < s.size := by
  have := congrArg List.length hd
  simp at this; omega
 rcases P11.index_cases 10 (s.data.toList.drop a) with ⟨e1, e2⟩ | ⟨k, e1, e2, e3, e4⟩
 ·have HX := Lib.hid (fun w => ix_any s a 10 10 _ rfl e1 w)
  have hl : P11.lineLen (s.data.toList.drop a) = s.size - a := by
   unfold P11.lineLen; rw [P11.takeWhile_len 10 _ e2]; simp
  rw [hl, show a + (s.size - a) = s.size by omega] at hT'
  have HT' := Lib.hid hT'
  clear hT' hl e1 e2 hd hstep hpos hp
  subst hw
  unfold Fr at hF
  obtain ⟨f, rfl⟩ := hF
  unfold Pass
  generalize hQ : bodyPost Tryz.prog Tryz.f97 (LexPost s w0) = Q
  have HQ := Lib.hid hQ
  clear hQ
  generalize hJL : (fun (l' : Nat) (a' : Act) (w' : World) => ∃ m, m < n ∧ JL w0 s bs B ba m l' a' w') = J
  have HJ := Lib.hid hJL
  clear hJL
  unfold scopeCode Tryz.f97
  simp only [findLabel]
  refine ⟨_, rfl, ?_⟩
  have cs := hW.cs
  have ca := hW.ca
  have fa := hW.fa
  have ls := hW.ls
  have la := hW.la
  have HW := Lib.hid hW
  have HN := Lib.hid hn
  have HR := Lib.hid hrow
  have HT := Lib.hid hT
  clear hW hn hrow hT
  have hz : (a : Int) + ((s.size : Int) - (a : Int)) = (s.size : Int) := by omega
  go_wp2_with (go_at_call 118; (with_reducible refine (HX.out _).mono ?_); rintro e w' ⟨rfl, rfl⟩)
  go_step3
  simp only [Exit.inBlock, Exit.then, Xk.jumps_goto, ↓reduceIte]
  rw [← HJ.out]
  exact goto0 HW.out s.size (by rw [HN.out]; omega) hlt (Nat.le_refl _) (by rfl) (by omega) (Fr.of (by kernel_rfl)) HR.out HT'.out
 ·have HX := Lib.hid (fun w => ix_any s a 10 10 _ rfl e1 w)
  have hl : P11.lineLen (s.data.toList.drop a) = k := P11.takeWhile_at 10 _ k e3 e4
  rw [hl] at hT' hpos
  have hk : a + k < s.size := by simp at e2; omega
  have HT' := Lib.hid hT'
  clear hT' hl e1 e2 e3 e4 hd hstep hp
  subst hw
  unfold Fr at hF
  obtain ⟨f, rfl⟩ := hF
  unfold Pass
  generalize hQ : bodyPost Tryz.prog Tryz.f97 (LexPost s w0) = Q
  have HQ := Lib.hid hQ
  clear hQ
  generalize hJL : (fun (l' : Nat) (a' : Act) (w' : World) => ∃ m, m < n ∧ JL w0 s bs B ba m l' a' w') = J
  have HJ := Lib.hid hJL
  clear hJL
  unfold scopeCode Tryz.f97
  simp only [findLabel]
  refine ⟨_, rfl, ?_⟩
  have cs := hW.cs
  have ca := hW.ca
  have fa := hW.fa
  have ls := hW.ls
  have la := hW.la
  have HW := Lib.hid hW
  have HN := Lib.hid hn
  have HR := Lib.hid hrow
  have HT := Lib.hid hT
  clear hW hn hrow hT
  go_wp2_with (go_at_call 118; (with_reducible refine (HX.out _).mono ?_); rintro e w' ⟨rfl, rfl⟩)
  go_step3
  simp only [Exit.inBlock, Exit.then, Xk.jumps_goto, ↓reduceIte]
  rw [← HJ.out]
  exact goto0 HW.out (a + k) (by rw [HN.out]; omega) (by omega) (by omega) rfl (by omega) (Fr.of (by kernel_rfl)) HR.out HT'.out
theorem textR_none (a : Nat) : textR a none = .tuple #[.int .i64 0, .string ⟨#[]⟩, .bool false] := rfl
theorem textR_some (a : Nat) (t : List UInt8) (n : Nat) : textR a (some (t, n)) = .tuple #[.int .i64 ((a + 1 + n : Nat) : Int), .string ⟨t.toArray⟩, .bool true] := rfl
theorem pass2 {w0 : World} {s : ByteArray} {bs B ba n : Nat} {act : Act} {w : World} (W : World) (p : Regrown) (a : Nat) (v : Value) (acc : List P11.Tok) (hw : w = Xk.exw W p) (hW : LW w0 s bs B ba W a) (hs : s.size ≤ 4096)
  (hn : n = 2 * (s.size - a)) (hacc : acc.length ≤ a) (hF : Fr s bs B ba v act) (hrow : (Xk.exw W p).ownsRow W.heap.size 82 3 v acc.length (tokCells acc)) (hT : P11.toks s.data.toList 0 = P11.after acc (P11.toks (s.data.toList.drop a) a)) (ha : a ≤ s.size) (hp : ([39] : List UInt8).isPrefixOf (s.data.toList.drop a) = true) : Pass w0 s bs B ba n 2 act w := by
 obtain ⟨t, hd, hstep⟩ := P11.step_text hp
 have hlt : a < s.size := by
  have := congrArg List.length hd
  simp at this; omega
 have ht : s.data.toList.drop (a + 1) = t := by
  have := drop_at s a hlt
  rw [hd] at this
  exact (List.cons.inj this).2.symm
 have htx := fun w => text_any s a hlt (by omega) w
 rw [ht] at htx
 cases hx : P11.textOf t with
 | none =>
  rw [hx] at hstep htx
  have hL : P11.lexed s.data.toList = .inr (a, 112) := by
   rw [P11.lexed, if_neg (by show ¬ 4096 < s.size; omega), hT, hd, P11.after_err hstep]; rfl
  rw [textR_none] at htx
  have HL := Lib.hid hL
  have HX := Lib.hid htx
  clear hL htx hstep hx hd ht hp
  subst hw
  unfold Fr at hF
  obtain ⟨f, rfl⟩ := hF
  unfold Pass
  generalize hQ : bodyPost Tryz.prog Tryz.f97 (LexPost s w0) = Q
  have HQ := Lib.hid hQ
  clear hQ
  generalize hJL : (fun (l' : Nat) (a' : Act) (w' : World) => ∃ m, m < n ∧ JL w0 s bs B ba m l' a' w') = J
  have HJ := Lib.hid hJL
  clear hJL
  unfold scopeCode Tryz.f97
  simp only [findLabel]
  refine ⟨_, rfl, ?_⟩
  have cs := hW.cs
  have ca := hW.ca
  have fa := hW.fa
  have ls := hW.ls
  have la := hW.la
  have HW := Lib.hid hW
  have HN := Lib.hid hn
  have HR := Lib.hid hrow
  have HT := Lib.hid hT
  clear hW hn hrow hT
  go_wp2_with (go_at_call 178; (with_reducible refine (HX.out _).mono ?_); rintro e w' ⟨rfl, rfl⟩)
  refine Xk.reg 4 (Xk.w0 fun p => ?_)
  go_wp2
  rw [← HQ.out]
  go_ret3
  exact ⟨HW.out.below.trans ((Below.refl _ _).trans (by first | exact (Xk.ext_exw W _).mono HW.out.below.size | (rw [Xk.exw_drew, Xk.exw_exw]; exact (Xk.ext_exw W _).mono HW.out.below.size))), .inr ⟨a, 112, HL.out, rfl⟩⟩
 | some x =>
  obtain ⟨u, k⟩ := x
  rw [hx, textR_some] at htx
  rw [hx] at hstep
  dsimp only at hstep
  have hk := P11.textOf_pos _ t (Nat.le_refl _) (u, k) hx
  dsimp only at hk
  have hk2 : a + 1 + k ≤ s.size := by rw [← ht] at hk; simp at hk; omega
  have hq : (s.data.toList.drop a).take (a + 1 + k - a) = (39 :: t).take (k + 1) := by rw [hd]; congr 1; omega
  rcases P11.index_cases 0 ((39 :: t).take (k + 1)) with ⟨e1, e2⟩ | ⟨j, e1, e2, e3, e4⟩
  ·have HI := Lib.hid (fun w => ix_ext s a (a + 1 + k) 0 0 (-1) rfl (by rw [hq]; exact e1) w)
   rw [if_neg (by simpa using e2)] at hstep
   have hT' : P11.toks s.data.toList 0 = P11.after (acc ++ [⟨4, u, a⟩]) (P11.toks (s.data.toList.drop (a + 1 + k)) (a + 1 + k)) := by
    rw [hT, hd, P11.after_some hstep, ← hd, List.drop_drop, show a + (k + 1) = a + 1 + k by omega]
   have HT' := Lib.hid hT'
   have HX := Lib.hid htx
   clear hT' htx hstep hx hd ht hp hq e1 e2
   have haq : a < a + 1 + k := by omega
   generalize a + 1 + k = q at *
   obtain ⟨i0, hi, hz0, hz1, hz2⟩ := info_parts Tryz.infoTok
   have Hi := Lib.hid hi
   have Hz0 := Lib.hid hz0
   have Hz1 := Lib.hid hz1
   have Hz2 := Lib.hid hz2
   clear hi hz0 hz1 hz2
   subst hw
   unfold Fr at hF
   obtain ⟨f, rfl⟩ := hF
   unfold Pass
   generalize hQ : bodyPost Tryz.prog Tryz.f97 (LexPost s w0) = Q
   have HQ := Lib.hid hQ
   clear hQ
   generalize hJL : (fun (l' : Nat) (a' : Act) (w' : World) => ∃ m, m < n ∧ JL w0 s bs B ba m l' a' w') = J
   have HJ := Lib.hid hJL
   clear hJL
   unfold scopeCode Tryz.f97
   simp only [findLabel]
   refine ⟨_, rfl, ?_⟩
   have cs := hW.cs
   have ca := hW.ca
   have fa := hW.fa
   have ls := hW.ls
   have la := hW.la
   have HW := Lib.hid hW
   have HN := Lib.hid hn
   have HR := Lib.hid hrow
   have HT := Lib.hid hT
   clear hW hn hrow hT
   have q2 : (a : Int) ≤ (q : Int) := by omega
   have q3 : (q : Int) ≤ (s.size : Int) := by omega
   have q4 : (a : Int) ≤ (s.size : Int) := by omega
   go_wp2_with (first | (go_at_call 178; (with_reducible refine (HX.out _).mono ?_); rintro e w' ⟨rfl, rfl⟩) | (go_at_call 118; (with_reducible refine (HI.out _).mono ?_); rintro e w' ⟨rfl, rfl⟩) | (at_builtin; refine Xk.wpList_own (w0 := W) rfl _ _ 74 rfl 82 i0 _ 3 32 Tryz.underlying74 Hi.out Hz0.out Hz1.out Hz2.out rfl (by decide) v acc.length (tokCells acc) rfl (Xs.ow HR.out) _ 0 1 1 [.int .i64 4, .string ⟨u.toArray⟩, .int .i64 a] rfl rfl (Xk.cells3 (by simp)) Xs.m3 (by omega) Xk.xt ?_; intro v' p' ho'; have Ho := Lib.hid ho'; clear ho'))
   go_step3
   simp only [Exit.inBlock, Exit.then, Xk.jumps_goto, ↓reduceIte]
   rw [← HJ.out]
   have ho : (Xk.exw W p').ownsRow W.heap.size 82 3 v' (acc ++ [(⟨4, u, a⟩ : P11.Tok)]).length (tokCells (acc ++ [(⟨4, u, a⟩ : P11.Tok)])) := by
    rw [tokCells_snoc, List.length_append]
    exact Ho.out
   exact goto0 HW.out q (by rw [HN.out]; omega) haq hk2 rfl (by rw [List.length_append, List.length_singleton]; omega) (Fr.of (by kernel_rfl)) ho HT'.out
  ·have HI := Lib.hid (fun w => ix_ext s a (a + 1 + k) 0 0 j rfl (by rw [hq]; exact e1) w)
   have hj : j ≤ k := by simp at e2; omega
   have hc : ((39 :: t).take (k + 1)).contains 0 = true := by
    have : (0 : UInt8) ∈ ((39 :: t).take (k + 1)).drop j := by rw [e4]; exact List.mem_cons_self ..
    simpa using List.mem_of_mem_drop this
   rw [if_pos hc, P11.idx_at 0 _ j e3 e4] at hstep
   have hL : P11.lexed s.data.toList = .inr (a + j, 111) := by
    rw [P11.lexed, if_neg (by show ¬ 4096 < s.size; omega), hT, hd, P11.after_err hstep]
   have HL := Lib.hid hL
   have HX := Lib.hid htx
   clear hL htx hstep hx hd ht hp hq e1 e2 e3 e4 hc
   have haq : a + j < a + 1 + k := by omega
   generalize a + 1 + k = q at *
   subst hw
   unfold Fr at hF
   obtain ⟨f, rfl⟩ := hF
   unfold Pass
   generalize hQ : bodyPost Tryz.prog Tryz.f97 (LexPost s w0) = Q
   have HQ := Lib.hid hQ
   clear hQ
   generalize hJL : (fun (l' : Nat) (a' : Act) (w' : World) => ∃ m, m < n ∧ JL w0 s bs B ba m l' a' w') = J
   have HJ := Lib.hid hJL
   clear hJL
   unfold scopeCode Tryz.f97
   simp only [findLabel]
   refine ⟨_, rfl, ?_⟩
   have cs := hW.cs
   have ca := hW.ca
   have fa := hW.fa
   have ls := hW.ls
   have la := hW.la
   have HW := Lib.hid hW
   have HN := Lib.hid hn
   have HR := Lib.hid hrow
   have HT := Lib.hid hT
   clear hW hn hrow hT
   have q2 : (a : Int) ≤ (q : Int) := by omega
   have q3 : (q : Int) ≤ (s.size : Int) := by omega
   have q4 : (a : Int) ≤ (s.size : Int) := by omega
   go_wp2_with (first | (go_at_call 178; (with_reducible refine (HX.out _).mono ?_); rintro e w' ⟨rfl, rfl⟩) | (go_at_call 118; (with_reducible refine (HI.out _).mono ?_); rintro e w' ⟨rfl, rfl⟩))
   have q5 : IntKind.i64.wrap ((a : Int) + (j : Int)) = (a : Int) + (j : Int) := IntWalk.i64_in _ (by omega)
   refine Xk.reg 6 (Xk.w0 fun p => ?_)
   go_wp2
   rw [← HQ.out]
   go_ret3
   exact ⟨HW.out.below.trans ((Below.refl _ _).trans (by first | exact (Xk.ext_exw W _).mono HW.out.below.size | (rw [Xk.exw_drew, Xk.exw_exw]; exact (Xk.ext_exw W _).mono HW.out.below.size))), .inr ⟨a + j, 111, HL.out, rfl⟩⟩
end Go.Proofs.YtlpcdpkgnfdpeaaGreatDoor
namespace Go.Proofs.YtlpcdpkgnfdpeaaGreatDoor
open Go.RowKit Go.Maps
theorem jumps_mono {J J' : Nat → Act → World → Prop} {Q : Exit → Act → World → Prop} (h : ∀ l a w, J l a w → J' l a w) {e : Exit} {a : Act} {w : World} (hq : Xk.jumps J Q e a w) : Xk.jumps J' Q e a w := by
 cases e <;> first | exact h _ _ _ hq | exact hq
structure LoopW (s : ByteArray) (w0 : World) (bw k : Nat) (wr : World) : Prop where
 below : Below w0.heap.size w0 wr
 words : WordsAt wr (w0.heap.size + 1) k
 cs : wr.cell? ⟨w0.heap.size, 0, none⟩ = some (.string s)
 cw : ∀ (j : Nat) (x : List UInt8), P11.words[j]? = some x → wr.cell? ⟨bw, j, none⟩ = some (.string ⟨x.toArray⟩)
 lw : bw < wr.heap.size
 ls : w0.heap.size + 1 < wr.heap.size
 nb : bw ≠ w0.heap.size + 1
theorem LoopW.grown {s : ByteArray} {w0 wr wr' : World} {bw k k' : Nat} (h : LoopW s w0 bw k wr) (hg : wr.grownBy wr' (some (w0.heap.size + 1))) (hw : WordsAt wr' (w0.heap.size + 1) k') : LoopW s w0 bw k' wr' where
 below := h.below.grown hg h.below.size (fun j hj => by cases hj; omega)
 words := hw
 cs := by rw [← h.cs]; exact World.cell?_of_block (hg.block _ (by have := h.ls; dsimp only; omega) (by simp))
 cw := fun j x hj => by rw [← h.cw j x hj]; exact World.cell?_of_block (hg.block _ h.lw (by simpa using h.nb))
 lw := Nat.lt_of_lt_of_le h.lw hg.size
 ls := Nat.lt_of_lt_of_le h.ls hg.size
 nb := h.nb
theorem LW.start {s : ByteArray} {w0 wr : World} {bw : Nat} (h : LoopW s w0 bw 43 wr) : LW w0 s w0.heap.size (w0.heap.size + 1) wr.heap.size (wr.alloc (.cells #[.int .i64 0] 3)) 0 where
 below := h.below.alloc h.below.size _
 cs := by rw [World.cell?_alloc_lt (h := by have := h.ls; dsimp only; omega)]; exact h.cs
 ca := by rw [World.cell?_alloc_mark]; rfl
 fa := by simp
 words := h.words.ext ((Below.refl _ _).alloc (Nat.le_refl _) _)
 ls := by have := h.ls; simp; omega
 la := by simp
 ha := h.below.size
 ne := by have := h.ls; omega
 nB := by have := h.ls; omega
theorem exw_self (w : World) : Xk.exw w ⟨w.drawn, #[]⟩ = w := by
 simp [Xk.exw, Go.Sort.grow, redrawn]
theorem JL.start {w0 : World} {s : ByteArray} {bs B ba : Nat} {W : World} {act : Act} (hW : LW w0 s bs B ba W 0) (hF : Fr s bs B ba (.slice none 0 0) act) : JL w0 s bs B ba (2 * s.size + 1) 0 act W :=
 .inl ⟨rfl, W, ⟨W.drawn, #[]⟩, 0, .slice none 0 0, [], (exw_self W).symm, hW, Nat.zero_le _, rfl, Nat.le_refl _, hF, World.ownsRow_nil _ _ _ _, by rw [P11.after_nil]; rfl⟩
theorem pass_all {w0 : World} {s : ByteArray} {bs B ba n l : Nat} {act : Act} {w : World} (hJ : JL w0 s bs B ba n l act w) (hs : s.size ≤ 4096) : Pass w0 s bs B ba n l act w := by
 rcases hJ with ⟨rfl, W, p, a, v, acc, hw, hW, ha, hn, hacc, hF, hrow, hT⟩ | ⟨rfl, W, p, a, v, acc, hw, hW, ha, hn, hacc, hF, hrow, hT, hp⟩ | ⟨rfl, W, p, a, v, acc, hw, hW, ha, hn, hacc, hF, hrow, hT, hp⟩
 ·by_cases hlt : a < s.size
  ·cases hb : P11.blank s[a]
   ·cases hp : ([45, 45] : List UInt8).isPrefixOf (s.data.toList.drop a)
    ·by_cases hq : s[a] = 39
     ·exact pass_text W p a v acc hw hW hs hn hacc hF hrow hT hlt hq
     ·cases hl : P11.letter s[a]
      ·cases hd : P11.digit s[a]
       ·cases hg : P11.signOf (s.data.toList.drop a) with
        | none => exact pass_bad W p a v acc hw hW hs hn hacc hF hrow hT hlt hb hp hq hl hd hg
        | some y => exact pass_sign W p a v acc hw hW hs hn hacc hF hrow hT hlt hb hp hq hl hd hg
       ·exact pass_digit W p a v acc hw hW hs hn hacc hF hrow hT hlt hd
      ·exact pass_letter W p a v acc hw hW hs hn hacc hF hrow hT hlt hl
    ·exact pass_note W p a v acc hw hW hs hn hacc hF hrow hT hlt hb hp
   ·exact pass_blank W p a v acc hw hW hs hn hacc hF hrow hT hlt hb
  ·exact pass_end W p a v acc hw hW hs hn hacc hF hrow hT (by omega)
 ·exact pass1 W p a v acc hw hW hs hn hacc hF hrow hT ha hp
 ·exact pass2 W p a v acc hw hW hs hn hacc hF hrow hT ha hp
theorem words_at (w : World) : Calls Tryz.prog 41 #[] w fun e w' => e = .returned (.slice (some ⟨w.heap.size, 0, none⟩) 43 43) ∧ (∀ (j : Nat) (x : List UInt8), P11.words[j]? = some x → w'.cell? ⟨w.heap.size, j, none⟩ = some (.string ⟨x.toArray⟩)) ∧ Below w.heap.size w w' ∧ w.heap.size < w'.heap.size := by
 go_enter Tryz.func41, Tryz.ntmps41
 go_wp2
 go_ret
 refine ⟨rfl, fun j x hj => ?_, Xk.xt, by simp⟩
 rw [World.cell?_alloc_mark]
 have hC : ∀ C : Array Value, C.toList = P11.words.map (fun x => Value.string ⟨x.toArray⟩) → C[j]? = some (.string ⟨x.toArray⟩) := fun C hC => by
  rw [← Array.getElem?_toList, hC, List.getElem?_map, hj]; rfl
 exact hC _ (by kernel_rfl)
theorem setW_succ (k : Nat) (x : List UInt8) (h : P11.words[k]? = some x) : P11.setW (k + 1) = (P11.setW k).put (.string x) (.agg []) := by
 obtain ⟨hk, rfl⟩ := List.getElem?_eq_some_iff.1 h
 unfold P11.setW
 rw [List.take_succ_eq_append_getElem hk, List.map_append, List.map_cons, List.map_nil, setOf_snoc]
theorem words_size (x : List UInt8) (k : Nat) (h : P11.words[k]? = some x) : x.length ≤ 100 := by
 have : P11.words.all (fun x => decide (x.length ≤ 100)) = true := by decide
 simpa using List.all_eq_true.1 this x (List.mem_of_getElem? h)
theorem tokens_any (s : ByteArray) (w : World) : Calls Tryz.prog 97 #[.string s] w (LexPost s w) := by
 have hmm := @run_makeMap Tryz.prog
 generalize hQ : LexPost s w = R
 have HQ := Lib.hid hQ
 clear hQ
 go_enter Tryz.func97, Tryz.ntmps97
 go_wp2
 refine Xk.wp_scope_labels (fun n l a w' => s.size ≤ 4096 ∧ ∃ bs B ba, JL w s bs B ba n l a w') ?_ ?_
 ·go_wp2_with (go_at_call 41; (with_reducible refine (words_at _).mono ?_); rintro e w' ⟨rfl, hc, hb, hz⟩; obtain ⟨p, rfl⟩ := Xk.exw_of hb; clear hb; have HC := Lib.hid hc; have HZ := Lib.hid hz; clear hc hz)
  go_loopw [7, 18] (fun _ x wr => ∃ k : Nat, k ≤ 43 ∧ x = .int .i64 k ∧ LoopW s w (w.heap.size + 2) k wr) (fun _ x _ => 43 - (intOf x).toNat)
  case atStart =>
   refine ⟨0, by omega, rfl, ⟨Xk.xt, ?_, ?_, ?_, ?_, ?_, by omega⟩⟩
   ·refine WordsAt.ext ?_ (Xk.ext_exw _ _)
    have h := World.ownsMap_made (w.alloc (.cells #[.string s] 9)) Tryz.prog 9 (unitElem (H := Unit))
    rw [World.size_alloc] at h
    exact h
   ·go_simp
   ·intro j x hj
    have := HC.out j x hj
    simpa using this
   ·have := HZ.out
    simp at this ⊢
    omega
   ·simp; omega
  case round =>
   obtain ⟨k, hk, rfl, hL⟩ := hrel
   by_cases hlt : k < 43
   ·have hx : P11.words[k]? = some (P11.words[k]'hlt) := List.getElem?_eq_getElem _
    have c1 := hL.cw k _ hx
    have hsz := words_size _ k hx
    have hkey := WideMaps.keyOf_string_mk Tryz.underlying9 (s := ⟨(P11.words[k]'hlt).toArray⟩) (by show (P11.words[k]'hlt).toArray.size ≤ maxLen; rw [List.size_toArray]; unfold maxLen; omega)
    have hset := setW_succ k _ hx
    generalize P11.words[k]'hlt = x at *
    have hown := hL.words
    have HO := Lib.hid hown
    have HL := Lib.hid hL
    have HK := Lib.hid hkey
    have HS := Lib.hid hset
    clear hL hkey hset hown hx
    have k1 : (k : Int) < 43 := by omega
    go_wp2_with (at_mapUpdate; refine wpList_mapUpdate_own _ rfl _ _ _ 205 rfl 9 206 keyLaw Tryz.underlying205 (unitElem (H := Unit)) (w.heap.size + 1) k _ rfl HO.out (by unfold maxLen; omega) _ _ _ rfl rfl HK.out _ [] unitElem_mk ?_; intro w1 hown1 hgrow1; have HO1 := Lib.hid hown1; have HG1 := Lib.hid hgrow1; clear hown1 hgrow1)
    go_roundw
    case rel => exact ⟨k + 1, by omega, by go_num, HL.out.grown HG1.out (by unfold WordsAt; rw [HS.out]; exact HO1.out)⟩
    case measure => simp [intOf]; omega
   ·obtain rfl : k = 43 := by omega
    clear hk hlt
    by_cases hs : 4096 < s.size
    ·have c1 := hL.cs
     have l1 := hL.ls
     have l0 : w.heap.size < wr.heap.size := by omega
     have HL := Lib.hid hL
     clear hL
     have s1 : (4096 : Int) < (s.size : Int) := by omega
     go_wp2
     go_ret3
     rw [← HQ.out]
     exact ⟨HL.out.below.alloc HL.out.below.size _, .inr ⟨0, 110, by rw [P11.lexed, if_pos (show 4096 < s.data.toList.length from hs)], rfl⟩⟩
    ·have c1 := hL.cs
     have l1 := hL.ls
     have l0 : w.heap.size < wr.heap.size := by omega
     have HL := Lib.hid hL
     clear hL
     have s1 : ¬ (4096 : Int) < (s.size : Int) := by omega
     go_wp2
     go_step3
     simp only [Exit.then]
     rename_i hK
     refine hK _ _ ?_
     clear hK
     have hW : LW w s w.heap.size (w.heap.size + 1) wr.heap.size (wr.alloc (.cells #[.int .i64 0] 3)) 0 := LW.start HL.out
     obtain ⟨rest, h1, h2⟩ := pass_all (JL.start hW (Fr.of (by kernel_rfl))) (Nat.le_of_not_lt hs)
     have e := h1.symm.trans (rfl : findLabel scopeCode 0 = some (Code.skip.seq _))
     injection e with e
     injection e with _ e
     rw [e] at h2
     have h3 := wp_mono h2 (fun e a w h => jumps_mono (J' := fun l a' w' => ∃ n, s.size ≤ 4096 ∧ ∃ bs B ba, JL _ s bs B ba n l a' w') (fun l a w ⟨m, hm, hj⟩ => ⟨m, Nat.le_of_not_lt hs, _, _, _, hj⟩) h)
     rw [HQ.out] at h3
     exact h3
 ·rintro n l a w' ⟨hs, bs, B, ba, hJ⟩
  obtain ⟨rest, h1, h2⟩ := pass_all hJ hs
  refine ⟨_, h1, ?_⟩
  refine wp_seq (wp_skip ?_)
  have h3 := wp_mono h2 (fun e a w h => jumps_mono (J' := fun l a' w' => ∃ m, m < n ∧ s.size ≤ 4096 ∧ ∃ bs B ba, JL _ s bs B ba m l a' w') (fun l a w ⟨m, hm, hj⟩ => ⟨m, hm, hs, bs, B, ba, hj⟩) h)
  rw [HQ.out] at h3
  exact h3
end Go.Proofs.YtlpcdpkgnfdpeaaGreatDoor
namespace Go.Proofs.YtlpcdpkgnfdpeaaGreatDoor
open Go.RowKit Go.Maps
def TokRow (b off : Nat) (l : List P11.Tok) (w : World) : Prop :=
 b < w.heap.size ∧ ∀ (j : Nat) (t : P11.Tok), l[j]? = some t →
  w.cell? ⟨b, off + j * 3, none⟩ = some (.int .i64 t.kind) ∧ w.cell? ⟨b, off + j * 3 + 1, none⟩ = some (.string ⟨t.text.toArray⟩) ∧ w.cell? ⟨b, off + j * 3 + 2, none⟩ = some (.int .i64 t.pos)
theorem lexed_ne {s : List UInt8} {l : List P11.Tok} (h : P11.lexed s = .inl l) : l ≠ [] := by
 unfold P11.lexed at h
 split at h
 ·cases h
 ·obtain ⟨l', rfl, -⟩ := P11.toks_form _ s 0 l (Nat.le_refl _) h
  simp
theorem tokens_row (s : ByteArray) (l : List P11.Tok) (h : P11.lexed s.data.toList = .inl l) (w : World) :
  Calls Tryz.prog 97 #[.string s] w fun e w' => ∃ b off cap, e = .returned (.tuple #[.slice (some ⟨b, off, none⟩) l.length cap, .int .i64 0, .int .i64 0]) ∧ TokRow b off l w' ∧ l.length ≤ cap ∧ Below w.heap.size w w' := by
 refine (tokens_any s w).mono ?_
 rintro e w' ⟨hb, ⟨l', v, h1, rfl, pa, cap, rfl, hc⟩ | ⟨a, k, h1, -⟩⟩
 ·rw [h] at h1
  cases h1
  have hne := lexed_ne h
  have h0 : l[0]? = some (l[0]'(List.length_pos_iff.2 hne)) := List.getElem?_eq_getElem _
  obtain ⟨b, off, rfl, c1, -, -, hcap⟩ := hc 0 _ h0
  refine ⟨b, off, cap, rfl, ⟨World.block_lt_of_cell? w' _ c1, fun j t hj => ?_⟩, hcap, hb⟩
  obtain ⟨b', off', e, h2, h3, h4, -⟩ := hc j t hj
  cases e
  exact ⟨h2, h3, h4⟩
 ·rw [h] at h1; cases h1
theorem bytes_eq {x y : ByteArray} (h : x.data.toList = y.data.toList) : x = y := by
 obtain ⟨x⟩ := x
 obtain ⟨y⟩ := y
 simp at h; rw [h]
end Go.Proofs.YtlpcdpkgnfdpeaaGreatDoor
namespace Go.Proofs.YtlpcdpkgnfdpeaaGreatDoor
open Go.RowKit Go.Maps
theorem own_at {W : World} {base : Nat} {v : Value} {l : List P11.Tok} (h : W.ownsRow base 82 3 v l.length (tokCells l)) (hne : l ≠ []) : ∃ g cap, v = .slice (some ⟨g, 0, none⟩) l.length cap := by
 rcases h.2 with ⟨-, h0⟩ | ⟨g, cap, cur, rfl, -⟩
 ·exact absurd (List.length_eq_zero_iff.1 h0) hne
 ·exact ⟨g, cap, rfl⟩
def LexPostR (s : ByteArray) (w0 : World) (e : Ending) (w' : World) : Prop :=
 Below w0.heap.size w0 w' ∧ ((∃ l v, P11.lexed s.data.toList = .inl l ∧ e = .returned (.tuple #[v, .int .i64 0, .int .i64 0]) ∧ ToksAt w' v l ∧ (l ≠ [] → ∃ g cap, v = .slice (some ⟨g, 0, none⟩) l.length cap)) ∨
  ∃ (a : Nat) (k : Int), P11.lexed s.data.toList = .inr (a, k) ∧ e = .returned (.tuple #[.slice none 0 0, .int .i64 a, .int .i64 k]))
theorem refLetter_any (c : UInt8) (w : World) : Calls Tryz.prog 70 #[.int .u8 c.toNat] w fun e w' => e = .returned (.bool (P11.letter c)) ∧ w = w' := by
 have hl := letter_int c
 have h2 : (c.toNat : Int) < 256 := by have := c.toNat_lt; omega
 have HL := Lib.hid hl
 clear hl
 go_enter Tryz.func70, Tryz.ntmps70
 go_wp2
 all_goals
  go_ret
  refine ⟨ret_bool ?_, rfl⟩
  rw [HL.out, Bool.eq_iff_iff]
  simp
  try omega
theorem refDigit_any (c : UInt8) (w : World) : Calls Tryz.prog 71 #[.int .u8 c.toNat] w fun e w' => e = .returned (.bool (P11.digit c)) ∧ w = w' := by
 have hl := digit_int c
 have h2 : (c.toNat : Int) < 256 := by have := c.toNat_lt; omega
 have HL := Lib.hid hl
 clear hl
 go_enter Tryz.func71, Tryz.ntmps71
 go_wp2
 all_goals
  go_ret
  refine ⟨ret_bool ?_, rfl⟩
  rw [HL.out, Bool.eq_iff_iff]
  simp
  try omega
theorem refWords_any (w : World) : Calls Tryz.prog 143 #[] w fun e w' => ∃ v, e = .returned v ∧ StrsAt w' v P11.words ∧ Below w.heap.size w w' := by
 go_enter Tryz.func143, Tryz.ntmps143
 go_wp2
 go_ret
 exact ⟨_, rfl, StrsAt.new w P11.words _ _ 43 (by kernel_rfl) (by kernel_rfl), Xk.xt⟩
def wordB (u : List UInt8) : Bool := P11.words.contains u
theorem isWord_any (u : List UInt8) (w : World) : Calls Tryz.prog 73 #[.string ⟨u.toArray⟩] w fun e w' => e = .returned (.bool (wordB u)) ∧ Below w.heap.size w w' := by
 go_enter Tryz.func73, Tryz.ntmps73
 go_wp2_with fail
 (with_reducible refine (refWords_any _).mono ?_)
 rintro e w1 ⟨v, rfl, ⟨b, off, cap, rfl, hc⟩, hb⟩
 have h43 : P11.words.length = 43 := rfl
 rw [h43]
 have HC := Lib.hid hc
 have HB := Lib.hid hb
 clear hc hb h43
 go_wp2
 go_loop [4] (fun x => ∃ q : Nat, q ≤ 43 ∧ x = .int .i64 q ∧ Hid (∀ (j : Nat) y, j < q → P11.words[j]? = some y → y ≠ u)) (fun x => 43 - (intOf x).toNat)
 case atStart => exact ⟨0, Nat.zero_le _, rfl, Lib.hid fun j y hj => by omega⟩
 case round =>
  obtain ⟨q, hq, rfl, HN⟩ := hrel
  by_cases hlt : q < 43
  ·have hx : P11.words[q]? = some (P11.words[q]'hlt) := List.getElem?_eq_getElem _
   have c1 := HC.out q _ hx
   have HX := Lib.hid hx
   have q1 : (q : Int) < 43 := by omega
   clear hx
   generalize P11.words[q]'hlt = x at *
   by_cases he : x = u
   ·subst he
    have hc : wordB x = true := by unfold wordB; simpa using List.mem_of_getElem? HX.out
    have HCn := Lib.hid hc
    clear hc
    go_wp2
    go_ret
    exact ⟨ret_bool HCn.out.symm, HB.out⟩
   ·have HE := Lib.hid he
    have hne : (x == u) = false := by simpa using he
    go_wp2
    go_round
    case rel => exact ⟨q + 1, by omega, by go_num, Lib.hid fun j y hj hy => by
     by_cases hjq : j = q
     ·subst hjq; rw [HX.out] at hy; cases hy; exact HE.out
     ·exact HN.out j y (by omega) hy⟩
    case measure => simp [intOf]; omega
  ·have hc : wordB u = false := by
    unfold wordB
    rw [Bool.eq_false_iff]
    intro h
    obtain ⟨j, hj⟩ := List.mem_iff_getElem?.1 (by simpa using h : u ∈ P11.words)
    have hj43 : j < 43 := (List.getElem?_eq_some_iff.1 hj).1
    exact HN.out j u (by omega) hj rfl
   have HCn := Lib.hid hc
   clear hc
   go_wp2
   go_ret
   exact ⟨ret_bool HCn.out.symm, HB.out⟩
end Go.Proofs.YtlpcdpkgnfdpeaaGreatDoor
namespace Go.Proofs.YtlpcdpkgnfdpeaaGreatDoor
open Go.RowKit Go.Maps
def caseB (cap : Bool) (c : UInt8) : UInt8 := if cap then Lib.upperB c else Lib.lowerB c
def turned (cap : Bool) (l : List UInt8) (q j : Nat) : UInt8 := if j < q then caseB cap (l.getD j 0) else l.getD j 0
structure CasedW (w : World) (b : Nat) (cap : Bool) (l : List UInt8) (q : Nat) (wr : World) : Prop where
 below : Below w.heap.size w wr
 hb : w.heap.size ≤ b
 lt : b < wr.heap.size
 cell : ∀ j, j < l.length → wr.cell? ⟨b, j, none⟩ = some (.int .u8 (turned cap l q j).toNat)
 free : ∀ j, j < l.length → wr.frozen? ⟨b, j, none⟩ = false
theorem CasedW.put {w wr : World} {b : Nat} {cap : Bool} {l : List UInt8} {q : Nat} (h : CasedW w b cap l q wr) (hq : q < l.length) : CasedW w b cap l (q + 1) (wr.setCell ⟨b, q, none⟩ (.int .u8 (caseB cap (l.getD q 0)).toNat)) where
 below := h.below.setCell h.hb _
 hb := h.hb
 lt := by simpa using h.lt
 cell := fun j hj => by
  by_cases hjq : j = q
  ·subst hjq
   rw [World.cell?_setCell_same _ _ _ (h.cell j hj)]
   unfold turned; rw [if_pos (by omega)]
  ·rw [World.cell?_setCell_other _ _ _ _ (by intro e; cases e; exact hjq rfl), h.cell j hj]
   unfold turned
   by_cases hlt : j < q
   ·rw [if_pos hlt, if_pos (by omega)]
   ·rw [if_neg hlt, if_neg (by omega)]
 free := fun j hj => by rw [World.frozen?_setCell]; exact h.free j hj
theorem CasedW.keep {w wr : World} {b : Nat} {cap : Bool} {l : List UInt8} {q : Nat} (h : CasedW w b cap l q wr) (hlt : q < l.length) (hq : caseB cap (l.getD q 0) = l.getD q 0) : CasedW w b cap l (q + 1) wr where
 below := h.below
 hb := h.hb
 lt := h.lt
 cell := fun j hj => by
  rw [h.cell j hj]
  unfold turned
  by_cases hlt : j < q
  ·rw [if_pos hlt, if_pos (by omega)]
  ·rw [if_neg hlt]
   by_cases hjq : j = q
   ·subst hjq; rw [if_pos (by omega), hq]
   ·rw [if_neg (by omega)]
 free := h.free
theorem CasedW.start (s : ByteArray) (cap : Bool) (w : World) : CasedW w w.heap.size cap s.data.toList 0 (Lib.bytesWorld w 5 s) where
 below := Lib.bytesWorld_below w _ s
 hb := Nat.le_refl _
 lt := by rw [Lib.bytesWorld_size]; omega
 cell := fun j hj => by rw [Lib.bytesWorld_cell _ _ _ _ hj]; rfl
 free := fun j hj => by
  have h1 : s.size ≤ (Lib.bytesCells w 5 s).size := by simp [Lib.bytesCells]
  have h2 : j < s.size := hj
  unfold World.frozen?
  rw [show (⟨w.heap.size, j, none⟩ : Addr).block = w.heap.size from rfl, Lib.bytesWorld_at_new]
  simp; omega
theorem upper_hit {c : UInt8} (h : 97 ≤ (c.toNat : Int) ∧ (c.toNat : Int) ≤ 122) : ((Lib.upperB c).toNat : Int) = c.toNat - 32 := by
 have := P11.u8_imp (p := fun c => decide (97 ≤ c.toNat ∧ c.toNat ≤ 122)) (q := fun c => (Lib.upperB c).toNat == c.toNat - 32) (by decide +kernel) c (by simp; omega)
 simp at this; omega
theorem upper_miss {c : UInt8} (h : ¬ (97 ≤ (c.toNat : Int) ∧ (c.toNat : Int) ≤ 122)) : Lib.upperB c = c := by
 have := P11.u8_imp (p := fun c => decide (¬ (97 ≤ c.toNat ∧ c.toNat ≤ 122))) (q := fun c => Lib.upperB c == c) (by decide +kernel) c (by simp; omega)
 simpa using this
theorem lower_hit {c : UInt8} (h : 65 ≤ (c.toNat : Int) ∧ (c.toNat : Int) ≤ 90) : ((Lib.lowerB c).toNat : Int) = c.toNat + 32 := by
 have := P11.u8_imp (p := fun c => decide (65 ≤ c.toNat ∧ c.toNat ≤ 90)) (q := fun c => (Lib.lowerB c).toNat == c.toNat + 32) (by decide +kernel) c (by simp; omega)
 simp at this; omega
theorem lower_miss {c : UInt8} (h : ¬ (65 ≤ (c.toNat : Int) ∧ (c.toNat : Int) ≤ 90)) : Lib.lowerB c = c := by
 have := P11.u8_imp (p := fun c => decide (¬ (65 ≤ c.toNat ∧ c.toNat ≤ 90))) (q := fun c => Lib.lowerB c == c) (by decide +kernel) c (by simp; omega)
 simpa using this
theorem CasedW.str {w wr : World} {b : Nat} {cap : Bool} {l : List UInt8} {q : Nat} (h : CasedW w b cap l q wr) (hq : l.length ≤ q) (k n : Nat) (hn : n = l.length) :
  (convert 57 9 (.slice (some ⟨b, 0, none⟩) n k)).run Tryz.prog wr = .ok (.string ⟨(l.map (caseB cap)).toArray⟩) wr := by
 subst hn
 have := Xk.run_bstr (P := Tryz.prog) wr 57 9 5 Tryz.underlying57 Tryz.underlying5 Tryz.underlying9 b 0 l.length k ((l.map (caseB cap)).map fun c => (c.toNat : Int)) (by simp) (fun j hj => by
  rw [Nat.zero_add, h.cell j hj]
  unfold turned
  rw [if_pos (by omega)]
  simp [List.getD_eq_getElem?_getD, hj])
 rw [this, List.map_map]
 have e : ((fun n : Int => UInt8.ofNat n.toNat) ∘ fun c : UInt8 => (c.toNat : Int)) = id := by funext c; simp
 rw [e, List.map_id]
theorem cased_any (s : ByteArray) (cap : Bool) (hs : s.size ≤ 1000000) (w : World) :
  Calls Tryz.prog 72 #[.string s, .bool cap] w fun e w' => e = .returned (.string ⟨(s.data.toList.map (caseB cap)).toArray⟩) ∧ Below w.heap.size w w' := by
 have kc := fun (w : World) (s : ByteArray) => Lib.run_convert_string_bytes (P := Tryz.prog) w 9 57 5 s Tryz.underlying9 Tryz.underlying57 Tryz.underlying5
 go_enter Tryz.func72, Tryz.ntmps72
 go_wp2
 have hL : s.data.toList.length = s.size := rfl
 go_loopw [6] (fun x wr => ∃ q : Nat, q ≤ s.size ∧ x = .int .i64 q ∧ CasedW w w.heap.size cap s.data.toList q wr) (fun x _ => s.size - (intOf x).toNat)
 case atStart => exact ⟨0, Nat.zero_le _, rfl, CasedW.start s cap w⟩
 case round =>
  obtain ⟨q, hq, rfl, hC⟩ := hrel
  have HC := Lib.hid hC
  have lt1 := hC.lt
  by_cases hlt : q < s.size
  ·have c1 := hC.cell q hlt
   have f1 := hC.free q hlt
   unfold turned at c1
   rw [if_neg (Nat.lt_irrefl q)] at c1
   have hput := hC.put hlt
   have hkeep := hC.keep hlt
   have HP := Lib.hid hput
   have HK := Lib.hid hkeep
   clear hC hput hkeep
   have c8 : ((s.data.toList.getD q 0).toNat : Int) < 256 := by have := (s.data.toList.getD q 0).toNat_lt; omega
   have q1 : (q : Int) < (s.size : Int) := by omega
   generalize s.data.toList.getD q 0 = c at *
   cases cap
   ·by_cases hr : 65 ≤ (c.toNat : Int) ∧ (c.toNat : Int) ≤ 90
    ·obtain ⟨r1, r2⟩ := hr
     have hv := lower_hit ⟨r1, r2⟩
     have HV := Lib.hid hv
     clear hv
     go_wp2
     go_roundw
     case rel => exact ⟨q + 1, by omega, by go_num, by
      have h := HP.out
      rw [show ((caseB false c).toNat : Int) = c.toNat + 32 from HV.out] at h
      exact h⟩
     case measure => simp [intOf]; omega
    ·have hv := lower_miss hr
     have HV := Lib.hid hv
     clear hv
     by_cases r1 : 65 ≤ (c.toNat : Int)
     ·have r2 : ¬ (c.toNat : Int) ≤ 90 := fun h => hr ⟨r1, h⟩
      clear hr
      go_wp2
      go_roundw
      case rel => exact ⟨q + 1, by omega, by go_num, HK.out HV.out⟩
      case measure => simp [intOf]; omega
     ·clear hr
      go_wp2
      go_roundw
      case rel => exact ⟨q + 1, by omega, by go_num, HK.out HV.out⟩
      case measure => simp [intOf]; omega
   ·by_cases hr : 97 ≤ (c.toNat : Int) ∧ (c.toNat : Int) ≤ 122
    ·obtain ⟨r1, r2⟩ := hr
     have hv := upper_hit ⟨r1, r2⟩
     have HV := Lib.hid hv
     clear hv
     go_wp2
     go_roundw
     case rel => exact ⟨q + 1, by omega, by go_num, by
      have h := HP.out
      rw [show ((caseB true c).toNat : Int) = c.toNat - 32 from HV.out] at h
      exact h⟩
     case measure => simp [intOf]; omega
    ·have hv := upper_miss hr
     have HV := Lib.hid hv
     clear hv
     by_cases r1 : 97 ≤ (c.toNat : Int)
     ·have r2 : ¬ (c.toNat : Int) ≤ 122 := fun h => hr ⟨r1, h⟩
      clear hr
      go_wp2
      go_roundw
      case rel => exact ⟨q + 1, by omega, by go_num, HK.out HV.out⟩
      case measure => simp [intOf]; omega
     ·clear hr
      go_wp2
      go_roundw
      case rel => exact ⟨q + 1, by omega, by go_num, HK.out HV.out⟩
      case measure => simp [intOf]; omega
  ·have hb := hC.str (by rw [hL]; omega) (grownCap w s.size 0 5) s.size hL.symm
   clear hC
   go_wp2
   go_ret
   exact ⟨rfl, HC.out.below⟩
end Go.Proofs.YtlpcdpkgnfdpeaaGreatDoor
namespace Go.Proofs.YtlpcdpkgnfdpeaaGreatDoor
open Go.RowKit Go.Maps
theorem Tryz.infoByte : (Tryz.prog.info? 5).map (fun i => (i.zero, i.size, i.bytes)) = some (some (.int .u8 0), 1, 1) := by kernel_rfl
def ZeroAt (l : List UInt8) (a k : Nat) (z : Int) : Prop :=
 (z = -1 ∧ ∀ j, a ≤ j → j < k → l.getD j 1 ≠ 0) ∨ ∃ n : Nat, z = n ∧ a ≤ n ∧ n < k ∧ l.getD n 1 = 0 ∧ ∀ j, a ≤ j → j < n → l.getD j 1 ≠ 0
theorem ZeroAt.skip {l : List UInt8} {a k : Nat} {z : Int} (h : ZeroAt l a k z) (hk : l.getD k 1 ≠ 0) : ZeroAt l a (k + 1) z := by
 rcases h with ⟨rfl, h⟩ | ⟨n, rfl, h1, h2, h3, h4⟩
 ·refine .inl ⟨rfl, fun j h1 h2 => ?_⟩
  by_cases hj : j = k
  ·subst hj; exact hk
  ·exact h j h1 (by omega)
 ·exact .inr ⟨n, rfl, h1, by omega, h3, h4⟩
theorem ZeroAt.hit {l : List UInt8} {a k : Nat} (h : ZeroAt l a k (-1)) (hak : a ≤ k) (hk : l.getD k 1 = 0) : ZeroAt l a (k + 1) k := by
 rcases h with ⟨-, h⟩ | ⟨n, e, -⟩
 ·exact .inr ⟨k, rfl, hak, by omega, hk, h⟩
 ·omega
theorem ZeroAt.more {l : List UInt8} {a k : Nat} {z : Int} (h : ZeroAt l a k z) (hz : 0 ≤ z) : ZeroAt l a (k + 1) z := by
 rcases h with ⟨rfl, h⟩ | ⟨n, rfl, h1, h2, h3, h4⟩
 ·omega
 ·exact .inr ⟨n, rfl, h1, by omega, h3, h4⟩
theorem ZeroAt.ge {l : List UInt8} {a k : Nat} {z : Int} (h : ZeroAt l a k z) : -1 ≤ z ∧ z < k ∨ z = -1 := by
 rcases h with ⟨rfl, h⟩ | ⟨n, rfl, h1, h2, h3, h4⟩
 ·exact .inr rfl
 ·exact .inl ⟨by omega, by omega⟩
def refTextR (l : List UInt8) (a : Nat) : Value := match P11.textOf (l.drop (a + 1)) with
 | none => .tuple #[.string ⟨#[]⟩, .int .i64 0, .int .i64 a, .int .i64 112]
 | some x => if ((l.drop a).take (x.2 + 1)).contains 0 then .tuple #[.string ⟨#[]⟩, .int .i64 0, .int .i64 ((a + ((l.drop a).take (x.2 + 1)).idxOf 0 : Nat) : Int), .int .i64 111]
  else .tuple #[.string ⟨x.1.toArray⟩, .int .i64 ((a + 1 + x.2 : Nat) : Int), .int .i64 0, .int .i64 0]
theorem no_zero {l : List UInt8} {a k : Nat} (h : ZeroAt l a k (-1)) (hk : k ≤ l.length) (hak : a ≤ k) : ((l.drop a).take (k - a)).contains 0 = false := by
 rcases h with ⟨-, h⟩ | ⟨n, e, -⟩
 ·rw [Bool.eq_false_iff]
  intro hc
  obtain ⟨j, hj⟩ := List.mem_iff_getElem?.1 (by simpa using hc : (0 : UInt8) ∈ (l.drop a).take (k - a))
  rw [List.getElem?_take] at hj
  split at hj
  ·rw [List.getElem?_drop] at hj
   exact h (a + j) (by omega) (by omega) (by rw [List.getD_eq_getElem?_getD, hj]; rfl)
  ·cases hj
 ·omega
theorem one_zero {l : List UInt8} {a k n : Nat} (h : ZeroAt l a k n) (hk : k ≤ l.length) : ((l.drop a).take (k - a)).contains 0 = true ∧ a + ((l.drop a).take (k - a)).idxOf 0 = n := by
 rcases h with ⟨e, h⟩ | ⟨m, e, h1, h2, h3, h4⟩
 ·omega
 ·obtain rfl : m = n := by omega
  have hat : ((l.drop a).take (k - a))[m - a]? = some 0 := by
   rw [List.getElem?_take, if_pos (by omega), List.getElem?_drop, show a + (m - a) = m by omega, List.getElem?_eq_getElem (show m < l.length by omega)]
   rw [List.getD_eq_getElem?_getD, List.getElem?_eq_getElem (show m < l.length by omega)] at h3
   simpa using h3
  have hlt := (List.getElem?_eq_some_iff.1 hat).1
  refine ⟨by simpa using List.mem_of_getElem? hat, ?_⟩
  have : ((l.drop a).take (k - a)).idxOf 0 = m - a := by
   refine P11.idx_at 0 _ (m - a) ?_ ?_
   ·intro hc
    obtain ⟨j, hj⟩ := List.mem_iff_getElem?.1 hc
    rw [List.getElem?_take] at hj
    split at hj
    ·rw [List.getElem?_take] at hj
     split at hj
     ·rw [List.getElem?_drop] at hj
      exact h4 (a + j) (by omega) (by omega) (by rw [List.getD_eq_getElem?_getD, hj]; rfl)
     ·cases hj
    ·cases hj
   ·rw [List.drop_eq_getElem_cons hlt]
    have := (List.getElem?_eq_some_iff.1 hat).2
    rw [this]
  omega
end Go.Proofs.YtlpcdpkgnfdpeaaGreatDoor
namespace Go.Xk
open Go.RowKit
theorem cells1 {W : World} {g : Nat} {x : Value} {t : TypeId} (h : g = W.heap.size) : ∀ (j : Nat) u, [x][j]? = some u → (W.alloc (Obj.cells #[x] t)).cell? ⟨g, 0 + j, none⟩ = some u := by
 subst h
 intro j u hj
 rw [World.cell?_alloc_mark]
 match j, hj with
 | 0, hj => simpa using hj
end Go.Xk
namespace Go.Proofs.YtlpcdpkgnfdpeaaGreatDoor
open Go.RowKit Go.Maps
theorem getD_byte (s : ByteArray) (k : Nat) (h : k < s.size) : s.data.toList.getD k 1 = s[k] := by
 rw [List.getD_eq_getElem?_getD, List.getElem?_eq_getElem (show k < s.data.toList.length from h)]; rfl
theorem own_bytes {W : World} {base : Nat} {v : Value} {t : List UInt8} (h : W.ownsRow base 5 1 v t.length (Xk.bcells t)) : (convert 57 9 v).run Tryz.prog W = .ok (.string ⟨t.toArray⟩) W :=
 Xk.Acc.str (.inl h) 57 9 5 Tryz.underlying57 Tryz.underlying5 Tryz.underlying9
theorem refTextR_end {l : List UInt8} {a k : Nat} {t : List UInt8} {Z : Int} (hak : a < k) (hk : k < l.length) (hT : P11.textOf (l.drop (a + 1)) = (P11.textOf (l.drop k)).map fun y => (t ++ y.1, y.2 + (k - (a + 1))))
  (hdk : l.drop k = 39 :: l.drop (k + 1)) (hq : (l.drop (k + 1)).head? ≠ some 39) (hz : ZeroAt l a (k + 1) Z) :
  (Z < 0 → refTextR l a = .tuple #[.string ⟨t.toArray⟩, .int .i64 (k + 1), .int .i64 0, .int .i64 0]) ∧ (¬ Z < 0 → refTextR l a = .tuple #[.string ⟨#[]⟩, .int .i64 0, .int .i64 Z, .int .i64 111]) := by
 rw [hdk, P11.textOf_q _ hq] at hT
 have e1 : 1 + (k - (a + 1)) + 1 = k + 1 - a := by omega
 have e2 : a + 1 + (1 + (k - (a + 1))) = k + 1 := by omega
 constructor
 ·intro hn
  have hZ : Z = -1 := by rcases hz.ge with h | h <;> omega
  subst hZ
  have h0 := no_zero hz (by omega) (by omega)
  unfold refTextR
  rw [hT]
  simp only [Option.map_some, List.append_nil]
  rw [e1, h0, e2]
  rfl
 ·intro hn
  obtain ⟨n, rfl⟩ : ∃ n : Nat, Z = n := ⟨Z.toNat, by omega⟩
  obtain ⟨h0, h1⟩ := one_zero hz (by omega)
  unfold refTextR
  rw [hT]
  simp only [Option.map_some, List.append_nil]
  rw [e1, h0, if_pos rfl, h1]
theorem own_snoc {W : World} {base : Nat} {v : Value} {t : List UInt8} {c : UInt8} (h : W.ownsRow base 5 1 v (t.length + 1) (Xk.bcells t ++ [.int .u8 c.toNat])) : W.ownsRow base 5 1 v (t ++ [c]).length (Xk.bcells (t ++ [c])) := by
 rw [← Xk.bcells_snoc, List.length_append]; exact h
theorem refText_any (s : ByteArray) (a : Nat) (ha : a < s.size) (hc0 : s[a] = 39) (hs : s.size ≤ 1000000) (w : World) :
  Calls Tryz.prog 74 #[.string s, .int .i64 a] w fun e w' => e = .returned (refTextR s.data.toList a) ∧ Below w.heap.size w w' := by
 have hz0 : ZeroAt s.data.toList a (a + 1) (-1) := .inl ⟨rfl, fun j h1 h2 => by
  obtain rfl : j = a := by omega
  rw [getD_byte s j ha, hc0]; decide⟩
 have HZ0 := Lib.hid hz0
 have HA := Lib.hid ha
 clear hz0 hc0
 obtain ⟨i0, hi, hz0, hz1, hz2⟩ := info_parts Tryz.infoByte
 have Hi := Lib.hid hi
 have Hz0 := Lib.hid hz0
 have Hz1 := Lib.hid hz1
 have Hz2 := Lib.hid hz2
 clear hi hz0 hz1 hz2
 go_enter Tryz.func74, Tryz.ntmps74
 go_wp2
 go_loopw [8, 9, 10] (fun z v x wr => ∃ (k : Nat) (Z : Int) (t : List UInt8), a < k ∧ k ≤ s.size ∧ x = .int .i64 k ∧ z = .int .i64 Z ∧ t.length ≤ k ∧ Below w.heap.size w wr ∧ wr.ownsRow w.heap.size 5 1 v t.length (Xk.bcells t) ∧ ZeroAt s.data.toList a k Z ∧
   P11.textOf (s.data.toList.drop (a + 1)) = (P11.textOf (s.data.toList.drop k)).map fun y => (t ++ y.1, y.2 + (k - (a + 1)))) (fun _ _ x _ => s.size - (intOf x).toNat)
 case atStart => exact ⟨a + 1, -1, [], by omega, HA.out, rfl, rfl, by simp, Below.refl _ _, World.ownsRow_nil _ _ _ _, HZ0.out, by cases P11.textOf (s.data.toList.drop (a + 1)) <;> simp⟩
 case round =>
  obtain ⟨k, Z, t, hak, hk, rfl, rfl, htk, hB, hown, hZ, hT⟩ := hrel
  obtain ⟨p, rfl⟩ := Xk.exw_of hB
  have hge := hZ.ge
  have HO := Lib.hid hown
  have HZ := Lib.hid hZ
  have HT := Lib.hid hT
  have hcv := own_bytes hown
  clear hB hown hZ hT
  by_cases hlt : k < s.size
  ·have hgd := getD_byte s k hlt
   have hdk := drop_at s k hlt
   have hb8 : (s[k].toNat : Int) < 256 := by have := s[k].toNat_lt; omega
   by_cases hc : s[k] = 39
   ·have h39 : ((s[k].toNat : Int) == 39) = true := eq_byte hc 39 rfl
    rw [hc] at hdk hgd
    have hz' := HZ.out.skip (by rw [hgd]; decide)
    clear hgd
    by_cases he : k + 1 < s.size
    ·have he1 : ((k : Int) + 1 == (s.size : Int)) = false := by rw [beq_eq_false_iff_ne]; omega
     have he2 : (k : Int) + 1 < (s.size : Int) := by omega
     by_cases hc2 : s[k + 1] = 39
     ·have hd2 := drop_at s (k + 1) he
      rw [hc2] at hd2
      have f1 : ((s[k + 1].toNat : Int) == 39) = true := eq_byte hc2 39 rfl
      have f2 : ((s[k + 1].toNat : Int) != 39) = false := by rw [bne, f1]; rfl
      have f3 : ((s[k + 1].toNat : Int) == 0) = false := ne_byte (d := 0) (by rw [hc2]; decide) 0 rfl
      have f8 : (s[k + 1].toNat : Int) < 256 := by have := s[k + 1].toNat_lt; omega
      have hz2 := hz'.skip (by rw [getD_byte s (k + 1) he, hc2]; decide)
      have hT' : P11.textOf (s.data.toList.drop (a + 1)) = (P11.textOf (s.data.toList.drop (k + 2))).map fun y => (t ++ [s[k + 1]] ++ y.1, y.2 + (k + 2 - (a + 1))) := by
       rw [HT.out, hdk, hd2, P11.textOf_qq, hc2]
       cases P11.textOf (s.data.toList.drop (k + 1 + 1)) with
       | none => rfl
       | some y => simp; omega
      have HT' := Lib.hid hT'
      have HZ' := Lib.hid hz2
      clear hT' hdk hc hc2 hcv hz' hz2 hd2
      go_wp2_with (at_builtin; refine Xk.wpList_own (w0 := w) rfl _ _ 57 rfl 5 i0 _ 1 1 Tryz.underlying57 Hi.out Hz0.out Hz1.out Hz2.out rfl (by decide) u9 t.length (Xk.bcells t) rfl (Xs.ow HO.out) _ 0 1 1 [.int .u8 s[k + 1].toNat] rfl rfl (Xk.cells1 (by simp)) (by intro u hu; simp only [List.mem_cons, List.not_mem_nil, or_false] at hu; rcases hu with rfl; rfl) (by omega) Xk.xt ?_; intro v' p' ho'; have Ho := Lib.hid ho'; clear ho')
      go_roundw
      case rel => exact ⟨k + 2, Z, t ++ [s[k + 1]], by omega, by omega, by go_num, rfl, by rw [List.length_append, List.length_singleton]; omega, Xk.xt, own_snoc Ho.out, HZ'.out, HT'.out⟩
      case measure => simp [intOf]; omega
     ·have f1 : ((s[k + 1].toNat : Int) == 39) = false := ne_byte hc2 39 rfl
      have f2 : ((s[k + 1].toNat : Int) != 39) = true := by rw [bne, f1]; rfl
      have hend := refTextR_end hak hlt HT.out hdk (by rw [drop_at s (k + 1) he]; intro h; exact hc2 (Option.some.inj h)) hz'
      have HEnd := Lib.hid hend
      clear hend hdk hc hc2 hz'
      by_cases hzn : Z < 0
      ·go_wp2
       rw [HEnd.out.1 hzn]
       exact bodyPost_ret (v := .tuple #[.string ⟨t.toArray⟩, .int .i64 (k + 1), .int .i64 0, .int .i64 0]) (by simp [results, Tryz.results74, go_sem]) rfl ⟨rfl, Xk.xt⟩
      ·have hzn2 : 0 ≤ Z := by omega
       go_wp2
       rw [HEnd.out.2 hzn]
       exact bodyPost_ret (v := .tuple #[.string ⟨#[]⟩, .int .i64 0, .int .i64 Z, .int .i64 111]) (by simp [results, Tryz.results74, go_sem]) rfl ⟨rfl, Xk.xt⟩
    ·have he0 : k + 1 = s.size := by omega
     have he1 : ((k : Int) + 1 == (s.size : Int)) = true := by rw [beq_iff_eq]; omega
     have hend := refTextR_end hak hlt HT.out hdk (by rw [he0, List.drop_of_length_le (Nat.le_refl s.size)]; decide) hz'
     have HEnd := Lib.hid hend
     clear hend hdk hc hz' he0
     by_cases hzn : Z < 0
     ·go_wp2
      rw [HEnd.out.1 hzn]
      exact bodyPost_ret (v := .tuple #[.string ⟨t.toArray⟩, .int .i64 (k + 1), .int .i64 0, .int .i64 0]) (by simp [results, Tryz.results74, go_sem]) rfl ⟨rfl, Xk.xt⟩
     ·have hzn2 : 0 ≤ Z := by omega
      go_wp2
      rw [HEnd.out.2 hzn]
      exact bodyPost_ret (v := .tuple #[.string ⟨#[]⟩, .int .i64 0, .int .i64 Z, .int .i64 111]) (by simp [results, Tryz.results74, go_sem]) rfl ⟨rfl, Xk.xt⟩
   ·have h39 : ((s[k].toNat : Int) == 39) = false := ne_byte hc 39 rfl
    have hT' : P11.textOf (s.data.toList.drop (a + 1)) = (P11.textOf (s.data.toList.drop (k + 1))).map fun y => (t ++ [s[k]] ++ y.1, y.2 + (k + 1 - (a + 1))) := by
     rw [HT.out, hdk, P11.textOf_ne _ _ hc]
     cases P11.textOf (s.data.toList.drop (k + 1)) with
     | none => rfl
     | some y => simp; omega
    have HT' := Lib.hid hT'
    clear hT' hdk hc hcv
    by_cases h0 : s[k] = 0
    ·have h00 : ((s[k].toNat : Int) == 0) = true := eq_byte h0 0 rfl
     by_cases hzn : Z < 0
     ·obtain rfl : Z = -1 := by omega
      have hz' := HZ.out.hit (by omega) (by rw [hgd]; exact h0)
      have HZ' := Lib.hid hz'
      clear hz' h0 hgd hge
      go_wp2_with (at_builtin; refine Xk.wpList_own (w0 := w) rfl _ _ 57 rfl 5 i0 _ 1 1 Tryz.underlying57 Hi.out Hz0.out Hz1.out Hz2.out rfl (by decide) u9 t.length (Xk.bcells t) rfl (Xs.ow HO.out) _ 0 1 1 [.int .u8 s[k].toNat] rfl rfl (Xk.cells1 (by simp)) (by intro u hu; simp only [List.mem_cons, List.not_mem_nil, or_false] at hu; rcases hu with rfl; rfl) (by omega) Xk.xt ?_; intro v' p' ho'; have Ho := Lib.hid ho'; clear ho')
      go_roundw
      case rel => exact ⟨k + 1, k, t ++ [s[k]], by omega, by omega, by go_num, rfl, by rw [List.length_append, List.length_singleton]; omega, Xk.xt, own_snoc Ho.out, HZ'.out, HT'.out⟩
      case measure => simp [intOf]; omega
     ·have hzn2 : 0 ≤ Z := by omega
      have hz' := HZ.out.more hzn2
      have HZ' := Lib.hid hz'
      clear hz' h0 hgd hge
      go_wp2_with (at_builtin; refine Xk.wpList_own (w0 := w) rfl _ _ 57 rfl 5 i0 _ 1 1 Tryz.underlying57 Hi.out Hz0.out Hz1.out Hz2.out rfl (by decide) u9 t.length (Xk.bcells t) rfl (Xs.ow HO.out) _ 0 1 1 [.int .u8 s[k].toNat] rfl rfl (Xk.cells1 (by simp)) (by intro u hu; simp only [List.mem_cons, List.not_mem_nil, or_false] at hu; rcases hu with rfl; rfl) (by omega) Xk.xt ?_; intro v' p' ho'; have Ho := Lib.hid ho'; clear ho')
      go_roundw
      case rel => exact ⟨k + 1, Z, t ++ [s[k]], by omega, by omega, by go_num, rfl, by rw [List.length_append, List.length_singleton]; omega, Xk.xt, own_snoc Ho.out, HZ'.out, HT'.out⟩
      case measure => simp [intOf]; omega
    ·have h00 : ((s[k].toNat : Int) == 0) = false := ne_byte h0 0 rfl
     have hz' := HZ.out.skip (by rw [hgd]; exact h0)
     have HZ' := Lib.hid hz'
     clear hz' h0 hgd hge
     go_wp2_with (at_builtin; refine Xk.wpList_own (w0 := w) rfl _ _ 57 rfl 5 i0 _ 1 1 Tryz.underlying57 Hi.out Hz0.out Hz1.out Hz2.out rfl (by decide) u9 t.length (Xk.bcells t) rfl (Xs.ow HO.out) _ 0 1 1 [.int .u8 s[k].toNat] rfl rfl (Xk.cells1 (by simp)) (by intro u hu; simp only [List.mem_cons, List.not_mem_nil, or_false] at hu; rcases hu with rfl; rfl) (by omega) Xk.xt ?_; intro v' p' ho'; have Ho := Lib.hid ho'; clear ho')
     go_roundw
     case rel => exact ⟨k + 1, Z, t ++ [s[k]], by omega, by omega, by go_num, rfl, by rw [List.length_append, List.length_singleton]; omega, Xk.xt, own_snoc Ho.out, HZ'.out, HT'.out⟩
     case measure => simp [intOf]; omega
  ·have hend : refTextR s.data.toList a = .tuple #[.string ⟨#[]⟩, .int .i64 0, .int .i64 a, .int .i64 112] := by
    unfold refTextR
    rw [HT.out, List.drop_of_length_le (show s.data.toList.length ≤ k from by show s.size ≤ k; omega)]
    rfl
   have HEnd := Lib.hid hend
   clear hend hcv
   go_wp2
   rw [HEnd.out]
   exact bodyPost_ret (v := .tuple #[.string ⟨#[]⟩, .int .i64 0, .int .i64 a, .int .i64 112]) (by simp [results, Tryz.results74, go_sem]) rfl ⟨rfl, Xk.xt⟩
end Go.Proofs.YtlpcdpkgnfdpeaaGreatDoor
namespace P11
def ones : List UInt8 := [40, 41, 44, 46, 42, 61, 60, 62, 43, 45, 47, 37, 59]
def two (c d : UInt8) : Bool := (c == 60 && d == 62) || (c == 60 && d == 61) || (c == 62 && d == 61) || (c == 124 && d == 124)
theorem ones_find (c : UInt8) (t : List UInt8) : (ones.map fun x => [x]).find? (fun x => x.isPrefixOf (c :: t)) = if c ∈ ones then some [c] else none := by
 unfold ones
 by_cases h : c ∈ ([40, 41, 44, 46, 42, 61, 60, 62, 43, 45, 47, 37, 59] : List UInt8)
 ·rw [if_pos h]
  simp only [List.mem_cons, List.not_mem_nil, or_false] at h
  rcases h with rfl | rfl | rfl | rfl | rfl | rfl | rfl | rfl | rfl | rfl | rfl | rfl | rfl <;> simp [List.find?, List.isPrefixOf]
 ·rw [if_neg h, List.find?_eq_none]
  intro x hx
  obtain ⟨y, hy, rfl⟩ := List.mem_map.1 hx
  simp only [List.isPrefixOf, Bool.and_true, beq_iff_eq]
  intro e; subst e; exact h hy
theorem signOf_one (c : UInt8) : signOf [c] = if c ∈ ones then some [c] else none := by
 rw [← ones_find c []]
 unfold signOf signs ones
 simp [List.find?, List.isPrefixOf]
theorem signOf_two {c d : UInt8} (r : List UInt8) (h : two c d = true) : signOf (c :: d :: r) = some [c, d] := by
 simp only [two, Bool.or_eq_true, Bool.and_eq_true, beq_iff_eq] at h
 rcases h with ((⟨rfl, rfl⟩ | ⟨rfl, rfl⟩) | ⟨rfl, rfl⟩) | ⟨rfl, rfl⟩ <;> simp [signOf, signs, List.find?, List.isPrefixOf]
theorem signOf_not {c d : UInt8} (r : List UInt8) (h : two c d = false) : signOf (c :: d :: r) = if c ∈ ones then some [c] else none := by
 rw [← ones_find c (d :: r)]
 simp only [two, Bool.or_eq_false_iff, Bool.and_eq_false_iff, beq_eq_false_iff_ne] at h
 obtain ⟨⟨⟨h1, h2⟩, h3⟩, h4⟩ := h
 have p : ∀ x y : UInt8, (c ≠ x ∨ d ≠ y) → ¬ ([x, y].isPrefixOf (c :: d :: r) = true) := fun x y h => by
  simp only [List.isPrefixOf, Bool.and_true, Bool.and_eq_true, beq_iff_eq]
  rintro ⟨rfl, rfl⟩
  rcases h with h | h <;> exact h rfl
 unfold signOf signs ones
 rw [List.find?_cons_of_neg (p := fun x : List UInt8 => x.isPrefixOf (c :: d :: r)) (p 60 62 h1), List.find?_cons_of_neg (p := fun x : List UInt8 => x.isPrefixOf (c :: d :: r)) (p 60 61 h2), List.find?_cons_of_neg (p := fun x : List UInt8 => x.isPrefixOf (c :: d :: r)) (p 62 61 h3), List.find?_cons_of_neg (p := fun x : List UInt8 => x.isPrefixOf (c :: d :: r)) (p 124 124 h4)]
 rfl
end P11
namespace Go.Proofs.YtlpcdpkgnfdpeaaGreatDoor
open Go.RowKit Go.Maps
theorem ext_two (s : ByteArray) (a : Nat) (h : a + 1 < s.size) : (s.extract a (a + 2)).toList = [s[a], s[a + 1]] := by
 rw [Lib.toList_data, Lib.extract_data, drop_at s a (by omega), drop_at s (a + 1) h, show a + 2 - a = 2 by omega]; rfl
theorem ext_one (s : ByteArray) (a : Nat) (h : a < s.size) : s.extract a (a + 1) = ⟨[s[a]].toArray⟩ := by
 apply bytes_eq
 rw [Lib.extract_data, drop_at s a h, show a + 1 - a = 1 by omega]; rfl
theorem ext_two' (s : ByteArray) (a : Nat) (h : a + 1 < s.size) : s.extract a (a + 2) = ⟨[s[a], s[a + 1]].toArray⟩ := by
 apply bytes_eq
 rw [Lib.extract_data, drop_at s a (by omega), drop_at s (a + 1) h, show a + 2 - a = 2 by omega]; rfl
theorem ret_str {a b : ByteArray} (h : a = b) : Ending.returned (.string a) = .returned (.string b) := by rw [h]
theorem refSign_two (s : ByteArray) (a : Nat) (ha : a + 1 < s.size) (hs : s.size ≤ 1000000) (h2 : P11.two s[a] s[a + 1] = true) (w : World) :
  Calls Tryz.prog 75 #[.string s, .int .i64 a] w fun e w' => e = .returned (.string ⟨[s[a], s[a + 1]].toArray⟩) ∧ w = w' := by
 have a2 : (a : Int) + 1 < (s.size : Int) := by omega
 have hx := ext_two s a ha
 have hy := ext_two' s a ha
 have HY := Lib.hid hy
 clear hy
 simp only [P11.two, Bool.or_eq_true, Bool.and_eq_true, beq_iff_eq] at h2
 rcases h2 with ((⟨e1, e2⟩ | ⟨e1, e2⟩) | ⟨e1, e2⟩) | ⟨e1, e2⟩
 all_goals
  rw [e1, e2] at hx HY
  rw [e1, e2]
  clear e1 e2
  go_enter Tryz.func75, Tryz.ntmps75
  go_wp2
  go_ret
  exact ⟨ret_str HY.out, rfl⟩
def oneR (c : UInt8) : ByteArray := if c ∈ P11.ones then ⟨[c].toArray⟩ else ⟨#[]⟩
theorem refSign_one (s : ByteArray) (a : Nat) (ha : a < s.size) (hs : s.size ≤ 1000000) (h2 : ∀ h : a + 1 < s.size, P11.two s[a] s[a + 1] = false) (w : World) :
  Calls Tryz.prog 75 #[.string s, .int .i64 a] w fun e w' => e = .returned (.string (oneR s[a])) ∧ w = w' := by
 have hy := ext_one s a ha
 have c8 : (s[a].toNat : Int) < 256 := by have := s[a].toNat_lt; omega
 by_cases hm : s[a] ∈ P11.ones
 ·have HR : Hid (oneR s[a] = s.extract a (a + 1)) := Lib.hid (by rw [oneR, if_pos hm, hy])
  clear hy
  unfold P11.ones at hm
  simp only [List.mem_cons, List.not_mem_nil, or_false] at hm
  by_cases ha2 : a + 1 < s.size
  ·have a2 : (a : Int) + 1 < (s.size : Int) := by omega
   have hx := ext_two s a ha2
   have h3 := h2 ha2
   simp only [P11.two, Bool.or_eq_false_iff, Bool.and_eq_false_iff, beq_eq_false_iff_ne] at h3
   have p : ∀ x y : UInt8, (s[a] ≠ x ∨ s[a + 1] ≠ y) → ¬ (s.extract a (a + 2)).toList = [x, y] ∧ ((s.extract a (a + 2)).toList == [x, y]) = false := fun x y h => by
    have : ¬ (s.extract a (a + 2)).toList = [x, y] := by
     rw [hx]; intro e; simp only [List.cons.injEq, and_true] at e
     rcases h with h | h
     ·exact h e.1
     ·exact h e.2
    exact ⟨this, by simpa using this⟩
   obtain ⟨p1, q1⟩ := p 60 62 h3.1.1.1
   obtain ⟨p2, q2⟩ := p 60 61 h3.1.1.2
   obtain ⟨p3, q3⟩ := p 62 61 h3.1.2
   obtain ⟨p4, q4⟩ := p 124 124 h3.2
   clear h3 p hx h2
   rcases hm with hc | hc | hc | hc | hc | hc | hc | hc | hc | hc | hc | hc | hc
   all_goals
    have hv : (s[a].toNat : Int) = _ := congrArg (fun c : UInt8 => (c.toNat : Int)) hc
    clear hc
    go_enter Tryz.func75, Tryz.ntmps75
    go_wp2
    go_ret
    exact ⟨by rw [HR.out]; rfl, rfl⟩
  ·have a2 : ¬ (a : Int) + 1 < (s.size : Int) := by omega
   have a3 : (a : Int) + 1 ≤ (s.size : Int) := by omega
   clear h2
   rcases hm with hc | hc | hc | hc | hc | hc | hc | hc | hc | hc | hc | hc | hc
   all_goals
    have hv : (s[a].toNat : Int) = _ := congrArg (fun c : UInt8 => (c.toNat : Int)) hc
    clear hc
    go_enter Tryz.func75, Tryz.ntmps75
    go_wp2
    go_ret
    exact ⟨by rw [HR.out]; rfl, rfl⟩
 ·have HR : Hid (oneR s[a] = ⟨#[]⟩) := Lib.hid (by rw [oneR, if_neg hm])
  clear hy
  have n40 : ((s[a].toNat : Int) == 40) = false := ne_byte (d := 40) (fun e => hm (by rw [e]; decide)) 40 rfl
  have n41 : ((s[a].toNat : Int) == 41) = false := ne_byte (d := 41) (fun e => hm (by rw [e]; decide)) 41 rfl
  have n44 : ((s[a].toNat : Int) == 44) = false := ne_byte (d := 44) (fun e => hm (by rw [e]; decide)) 44 rfl
  have n46 : ((s[a].toNat : Int) == 46) = false := ne_byte (d := 46) (fun e => hm (by rw [e]; decide)) 46 rfl
  have n42 : ((s[a].toNat : Int) == 42) = false := ne_byte (d := 42) (fun e => hm (by rw [e]; decide)) 42 rfl
  have n61 : ((s[a].toNat : Int) == 61) = false := ne_byte (d := 61) (fun e => hm (by rw [e]; decide)) 61 rfl
  have n60 : ((s[a].toNat : Int) == 60) = false := ne_byte (d := 60) (fun e => hm (by rw [e]; decide)) 60 rfl
  have n62 : ((s[a].toNat : Int) == 62) = false := ne_byte (d := 62) (fun e => hm (by rw [e]; decide)) 62 rfl
  have n43 : ((s[a].toNat : Int) == 43) = false := ne_byte (d := 43) (fun e => hm (by rw [e]; decide)) 43 rfl
  have n45 : ((s[a].toNat : Int) == 45) = false := ne_byte (d := 45) (fun e => hm (by rw [e]; decide)) 45 rfl
  have n47 : ((s[a].toNat : Int) == 47) = false := ne_byte (d := 47) (fun e => hm (by rw [e]; decide)) 47 rfl
  have n37 : ((s[a].toNat : Int) == 37) = false := ne_byte (d := 37) (fun e => hm (by rw [e]; decide)) 37 rfl
  have n59 : ((s[a].toNat : Int) == 59) = false := ne_byte (d := 59) (fun e => hm (by rw [e]; decide)) 59 rfl
  clear hm
  by_cases ha2 : a + 1 < s.size
  ·have a2 : (a : Int) + 1 < (s.size : Int) := by omega
   have hx := ext_two s a ha2
   have h3 := h2 ha2
   simp only [P11.two, Bool.or_eq_false_iff, Bool.and_eq_false_iff, beq_eq_false_iff_ne] at h3
   have p : ∀ x y : UInt8, (s[a] ≠ x ∨ s[a + 1] ≠ y) → ¬ (s.extract a (a + 2)).toList = [x, y] ∧ ((s.extract a (a + 2)).toList == [x, y]) = false := fun x y h => by
    have : ¬ (s.extract a (a + 2)).toList = [x, y] := by
     rw [hx]; intro e; simp only [List.cons.injEq, and_true] at e
     rcases h with h | h
     ·exact h e.1
     ·exact h e.2
    exact ⟨this, by simpa using this⟩
   obtain ⟨p1, q1⟩ := p 60 62 h3.1.1.1
   obtain ⟨p2, q2⟩ := p 60 61 h3.1.1.2
   obtain ⟨p3, q3⟩ := p 62 61 h3.1.2
   obtain ⟨p4, q4⟩ := p 124 124 h3.2
   clear h3 p hx h2
   go_enter Tryz.func75, Tryz.ntmps75
   go_wp2
   go_ret
   exact ⟨by rw [HR.out]; rfl, rfl⟩
  ·have a2 : ¬ (a : Int) + 1 < (s.size : Int) := by omega
   clear h2
   go_enter Tryz.func75, Tryz.ntmps75
   go_wp2
   go_ret
   exact ⟨by rw [HR.out]; rfl, rfl⟩
end Go.Proofs.YtlpcdpkgnfdpeaaGreatDoor
