/- Walks: the lexer's texts. -/
import Derived.Test.YteipafoiogkdoaaDoorLA
import Derived.Lib.IndexLaws
import Derived.Lib.IndexBytes
set_option linter.unusedSimpArgs false
set_option linter.unusedVariables false
namespace P11
theorem textOf_none : ∀ r : List UInt8, 39 ∉ r → textOf r = none
  | [], _ => rfl
  | c :: r, h => by
    rw [textOf_ne c r (fun e => h (by rw [e]; exact List.mem_cons_self ..)), textOf_none r (fun m => h (List.mem_cons_of_mem _ m))]; rfl
theorem textOf_skip (r2 : List UInt8) : ∀ r1 : List UInt8, 39 ∉ r1 → textOf (r1 ++ 39 :: r2) = (textOf (39 :: r2)).map fun y => (r1 ++ y.1, y.2 + r1.length)
  | [], _ => by simp
  | c :: r1, h => by
    rw [List.cons_append, textOf_ne c _ (fun e => h (by rw [e]; exact List.mem_cons_self ..)), textOf_skip r2 r1 (fun m => h (List.mem_cons_of_mem _ m))]
    cases textOf (39 :: r2) with
    | none => rfl
    | some y => simp; omega
open Go.Lib (indexByte)
theorem index_cases (c : UInt8) : ∀ r : List UInt8, (indexByte r c = -1 ∧ c ∉ r) ∨ ∃ n : Nat, indexByte r c = n ∧ n < r.length ∧ c ∉ r.take n ∧ r.drop n = c :: r.drop (n + 1)
  | [] => .inl ⟨rfl, by simp⟩
  | b :: r => by
    rw [indexByte]
    by_cases hb : b = c
    · subst hb
      exact .inr ⟨0, by simp, by simp, by simp, rfl⟩
    · rw [if_neg (by simpa using hb)]
      rcases index_cases c r with ⟨h1, h2⟩ | ⟨n, h1, h2, h3, h4⟩
      · exact .inl ⟨by rw [h1]; rfl, by simp only [List.mem_cons, not_or]; exact ⟨fun e => hb e.symm, h2⟩⟩
      · refine .inr ⟨n + 1, ?_, by simp; omega, ?_, ?_⟩
        · rw [h1, if_neg (by simp)]; rfl
        · rw [List.take_succ_cons]; simp only [List.mem_cons, not_or]; exact ⟨fun e => hb e.symm, h3⟩
        · rw [List.drop_succ_cons, List.drop_succ_cons]; exact h4
end P11
namespace Go.Proofs.YteipafoiogkdoaaDoor
open Go.RowKit
theorem ix_any (s : ByteArray) (a : Nat) (c : UInt8) (k v : Int) (hk : k.toNat.toUInt8 = c) (h : Lib.indexByte (s.data.toList.drop a) c = v) (w : World) :
    Calls Tryd.prog 26 #[.string (s.extract a s.size), .int .u8 k] w fun e w' => e = .returned (.int .i64 v) ∧ w = w' := by
  refine (Tryd.strings_IndexByte _ _ _).mono ?_
  rintro e w' ⟨rfl, rfl⟩
  refine ⟨?_, rfl⟩
  rw [Lib.extract_to_end, ← h, hk]
def textR (a : Nat) : Option (List UInt8 × Nat) → Value
  | none => .tuple #[.int .i64 0, .string ⟨#[]⟩, .bool false]
  | some x => .tuple #[.int .i64 ((a + 1 + x.2 : Nat) : Int), .string ⟨x.1.toArray⟩, .bool true]
theorem cat_list (t : List UInt8) (s : ByteArray) (a b : Nat) : (⟨t.toArray⟩ : ByteArray) ++ s.extract a b = ⟨(t ++ (s.data.toList.drop a).take (b - a)).toArray⟩ := by
  have h : ∀ x y : ByteArray, x.data.toList = y.data.toList → x = y := fun ⟨x⟩ ⟨y⟩ h => by
    simp at h; rw [h]
  apply h
  simp only [ByteArray.data_append, Array.toList_append, Lib.extract_data]
theorem byte_at (s : ByteArray) (k : Nat) (h : k < s.size) : s.data.toList[k]'h = s[k] := rfl

set_option maxRecDepth 100000 in
set_option maxHeartbeats 4000000 in
theorem text_any (s : ByteArray) (a : Nat) (ha : a < s.size) (hs : s.size ≤ 1000000) (w : World) :
    Calls Tryd.prog 27 #[.string s, .int .i64 a] w fun e w' => e = .returned (textR a (P11.textOf (s.data.toList.drop (a + 1)))) ∧ w = w' := by
  have HA := Lib.hid ha
  clear ha
  go_enter Tryd.func27, Tryd.ntmps27
  go_wp2
  go_loop [1, 7] (fun x o => ∃ (b : Nat) (t : List UInt8), a ≤ b ∧ b < s.size ∧ t.length ≤ b ∧ x = .int .i64 b ∧ o = .string ⟨t.toArray⟩ ∧ Hid (P11.textOf (s.data.toList.drop (a + 1)) = (P11.textOf (s.data.toList.drop (b + 1))).map fun y => (t ++ y.1, y.2 + (b - a)))) (fun x _ => s.size - (intOf x).toNat)
  case atStart => exact ⟨a, [], Nat.le_refl _, HA.out, Nat.zero_le _, rfl, rfl, Lib.hid (by cases P11.textOf (s.data.toList.drop (a + 1)) <;> simp)⟩
  case round =>
    obtain ⟨b, t, h1, h2, ht, rfl, rfl, HT⟩ := hrel
    rcases P11.index_cases 39 (s.data.toList.drop (b + 1)) with ⟨e1, e2⟩ | ⟨n, e1, e2, e3, e4⟩
    · have HX := Lib.hid (fun w => ix_any s (b + 1) 39 39 _ rfl e1 w)
      have HN : Hid (P11.textOf (s.data.toList.drop (a + 1)) = none) := Lib.hid (by rw [HT.out, P11.textOf_none _ e2]; rfl)
      clear e1 e2
      go_wp2_with (go_at_call 26; (with_reducible refine (HX.out _).mono ?_); rintro e w' ⟨rfl, rfl⟩)
      go_ret3
      exact ⟨by rw [HN.out]; rfl, rfl⟩
    · have HX := Lib.hid (fun w => ix_any s (b + 1) 39 39 _ rfl e1 w)
      have h3 : b + 1 + n < s.size := by simp at e2; omega
      have e5 : s.data.toList.drop (b + 1) = (s.data.toList.drop (b + 1)).take n ++ 39 :: s.data.toList.drop (b + n + 2) := by
        have := List.take_append_drop n (s.data.toList.drop (b + 1))
        rw [e4, List.drop_drop] at this
        rw [show b + n + 2 = b + 1 + (n + 1) by omega]
        exact this.symm
      have e6 : ((s.data.toList.drop (b + 1)).take n).length = n := by simp at e2 ⊢; omega
      have e7 : P11.textOf (s.data.toList.drop (b + 1)) = (P11.textOf (39 :: s.data.toList.drop (b + n + 2))).map fun y => ((s.data.toList.drop (b + 1)).take n ++ y.1, y.2 + n) := by
        have := P11.textOf_skip (s.data.toList.drop (b + n + 2)) _ e3
        rw [e6] at this
        rw [← this, ← e5]
      have e8 := cat_list t s (b + 1) (b + 1 + n)
      rw [Nat.add_sub_cancel_left] at e8
      have H8 := Lib.hid e8
      have H7 := Lib.hid e7
      clear e1 e2 e3 e4 e5 e6 e7 e8
      by_cases hz : b + n + 2 = s.size
      · have HN : Hid (textR a (P11.textOf (s.data.toList.drop (a + 1))) = .tuple #[.int .i64 s.size, .string (⟨t.toArray⟩ ++ s.extract (b + 1) (b + 1 + n)), .bool true]) := Lib.hid (by
          rw [HT.out, H7.out, hz, List.drop_of_length_le (Nat.le_refl s.size), H8.out]
          rw [P11.textOf_q [] (by decide)]
          simp only [Option.map_some, textR, List.append_nil]
          rw [show a + 1 + (1 + n + (b - a)) = s.size by omega])
        have hz1 : (b : Int) + ((n : Int) + 2) = (s.size : Int) := by omega
        have Hz := Lib.hid hz
        clear hz H7 H8
        go_wp2_with (go_at_call 26; (with_reducible refine (HX.out _).mono ?_); rintro e w' ⟨rfl, rfl⟩)
        go_ret3
        exact ⟨by rw [HN.out]; rfl, rfl⟩
      · have hz1 : ((b : Int) + ((n : Int) + 2) == (s.size : Int)) = false := by rw [beq_eq_false_iff_ne]; omega
        have hz2 : (b : Int) + ((n : Int) + 2) < (s.size : Int) := by omega
        have h4 : b + n + 2 < s.size := by omega
        have h4 : b + (n + 2) < s.size := by omega
        by_cases hc : s[b + (n + 2)] = 39
        · have hc1 : ((s[b + (n + 2)].toNat : Int) == 39) = true := by rw [hc]; rfl
          have hc2 : ((s[b + (n + 2)].toNat : Int) != 39) = false := by rw [bne, hc1]; rfl
          have e9 : s.data.toList.drop (b + n + 2) = 39 :: s.data.toList.drop (b + n + 2 + 1) := by
            rw [List.drop_eq_getElem_cons (show b + n + 2 < s.data.toList.length from by show b + n + 2 < s.size; omega)]
            congr 1
          have HN : Hid (P11.textOf (s.data.toList.drop (a + 1)) = (P11.textOf (s.data.toList.drop (b + n + 2 + 1))).map fun y => (t ++ (s.data.toList.drop (b + 1)).take n ++ [39] ++ y.1, y.2 + (b + n + 2 - a))) := Lib.hid (by
            rw [HT.out, H7.out, e9, P11.textOf_qq]
            cases P11.textOf (s.data.toList.drop (b + n + 2 + 1)) with
            | none => rfl
            | some y => simp; omega)
          have e10 : (⟨t.toArray⟩ ++ s.extract (b + 1) (b + 1 + n) ++ ⟨#[39]⟩ : ByteArray) = ⟨(t ++ (s.data.toList.drop (b + 1)).take n ++ [39]).toArray⟩ := by
            rw [H8.out]
            have h : ∀ x y : ByteArray, x.data.toList = y.data.toList → x = y := fun ⟨x⟩ ⟨y⟩ h => by
              simp at h; rw [h]
            apply h
            simp [ByteArray.data_append]
          have H10 := Lib.hid e10
          have hl : (t ++ (s.data.toList.drop (b + 1)).take n ++ [39]).length ≤ b + n + 2 := by
            have := List.length_take_le n (s.data.toList.drop (b + 1))
            simp only [List.length_append, List.length_singleton]; omega
          have HL := Lib.hid hl
          clear hc e9 e10 hl H7 H8 HT
          go_wp2_with (go_at_call 26; (with_reducible refine (HX.out _).mono ?_); rintro e w' ⟨rfl, rfl⟩)
          go_round
          case rel => exact ⟨b + n + 2, _, by omega, by omega, HL.out, by go_num, congrArg Value.string H10.out, HN⟩
          case measure => simp [intOf]; omega
        · have hc1 : ((s[b + (n + 2)].toNat : Int) == 39) = false := by
            rw [beq_eq_false_iff_ne]; intro h; exact hc (UInt8.toNat_inj.1 (by rw [show (39 : UInt8).toNat = 39 from rfl]; omega))
          have hc2 : ((s[b + (n + 2)].toNat : Int) != 39) = true := by rw [bne, hc1]; rfl
          have HN : Hid (textR a (P11.textOf (s.data.toList.drop (a + 1))) = .tuple #[.int .i64 (b + (n + 2)), .string (⟨t.toArray⟩ ++ s.extract (b + 1) (b + 1 + n)), .bool true]) := Lib.hid (by
            have hb : (s.data.toList.drop (b + n + 2)).head? ≠ some 39 := by
              rw [List.head?_drop, List.getElem?_eq_getElem (show b + n + 2 < s.data.toList.length from by show b + n + 2 < s.size; omega)]
              intro h
              exact hc (Option.some.inj h)
            rw [HT.out, H7.out, H8.out, P11.textOf_q _ hb]
            simp only [Option.map_some, textR, List.append_nil]
            rw [show ((a + 1 + (1 + n + (b - a)) : Nat) : Int) = b + (n + 2) by omega])
          clear hc H7 H8 HT
          go_wp2_with (go_at_call 26; (with_reducible refine (HX.out _).mono ?_); rintro e w' ⟨rfl, rfl⟩)
          go_ret3
          exact ⟨by rw [HN.out]; rfl, rfl⟩
end Go.Proofs.YteipafoiogkdoaaDoor
