/- The walk of the statement ValueTests. -/
import Derived.Test.YtpikcjpimciniaaDoorI
import Derived.LoopN
namespace Go.Proofs.YtpikcjpimciniaaDoor
open Go.RowKit

theorem cmp_ints (a b : Int) : cmpV 2 a ⟨#[]⟩ 2 b ⟨#[]⟩ = P6.cmpInt a b := by
  have h : ∀ a, P6.isV 2 a [] = true := fun a => rfl
  have e1 : ∀ a, rk 2 a ⟨#[]⟩ = 2 := fun a => by unfold rk; rw [if_pos (h a)]
  have e2 : ∀ a, ri 2 a ⟨#[]⟩ = a := fun a => by unfold ri; rw [if_pos (h a)]
  have e3 : ∀ a, rs 2 a ⟨#[]⟩ = ⟨#[]⟩ := fun a => by unfold rs; rw [if_pos (h a)]
  unfold cmpV
  rw [e1, e1, e2, e2, e3, e3]
  have z : P6.cmpInt 2 2 = 0 := by decide
  have z2 : P6.cmpStr (⟨#[]⟩ : ByteArray).toList (⟨#[]⟩ : ByteArray).toList = 0 := by rw [ByteArray.toList_eq]; decide
  rw [z, z2, P6.orInt, if_pos rfl, P6.orInt]
  split
  · rename_i h0; rw [h0]; rfl
  · rfl
theorem test_ints (op a b : Int) (h : 3 ≤ op ∧ op ≤ 8) : testT op 2 a ⟨#[]⟩ 2 b ⟨#[]⟩ = (P6.truthI (P6.holdsV op (P6.cmpInt a b)), 0) := by
  unfold testT
  rw [cmp_ints]
  have hv : ∀ a, P6.isV 2 a (⟨#[]⟩ : ByteArray).data.toList = true := fun a => rfl
  rw [hv, hv]
  simp
  omega
theorem cmpInt_key (a b : Int) : (a < b ∧ P6.cmpInt a b = -1) ∨ (a = b ∧ P6.cmpInt a b = 0) ∨ (b < a ∧ P6.cmpInt a b = 1) := by
  unfold P6.cmpInt
  by_cases h : a < b
  · exact .inl ⟨h, if_pos h⟩
  by_cases h2 : b < a
  · exact .inr (.inr ⟨h2, by rw [if_neg h, if_pos h2]⟩)
  · exact .inr (.inl ⟨by omega, by rw [if_neg h, if_neg h2]⟩)
theorem cmpInt_eq (a b : Int) : decide (P6.cmpInt a b = 0) = (a == b) := by
  rw [Bool.eq_iff_iff, decide_eq_true_eq, beq_iff_eq]; rcases cmpInt_key a b with ⟨h, e⟩ | ⟨h, e⟩ | ⟨h, e⟩ <;> rw [e] <;> omega
theorem cmpInt_lt (a b : Int) : decide (P6.cmpInt a b < 0) = decide (a < b) := by
  rw [Bool.eq_iff_iff, decide_eq_true_eq, decide_eq_true_eq]; rcases cmpInt_key a b with ⟨h, e⟩ | ⟨h, e⟩ | ⟨h, e⟩ <;> rw [e] <;> omega
theorem cmpInt_le (a b : Int) : decide (P6.cmpInt a b ≤ 0) = decide (a ≤ b) := by
  rw [Bool.eq_iff_iff, decide_eq_true_eq, decide_eq_true_eq]; rcases cmpInt_key a b with ⟨h, e⟩ | ⟨h, e⟩ | ⟨h, e⟩ <;> rw [e] <;> omega
theorem cmpInt_gt (a b : Int) : decide (0 < P6.cmpInt a b) = decide (b < a) := by
  rw [Bool.eq_iff_iff, decide_eq_true_eq, decide_eq_true_eq]; rcases cmpInt_key a b with ⟨h, e⟩ | ⟨h, e⟩ | ⟨h, e⟩ <;> rw [e] <;> omega
theorem cmpInt_ge (a b : Int) : decide (0 ≤ P6.cmpInt a b) = decide (b ≤ a) := by
  rw [Bool.eq_iff_iff, decide_eq_true_eq, decide_eq_true_eq]; rcases cmpInt_key a b with ⟨h, e⟩ | ⟨h, e⟩ | ⟨h, e⟩ <;> rw [e] <;> omega
theorem truthI_one (b : Bool) : (P6.truthI b == 1) = b := by cases b <;> rfl
theorem truthI_two (b : Bool) : (P6.truthI b == 2) = false := by cases b <;> rfl

theorem cmp_texts (s t : ByteArray) (hs : P6.isV 3 0 s.data.toList = true) (ht : P6.isV 3 0 t.data.toList = true) : cmpV 3 0 s 3 0 t = P6.cmpStr s.toList t.toList := by
  have e1 : rk 3 0 s = 3 := by unfold rk; rw [if_pos hs]
  have e2 : ri 3 0 s = 0 := by unfold ri; rw [if_pos hs]
  have e3 : rs 3 0 s = s := by unfold rs; rw [if_pos hs]
  have f1 : rk 3 0 t = 3 := by unfold rk; rw [if_pos ht]
  have f2 : ri 3 0 t = 0 := by unfold ri; rw [if_pos ht]
  have f3 : rs 3 0 t = t := by unfold rs; rw [if_pos ht]
  unfold cmpV
  rw [e1, e2, e3, f1, f2, f3]
  have z : P6.cmpInt 3 3 = 0 := by decide
  have z2 : P6.cmpInt 0 0 = 0 := by decide
  rw [z, z2, P6.orInt, if_pos rfl, P6.orInt, if_pos rfl, P6.orInt]
  split
  · rename_i h0; rw [h0]; rfl
  · rfl
theorem test_texts (op : Int) (s t : ByteArray) (hs : P6.isV 3 0 s.data.toList = true) (ht : P6.isV 3 0 t.data.toList = true) (h : 3 ≤ op ∧ op ≤ 8) : testT op 3 0 s 3 0 t = (P6.truthI (P6.holdsV op (P6.cmpStr s.toList t.toList)), 0) := by
  unfold testT
  rw [cmp_texts s t hs ht, hs, ht]
  simp
  omega
open Go.Op (bytesLess) in
theorem cmpStr_eq (a b : List UInt8) : decide (P6.cmpStr a b = 0) = (a == b) := by
  unfold P6.cmpStr
  cases h : bytesLess a b
  · cases h2 : (a == b) <;> simp
  · have : (a == b) = false := by
      rw [beq_eq_false_iff_ne]; intro e; subst e; rw [P6.less_irrefl] at h; cases h
    simp [this]
open Go.Op (bytesLess) in
theorem cmpStr_lt (a b : List UInt8) : decide (P6.cmpStr a b < 0) = bytesLess a b := by
  unfold P6.cmpStr
  cases h : bytesLess a b
  · cases h2 : (a == b) <;> simp
  · simp
open Go.Op (bytesLess) in
theorem cmpStr_le (a b : List UInt8) : decide (P6.cmpStr a b ≤ 0) = (bytesLess a b || a == b) := by
  unfold P6.cmpStr
  cases h : bytesLess a b <;> cases h2 : (a == b) <;> simp
open Go.Op (bytesLess) in
theorem cmpStr_gt (a b : List UInt8) : decide (0 < P6.cmpStr a b) = !(bytesLess a b || a == b) := by
  unfold P6.cmpStr
  cases h : bytesLess a b <;> cases h2 : (a == b) <;> simp
open Go.Op (bytesLess) in
theorem cmpStr_ge (a b : List UInt8) : decide (0 ≤ P6.cmpStr a b) = !bytesLess a b := by
  unfold P6.cmpStr
  cases h : bytesLess a b <;> cases h2 : (a == b) <;> simp

set_option maxRecDepth 100000 in
set_option maxHeartbeats 16000000 in
theorem valueTests_walk (a b : Int) (s t : ByteArray) (w : World) (hE : Env w) :
    Calls Tryd.prog 3 #[.int .i64 a, .int .i64 b, .string s, .string t] w fun e w' => e = .returned (.bool true) ∧ Below w.heap.size w w' := by
  have T : ∀ op a b w, (3 ≤ op ∧ op ≤ 8) → Calls Tryd.prog 10 #[.int .i64 op, vv 2 a ⟨#[]⟩, vv 2 b ⟨#[]⟩] w fun e w' => e = .returned (.tuple #[.int .i64 (P6.truthI (P6.holdsV op (P6.cmpInt a b))), .int .i64 0]) ∧ Below w.heap.size w w' := fun op a b w h => by
    have := test_any op 2 a ⟨#[]⟩ 2 b ⟨#[]⟩ w
    rwa [test_ints op a b h] at this
  have t3 := fun w => T 3 a b w (by decide)
  have t4 := fun w => T 4 a b w (by decide)
  have t5 := fun w => T 5 a b w (by decide)
  have t6 := fun w => T 6 a b w (by decide)
  have t7 := fun w => T 7 a b w (by decide)
  have t8 := fun w => T 8 a b w (by decide)
  rw [show P6.holdsV 3 (P6.cmpInt a b) = (a == b) from cmpInt_eq a b] at t3
  rw [show P6.holdsV 4 (P6.cmpInt a b) = (a != b) from congrArg (!·) (cmpInt_eq a b)] at t4
  rw [show P6.holdsV 5 (P6.cmpInt a b) = decide (a < b) from cmpInt_lt a b] at t5
  rw [show P6.holdsV 6 (P6.cmpInt a b) = decide (a ≤ b) from cmpInt_le a b] at t6
  rw [show P6.holdsV 7 (P6.cmpInt a b) = decide (b < a) from cmpInt_gt a b] at t7
  rw [show P6.holdsV 8 (P6.cmpInt a b) = decide (b ≤ a) from cmpInt_ge a b] at t8
  have T3 := Lib.hid t3
  have T4 := Lib.hid t4
  have T5 := Lib.hid t5
  have T6 := Lib.hid t6
  have T7 := Lib.hid t7
  have T8 := Lib.hid t8
  clear T t3 t4 t5 t6 t7 t8
  have HE := Lib.hid hE
  clear hE
  have IS0 := fun w => is_any 3 0 s w
  have IT0 := fun w => is_any 3 0 t w
  have hu : testT 3 3 0 s 2 0 ⟨#[]⟩ = (0, 60) := by
    unfold testT; rw [if_pos]; simp
  have t9 := fun w => test_any 3 3 0 s 2 0 ⟨#[]⟩ w
  rw [hu] at t9
  have T9 := Lib.hid t9
  clear t9 hu
  have k1 := truthI_one
  have k2 := truthI_two
  have U : ∀ op w, P6.isV 3 0 s.data.toList = true → P6.isV 3 0 t.data.toList = true → (3 ≤ op ∧ op ≤ 8) → Calls Tryd.prog 10 #[.int .i64 op, vv 3 0 s, vv 3 0 t] w fun e w' => e = .returned (.tuple #[.int .i64 (P6.truthI (P6.holdsV op (P6.cmpStr s.toList t.toList))), .int .i64 0]) ∧ Below w.heap.size w w' := fun op w hS hT h => by
    have := test_any op 3 0 s 3 0 t w
    rwa [test_texts op s t hS hT h] at this
  have u3 := fun w hS hT => U 3 w hS hT (by decide)
  have u4 := fun w hS hT => U 4 w hS hT (by decide)
  have u5 := fun w hS hT => U 5 w hS hT (by decide)
  have u6 := fun w hS hT => U 6 w hS hT (by decide)
  have u7 := fun w hS hT => U 7 w hS hT (by decide)
  have u8 := fun w hS hT => U 8 w hS hT (by decide)
  rw [show P6.holdsV 3 (P6.cmpStr s.toList t.toList) = (s.toList == t.toList) from cmpStr_eq _ _] at u3
  rw [show P6.holdsV 4 (P6.cmpStr s.toList t.toList) = !(s.toList == t.toList) from congrArg (!·) (cmpStr_eq _ _)] at u4
  rw [show P6.holdsV 5 (P6.cmpStr s.toList t.toList) = Op.bytesLess s.toList t.toList from cmpStr_lt _ _] at u5
  rw [show P6.holdsV 6 (P6.cmpStr s.toList t.toList) = (Op.bytesLess s.toList t.toList || s.toList == t.toList) from cmpStr_le _ _] at u6
  rw [show P6.holdsV 7 (P6.cmpStr s.toList t.toList) = !(Op.bytesLess s.toList t.toList || s.toList == t.toList) from cmpStr_gt _ _] at u7
  rw [show P6.holdsV 8 (P6.cmpStr s.toList t.toList) = !Op.bytesLess s.toList t.toList from cmpStr_ge _ _] at u8
  have IS := Lib.hid IS0
  have IT := Lib.hid IT0
  have U3 := Lib.hid u3
  have U4 := Lib.hid u4
  have U5 := Lib.hid u5
  have U6 := Lib.hid u6
  have U7 := Lib.hid u7
  have U8 := Lib.hid u8
  clear IS0 IT0 U u3 u4 u5 u6 u7 u8
  generalize hgS : P6.isV 3 0 s.data.toList = bS at *
  generalize hgT : P6.isV 3 0 t.data.toList = bT at *
  clear hgS hgT
  go_enter Tryd.func3, Tryd.ntmps3
  go_wp2_with (go_at_call 9; (with_reducible refine (known6 _ HE.out).mono ?_); rintro e w' ⟨rfl, hb⟩; obtain ⟨p, rfl⟩ := Xk.exw_of hb; clear hb)
  refine wp_loop_rounds 7 ?_
  rw [rounds_succ]
  go_wp2_with (go_at_call 10; (with_reducible refine (T3.out _).mono ?_); rintro e w' ⟨rfl, hb⟩; obtain ⟨p, rfl⟩ := Xk.exw_of hb; clear hb)
  rw [rounds_succ]
  go_wp2_with (go_at_call 10; (with_reducible refine (T4.out _).mono ?_); rintro e w' ⟨rfl, hb⟩; obtain ⟨p, rfl⟩ := Xk.exw_of hb; clear hb)
  rw [rounds_succ]
  go_wp2_with (go_at_call 10; (with_reducible refine (T5.out _).mono ?_); rintro e w' ⟨rfl, hb⟩; obtain ⟨p, rfl⟩ := Xk.exw_of hb; clear hb)
  rw [rounds_succ]
  go_wp2_with (go_at_call 10; (with_reducible refine (T6.out _).mono ?_); rintro e w' ⟨rfl, hb⟩; obtain ⟨p, rfl⟩ := Xk.exw_of hb; clear hb)
  rw [rounds_succ]
  go_wp2_with (go_at_call 10; (with_reducible refine (T7.out _).mono ?_); rintro e w' ⟨rfl, hb⟩; obtain ⟨p, rfl⟩ := Xk.exw_of hb; clear hb)
  rw [rounds_succ]
  go_wp2_with (go_at_call 10; (with_reducible refine (T8.out _).mono ?_); rintro e w' ⟨rfl, hb⟩; obtain ⟨p, rfl⟩ := Xk.exw_of hb; clear hb)
  rw [rounds_succ]
  cases bS
  · go_wp2_with (first | (go_at_call 11; (with_reducible refine (IS.out _).mono ?_); rintro e w' ⟨rfl, hb⟩; obtain ⟨p, rfl⟩ := Xk.exw_of hb; clear hb) | (go_at_call 11; (with_reducible refine (IT.out _).mono ?_); rintro e w' ⟨rfl, hb⟩; obtain ⟨p, rfl⟩ := Xk.exw_of hb; clear hb))
    go_ret
    exact ⟨rfl, (by repeat (first | with_reducible exact Below.refl _ _ | ((with_reducible refine Below.setCell ?_ ?_ _); rotate_left; exact (by (try simp only [World.size_alloc, Xk.exw_size, World.size_setCell, World.size_drew, World.heap_drewN]); omega)) | ((with_reducible refine Below.alloc ?_ ?_ _); rotate_left; exact (by (try simp only [World.size_alloc, Xk.exw_size, World.size_setCell, World.size_drew, World.heap_drewN]); omega)) | ((with_reducible refine Xk.below_exw ?_ ?_ _); rotate_left; exact (by (try simp only [World.size_alloc, Xk.exw_size, World.size_setCell, World.size_drew, World.heap_drewN]); omega)) | (with_reducible refine Below.drew ?_)))⟩
  cases bT
  · go_wp2_with (first | (go_at_call 11; (with_reducible refine (IS.out _).mono ?_); rintro e w' ⟨rfl, hb⟩; obtain ⟨p, rfl⟩ := Xk.exw_of hb; clear hb) | (go_at_call 11; (with_reducible refine (IT.out _).mono ?_); rintro e w' ⟨rfl, hb⟩; obtain ⟨p, rfl⟩ := Xk.exw_of hb; clear hb))
    go_ret
    exact ⟨rfl, (by repeat (first | with_reducible exact Below.refl _ _ | ((with_reducible refine Below.setCell ?_ ?_ _); rotate_left; exact (by (try simp only [World.size_alloc, Xk.exw_size, World.size_setCell, World.size_drew, World.heap_drewN]); omega)) | ((with_reducible refine Below.alloc ?_ ?_ _); rotate_left; exact (by (try simp only [World.size_alloc, Xk.exw_size, World.size_setCell, World.size_drew, World.heap_drewN]); omega)) | ((with_reducible refine Xk.below_exw ?_ ?_ _); rotate_left; exact (by (try simp only [World.size_alloc, Xk.exw_size, World.size_setCell, World.size_drew, World.heap_drewN]); omega)) | (with_reducible refine Below.drew ?_)))⟩
  go_wp2_with (first | (go_at_call 11; (with_reducible refine (IS.out _).mono ?_); rintro e w' ⟨rfl, hb⟩; obtain ⟨p, rfl⟩ := Xk.exw_of hb; clear hb) | (go_at_call 11; (with_reducible refine (IT.out _).mono ?_); rintro e w' ⟨rfl, hb⟩; obtain ⟨p, rfl⟩ := Xk.exw_of hb; clear hb))
  refine wp_loop_rounds 7 ?_
  rw [rounds_succ]
  go_wp2_with (go_at_call 10; (with_reducible refine (U3.out _ (by trivial) (by trivial)).mono ?_); rintro e w' ⟨rfl, hb⟩; obtain ⟨p, rfl⟩ := Xk.exw_of hb; clear hb)
  rw [rounds_succ]
  go_wp2_with (go_at_call 10; (with_reducible refine (U4.out _ (by trivial) (by trivial)).mono ?_); rintro e w' ⟨rfl, hb⟩; obtain ⟨p, rfl⟩ := Xk.exw_of hb; clear hb)
  rw [rounds_succ]
  go_wp2_with (go_at_call 10; (with_reducible refine (U5.out _ (by trivial) (by trivial)).mono ?_); rintro e w' ⟨rfl, hb⟩; obtain ⟨p, rfl⟩ := Xk.exw_of hb; clear hb)
  rw [rounds_succ]
  go_wp2_with (go_at_call 10; (with_reducible refine (U6.out _ (by trivial) (by trivial)).mono ?_); rintro e w' ⟨rfl, hb⟩; obtain ⟨p, rfl⟩ := Xk.exw_of hb; clear hb)
  rw [rounds_succ]
  go_wp2_with (go_at_call 10; (with_reducible refine (U7.out _ (by trivial) (by trivial)).mono ?_); rintro e w' ⟨rfl, hb⟩; obtain ⟨p, rfl⟩ := Xk.exw_of hb; clear hb)
  rw [rounds_succ]
  go_wp2_with (go_at_call 10; (with_reducible refine (U8.out _ (by trivial) (by trivial)).mono ?_); rintro e w' ⟨rfl, hb⟩; obtain ⟨p, rfl⟩ := Xk.exw_of hb; clear hb)
  rw [rounds_succ]
  go_wp2_with (go_at_call 10; (with_reducible refine (T9.out _).mono ?_); rintro e w' ⟨rfl, hb⟩; obtain ⟨p, rfl⟩ := Xk.exw_of hb; clear hb)
  go_ret
  exact ⟨rfl, (by repeat (first | with_reducible exact Below.refl _ _ | ((with_reducible refine Below.setCell ?_ ?_ _); rotate_left; exact (by (try simp only [World.size_alloc, Xk.exw_size, World.size_setCell, World.size_drew, World.heap_drewN]); omega)) | ((with_reducible refine Below.alloc ?_ ?_ _); rotate_left; exact (by (try simp only [World.size_alloc, Xk.exw_size, World.size_setCell, World.size_drew, World.heap_drewN]); omega)) | ((with_reducible refine Xk.below_exw ?_ ?_ _); rotate_left; exact (by (try simp only [World.size_alloc, Xk.exw_size, World.size_setCell, World.size_drew, World.heap_drewN]); omega)) | (with_reducible refine Below.drew ?_)))⟩
end Go.Proofs.YtpikcjpimciniaaDoor
