/- The walk of the statement ValueOrder, joined. -/
import Derived.Test.YtpikcjpimciniaaDoorO
set_option linter.unusedSimpArgs false
set_option linter.unusedVariables false
namespace Go.Proofs.YtpikcjpimciniaaDoor
open Go.RowKit

set_option maxRecDepth 100000 in
set_option maxHeartbeats 8000000 in
theorem order_eq (k i k'' i'' : Int) (s s'' b : ByteArray) (y : Int) (w : World) (HE : Hid (∀ o o' o'', Env (((w.alloc o).alloc o').alloc o''))) (HE3 : Hid (∀ o o' o'' p, Env (Xk.exw (((w.alloc o).alloc o').alloc o'') p)))
    (IA : IsT k i s) (IC : IsT k'' i'' s'') (C1 : Cmp k i s k i s 0) (C3 : Cmp k i s k'' i'' s'' y)
    (P1 : Prt k i s b) (T1 : k ≠ 0 → Tst 5 k i s k i s 0) (T2 : k ≠ 0 → Tst 8 k i s k i s 1) (NN : Nt 0 1) :
    Calls Tryd.prog 4 #[vv k i s, vv k i s, vv k'' i'' s''] w fun e w' => e = .returned (.bool true) ∧ Below w.heap.size w w' := by
  have IA := Lib.hid IA.out
  have IC := Lib.hid IC.out
  have C1 := Lib.hid C1.out
  have C3 := Lib.hid C3.out
  have P1 := Lib.hid P1.out
  have NN := Lib.hid NN.out
  have T1 := Lib.hid (fun h1 => (T1 h1).out)
  have T2 := Lib.hid (fun h1 => (T2 h1).out)
  go_enter Tryd.func4, Tryd.ntmps4
  go_wp2_with (first | (go_at_call 9; (with_reducible refine (known6 _ (HE.out _ _ _)).mono ?_); rintro e w' ⟨rfl, hb⟩; obtain ⟨p, rfl⟩ := Xk.exw_of hb; clear hb) | (go_at_call 11; (with_reducible refine (IA.out _).mono ?_); rintro e w' ⟨rfl, hb⟩; obtain ⟨p, rfl⟩ := Xk.exw_of hb; clear hb) | (go_at_call 11; (with_reducible refine (IC.out _).mono ?_); rintro e w' ⟨rfl, hb⟩; obtain ⟨p, rfl⟩ := Xk.exw_of hb; clear hb) | (go_at_call 12; (with_reducible refine (C1.out _).mono ?_); rintro e w' ⟨rfl, hb⟩; obtain ⟨p, rfl⟩ := Xk.exw_of hb; clear hb))
  refine Xk.wp_region_rel' 25 [] trivial (by kernel_rfl) (by kernel_rfl) ?_
  simp only [List.take_succ_cons, List.take_zero, List.drop_succ_cons, List.drop_zero]
  repeat (first
    | (refine Xk.rel_skip (by rfl) (fun K hK => ?_); go_simp; refine hK _ ?_; clear hK K)
    | (refine Xk.rel_det (by rfl) (by rfl) (fun K hK => ?_); apply Exists.intro; refine ⟨fun p hp => ?_, ?_⟩; (go_simp; first | exact ⟨rfl, rfl⟩ | ((try refine ⟨by kernel_rfl, ?_⟩); (first | (go_at_call 12; ((with_reducible refine (C1.out _).mono ?_); exact fun e w' h => h)) | (go_at_call 13; ((with_reducible refine (P1.out _ (HE3.out _ _ _ _)).mono ?_); exact fun e w' h => h))))); (go_simp; refine hK _ ?_; clear hK K)))
  refine Xk.rel_nil (fun p _ => ?_)
  go_wp2_with (first | (go_at_call 12; (with_reducible refine (C3.out _).mono ?_); rintro e w' ⟨rfl, hb⟩; obtain ⟨p, rfl⟩ := Xk.exw_of hb; clear hb) | (go_at_call 10; (with_reducible refine (T1.out (by first | assumption | exact bne_iff_ne.1 (by assumption) | exact bne_iff_ne.1 (And.left (by assumption))) _).mono ?_); rintro e w' ⟨rfl, hb⟩; obtain ⟨p, rfl⟩ := Xk.exw_of hb; clear hb) | (go_at_call 10; (with_reducible refine (T2.out (by first | assumption | exact bne_iff_ne.1 (by assumption) | exact bne_iff_ne.1 (And.left (by assumption))) _).mono ?_); rintro e w' ⟨rfl, hb⟩; obtain ⟨p, rfl⟩ := Xk.exw_of hb; clear hb) | (go_at_call 14; (with_reducible refine (NN.out _).mono ?_); rintro e w' ⟨rfl, hb⟩; obtain ⟨p, rfl⟩ := Xk.exw_of hb; clear hb))
  all_goals first
    | (go_ret; exact ⟨rfl, (by repeat (first | with_reducible exact Below.refl _ _ | ((with_reducible refine Below.setCell ?_ ?_ _); rotate_left; exact (by (try simp only [World.size_alloc, Xk.exw_size, World.size_setCell, World.size_drew, World.heap_drewN]); omega)) | ((with_reducible refine Below.alloc ?_ ?_ _); rotate_left; exact (by (try simp only [World.size_alloc, Xk.exw_size, World.size_setCell, World.size_drew, World.heap_drewN]); omega)) | ((with_reducible refine Xk.below_exw ?_ ?_ _); rotate_left; exact (by (try simp only [World.size_alloc, Xk.exw_size, World.size_setCell, World.size_drew, World.heap_drewN]); omega)) | (with_reducible refine Below.drew ?_)))⟩)
    | (exfalso; rename_i h; exact absurd h (by decide))
    | (exfalso; omega)

set_option maxRecDepth 100000 in
set_option maxHeartbeats 8000000 in
theorem order_not (k i k' i' k'' i'' : Int) (s s' s'' : ByteArray) (bA bB bC : Bool) (w : World) (HE : Hid (∀ o o' o'', Env (((w.alloc o).alloc o').alloc o'')))
    (IA : Hid (∀ w, Calls Tryd.prog 11 #[vv k i s] w fun e w' => e = .returned (.bool bA) ∧ Below w.heap.size w w'))
    (IB : Hid (∀ w, Calls Tryd.prog 11 #[vv k' i' s'] w fun e w' => e = .returned (.bool bB) ∧ Below w.heap.size w w'))
    (IC : Hid (∀ w, Calls Tryd.prog 11 #[vv k'' i'' s''] w fun e w' => e = .returned (.bool bC) ∧ Below w.heap.size w w')) (hv : bA = false ∨ bB = false ∨ bC = false) :
    Calls Tryd.prog 4 #[vv k i s, vv k' i' s', vv k'' i'' s''] w fun e w' => e = .returned (.bool true) ∧ Below w.heap.size w w' := by
  cases bA <;> cases bB <;> cases bC
  case true.true.true => simp at hv
  all_goals
    clear hv
    go_enter Tryd.func4, Tryd.ntmps4
    go_wp2_with (first | (go_at_call 9; (with_reducible refine (known6 _ (HE.out _ _ _)).mono ?_); rintro e w' ⟨rfl, hb⟩; obtain ⟨p, rfl⟩ := Xk.exw_of hb; clear hb) | (go_at_call 11; (with_reducible refine (IA.out _).mono ?_); rintro e w' ⟨rfl, hb⟩; obtain ⟨p, rfl⟩ := Xk.exw_of hb; clear hb) | (go_at_call 11; (with_reducible refine (IB.out _).mono ?_); rintro e w' ⟨rfl, hb⟩; obtain ⟨p, rfl⟩ := Xk.exw_of hb; clear hb) | (go_at_call 11; (with_reducible refine (IC.out _).mono ?_); rintro e w' ⟨rfl, hb⟩; obtain ⟨p, rfl⟩ := Xk.exw_of hb; clear hb))
    go_ret
    exact ⟨rfl, (by repeat (first | with_reducible exact Below.refl _ _ | ((with_reducible refine Below.setCell ?_ ?_ _); rotate_left; exact (by (try simp only [World.size_alloc, Xk.exw_size, World.size_setCell, World.size_drew, World.heap_drewN]); omega)) | ((with_reducible refine Below.alloc ?_ ?_ _); rotate_left; exact (by (try simp only [World.size_alloc, Xk.exw_size, World.size_setCell, World.size_drew, World.heap_drewN]); omega)) | ((with_reducible refine Xk.below_exw ?_ ?_ _); rotate_left; exact (by (try simp only [World.size_alloc, Xk.exw_size, World.size_setCell, World.size_drew, World.heap_drewN]); omega)) | (with_reducible refine Below.drew ?_)))⟩

theorem valueOrder_walk (k i k' i' k'' i'' : Int) (s s' s'' : ByteArray) (hi : -9223372036854775808 ≤ i ∧ i ≤ 9223372036854775807) (hi' : -9223372036854775808 ≤ i' ∧ i' ≤ 9223372036854775807) (w : World) (hE : Env w) :
    Calls Tryd.prog 4 #[vv k i s, vv k' i' s', vv k'' i'' s''] w fun e w' => e = .returned (.bool true) ∧ Below w.heap.size w w' := by
  have hB : ∀ o o' o'', Xk.Ext w (((w.alloc o).alloc o').alloc o'') := fun o o' o'' => (((Below.refl _ _).alloc (Nat.le_refl _) _).alloc (by simp) _).alloc (by simp; omega) _
  have HE : Hid (∀ o o' o'', Env (((w.alloc o).alloc o').alloc o'')) := Lib.hid fun o o' o'' => hE.ext (hB o o' o'')
  have HE3 : Hid (∀ o o' o'' p, Env (Xk.exw (((w.alloc o).alloc o').alloc o'') p)) := Lib.hid fun o o' o'' p => hE.ext (Xk.below_exw (hB o o' o'') (by simp; omega) p)
  have ia := fun w => is_any k i s w
  have ib := fun w => is_any k' i' s' w
  have ic := fun w => is_any k'' i'' s'' w
  cases v1 : P6.isV k i s.data.toList
  · rw [v1] at ia
    exact order_not k i k' i' k'' i'' s s' s'' _ _ _ w HE (Lib.hid ia) (Lib.hid ib) (Lib.hid ic) (.inl rfl)
  cases v2 : P6.isV k' i' s'.data.toList
  · rw [v2] at ib
    exact order_not k i k' i' k'' i'' s s' s'' _ _ _ w HE (Lib.hid ia) (Lib.hid ib) (Lib.hid ic) (.inr (.inl rfl))
  cases v3 : P6.isV k'' i'' s''.data.toList
  · rw [v3] at ic
    exact order_not k i k' i' k'' i'' s s' s'' _ _ _ w HE (Lib.hid ia) (Lib.hid ib) (Lib.hid ic) (.inr (.inr rfl))
  rw [v1] at ia
  rw [v2] at ib
  rw [v3] at ic
  have ht := order_trans v1 v2 v3
  have T : ∀ op, 3 ≤ op ∧ op ≤ 8 → k ≠ 0 → k = k' → Tst op k i s k' i' s' (P6.truthI (P6.holdsV op (cmpV k i s k' i' s'))) := fun op ho h0 hk => by
    subst hk
    refine Lib.hid fun w => ?_
    have := test_any op k i s k i' s' w
    rwa [testT_valid v1 v2 h0 ho] at this
  rcases order_one v1 v2 with ⟨rfl, rfl, rfl, c1, -⟩ | ⟨hne, hp, hx⟩
  · have t1 := fun h => T 5 (by decide) h rfl
    have t2 := fun h => T 8 (by decide) h rfl
    rw [c1] at t1 t2
    have cc := fun w => compare_any k i s k i s w
    rw [c1] at cc
    exact order_eq k i k'' i'' s s'' _ _ w HE HE3 (Lib.hid ia) (Lib.hid ic) (Lib.hid cc) (Lib.hid fun w => compare_any k i s k'' i'' s'' w) (Lib.hid fun w hw => print_any k i s hi.1 hi.2 w hw)
      t1 t2 (Lib.hid fun w => not_any 0 w)
  · have hb : (⟨(P6.printV k i s.data.toList).toArray⟩ : ByteArray) ≠ ⟨(P6.printV k' i' s'.data.toList).toArray⟩ := fun e => hp (by simpa using e)
    have t1 := T 5 (by decide)
    have t2 := T 8 (by decide)
    have cc := fun w => compare_any k i s k' i' s' w
    have cd := fun w => compare_any k' i' s' k i s w
    rcases hx with ⟨c1, c2⟩ | ⟨c1, c2⟩
    all_goals
      rw [c1] at t1 t2 cc ht
      rw [c2] at cd
    · exact order_ne k i k' i' k'' i'' s s' s'' _ _ _ _ _ _ _ _ w HE HE3 (Lib.hid ia) (Lib.hid ib) (Lib.hid ic) (Lib.hid cc) (Lib.hid cd) (Lib.hid fun w => compare_any k' i' s' k'' i'' s'' w) (Lib.hid fun w => compare_any k i s k'' i'' s'' w)
        (Lib.hid fun w hw => print_any k i s hi.1 hi.2 w hw) (Lib.hid fun w hw => print_any k' i' s' hi'.1 hi'.2 w hw) t1 t2 (Lib.hid fun w => not_any 1 w) (.inl ⟨rfl, rfl, rfl, rfl, hne, hb⟩) (Lib.hid ht)
    · exact order_ne k i k' i' k'' i'' s s' s'' _ _ _ _ _ _ _ _ w HE HE3 (Lib.hid ia) (Lib.hid ib) (Lib.hid ic) (Lib.hid cc) (Lib.hid cd) (Lib.hid fun w => compare_any k' i' s' k'' i'' s'' w) (Lib.hid fun w => compare_any k i s k'' i'' s'' w)
        (Lib.hid fun w hw => print_any k i s hi.1 hi.2 w hw) (Lib.hid fun w hw => print_any k' i' s' hi'.1 hi'.2 w hw) t1 t2 (Lib.hid fun w => not_any 0 w) (.inr ⟨rfl, rfl, rfl, rfl, hne, hb⟩) (Lib.hid ht)
end Go.Proofs.YtpikcjpimciniaaDoor
