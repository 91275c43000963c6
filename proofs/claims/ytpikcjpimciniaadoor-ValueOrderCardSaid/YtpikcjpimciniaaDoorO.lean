/- The walk of the statement ValueOrder. -/
import Derived.Test.YtpikcjpimciniaaDoorI
import Derived.Test.YtpikcjpimciniaaDoorP8
set_option linter.unusedSimpArgs false
set_option linter.unusedVariables false
namespace Go.Proofs.YtpikcjpimciniaaDoor
open Go.RowKit

theorem cmpV_valid {k i : Int} {s : ByteArray} {k' i' : Int} {s' : ByteArray} (h : P6.isV k i s.data.toList = true) (h' : P6.isV k' i' s'.data.toList = true) :
    cmpV k i s k' i' s' = P6.cmp3 k i s.data.toList k' i' s'.data.toList := by
  unfold cmpV P6.cmp3 rk ri rs
  rw [if_pos h, if_pos h, if_pos h, if_pos h', if_pos h', if_pos h', ByteArray.toList_eq, ByteArray.toList_eq]
theorem testT_valid {op k i : Int} {s : ByteArray} {i' : Int} {s' : ByteArray} (h : P6.isV k i s.data.toList = true) (h' : P6.isV k i' s'.data.toList = true) (hk : k ≠ 0) (ho : 3 ≤ op ∧ op ≤ 8) :
    testT op k i s k i' s' = (P6.truthI (P6.holdsV op (cmpV k i s k i' s')), 0) := by
  unfold testT
  rw [h, h']
  simp [hk]
  omega
theorem order_one {k i : Int} {s : ByteArray} {k' i' : Int} {s' : ByteArray} (h : P6.isV k i s.data.toList = true) (h' : P6.isV k' i' s'.data.toList = true) :
    (k = k' ∧ i = i' ∧ s = s' ∧ cmpV k i s k' i' s' = 0 ∧ cmpV k' i' s' k i s = 0) ∨
    (¬ (k = k' ∧ i = i' ∧ s = s') ∧ P6.printV k i s.data.toList ≠ P6.printV k' i' s'.data.toList ∧
      ((cmpV k i s k' i' s' = -1 ∧ cmpV k' i' s' k i s = 1) ∨ (cmpV k i s k' i' s' = 1 ∧ cmpV k' i' s' k i s = -1))) := by
  rw [cmpV_valid h h', cmpV_valid h' h, P6.cmp3_anti k i s.data.toList k' i' s'.data.toList]
  have hr := P6.cmp3_range k i s.data.toList k' i' s'.data.toList
  have hd : ∀ s s' : ByteArray, s.data.toList = s'.data.toList → s = s' := fun s s' e => by
    cases s; cases s'; simp only [Array.toList_inj] at e; simp [e]
  by_cases h0 : P6.cmp3 k i s.data.toList k' i' s'.data.toList = 0
  · obtain ⟨rfl, rfl, e⟩ := P6.cmp3_zero h0
    cases hd _ _ e
    exact .inl ⟨rfl, rfl, rfl, h0, by omega⟩
  · refine .inr ⟨?_, ?_, by omega⟩
    · rintro ⟨rfl, rfl, rfl⟩
      exact h0 (P6.cmp3_same _ _ _)
    · intro e
      obtain ⟨rfl, rfl, e2⟩ := P6.print_inj h h' e
      cases hd _ _ e2
      exact h0 (P6.cmp3_same _ _ _)
theorem order_trans {k i : Int} {s : ByteArray} {k' i' : Int} {s' : ByteArray} {k'' i'' : Int} {s'' : ByteArray} (h : P6.isV k i s.data.toList = true) (h' : P6.isV k' i' s'.data.toList = true) (h'' : P6.isV k'' i'' s''.data.toList = true)
    (a : cmpV k i s k' i' s' ≤ 0) (b : cmpV k' i' s' k'' i'' s'' ≤ 0) : cmpV k i s k'' i'' s'' ≤ 0 := by
  rw [cmpV_valid h h'] at a
  rw [cmpV_valid h' h''] at b
  rw [cmpV_valid h h'']
  exact P6.cmp3_le_trans a b

def Cmp (k i : Int) (s : ByteArray) (k' i' : Int) (s' : ByteArray) (x : Int) : Prop := Hid (∀ w, Calls Tryd.prog 12 #[vv k i s, vv k' i' s'] w fun e w' => e = .returned (.int .i64 x) ∧ Below w.heap.size w w')
def Prt (k i : Int) (s b : ByteArray) : Prop := Hid (∀ w, Env w → Calls Tryd.prog 13 #[vv k i s] w fun e w' => e = .returned (.string b) ∧ Below w.heap.size w w')
def Tst (op k i : Int) (s : ByteArray) (k' i' : Int) (s' : ByteArray) (t : Int) : Prop := Hid (∀ w, Calls Tryd.prog 10 #[.int .i64 op, vv k i s, vv k' i' s'] w fun e w' => e = .returned (.tuple #[.int .i64 t, .int .i64 0]) ∧ Below w.heap.size w w')
def Nt (t u : Int) : Prop := Hid (∀ w, Calls Tryd.prog 14 #[.int .i64 t] w fun e w' => e = .returned (.int .i64 u) ∧ Below w.heap.size w w')
def IsT (k i : Int) (s : ByteArray) : Prop := Hid (∀ w, Calls Tryd.prog 11 #[vv k i s] w fun e w' => e = .returned (.bool true) ∧ Below w.heap.size w w')

set_option maxRecDepth 100000 in
set_option maxHeartbeats 8000000 in
theorem order_ne (k i k' i' k'' i'' : Int) (s s' s'' b b' : ByteArray) (x x' y z t u : Int) (w : World) (HE : Hid (∀ o o' o'', Env (((w.alloc o).alloc o').alloc o''))) (HE3 : Hid (∀ o o' o'' p, Env (Xk.exw (((w.alloc o).alloc o').alloc o'') p)))
    (IA : IsT k i s) (IB : IsT k' i' s') (IC : IsT k'' i'' s'') (C1 : Cmp k i s k' i' s' x) (C2 : Cmp k' i' s' k i s x') (C3 : Cmp k' i' s' k'' i'' s'' y) (C4 : Cmp k i s k'' i'' s'' z)
    (P1 : Prt k i s b) (P2 : Prt k' i' s' b') (T1 : k ≠ 0 → k = k' → Tst 5 k i s k' i' s' t) (T2 : k ≠ 0 → k = k' → Tst 8 k i s k' i' s' u) (NN : Nt t u)
    (hx : (x = -1 ∧ x' = 1 ∧ t = 1 ∧ u = 0 ∧ ¬ (k = k' ∧ i = i' ∧ s = s') ∧ b ≠ b') ∨ (x = 1 ∧ x' = -1 ∧ t = 0 ∧ u = 1 ∧ ¬ (k = k' ∧ i = i' ∧ s = s') ∧ b ≠ b')) (H : Hid (x ≤ 0 → y ≤ 0 → z ≤ 0)) :
    Calls Tryd.prog 4 #[vv k i s, vv k' i' s', vv k'' i'' s''] w fun e w' => e = .returned (.bool true) ∧ Below w.heap.size w w' := by
  have hq : (k ≠ k') ∨ (k = k' ∧ i ≠ i') ∨ (k = k' ∧ i = i' ∧ s.toList ≠ s'.toList) := by
    have hn : ¬ (k = k' ∧ i = i' ∧ s = s') := by rcases hx with ⟨_, _, _, _, h, _⟩ | ⟨_, _, _, _, h, _⟩ <;> exact h
    by_cases h1 : k = k'
    · by_cases h2 : i = i'
      · refine .inr (.inr ⟨h1, h2, fun e => hn ⟨h1, h2, bytes_ext (by rwa [ByteArray.toList_eq, ByteArray.toList_eq] at e)⟩⟩)
      · exact .inr (.inl ⟨h1, h2⟩)
    · exact .inl h1
  have IA := Lib.hid IA.out
  have IB := Lib.hid IB.out
  have IC := Lib.hid IC.out
  have C3 := Lib.hid C3.out
  have C4 := Lib.hid C4.out
  have P1 := Lib.hid P1.out
  have P2 := Lib.hid P2.out
  have C1 := Lib.hid C1.out
  have C2 := Lib.hid C2.out
  have NN := Lib.hid NN.out
  have T1 := Lib.hid (fun h1 h2 => (T1 h1 h2).out)
  have T2 := Lib.hid (fun h1 h2 => (T2 h1 h2).out)
  have HN : Hid ((b.toList == b'.toList) = false) := by
    have hb : b ≠ b' := by rcases hx with ⟨_, _, _, _, _, h⟩ | ⟨_, _, _, _, _, h⟩ <;> exact h
    show _ = _
    rw [beq_eq_false_iff_ne]
    exact fun e => hb (bytes_ext (by rwa [ByteArray.toList_eq, ByteArray.toList_eq] at e))
  rcases hx with ⟨rfl, rfl, rfl, rfl, -, hb⟩ | ⟨rfl, rfl, rfl, rfl, -, hb⟩
  all_goals rcases hq with hq | ⟨rfl, hq⟩ | ⟨rfl, rfl, hq⟩
  all_goals
    go_enter Tryd.func4, Tryd.ntmps4
    go_wp2_with (first | (go_at_call 9; (with_reducible refine (known6 _ (HE.out _ _ _)).mono ?_); rintro e w' ⟨rfl, hb⟩; obtain ⟨p, rfl⟩ := Xk.exw_of hb; clear hb) | (go_at_call 11; (with_reducible refine (IA.out _).mono ?_); rintro e w' ⟨rfl, hb⟩; obtain ⟨p, rfl⟩ := Xk.exw_of hb; clear hb) | (go_at_call 11; (with_reducible refine (IB.out _).mono ?_); rintro e w' ⟨rfl, hb⟩; obtain ⟨p, rfl⟩ := Xk.exw_of hb; clear hb) | (go_at_call 11; (with_reducible refine (IC.out _).mono ?_); rintro e w' ⟨rfl, hb⟩; obtain ⟨p, rfl⟩ := Xk.exw_of hb; clear hb) | (go_at_call 12; (with_reducible refine (C1.out _).mono ?_); rintro e w' ⟨rfl, hb⟩; obtain ⟨p, rfl⟩ := Xk.exw_of hb; clear hb))
    refine Xk.wp_region_rel' 25 [] trivial (by kernel_rfl) (by kernel_rfl) ?_
    simp only [List.take_succ_cons, List.take_zero, List.drop_succ_cons, List.drop_zero]
    repeat (first
      | (refine Xk.rel_skip (by rfl) (fun K hK => ?_); go_simp; refine hK _ ?_; clear hK K)
      | (refine Xk.rel_det (by rfl) (by rfl) (fun K hK => ?_); apply Exists.intro; refine ⟨fun p hp => ?_, ?_⟩; (go_simp; first | exact ⟨rfl, rfl⟩ | ((try refine ⟨by kernel_rfl, ?_⟩); (first | (simp only [hq, if_true, if_false]; exact ⟨rfl, rfl⟩) | (go_at_call 12; ((with_reducible refine (C2.out _).mono ?_); exact fun e w' h => h)) | (go_at_call 13; ((with_reducible refine (P1.out _ (HE3.out _ _ _ _)).mono ?_); exact fun e w' h => h)) | (go_at_call 13; ((with_reducible refine (P2.out _ (HE3.out _ _ _ _)).mono ?_); exact fun e w' h => h))))); (go_simp; refine hK _ ?_; clear hK K)))
    refine Xk.rel_nil (fun p _ => ?_)
    go_wp2_with (first | (go_at_call 12; (with_reducible refine (C3.out _).mono ?_); rintro e w' ⟨rfl, hb⟩; obtain ⟨p, rfl⟩ := Xk.exw_of hb; clear hb) | (go_at_call 12; (with_reducible refine (C4.out _).mono ?_); rintro e w' ⟨rfl, hb⟩; obtain ⟨p, rfl⟩ := Xk.exw_of hb; clear hb) | (go_at_call 10; (with_reducible refine (T1.out (by first | assumption | exact bne_iff_ne.1 (by assumption) | exact bne_iff_ne.1 (And.left (by assumption))) (by first | rfl | trivial | assumption | exact eq_of_beq (by assumption) | exact eq_of_beq (And.right (by assumption))) _).mono ?_); rintro e w' ⟨rfl, hb⟩; obtain ⟨p, rfl⟩ := Xk.exw_of hb; clear hb) | (go_at_call 10; (with_reducible refine (T2.out (by first | assumption | exact bne_iff_ne.1 (by assumption) | exact bne_iff_ne.1 (And.left (by assumption))) (by first | rfl | trivial | assumption | exact eq_of_beq (by assumption) | exact eq_of_beq (And.right (by assumption))) _).mono ?_); rintro e w' ⟨rfl, hb⟩; obtain ⟨p, rfl⟩ := Xk.exw_of hb; clear hb) | (go_at_call 14; (with_reducible refine (NN.out _).mono ?_); rintro e w' ⟨rfl, hb⟩; obtain ⟨p, rfl⟩ := Xk.exw_of hb; clear hb))
    all_goals first
      | (go_ret; exact ⟨rfl, (by repeat (first | with_reducible exact Below.refl _ _ | ((with_reducible refine Below.setCell ?_ ?_ _); rotate_left; exact (by (try simp only [World.size_alloc, Xk.exw_size, World.size_setCell, World.size_drew, World.heap_drewN]); omega)) | ((with_reducible refine Below.alloc ?_ ?_ _); rotate_left; exact (by (try simp only [World.size_alloc, Xk.exw_size, World.size_setCell, World.size_drew, World.heap_drewN]); omega)) | ((with_reducible refine Xk.below_exw ?_ ?_ _); rotate_left; exact (by (try simp only [World.size_alloc, Xk.exw_size, World.size_setCell, World.size_drew, World.heap_drewN]); omega)) | (with_reducible refine Below.drew ?_)))⟩)
      | (exfalso; rename_i h; rcases h with h | h <;> first | exact absurd h (by decide) | (rw [HN.out] at h; cases h))
      | (exfalso; have := H.out (by decide) (by assumption); omega)
end Go.Proofs.YtpikcjpimciniaaDoor
