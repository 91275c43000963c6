/- Walks: the tests and truths of package value. -/
import Derived.Test.YtpikcjpimciniaaDoorB
set_option linter.unusedSimpArgs false
set_option linter.unusedVariables false
namespace Go.Proofs.YtpikcjpimciniaaDoor
open Go.RowKit

set_option maxRecDepth 100000 in
set_option maxHeartbeats 2000000 in
theorem holds_any (op c : Int) (w : World) :
    Calls Tryd.prog 31 #[.int .i64 op, .int .i64 c] w fun e w' => e = .returned (.bool (P6.holdsV op c)) ∧ w = w' := by
  go_enter Tryd.func31, Tryd.ntmps31
  go_wp2
  all_goals
    go_ret
    refine ⟨retB ?_, rfl⟩
    go_light
    simp_all [P6.holdsV, bne, Bool.beq_eq_decide_eq]
    try (by_cases hc : c = 0 <;> simp [hc])

theorem truth_any (b : Bool) (w : World) :
    Calls Tryd.prog 30 #[.bool b] w fun e w' => e = .returned (.int .i64 (P6.truthI b)) ∧ w = w' := by
  cases b
  all_goals
    go_enter Tryd.func30, Tryd.ntmps30
    go_wp2
    go_ret
    exact ⟨rfl, rfl⟩

theorem known_any (t : Int) (w : World) :
    Calls Tryd.prog 40 #[.int .i64 t] w fun e w' => e = .returned (.int .i64 (P6.knownI t)) ∧ w = w' := by
  go_enter Tryd.func40, Tryd.ntmps40
  go_wp2
  all_goals
    go_ret
    refine ⟨retI ?_, rfl⟩
    unfold P6.knownI
    first | rw [if_pos (by omega)] | rw [if_neg (by omega)]

theorem ret2 {t : Int × Int} {a b : Int} {j q : IntKind} (h : t = (a, b)) : Ending.returned (.tuple #[.int j a, .int q b]) = .returned (.tuple #[.int j t.1, .int q t.2]) := by rw [h]
def testT (op k i : Int) (s : ByteArray) (k' i' : Int) (s' : ByteArray) : Int × Int :=
  if !P6.isV k i s.data.toList || !P6.isV k' i' s'.data.toList || decide (op < 3) || decide (8 < op) || (!(decide (k = 0) || decide (k' = 0)) && !decide (k = k')) then (0, 60)
  else if decide (k = 0) || decide (k' = 0) then (2, 0) else (P6.truthI (P6.holdsV op (cmpV k i s k' i' s')), 0)

set_option maxRecDepth 100000 in
set_option maxHeartbeats 2000000 in
theorem test_any (op k i : Int) (s : ByteArray) (k' i' : Int) (s' : ByteArray) (w : World) :
    Calls Tryd.prog 10 #[.int .i64 op, vv k i s, vv k' i' s'] w fun e w' => e = .returned (.tuple #[.int .i64 (testT op k i s k' i' s').1, .int .i64 (testT op k i s k' i' s').2]) ∧ Below w.heap.size w w' := by
  go_enter Tryd.func10, Tryd.ntmps10
  go_wp2_with (first
    | (go_at_call 11; (with_reducible refine (is_any _ _ _ _).mono ?_); rintro e w' ⟨rfl, hb⟩; obtain ⟨p, rfl⟩ := Xk.exw_of hb; clear hb)
    | (go_at_call 12; (with_reducible refine (compare_any _ _ _ _ _ _ _).mono ?_); rintro e w' ⟨rfl, hb⟩; obtain ⟨p, rfl⟩ := Xk.exw_of hb; clear hb)
    | (go_at_call 31; (with_reducible refine (holds_any _ _ _).mono ?_); rintro e w' ⟨rfl, rfl⟩)
    | (go_at_call 30; (with_reducible refine (truth_any _ _).mono ?_); rintro e w' ⟨rfl, rfl⟩))
  all_goals
    go_ret2
    refine ⟨ret2 ?_, (by repeat (first | with_reducible exact Below.refl _ _ | ((with_reducible refine Below.setCell ?_ ?_ _); rotate_left; exact (by (try simp only [World.size_alloc, Xk.exw_size, World.size_setCell, World.size_drew, World.heap_drewN]); omega)) | ((with_reducible refine Below.alloc ?_ ?_ _); rotate_left; exact (by (try simp only [World.size_alloc, Xk.exw_size, World.size_setCell, World.size_drew, World.heap_drewN]); omega)) | ((with_reducible refine Xk.below_exw ?_ ?_ _); rotate_left; exact (by (try simp only [World.size_alloc, Xk.exw_size, World.size_setCell, World.size_drew, World.heap_drewN]); omega)) | (with_reducible refine Below.drew ?_)))⟩
    go_light
    simp_all [testT]
    try omega
def truthT (k i : Int) (s : ByteArray) : Int × Int :=
  if !P6.isV k i s.data.toList || decide (1 < k) then (0, 60) else if k = 0 then (2, 0) else (P6.truthI (i == 1), 0)

set_option maxRecDepth 100000 in
set_option maxHeartbeats 2000000 in
theorem truthOf_any (k i : Int) (s : ByteArray) (w : World) :
    Calls Tryd.prog 18 #[vv k i s] w fun e w' => e = .returned (.tuple #[.int .i64 (truthT k i s).1, .int .i64 (truthT k i s).2]) ∧ Below w.heap.size w w' := by
  go_enter Tryd.func18, Tryd.ntmps18
  go_wp2_with (first
    | (go_at_call 11; (with_reducible refine (is_any _ _ _ _).mono ?_); rintro e w' ⟨rfl, hb⟩; obtain ⟨p, rfl⟩ := Xk.exw_of hb; clear hb)
    | (go_at_call 30; (with_reducible refine (truth_any _ _).mono ?_); rintro e w' ⟨rfl, rfl⟩))
  all_goals
    go_ret2
    refine ⟨ret2 ?_, (by repeat (first | with_reducible exact Below.refl _ _ | ((with_reducible refine Below.setCell ?_ ?_ _); rotate_left; exact (by (try simp only [World.size_alloc, Xk.exw_size, World.size_setCell, World.size_drew, World.heap_drewN]); omega)) | ((with_reducible refine Below.alloc ?_ ?_ _); rotate_left; exact (by (try simp only [World.size_alloc, Xk.exw_size, World.size_setCell, World.size_drew, World.heap_drewN]); omega)) | ((with_reducible refine Xk.below_exw ?_ ?_ _); rotate_left; exact (by (try simp only [World.size_alloc, Xk.exw_size, World.size_setCell, World.size_drew, World.heap_drewN]); omega)) | (with_reducible refine Below.drew ?_)))⟩
    go_light
    simp_all [truthT]
    try omega

def ofV (t : Int) : Value := if t = 0 ∨ t = 1 then vv 1 t ⟨#[]⟩ else vv 0 0 ⟨#[]⟩
set_option maxRecDepth 100000 in
set_option maxHeartbeats 2000000 in
theorem of_any (t : Int) (w : World) :
    Calls Tryd.prog 28 #[.int .i64 t] w fun e w' => e = .returned (ofV t) ∧ Below w.heap.size w w' := by
  by_cases h0 : t = 0
  · subst h0
    go_enter Tryd.func28, Tryd.ntmps28
    go_wp2
    refine bodyPost_ret (v := ofV 0) (by simp [results, Tryd.results28, go_sem, ofV]) rfl ⟨rfl, (by repeat (first | with_reducible exact Below.refl _ _ | ((with_reducible refine Below.setCell ?_ ?_ _); rotate_left; exact (by (try simp only [World.size_alloc, Xk.exw_size, World.size_setCell, World.size_drew, World.heap_drewN]); omega)) | ((with_reducible refine Below.alloc ?_ ?_ _); rotate_left; exact (by (try simp only [World.size_alloc, Xk.exw_size, World.size_setCell, World.size_drew, World.heap_drewN]); omega)) | ((with_reducible refine Xk.below_exw ?_ ?_ _); rotate_left; exact (by (try simp only [World.size_alloc, Xk.exw_size, World.size_setCell, World.size_drew, World.heap_drewN]); omega)) | (with_reducible refine Below.drew ?_)))⟩
  by_cases h1 : t = 1
  · subst h1
    go_enter Tryd.func28, Tryd.ntmps28
    go_wp2
    refine bodyPost_ret (v := ofV 1) (by simp [results, Tryd.results28, go_sem, ofV]) rfl ⟨rfl, (by repeat (first | with_reducible exact Below.refl _ _ | ((with_reducible refine Below.setCell ?_ ?_ _); rotate_left; exact (by (try simp only [World.size_alloc, Xk.exw_size, World.size_setCell, World.size_drew, World.heap_drewN]); omega)) | ((with_reducible refine Below.alloc ?_ ?_ _); rotate_left; exact (by (try simp only [World.size_alloc, Xk.exw_size, World.size_setCell, World.size_drew, World.heap_drewN]); omega)) | ((with_reducible refine Xk.below_exw ?_ ?_ _); rotate_left; exact (by (try simp only [World.size_alloc, Xk.exw_size, World.size_setCell, World.size_drew, World.heap_drewN]); omega)) | (with_reducible refine Below.drew ?_)))⟩
  · have e0 : (t != 0) = true := by simpa using h0
    have e1 : (t != 1) = true := by simpa using h1
    go_enter Tryd.func28, Tryd.ntmps28
    go_wp2
    refine bodyPost_ret (v := ofV t) (by simp [results, Tryd.results28, go_sem, ofV, h0, h1]) rfl ⟨rfl, (by repeat (first | with_reducible exact Below.refl _ _ | ((with_reducible refine Below.setCell ?_ ?_ _); rotate_left; exact (by (try simp only [World.size_alloc, Xk.exw_size, World.size_setCell, World.size_drew, World.heap_drewN]); omega)) | ((with_reducible refine Below.alloc ?_ ?_ _); rotate_left; exact (by (try simp only [World.size_alloc, Xk.exw_size, World.size_setCell, World.size_drew, World.heap_drewN]); omega)) | ((with_reducible refine Xk.below_exw ?_ ?_ _); rotate_left; exact (by (try simp only [World.size_alloc, Xk.exw_size, World.size_setCell, World.size_drew, World.heap_drewN]); omega)) | (with_reducible refine Below.drew ?_)))⟩

def andI (a b : Int) : Int := if P6.knownI a = 0 then 0 else if P6.knownI a = 1 then P6.knownI b else if P6.knownI b = 0 then 0 else 2
def orTI (a b : Int) : Int := if P6.knownI a = 1 then 1 else if P6.knownI a = 0 then P6.knownI b else if P6.knownI b = 1 then 1 else 2
def notI (a : Int) : Int := if P6.knownI a = 0 then 1 else if P6.knownI a = 1 then 0 else 2
theorem known_012 (t : Int) : P6.knownI t = 0 ∨ P6.knownI t = 1 ∨ P6.knownI t = 2 := by unfold P6.knownI; split <;> omega

set_option maxRecDepth 100000 in
set_option maxHeartbeats 2000000 in
theorem not_any (a : Int) (w : World) :
    Calls Tryd.prog 14 #[.int .i64 a] w fun e w' => e = .returned (.int .i64 (notI a)) ∧ Below w.heap.size w w' := by
  have hk := known_any a
  unfold notI
  rcases known_012 a with h | h | h
  all_goals
    rw [h] at hk ⊢
    have H := Lib.hid hk
    clear hk h
    go_enter Tryd.func14, Tryd.ntmps14
    go_wp2_with (go_at_call 40; (with_reducible refine (H.out _).mono ?_); rintro e w' ⟨rfl, rfl⟩)
    go_ret
    exact ⟨rfl, (by repeat (first | with_reducible exact Below.refl _ _ | ((with_reducible refine Below.setCell ?_ ?_ _); rotate_left; exact (by (try simp only [World.size_alloc, Xk.exw_size, World.size_setCell, World.size_drew, World.heap_drewN]); omega)) | ((with_reducible refine Below.alloc ?_ ?_ _); rotate_left; exact (by (try simp only [World.size_alloc, Xk.exw_size, World.size_setCell, World.size_drew, World.heap_drewN]); omega)) | ((with_reducible refine Xk.below_exw ?_ ?_ _); rotate_left; exact (by (try simp only [World.size_alloc, Xk.exw_size, World.size_setCell, World.size_drew, World.heap_drewN]); omega)) | (with_reducible refine Below.drew ?_)))⟩

set_option maxRecDepth 100000 in
set_option maxHeartbeats 2000000 in
theorem and_any (a b : Int) (w : World) :
    Calls Tryd.prog 23 #[.int .i64 a, .int .i64 b] w fun e w' => e = .returned (.int .i64 (andI a b)) ∧ Below w.heap.size w w' := by
  have hk := known_any a
  have hk' := known_any b
  unfold andI
  rcases known_012 a with h | h | h <;> rcases known_012 b with h' | h' | h'
  all_goals
    rw [h] at hk ⊢
    rw [h'] at hk' ⊢
    have H := Lib.hid hk
    have H' := Lib.hid hk'
    clear hk hk' h h'
    go_enter Tryd.func23, Tryd.ntmps23
    go_wp2_with fail
    refine Xk.wp_region_rel' 11 [] trivial (by kernel_rfl) (by kernel_rfl) ?_
    simp only [List.take_succ_cons, List.take_zero, List.drop_succ_cons, List.drop_zero]
    repeat (first
      | (refine Xk.rel_skip (by rfl) (fun K hK => ?_); go_simp; refine hK _ ?_; clear hK K)
      | (refine Xk.rel_det (by rfl) (by rfl) (fun K hK => ?_); apply Exists.intro; refine ⟨fun p hp => ?_, ?_⟩; (go_simp; first | exact ⟨rfl, rfl⟩ | ((try refine ⟨by kernel_rfl, ?_⟩); (first | ((with_reducible refine (H.out _).mono ?_); exact fun e w' h => ⟨h.1, by rw [← h.2]; exact Below.refl _ _⟩) | ((with_reducible refine (H'.out _).mono ?_); exact fun e w' h => ⟨h.1, by rw [← h.2]; exact Below.refl _ _⟩)))); (go_simp; refine hK _ ?_; clear hK K)))
    refine Xk.rel_nil (fun p _ => ?_)
    go_wp2
    go_ret
    exact ⟨rfl, (by repeat (first | with_reducible exact Below.refl _ _ | ((with_reducible refine Below.setCell ?_ ?_ _); rotate_left; exact (by (try simp only [World.size_alloc, Xk.exw_size, World.size_setCell, World.size_drew, World.heap_drewN]); omega)) | ((with_reducible refine Below.alloc ?_ ?_ _); rotate_left; exact (by (try simp only [World.size_alloc, Xk.exw_size, World.size_setCell, World.size_drew, World.heap_drewN]); omega)) | ((with_reducible refine Xk.below_exw ?_ ?_ _); rotate_left; exact (by (try simp only [World.size_alloc, Xk.exw_size, World.size_setCell, World.size_drew, World.heap_drewN]); omega)) | (with_reducible refine Below.drew ?_)))⟩

set_option maxRecDepth 100000 in
set_option maxHeartbeats 2000000 in
theorem vor_any (a b : Int) (w : World) :
    Calls Tryd.prog 25 #[.int .i64 a, .int .i64 b] w fun e w' => e = .returned (.int .i64 (orTI a b)) ∧ Below w.heap.size w w' := by
  have hk := known_any a
  have hk' := known_any b
  unfold orTI
  rcases known_012 a with h | h | h <;> rcases known_012 b with h' | h' | h'
  all_goals
    rw [h] at hk ⊢
    rw [h'] at hk' ⊢
    have H := Lib.hid hk
    have H' := Lib.hid hk'
    clear hk hk' h h'
    go_enter Tryd.func25, Tryd.ntmps25
    go_wp2_with fail
    refine Xk.wp_region_rel' 11 [] trivial (by kernel_rfl) (by kernel_rfl) ?_
    simp only [List.take_succ_cons, List.take_zero, List.drop_succ_cons, List.drop_zero]
    repeat (first
      | (refine Xk.rel_skip (by rfl) (fun K hK => ?_); go_simp; refine hK _ ?_; clear hK K)
      | (refine Xk.rel_det (by rfl) (by rfl) (fun K hK => ?_); apply Exists.intro; refine ⟨fun p hp => ?_, ?_⟩; (go_simp; first | exact ⟨rfl, rfl⟩ | ((try refine ⟨by kernel_rfl, ?_⟩); (first | ((with_reducible refine (H.out _).mono ?_); exact fun e w' h => ⟨h.1, by rw [← h.2]; exact Below.refl _ _⟩) | ((with_reducible refine (H'.out _).mono ?_); exact fun e w' h => ⟨h.1, by rw [← h.2]; exact Below.refl _ _⟩)))); (go_simp; refine hK _ ?_; clear hK K)))
    refine Xk.rel_nil (fun p _ => ?_)
    go_wp2
    go_ret
    exact ⟨rfl, (by repeat (first | with_reducible exact Below.refl _ _ | ((with_reducible refine Below.setCell ?_ ?_ _); rotate_left; exact (by (try simp only [World.size_alloc, Xk.exw_size, World.size_setCell, World.size_drew, World.heap_drewN]); omega)) | ((with_reducible refine Below.alloc ?_ ?_ _); rotate_left; exact (by (try simp only [World.size_alloc, Xk.exw_size, World.size_setCell, World.size_drew, World.heap_drewN]); omega)) | ((with_reducible refine Xk.below_exw ?_ ?_ _); rotate_left; exact (by (try simp only [World.size_alloc, Xk.exw_size, World.size_setCell, World.size_drew, World.heap_drewN]); omega)) | (with_reducible refine Below.drew ?_)))⟩

end Go.Proofs.YtpikcjpimciniaaDoor
