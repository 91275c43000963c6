/- The walk of the statement ValueLogic. -/
import Derived.Test.YtpikcjpimciniaaDoorI
namespace Go.Proofs.YtpikcjpimciniaaDoor
open Go.RowKit

theorem logic_facts (a b c : Int) : (andI a b != andI b a) = false ∧ (orTI a b != notI (andI (notI a) (notI b))) = false ∧ (notI (notI (notI a)) != notI a) = false ∧
    (andI a (orTI b c) == orTI (andI a b) (andI a c)) = true ∧ (andI a (andI b c) == andI (andI a b) c) = true := by
  have k : ∀ x, x = 0 ∨ x = 1 ∨ x = 2 → P6.knownI x = x := fun x h => by rcases h with rfl | rfl | rfl <;> rfl
  unfold orTI andI notI
  rcases known_012 a with ha | ha | ha <;> rcases known_012 b with hb | hb | hb <;> rcases known_012 c with hc | hc | hc <;> rw [ha, hb, hc] <;> decide
theorem ofV_form (t : Int) : ∃ k i, ofV t = vv k i ⟨#[]⟩ := by
  unfold ofV; split
  · exact ⟨_, _, rfl⟩
  · exact ⟨_, _, rfl⟩

set_option maxRecDepth 100000 in
set_option maxHeartbeats 4000000 in
theorem valueLogic_walk (a b c : Int) (w : World) (hE : Env w) :
    Calls Tryd.prog 8 #[.int .i64 a, .int .i64 b, .int .i64 c] w fun e w' => e = .returned (.bool true) ∧ Below w.heap.size w w' := by
  obtain ⟨f1, f2, f3, f4, f5⟩ := logic_facts a b c
  obtain ⟨k, i, ho⟩ := ofV_form a
  have O1 := fun w => of_any a w
  have O2 := fun w => refOf_any a w
  rw [ho] at O1 O2
  have H1 := Lib.hid O1
  have H2 := Lib.hid O2
  have HE := Lib.hid hE
  clear O1 O2 ho hE
  go_enter Tryd.func8, Tryd.ntmps8
  go_wp2_with (first | (go_at_call 9; (with_reducible refine (known6 _ HE.out).mono ?_); rintro e w' ⟨rfl, hb⟩; obtain ⟨p, rfl⟩ := Xk.exw_of hb; clear hb) | (go_at_call 23; (with_reducible refine (and_any _ _ _).mono ?_); rintro e w' ⟨rfl, hb⟩; obtain ⟨p, rfl⟩ := Xk.exw_of hb; clear hb) | (go_at_call 24; (with_reducible refine (refAnd_any _ _ _).mono ?_); rintro e w' ⟨rfl, hb⟩; obtain ⟨p, rfl⟩ := Xk.exw_of hb; clear hb) | (go_at_call 25; (with_reducible refine (vor_any _ _ _).mono ?_); rintro e w' ⟨rfl, hb⟩; obtain ⟨p, rfl⟩ := Xk.exw_of hb; clear hb) | (go_at_call 26; (with_reducible refine (refOr_any _ _ _).mono ?_); rintro e w' ⟨rfl, hb⟩; obtain ⟨p, rfl⟩ := Xk.exw_of hb; clear hb) | (go_at_call 14; (with_reducible refine (not_any _ _).mono ?_); rintro e w' ⟨rfl, hb⟩; obtain ⟨p, rfl⟩ := Xk.exw_of hb; clear hb) | (go_at_call 27; (with_reducible refine (refNot_any _ _).mono ?_); rintro e w' ⟨rfl, hb⟩; obtain ⟨p, rfl⟩ := Xk.exw_of hb; clear hb) | (go_at_call 28; (with_reducible refine (H1.out _).mono ?_); rintro e w' ⟨rfl, hb⟩; obtain ⟨p, rfl⟩ := Xk.exw_of hb; clear hb) | (go_at_call 29; (with_reducible refine (H2.out _).mono ?_); rintro e w' ⟨rfl, hb⟩; obtain ⟨p, rfl⟩ := Xk.exw_of hb; clear hb))
  all_goals
    go_ret
    exact ⟨rfl, (by repeat (first | with_reducible exact Below.refl _ _ | ((with_reducible refine Below.setCell ?_ ?_ _); rotate_left; exact (by (try simp only [World.size_alloc, Xk.exw_size, World.size_setCell, World.size_drew, World.heap_drewN]); omega)) | ((with_reducible refine Below.alloc ?_ ?_ _); rotate_left; exact (by (try simp only [World.size_alloc, Xk.exw_size, World.size_setCell, World.size_drew, World.heap_drewN]); omega)) | ((with_reducible refine Xk.below_exw ?_ ?_ _); rotate_left; exact (by (try simp only [World.size_alloc, Xk.exw_size, World.size_setCell, World.size_drew, World.heap_drewN]); omega)) | (with_reducible refine Below.drew ?_)))⟩
end Go.Proofs.YtpikcjpimciniaaDoor
