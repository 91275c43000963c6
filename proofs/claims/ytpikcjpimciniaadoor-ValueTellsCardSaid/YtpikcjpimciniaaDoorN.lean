/- The walks of the statements ValueTells, ValueRows and ValueOrder. -/
import Derived.Test.YtpikcjpimciniaaDoorI
import Derived.Test.YtpikcjpimciniaaDoorP8
set_option linter.unusedSimpArgs false
set_option linter.unusedVariables false
namespace Go.Proofs.YtpikcjpimciniaaDoor
open Go.RowKit

set_option maxRecDepth 100000 in
set_option maxHeartbeats 4000000 in
theorem valueTells_walk (op k i k' i' : Int) (s s' : ByteArray) (hi0 : -9223372036854775808 ≤ i) (hi1 : i ≤ 9223372036854775807) (hs : s.size ≤ maxLen) (hs' : s'.size ≤ maxLen) (w : World) (hE : Env w) :
    Calls Tryd.prog 7 #[.int .i64 op, vv k i s, vv k' i' s'] w fun e w' => e = .returned (.bool true) ∧ Below w.heap.size w w' := by
  have HE := Lib.hid hE
  have hE1 : ∀ o o' p, Env (Xk.exw ((w.alloc o).alloc o') p) := fun o o' p => hE.ext (Xk.below_exw (((Below.refl _ _).alloc (Nat.le_refl _) _).alloc (by simp) _) (by simp; omega) p)
  have HE1 := Lib.hid hE1
  have HE0 := Lib.hid (show ∀ o o', Env ((w.alloc o).alloc o') from fun o o' => hE.ext (((Below.refl _ _).alloc (Nat.le_refl _) _).alloc (by simp) _))
  have HP := Lib.hid (print_any k i s hi0 hi1)
  have HR := Lib.hid (refPrint_any k i s hi0 hi1 hs)
  have H := Lib.hid hs
  have H' := Lib.hid hs'
  clear hE hE1 hi0 hi1 hs hs'
  go_enter Tryd.func7, Tryd.ntmps7
  go_wp2_with (first | (go_at_call 9; (with_reducible refine (known6 _ (HE1.out _ _ _)).mono ?_); rintro e w' ⟨rfl, hb⟩; obtain ⟨p, rfl⟩ := Xk.exw_of hb; clear hb) | (go_at_call 9; (with_reducible refine (known6 _ (HE0.out _ _)).mono ?_); rintro e w' ⟨rfl, hb⟩; obtain ⟨p, rfl⟩ := Xk.exw_of hb; clear hb) | (go_at_call 9; (with_reducible refine (known6 _ HE.out).mono ?_); rintro e w' ⟨rfl, hb⟩; obtain ⟨p, rfl⟩ := Xk.exw_of hb; clear hb) | (go_at_call 10; (with_reducible refine (test_any _ _ _ _ _ _ _ _).mono ?_); rintro e w' ⟨rfl, hb⟩; obtain ⟨p, rfl⟩ := Xk.exw_of hb; clear hb) | (go_at_call 17; (with_reducible refine (refTest_any _ _ _ _ _ _ _ _ H.out H'.out).mono ?_); rintro e w' ⟨rfl, hb⟩; obtain ⟨p, rfl⟩ := Xk.exw_of hb; clear hb) | (go_at_call 18; (with_reducible refine (truthOf_any _ _ _ _).mono ?_); rintro e w' ⟨rfl, hb⟩; obtain ⟨p, rfl⟩ := Xk.exw_of hb; clear hb) | (go_at_call 19; (with_reducible refine (refTruthOf_any _ _ _ _ H.out).mono ?_); rintro e w' ⟨rfl, hb⟩; obtain ⟨p, rfl⟩ := Xk.exw_of hb; clear hb) | (go_at_call 11; (with_reducible refine (is_any _ _ _ _).mono ?_); rintro e w' ⟨rfl, hb⟩; obtain ⟨p, rfl⟩ := Xk.exw_of hb; clear hb) | (go_at_call 20; (with_reducible refine (refIs_any _ _ _ _ H.out).mono ?_); rintro e w' ⟨rfl, hb⟩; obtain ⟨p, rfl⟩ := Xk.exw_of hb; clear hb) | (go_at_call 12; (with_reducible refine (compare_any _ _ _ _ _ _ _).mono ?_); rintro e w' ⟨rfl, hb⟩; obtain ⟨p, rfl⟩ := Xk.exw_of hb; clear hb) | (go_at_call 21; (with_reducible refine (refCompare_any _ _ _ _ _ _ _ H.out H'.out).mono ?_); rintro e w' ⟨rfl, hb⟩; obtain ⟨p, rfl⟩ := Xk.exw_of hb; clear hb) | (go_at_call 13; (with_reducible refine (HP.out _ (HE1.out _ _ _)).mono ?_); rintro e w' ⟨rfl, hb⟩; obtain ⟨p, rfl⟩ := Xk.exw_of hb; clear hb) | (go_at_call 22; (with_reducible refine (HR.out _).mono ?_); rintro e w' ⟨rfl, hb⟩; obtain ⟨p, rfl⟩ := Xk.exw_of hb; clear hb))
  all_goals first
    | (go_ret; exact ⟨rfl, (by repeat (first | with_reducible exact Below.refl _ _ | ((with_reducible refine Below.setCell ?_ ?_ _); rotate_left; exact (by (try simp only [World.size_alloc, Xk.exw_size, World.size_setCell, World.size_drew, World.heap_drewN]); omega)) | ((with_reducible refine Below.alloc ?_ ?_ _); rotate_left; exact (by (try simp only [World.size_alloc, Xk.exw_size, World.size_setCell, World.size_drew, World.heap_drewN]); omega)) | ((with_reducible refine Xk.below_exw ?_ ?_ _); rotate_left; exact (by (try simp only [World.size_alloc, Xk.exw_size, World.size_setCell, World.size_drew, World.heap_drewN]); omega)) | (with_reducible refine Below.drew ?_)))⟩)
    | (refine ?_
       refine Xk.wp_region_rel' 41 [] trivial (by kernel_rfl) (by kernel_rfl) ?_
       simp only [List.take_succ_cons, List.take_zero, List.drop_succ_cons, List.drop_zero]
       repeat (first
         | (refine Xk.rel_skip (by rfl) (fun K hK => ?_); go_simp; refine hK _ ?_; clear hK K)
         | (refine Xk.rel_det (by rfl) (by rfl) (fun K hK => ?_); apply Exists.intro; refine ⟨fun p hp => ?_, ?_⟩; (go_simp; first | exact ⟨rfl, rfl⟩ | ((try refine ⟨by kernel_rfl, ?_⟩); (first | (go_at_call 11; ((with_reducible refine (is_any _ _ _ _).mono ?_); exact fun e w' h => h)) | (go_at_call 20; ((with_reducible refine (refIs_any _ _ _ _ H.out).mono ?_); exact fun e w' h => h)) | (go_at_call 12; ((with_reducible refine (compare_any _ _ _ _ _ _ _).mono ?_); exact fun e w' h => h)) | (go_at_call 21; ((with_reducible refine (refCompare_any _ _ _ _ _ _ _ H.out H'.out).mono ?_); exact fun e w' h => h)) | (go_at_call 13; ((with_reducible refine (HP.out _ (HE1.out _ _ _)).mono ?_); exact fun e w' h => h)) | (go_at_call 22; ((with_reducible refine (HR.out _).mono ?_); exact fun e w' h => h))))); (go_simp; refine hK _ ?_; clear hK K)))
       refine Xk.rel_nil (fun p _ => ?_)
       go_wp2_with fail
       go_ret
       exact ⟨rfl, (by repeat (first | with_reducible exact Below.refl _ _ | ((with_reducible refine Below.setCell ?_ ?_ _); rotate_left; exact (by (try simp only [World.size_alloc, Xk.exw_size, World.size_setCell, World.size_drew, World.heap_drewN]); omega)) | ((with_reducible refine Below.alloc ?_ ?_ _); rotate_left; exact (by (try simp only [World.size_alloc, Xk.exw_size, World.size_setCell, World.size_drew, World.heap_drewN]); omega)) | ((with_reducible refine Xk.below_exw ?_ ?_ _); rotate_left; exact (by (try simp only [World.size_alloc, Xk.exw_size, World.size_setCell, World.size_drew, World.heap_drewN]); omega)) | (with_reducible refine Below.drew ?_)))⟩)
end Go.Proofs.YtpikcjpimciniaaDoor
