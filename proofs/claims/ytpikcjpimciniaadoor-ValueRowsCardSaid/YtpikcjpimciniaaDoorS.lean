/- The walk of the statement ValueRows. -/
import Derived.Test.YtpikcjpimciniaaDoorR
import Derived.Test.YtpikcjpimciniaaDoorI
set_option linter.unusedSimpArgs false
set_option linter.unusedVariables false
namespace Go.Proofs.YtpikcjpimciniaaDoor
open Go.RowKit

set_option maxRecDepth 100000 in
set_option maxHeartbeats 4000000 in
theorem valueRows_walk (va vb : Value) (l m : List V) (w : World) (hE : Env w) (ha : RowAt w va l) (hb : RowAt w vb m) (hl : l.length ≤ maxLen) (hm : m.length ≤ maxLen) :
    Calls Tryd.prog 5 #[va, vb] w fun e w' => e = .returned (.bool true) ∧ Below w.heap.size w w' := by
  have HE := Lib.hid hE
  clear hE
  have HA := Lib.hid (fun p => ha.ext (Xk.ext_exw w p))
  have HB := Lib.hid (fun p => hb.ext (Xk.ext_exw w p))
  obtain ⟨pa, ca, rfl, -⟩ := ha
  obtain ⟨pb, cb, rfl, -⟩ := hb
  have HR := Lib.hid (fun (hl : l.length ≤ 50) (hm : m.length ≤ 50) p => rows_any _ _ l m _ (HA.out p) (HB.out p) (by omega) (by omega))
  have HS := Lib.hid (fun (hl : l.length ≤ 50) (hm : m.length ≤ 50) p => refRows_any _ _ l m _ (HA.out p) (HB.out p) (by omega) (by omega))
  have H1 := Lib.hid hl
  have H2 := Lib.hid hm
  clear hl hm HA HB
  go_enter Tryd.func5, Tryd.ntmps5
  go_wp2_with (first | (go_at_call 9; (with_reducible refine (known6 _ HE.out).mono ?_); rintro e w' ⟨rfl, hb⟩; obtain ⟨p, rfl⟩ := Xk.exw_of hb; clear hb) | (go_at_call 15; (with_reducible refine (HR.out (by omega) (by omega) _).mono ?_); rintro e w' ⟨rfl, hb⟩; obtain ⟨p, rfl⟩ := Xk.exw_of hb; clear hb) | (go_at_call 16; (with_reducible refine (HS.out (by omega) (by omega) _).mono ?_); rintro e w' ⟨rfl, hb⟩; obtain ⟨p, rfl⟩ := Xk.exw_of hb; clear hb))
  all_goals
    go_ret
    exact ⟨rfl, (by repeat (first | with_reducible exact Below.refl _ _ | ((with_reducible refine Below.setCell ?_ ?_ _); rotate_left; exact (by (try simp only [World.size_alloc, Xk.exw_size, World.size_setCell, World.size_drew, World.heap_drewN]); omega)) | ((with_reducible refine Below.alloc ?_ ?_ _); rotate_left; exact (by (try simp only [World.size_alloc, Xk.exw_size, World.size_setCell, World.size_drew, World.heap_drewN]); omega)) | ((with_reducible refine Xk.below_exw ?_ ?_ _); rotate_left; exact (by (try simp only [World.size_alloc, Xk.exw_size, World.size_setCell, World.size_drew, World.heap_drewN]); omega)) | (with_reducible refine Below.drew ?_)))⟩
end Go.Proofs.YtpikcjpimciniaaDoor
