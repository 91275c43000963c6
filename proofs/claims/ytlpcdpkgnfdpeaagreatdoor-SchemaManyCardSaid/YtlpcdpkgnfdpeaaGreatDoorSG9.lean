/- Walks: SchemaMany, arguments out of range. -/
import Derived.Test.YtlpcdpkgnfdpeaaGreatDoorSR
set_option linter.unusedSimpArgs false
set_option linter.unusedVariables false
set_option maxRecDepth 100000
set_option maxHeartbeats 80000000
namespace Go.Proofs.YtlpcdpkgnfdpeaaGreatDoor
open Go.RowKit
theorem many_out (w : World) (hE : Env w) (hP : EnvP w) (T C K D : Int) (hr : ¬ (1 ≤ T ∧ T ≤ 12 ∧ 1 ≤ C ∧ C ≤ 12 ∧ 0 ≤ K ∧ K ≤ 12 ∧ 1 ≤ D ∧ D ≤ 5 ∧ D ≤ C)) : Calls Tryz.prog 3 #[.int .i64 T, .int .i64 C, .int .i64 K, .int .i64 D] w fun e w' => e = .returned (.bool true) ∧ Xk.Ext w w' := by
 have HK := Lib.hid (known13_any w hE hP)
 have HR := Lib.hid hr
 clear hE hP hr
 go_enter Tryz.func3, Tryz.ntmps3
 go_wp2_with fail
 refine HK.out.mono ?_
 rintro e w1 ⟨rfl, hx1⟩
 have HX1 := Lib.hid hx1
 clear hx1
 go_wp2_with fail
 all_goals
  first
  | (go_ret; exact ⟨rfl, HX1.out⟩)
  | (exfalso; have := HR.out; omega)
end Go.Proofs.YtlpcdpkgnfdpeaaGreatDoor
