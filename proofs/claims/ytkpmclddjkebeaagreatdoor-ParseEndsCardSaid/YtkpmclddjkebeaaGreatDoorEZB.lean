/- Walks: pantilelaw12.ParseMany. -/
import Derived.Test.YtkpmclddjkebeaaGreatDoorEI
import Derived.Test.YtkpmclddjkebeaaGreatDoorEA
set_option linter.unusedSimpArgs false
set_option linter.unusedVariables false
set_option maxRecDepth 100000
set_option maxHeartbeats 8000000
namespace P12
end P12
namespace Go.Proofs.YtkpmclddjkebeaaGreatDoor
open Go.RowKit
theorem parse_seen (s : ByteArray) (w : World) (hP : EnvP w) : Calls Tryz.prog 11 #[.string s] w fun e w' => ∃ (l : List Value) (p k : Int), e = .returned (.tuple #[.agg l.toArray, .int .i64 p, .int .i64 k]) ∧ Xk.Ext w w' ∧ l.length = 37 ∧ l.toArray.all (·.oneCell') = true ∧ (Tryz.prog.info? 40).map (·.size) = some l.toArray.size ∧
  (match P12.parse s.data.toList with | .ok x => k = 0 ∧ p = 0 ∧ StmtIn (fun b => w.heap.size ≤ b) w' x l | .error er => p = er.1 ∧ k = er.2) := by
 refine (parse_any s w hP).mono ?_
 rintro e w' ⟨hx, h⟩
 cases hr : P12.parse s.data.toList with
 | ok x =>
  rw [hr] at h
  obtain ⟨l, he, hs⟩ := h
  obtain ⟨h1, h2⟩ := stmt_one hs
  exact ⟨l, 0, 0, he, hx, hs.length, h1, h2, rfl, rfl, hs⟩
 | error er =>
  rw [hr] at h
  exact ⟨zero37, _, _, h, hx, rfl, by kernel_rfl, by kernel_rfl, rfl, rfl⟩
end Go.Proofs.YtkpmclddjkebeaaGreatDoor
