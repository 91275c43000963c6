/- Walks: a DELETE is one, and its print; pantilelaw12.ParseNumbers. -/
import Derived.Test.YtkpmclddjkebeaaGreatDoorRZB
set_option linter.unusedSimpArgs false
set_option linter.unusedVariables false
set_option maxRecDepth 100000
set_option maxHeartbeats 80000000
namespace Go.Proofs.YtkpmclddjkebeaaGreatDoor
open Go.RowKit
end Go.Proofs.YtkpmclddjkebeaaGreatDoor
