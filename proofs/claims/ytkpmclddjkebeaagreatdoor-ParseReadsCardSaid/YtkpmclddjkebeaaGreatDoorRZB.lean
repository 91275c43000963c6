/- Walks: pantilelaw12.ParseMany. -/
import Derived.Test.YtkpmclddjkebeaaGreatDoorRI
set_option linter.unusedSimpArgs false
set_option linter.unusedVariables false
set_option maxRecDepth 100000
set_option maxHeartbeats 80000000
namespace P12
end P12
namespace Go.Proofs.YtkpmclddjkebeaaGreatDoor
open Go.RowKit
end Go.Proofs.YtkpmclddjkebeaaGreatDoor
