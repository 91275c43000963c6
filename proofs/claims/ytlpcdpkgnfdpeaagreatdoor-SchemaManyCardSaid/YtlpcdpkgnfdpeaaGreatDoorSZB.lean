/- Walks: pantilelaw12.ParseMany. -/
import Derived.Test.YtlpcdpkgnfdpeaaGreatDoorSI
import Derived.Test.YtlpcdpkgnfdpeaaGreatDoorSA
set_option linter.unusedSimpArgs false
set_option linter.unusedVariables false
set_option maxRecDepth 100000
set_option maxHeartbeats 80000000
namespace P12
end P12
namespace Go.Proofs.YtlpcdpkgnfdpeaaGreatDoor
open Go.RowKit
end Go.Proofs.YtlpcdpkgnfdpeaaGreatDoor
