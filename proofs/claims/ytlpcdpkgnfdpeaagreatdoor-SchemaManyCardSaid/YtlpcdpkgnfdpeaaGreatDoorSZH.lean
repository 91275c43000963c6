/- Walks: a DELETE is one, and its print; pantilelaw12.ParseNumbers. -/
import Derived.Test.YtlpcdpkgnfdpeaaGreatDoorSZB
import Derived.Test.YtlpcdpkgnfdpeaaGreatDoorSA
set_option linter.unusedSimpArgs false
set_option linter.unusedVariables false
set_option maxRecDepth 100000
set_option maxHeartbeats 80000000
namespace Go.Proofs.YtlpcdpkgnfdpeaaGreatDoor
open Go.RowKit
end Go.Proofs.YtlpcdpkgnfdpeaaGreatDoor
