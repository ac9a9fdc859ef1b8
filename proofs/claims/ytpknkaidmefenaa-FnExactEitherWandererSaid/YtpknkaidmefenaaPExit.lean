/-
  Contracts of the laws' own helpers for rows of pairs (Exit): sizes, copies, comparisons, marks. Conditions: those in each statement.
-/
import Derived.Test.YtpknkaidmefenaaMem
import Derived.Test.YtpknkaidmefenaaRows
import Derived.ProofKit
import Derived.StillTailTactics
import Derived.Deep.RegionWith
set_option linter.unusedVariables false
set_option linter.unusedSimpArgs false
set_option maxRecDepth 100000
set_option maxHeartbeats 1000000
namespace Go.Proofs.Ytpknkaidmefenaa
open Go.RowKit


end Go.Proofs.Ytpknkaidmefenaa
