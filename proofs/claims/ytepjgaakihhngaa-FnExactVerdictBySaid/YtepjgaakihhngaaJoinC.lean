/-
  Contracts of the program's and the reference's JoinTables. Conditions: those in each statement.
-/
import Derived.Test.YtepjgaakihhngaaJoin3
import Derived.Test.YtepjgaakihhngaaJoinLaw
set_option linter.unusedVariables false
set_option linter.unusedSimpArgs false
set_option maxRecDepth 100000
set_option maxHeartbeats 1000000
namespace Go.Proofs.Ytepjgaakihhngaa
open Go.RowKit


end Go.Proofs.Ytepjgaakihhngaa
