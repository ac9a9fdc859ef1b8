/-
  Contracts of the laws' own helpers for rows of rows (Int64SSS): sizes, copies, comparisons, marks. Conditions: those in each statement.
-/
import Derived.Test.YtpknkaidmefenaaNInt64SS
import Derived.Test.YtpknkaidmefenaaRows
import Derived.ProofKit
import Derived.StillTailTactics
set_option linter.unusedVariables false
set_option linter.unusedSimpArgs false
set_option maxRecDepth 100000
set_option maxHeartbeats 1000000
namespace Go.Proofs.Ytpknkaidmefenaa
open Go.RowKit

theorem infoInt64SSS : (Try.prog.info? 23).map (fun i => (i.zero, i.size, i.bytes)) = some (some (.slice none 0 0), 1, 24) := by kernel_rfl

end Go.Proofs.Ytpknkaidmefenaa
