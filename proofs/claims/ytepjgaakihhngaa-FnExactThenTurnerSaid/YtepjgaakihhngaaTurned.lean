/-
  Contracts of the program's and the reference's turned lists of exits. Conditions: those in each statement.
-/
import Derived.Test.YtepjgaakihhngaaAcc
import Derived.Test.YtepjgaakihhngaaVTab
set_option linter.unusedVariables false
set_option linter.unusedSimpArgs false
set_option maxRecDepth 100000
set_option maxHeartbeats 1000000
namespace Go.Proofs.Ytepjgaakihhngaa
open Go.RowKit

/-- the exits seen from the other side -/
def turnL (xs : List (Int × Int)) : List (Int × Int) := xs.map fun x => (-x.1, x.2)
theorem turnL_snoc {xs : List (Int × Int)} {k : Nat} {x : Int × Int} (h : xs[k]? = some x) : turnL (xs.take (k + 1)) = turnL (xs.take k) ++ [(-x.1, x.2)] := by rw [take_snoc h]; simp [turnL]

end Go.Proofs.Ytepjgaakihhngaa
