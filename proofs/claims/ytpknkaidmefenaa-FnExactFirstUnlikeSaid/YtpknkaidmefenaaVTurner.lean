/-
  Contracts of the program's and the reference's ValidTurner. Conditions: those in each statement.
-/
import Derived.Test.YtpknkaidmefenaaMoveOk
import Derived.Test.YtpknkaidmefenaaSTurner
import Derived.BigQuiet
import Derived.Deep.QuietTactic
import Derived.Deep.RegionWith
import Derived.Deep.RegionHeld3
import Derived.StillTailTactics
set_option linter.unusedVariables false
set_option linter.unusedSimpArgs false
set_option maxRecDepth 100000
set_option maxHeartbeats 1000000
namespace Go.Proofs.Ytpknkaidmefenaa
open Go.RowKit

def movesFrom (n L : Int) : Nat → List (Int × Int) → Bool
  | _, [] => true
  | k, x :: xs => moveOk n L k x && movesFrom n L (k + 1) xs
def rowOk (n L : Int) (row : List (Int × Int)) : Bool := decide ((row.length : Int) = L + 2) && movesFrom n L 0 row
def Tn.okB (T : Tn) : Bool := inB T.letters 1 3 && (inB T.moves.length 1 12 && (inB T.start 0 (T.moves.length - 1) && T.moves.all (rowOk T.moves.length T.letters)))
theorem isMove_lit (r : Bool) (n L k : Int) (x : Int × Int) (w : World) (h0 : 0 ≤ n) (h1 : n ≤ 1048576) (h2 : 0 ≤ L) (h3 : L ≤ 1048576) (h : moveOk n L k x = r) :
    Calls Try.prog 65 #[.agg #[.int .i64 x.1, .int .i64 x.2], .int .i64 n, .int .i64 L, .int .i64 k] w fun e w' => e = .returned (.bool r) ∧ Below w.heap.size w w' := h ▸ isMove n L k x w h0 h1 h2 h3
theorem sizeMoveS (A : Option Addr) (n c : Nat) (w : World) (hn : n ≤ 9223372036854775807) : Calls Try.prog 64 #[.slice A n c] w fun e w' => e = .returned (.int .i64 n) ∧ w = w' := by
  go_enter Try.func64, Try.ntmps64
  go_wp2
  go_ret
  exact ⟨rfl, rfl⟩
theorem isAlphabet_lit (r : Bool) (n : Int) (w : World) (h : inB n 1 3 = r) : Calls Try.prog 51 #[.int .i64 n] w fun e w' => e = .returned (.bool r) ∧ w = w' := by
  go_enter Try.func51, Try.ntmps51
  go_wp2_with (go_at_call 52; refine (within_lit r _ _ _ _ h).mono ?_; rintro e w1 ⟨rfl, rfl⟩)
  go_ret
  exact ⟨rfl, rfl⟩
theorem inB_iff {n a b : Int} : inB n a b = true ↔ a ≤ n ∧ n ≤ b := decide_eq_true_iff


end Go.Proofs.Ytpknkaidmefenaa
