/-
  Contracts of the program's and the reference's ValidMany. Conditions: those in each statement.
-/
import Derived.Test.YtpknkaidmefenaaSetOk
import Derived.Test.YtpknkaidmefenaaVTurner
import Derived.Test.YtpknkaidmefenaaSMany
import Derived.BigQuiet
import Derived.Deep.QuietTactic
import Derived.Deep.RegionHeld3
import Derived.Deep.RegionWith
set_option linter.unusedVariables false
set_option linter.unusedSimpArgs false
set_option maxRecDepth 100000
set_option maxHeartbeats 1000000
namespace Go.Proofs.Ytpknkaidmefenaa
open Go.RowKit

def setOk (n : Int) (l : List Int) : Bool := setB 0 (n - 1) l
def rowM (n L : Int) (row : List (List Int)) : Bool := decide ((row.length : Int) = L) && row.all (setOk n)
def Mn.okB (T : Mn) : Bool := inB T.letters 1 3 && (inB T.accept.length 1 10 && (setOk T.accept.length T.starts && (decide (T.next.length = T.accept.length) && T.next.all (rowM T.accept.length T.letters))))

theorem sizeBools_m (A : Option Addr) (n c : Nat) (w : World) (hn : n ≤ 9223372036854775807) : Calls Try.prog 50 #[.slice A n c] w fun e w' => e = .returned (.int .i64 n) ∧ w = w' := by
  go_enter Try.func50, Try.ntmps50
  go_wp2
  go_ret
  exact ⟨rfl, rfl⟩
theorem sizeIntS_m (A : Option Addr) (n c : Nat) (w : World) (hn : n ≤ 9223372036854775807) : Calls Try.prog 53 #[.slice A n c] w fun e w' => e = .returned (.int .i64 n) ∧ w = w' := by
  go_enter Try.func53, Try.ntmps53
  go_wp2
  go_ret
  exact ⟨rfl, rfl⟩


end Go.Proofs.Ytpknkaidmefenaa
