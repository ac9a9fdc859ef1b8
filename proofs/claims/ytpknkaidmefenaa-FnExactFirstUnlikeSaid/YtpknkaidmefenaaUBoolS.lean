/-
  The laws' own helpers for rows (BoolS) in one wording. Conditions: those in each statement.
-/
import Derived.Test.YtpknkaidmefenaaPBool
set_option linter.unusedVariables false
set_option linter.unusedSimpArgs false
set_option maxRecDepth 100000
set_option maxHeartbeats 1000000
namespace Go.Proofs.Ytpknkaidmefenaa
open Go.RowKit

theorem totBoolS (xs : List Bool) : Cod.tot xs = xs.length := by rw [tot_list, totS_zero (fun _ => rfl)]; rfl
theorem uszBoolS (A : Option Addr) (xs : List Bool) (c : Nat) (left : Int) (w : World) (h : RdS w w.heap.size A xs) (hl : xs.length ≤ 9223372036854775807) (h1 : 0 ≤ left) (h2 : left ≤ 1048576) :
    Calls Try.prog 17 #[.slice A xs.length c, .int .i64 left] w (RetLeft left (Cod.tot xs) w) := by
  rw [totBoolS]
  exact szBoolS A xs.length c left w (by omega) h1 h2
theorem utoBoolS (A : Option Addr) (xs : List Bool) (c : Nat) (w : World) (h : RdS w w.heap.size A xs) (hn : Cod.tot xs ≤ 1048576) : Calls Try.prog 22 #[.slice A xs.length c] w (RetOwn xs w) := by
  rw [totBoolS] at hn
  refine (toBoolS A xs c w h hn).mono fun e w' ⟨he, ho, hb, hg⟩ => ⟨_, _, _, he, ho, ⟨by simp, fun g hg' => ?_⟩, hb⟩
  rw [List.mem_singleton.1 hg']
  exact ⟨Nat.le_refl _, hg⟩
theorem ueqBoolS (A A' : Option Addr) (xs : List Bool) (c c' : Nat) (w : World) (h1 : RdS w w.heap.size A xs) (h2 : RdS w w.heap.size A' xs) (hn : Cod.tot xs ≤ 140737488355328) :
    Calls Try.prog 28 #[.slice A xs.length c, .slice A' xs.length c'] w fun e w' => e = .returned (.bool true) ∧ Below w.heap.size w w' := eqBoolS A A' xs c c' w h1 h2 (by rw [totBoolS] at hn; exact hn)

end Go.Proofs.Ytpknkaidmefenaa
