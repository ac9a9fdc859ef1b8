/-
  The laws' own helpers for rows (MoveS) in one wording. Conditions: those in each statement.
-/
import Derived.Test.YtpknkaidmefenaaPMove
set_option linter.unusedVariables false
set_option linter.unusedSimpArgs false
set_option maxRecDepth 100000
set_option maxHeartbeats 1000000
namespace Go.Proofs.Ytpknkaidmefenaa
open Go.RowKit

theorem totMoveS (xs : List (Int × Int)) : Cod.tot xs = xs.length := by rw [tot_list, totS_zero (fun _ => rfl)]; rfl
theorem uszMoveS (A : Option Addr) (xs : List (Int × Int)) (c : Nat) (left : Int) (w : World) (h : RdS w w.heap.size A xs) (hl : xs.length ≤ 9223372036854775807) (h1 : 0 ≤ left) (h2 : left ≤ 1048576) :
    Calls Try.prog 76 #[.slice A xs.length c, .int .i64 left] w (RetLeft left (Cod.tot xs) w) := by
  rw [totMoveS]
  exact szMoveS A xs.length c left w (by omega) h1 h2
theorem utoMoveS (A : Option Addr) (xs : List (Int × Int)) (c : Nat) (w : World) (h : RdS w w.heap.size A xs) (hn : Cod.tot xs ≤ 1048576) : Calls Try.prog 77 #[.slice A xs.length c] w (RetOwn xs w) := by
  rw [totMoveS] at hn
  refine (toMoveS A xs c w h hn).mono fun e w' ⟨he, ho, hb, hg⟩ => ⟨_, _, _, he, ho, ⟨by simp, fun g hg' => ?_⟩, hb⟩
  rw [List.mem_singleton.1 hg']
  exact ⟨Nat.le_refl _, hg⟩
theorem ueqMoveS (A A' : Option Addr) (xs : List (Int × Int)) (c c' : Nat) (w : World) (h1 : RdS w w.heap.size A xs) (h2 : RdS w w.heap.size A' xs) (hn : Cod.tot xs ≤ 140737488355328) :
    Calls Try.prog 81 #[.slice A xs.length c, .slice A' xs.length c'] w fun e w' => e = .returned (.bool true) ∧ Below w.heap.size w w' := eqMoveS A A' xs c c' w h1 h2 (by rw [totMoveS] at hn; exact hn)
theorem umarkMoveS (A : Option Addr) (xs : List (Int × Int)) (c k0 : Nat) (bs : List Nat) (w : World) (h : OwnS w A xs bs) (hd : bs.Nodup) (hlt : ∀ g ∈ bs, g < w.heap.size) (hk0 : k0 + cntS xs ≤ 4611686018427387904) (hn : Cod.tot xs ≤ 1048576) :
    Calls Try.prog 82 #[.slice A xs.length c, .int .i64 k0] w (RetMark A xs k0 bs w) := markMoveS A xs c k0 bs w h (by omega) (by rw [totMoveS] at hn; exact hn)
theorem uheldMoveS (A : Option Addr) (xs : List (Int × Int)) (c k0 : Nat) (w : World) (h : RdS w w.heap.size A (mkS k0 xs)) (hk0 : k0 + cntS xs ≤ 4611686018427387904) (hn : Cod.tot xs ≤ 1048576) :
    Calls Try.prog 83 #[.slice A xs.length c, .int .i64 k0] w fun e w' => e = .returned (.int .i64 ((k0 + cntS xs : Nat) : Int)) ∧ Below w.heap.size w w' :=
  (heldMoveS A xs c k0 w h (by omega) (by rw [totMoveS] at hn; exact hn)).mono fun e w' ⟨he, hw⟩ => ⟨he, hw ▸ Below.refl _ _⟩
end Go.Proofs.Ytpknkaidmefenaa
