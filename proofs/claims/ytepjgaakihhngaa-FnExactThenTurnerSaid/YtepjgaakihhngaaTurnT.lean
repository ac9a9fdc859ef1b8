/-
  Contracts of the program's and the reference's TurnTable. Conditions: those in each statement.
-/
import Derived.Test.YtepjgaakihhngaaTurned
import Derived.Deep.RegionHeld3
import Derived.Deep.RegionWith
set_option linter.unusedVariables false
set_option linter.unusedSimpArgs false
set_option maxRecDepth 100000
set_option maxHeartbeats 1000000
namespace Go.Proofs.Ytepjgaakihhngaa
open Go.RowKit

def Tb.turn (T : Tb) : Tb := ⟨turnL T.r, turnL T.l⟩
def Tb.turnC (T : Tb) : Tb := if T.okB then T.turn else ⟨[], []⟩
theorem exitOk_side {n : Int} {x : Int × Int} (h : exitOk n x = true) : -1 ≤ x.1 ∧ x.1 ≤ 1 := by
  unfold exitOk at h
  by_cases h0 : x.1 = 0
  · omega
  · rw [if_neg h0] at h
    by_cases h1 : x.1 = -1 ∨ x.1 = 1
    · omega
    · rw [if_neg h1] at h; cases h
theorem okB_sides {T : Tb} (h : T.okB = true) : (∀ x ∈ T.l, -1 ≤ x.1 ∧ x.1 ≤ 1) ∧ (∀ x ∈ T.r, -1 ≤ x.1 ∧ x.1 ≤ 1) ∧ T.l.length ≤ 12 ∧ T.r.length = T.l.length := by
  unfold Tb.okB inB at h
  simp only [Bool.and_eq_true, List.all_eq_true, decide_eq_true_eq] at h
  exact ⟨fun x hx => exitOk_side (h.2.2.1 x hx), fun x hx => exitOk_side (h.2.2.2 x hx), by omega, h.2.1⟩

theorem turnC_tot {T : Tb} (h : T.tot ≤ 1048576) : T.turnC.tot ≤ 1048576 := by
  unfold Tb.turnC
  by_cases hk : T.okB = true
  · rw [if_pos hk]
    unfold Tb.tot at *
    simp only [Tb.turn, turnL, List.length_map]
    omega
  · rw [if_neg hk]
    simp [Tb.tot]


end Go.Proofs.Ytepjgaakihhngaa
