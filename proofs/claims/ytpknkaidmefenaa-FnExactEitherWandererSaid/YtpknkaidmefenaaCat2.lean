/-
  Where all of a list of pairs lies; slices.Clone of lists of pairs. Conditions: those in each statement.
-/
import Derived.Test.YtpknkaidmefenaaCat
import Derived.Test.YtpknkaidmefenaaPExit
import Derived.Test.YtpknkaidmefenaaPMove
import Derived.StillTailTactics
import Derived.Lib.SliceRun
import Derived.Deep.RegionWith
set_option linter.unusedVariables false
set_option linter.unusedSimpArgs false
set_option maxRecDepth 100000
set_option maxHeartbeats 1000000
namespace Go.Proofs.Ytpknkaidmefenaa
open Go.RowKit

theorem flat_get : ∀ {xs : List (Int × Int)} {j : Nat} {u : Value}, (xs.flatMap encP)[j]? = some u → ∃ x, xs[j / 2]? = some x ∧ (encP x)[j % 2]? = some u
  | [], j, u, h => by simp at h
  | x :: xs, 0, u, h => ⟨x, by simp, by simpa [encP] using h⟩
  | x :: xs, 1, u, h => ⟨x, by simp, by simpa [encP] using h⟩
  | x :: xs, j + 2, u, h => by
    have h' : (xs.flatMap encP)[j]? = some u := by simpa [encP] using h
    obtain ⟨y, h1, h2⟩ := flat_get h'
    exact ⟨y, by rw [show (j + 2) / 2 = j / 2 + 1 by omega]; simpa using h1, by rw [show (j + 2) % 2 = j % 2 by omega]; exact h2⟩
theorem RdS.pairs {w : World} {B : Nat} {A : Option Addr} {xs : List (Int × Int)} (h : RdS w B A xs) (hn : 0 < xs.length) : ∃ b o, A = some ⟨b, o, none⟩ ∧ b < B ∧ ∀ j u, (xs.flatMap encP)[j]? = some u → w.cell? ((⟨b, o, none⟩ : Addr).add j) = some u := by
  obtain ⟨x0, hx0⟩ := get_some hn
  obtain ⟨b, o, e, hb, _⟩ := h.pair hx0
  refine ⟨b, o, e, hb, fun j u hu => ?_⟩
  obtain ⟨x, hx, hx'⟩ := flat_get hu
  obtain ⟨b', o', e', _, hc1, hc2⟩ := h.pair hx
  rw [e] at e'
  injection e' with e'
  injection e' with e1 e2
  subst e1; subst e2
  rw [add_lit]
  rcases (show j % 2 = 0 ∨ j % 2 = 1 by omega) with h0 | h0
  · rw [h0] at hx'
    simp [encP] at hx'
    rw [← hx', show o + j = o + j / 2 * 2 by omega]
    exact hc1
  · rw [h0] at hx'
    simp [encP] at hx'
    rw [← hx', show o + j = o + j / 2 * 2 + 1 by omega]
    exact hc2
theorem flat_one {xs : List (Int × Int)} : ∀ u ∈ xs.flatMap encP, u.oneCell' = true := fun u hu => by
  obtain ⟨x, _, hx⟩ := List.mem_flatMap.1 hu
  simp [encP] at hx
  rcases hx with rfl | rfl <;> rfl


end Go.Proofs.Ytpknkaidmefenaa
