/-
  Tables among a law's arguments. Conditions: those in each statement.
-/
import Derived.Test.YtahcholnfehibaaLaw
import Derived.Test.YtahcholnfehibaaTab
set_option linter.unusedVariables false
set_option linter.unusedSimpArgs false
set_option maxRecDepth 100000
namespace Go.Proofs.Ytahcholnfehibaa
open Go.RowKit Go.ChangeShapes Go.WideShapes Go.Deep Go.Joins Go.ChangeAt

theorem readsExit : Reads Try.prog 55 (Int × Int) := reads_pair Try.underlying55 (by kernel_rfl) rfl rfl Try.underlying2 Try.underlying2 (by kernel_rfl) (by kernel_rfl)
theorem readsExitS : Reads Try.prog 23 (List (Int × Int)) := reads_slice Try.underlying23 readsExit (by kernel_rfl)

theorem open_tb {H : Type} {enc : TypeId × Value → H} {W : World} {base : Nat} {v : Value} {d : DataW H} {p : List MemPlace} (hv : Value.okWide Try.prog W .any base 25 v) (h : DataW.Trod enc Try.prog W 0 (fun _ => true) true 25 v d p) :
    ∃ T : Tb, RdTb W W.heap.size v T ∧ T.l.length ≤ 9223372036854775807 ∧ T.r.length ≤ 9223372036854775807 := by
  obtain ⟨v0, v1, y0, y1, n, rfl, _, _, h0, h1⟩ := open_agg2 Try.underlying25 (by kernel_rfl) (by kernel_rfl) hv h
  obtain ⟨l, A, c, e0, hl, hA⟩ := readsExitS.2 _ _ _ _ _ _ _ _ _ h0
  obtain ⟨r, A', c', e1, hr, hA'⟩ := readsExitS.2 _ _ _ _ _ _ _ _ _ h1
  simp only [List.cons.injEq, and_true] at e0 e1
  subst e0; subst e1
  exact ⟨⟨l, r⟩, ⟨A, c, A', c', rfl, hA, hA'⟩, hl, hr⟩
end Go.Proofs.Ytahcholnfehibaa
