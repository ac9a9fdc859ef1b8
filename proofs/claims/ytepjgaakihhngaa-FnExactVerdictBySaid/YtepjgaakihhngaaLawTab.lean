/-
  Tables among a law's arguments. Conditions: those in each statement.
-/
import Derived.Test.YtepjgaakihhngaaLaw
import Derived.Test.YtepjgaakihhngaaTab
set_option linter.unusedVariables false
set_option linter.unusedSimpArgs false
set_option maxRecDepth 100000
set_option maxHeartbeats 1000000
namespace Go.Proofs.Ytepjgaakihhngaa
open Go.RowKit Go.ChangeShapes Go.WideShapes Go.Deep Go.Joins Go.ChangeAt

theorem readsExit : Reads Try.prog 173 (Int × Int) := reads_pair Try.underlying173 (by kernel_rfl) rfl rfl Try.underlying2 Try.underlying2 (by kernel_rfl) (by kernel_rfl)
theorem readsExitS : Reads Try.prog 71 (List (Int × Int)) := reads_slice Try.underlying71 readsExit (by kernel_rfl)

theorem open_tb {H : Type} {enc : TypeId × Value → H} {W : World} {base : Nat} {v : Value} {d : DataW H} {p : List MemPlace} (hv : Value.okWide Try.prog W .any base 73 v) (h : DataW.Trod enc Try.prog W 0 (fun _ => true) true 73 v d p) :
    ∃ T : Tb, RdTb W W.heap.size v T ∧ T.l.length ≤ 9223372036854775807 ∧ T.r.length ≤ 9223372036854775807 := by
  obtain ⟨v0, v1, y0, y1, n, rfl, _, _, h0, h1⟩ := open_agg2 Try.underlying73 (by kernel_rfl) (by kernel_rfl) hv h
  obtain ⟨l, A, c, e0, hl, hA⟩ := readsExitS.2 _ _ _ _ _ _ _ _ _ h0
  obtain ⟨r, A', c', e1, hr, hA'⟩ := readsExitS.2 _ _ _ _ _ _ _ _ _ h1
  simp only [List.cons.injEq, and_true] at e0 e1
  subst e0; subst e1
  exact ⟨⟨l, r⟩, ⟨A, c, A', c', rfl, hA, hA'⟩, hl, hr⟩
end Go.Proofs.Ytepjgaakihhngaa
