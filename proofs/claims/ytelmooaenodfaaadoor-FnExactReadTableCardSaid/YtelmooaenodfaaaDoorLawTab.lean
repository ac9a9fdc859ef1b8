/-
  Tables among a law's arguments. Conditions: those in each statement.
-/
import Derived.Test.YtelmooaenodfaaaDoorLaw
import Derived.Test.YtelmooaenodfaaaDoorTab
set_option linter.unusedVariables false
set_option linter.unusedSimpArgs false
set_option maxRecDepth 100000
set_option maxHeartbeats 1000000
namespace Go.Proofs.YtelmooaenodfaaaDoor
open Go.RowKit Go.ChangeShapes Go.WideShapes Go.Deep Go.Joins Go.ChangeAt

theorem readsExit : Reads Tryd.prog 159 (Int × Int) := reads_pair Tryd.underlying159 (by kernel_rfl) rfl rfl Tryd.underlying2 Tryd.underlying2 (by kernel_rfl) (by kernel_rfl)
theorem readsExitS : Reads Tryd.prog 47 (List (Int × Int)) := reads_slice Tryd.underlying47 readsExit (by kernel_rfl)

theorem open_tb {H : Type} {enc : TypeId × Value → H} {W : World} {base : Nat} {v : Value} {d : DataW H} {p : List MemPlace} (hv : Value.okWide Tryd.prog W .any base 49 v) (h : DataW.Trod enc Tryd.prog W 0 (fun _ => true) true 49 v d p) :
    ∃ T : Tb, RdTb W W.heap.size v T ∧ T.l.length ≤ 9223372036854775807 ∧ T.r.length ≤ 9223372036854775807 := by
  obtain ⟨v0, v1, y0, y1, n, rfl, _, _, h0, h1⟩ := open_agg2 Tryd.underlying49 (by kernel_rfl) (by kernel_rfl) hv h
  obtain ⟨l, A, c, e0, hl, hA⟩ := readsExitS.2 _ _ _ _ _ _ _ _ _ h0
  obtain ⟨r, A', c', e1, hr, hA'⟩ := readsExitS.2 _ _ _ _ _ _ _ _ _ h1
  simp only [List.cons.injEq, and_true] at e0 e1
  subst e0; subst e1
  exact ⟨⟨l, r⟩, ⟨A, c, A', c', rfl, hA, hA'⟩, hl, hr⟩
end Go.Proofs.YtelmooaenodfaaaDoor
