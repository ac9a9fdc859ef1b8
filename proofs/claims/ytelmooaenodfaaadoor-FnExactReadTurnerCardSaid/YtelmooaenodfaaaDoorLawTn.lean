/-
  Turners among a law's arguments. Conditions: those in each statement.
-/
import Derived.Test.YtelmooaenodfaaaDoorLaw
import Derived.Test.YtelmooaenodfaaaDoorSTurner
set_option linter.unusedVariables false
set_option linter.unusedSimpArgs false
set_option maxRecDepth 100000
set_option maxHeartbeats 1000000
namespace Go.Proofs.YtelmooaenodfaaaDoor
open Go.RowKit Go.ChangeShapes Go.WideShapes Go.Deep Go.Joins Go.ChangeAt

theorem readsMove : Reads Tryd.prog 181 (Int × Int) := reads_pair Tryd.underlying181 (by kernel_rfl) rfl rfl Tryd.underlying2 Tryd.underlying2 (by kernel_rfl) (by kernel_rfl)
theorem readsMoveS : Reads Tryd.prog 163 (List (Int × Int)) := reads_slice Tryd.underlying163 readsMove (by kernel_rfl)
theorem readsMoveSS : Reads Tryd.prog 59 (List (List (Int × Int))) := reads_slice Tryd.underlying59 readsMoveS (by kernel_rfl)

theorem open_tn {H : Type} {enc : TypeId × Value → H} {W : World} {base : Nat} {v : Value} {d : DataW H} {p : List MemPlace} (hv : Value.okWide Tryd.prog W .any base 61 v) (h : DataW.Trod enc Tryd.prog W 0 (fun _ => true) true 61 v d p) :
    ∃ T : Tn, RdTn W W.heap.size v T ∧ T.moves.length ≤ 9223372036854775807 := by
  obtain ⟨v0, v1, v2, y0, y1, y2, n, rfl, _, _, h0, h1, h2⟩ := open_agg3 Tryd.underlying61 (by kernel_rfl) (by kernel_rfl) hv h
  obtain ⟨a, e0, _, _⟩ := DataW.trod_int Tryd.underlying2 h0
  obtain ⟨b, e1, _, _⟩ := DataW.trod_int Tryd.underlying2 h1
  obtain ⟨l, A, c, e2, hl, hA⟩ := readsMoveSS.2 _ _ _ _ _ _ _ _ _ h2
  simp only [List.cons.injEq, and_true] at e0 e1 e2
  subst e0; subst e1; subst e2
  exact ⟨⟨a, b, l⟩, ⟨A, c, rfl, hA⟩, hl⟩
end Go.Proofs.YtelmooaenodfaaaDoor
