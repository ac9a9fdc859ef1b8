/-
  Turners among a law's arguments. Conditions: those in each statement.
-/
import Derived.Test.YtepjgaakihhngaaLaw
import Derived.Test.YtepjgaakihhngaaSTurner
set_option linter.unusedVariables false
set_option linter.unusedSimpArgs false
set_option maxRecDepth 100000
set_option maxHeartbeats 1000000
namespace Go.Proofs.Ytepjgaakihhngaa
open Go.RowKit Go.ChangeShapes Go.WideShapes Go.Deep Go.Joins Go.ChangeAt

theorem readsMove : Reads Try.prog 185 (Int × Int) := reads_pair Try.underlying185 (by kernel_rfl) rfl rfl Try.underlying2 Try.underlying2 (by kernel_rfl) (by kernel_rfl)
theorem readsMoveS : Reads Try.prog 153 (List (Int × Int)) := reads_slice Try.underlying153 readsMove (by kernel_rfl)
theorem readsMoveSS : Reads Try.prog 22 (List (List (Int × Int))) := reads_slice Try.underlying22 readsMoveS (by kernel_rfl)

theorem open_tn {H : Type} {enc : TypeId × Value → H} {W : World} {base : Nat} {v : Value} {d : DataW H} {p : List MemPlace} (hv : Value.okWide Try.prog W .any base 24 v) (h : DataW.Trod enc Try.prog W 0 (fun _ => true) true 24 v d p) :
    ∃ T : Tn, RdTn W W.heap.size v T ∧ T.moves.length ≤ 9223372036854775807 := by
  obtain ⟨v0, v1, v2, y0, y1, y2, n, rfl, _, _, h0, h1, h2⟩ := open_agg3 Try.underlying24 (by kernel_rfl) (by kernel_rfl) hv h
  obtain ⟨a, e0, _, _⟩ := DataW.trod_int Try.underlying2 h0
  obtain ⟨b, e1, _, _⟩ := DataW.trod_int Try.underlying2 h1
  obtain ⟨l, A, c, e2, hl, hA⟩ := readsMoveSS.2 _ _ _ _ _ _ _ _ _ h2
  simp only [List.cons.injEq, and_true] at e0 e1 e2
  subst e0; subst e1; subst e2
  exact ⟨⟨a, b, l⟩, ⟨A, c, rfl, hA⟩, hl⟩
end Go.Proofs.Ytepjgaakihhngaa
