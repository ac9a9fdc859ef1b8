/-
  Wanderers among a law's arguments. Conditions: those in each statement.
-/
import Derived.Test.YtpknkaidmefenaaLaw
import Derived.Test.YtpknkaidmefenaaSWanderer
set_option linter.unusedVariables false
set_option linter.unusedSimpArgs false
set_option maxRecDepth 100000
set_option maxHeartbeats 1000000
namespace Go.Proofs.Ytpknkaidmefenaa
open Go.RowKit Go.ChangeShapes Go.WideShapes Go.Deep Go.Joins Go.ChangeAt

theorem readsInt64S_w : Reads Try.prog 33 (List Int) := reads_slice Try.underlying33 (reads_int Try.underlying2 (by kernel_rfl)) (by kernel_rfl)
theorem readsMove_w : Reads Try.prog 122 (Int × Int) := reads_pair Try.underlying122 (by kernel_rfl) rfl rfl Try.underlying2 Try.underlying2 (by kernel_rfl) (by kernel_rfl)
theorem readsMoveS_w : Reads Try.prog 114 (List (Int × Int)) := reads_slice Try.underlying114 readsMove_w (by kernel_rfl)
theorem readsMoveSS_w : Reads Try.prog 96 (List (List (Int × Int))) := reads_slice Try.underlying96 readsMoveS_w (by kernel_rfl)
theorem readsMoveSSS_w : Reads Try.prog 34 (List (List (List (Int × Int)))) := reads_slice Try.underlying34 readsMoveSS_w (by kernel_rfl)

theorem open_wn {H : Type} {enc : TypeId × Value → H} {W : World} {base : Nat} {v : Value} {d : DataW H} {p : List MemPlace} (hv : Value.okWide Try.prog W .any base 36 v) (h : DataW.Trod enc Try.prog W 0 (fun _ => true) true 36 v d p) :
    ∃ T : Wn, RdWn W W.heap.size v T ∧ T.starts.length ≤ 9223372036854775807 ∧ T.moves.length ≤ 9223372036854775807 := by
  obtain ⟨v0, v1, v2, y0, y1, y2, n, rfl, _, _, h0, h1, h2⟩ := open_agg3 Try.underlying36 (by kernel_rfl) (by kernel_rfl) hv h
  obtain ⟨a, e0, _, _⟩ := DataW.trod_int Try.underlying2 h0
  obtain ⟨l0, A0, c0, e1, hl0, hA0⟩ := readsInt64S_w.2 _ _ _ _ _ _ _ _ _ h1
  obtain ⟨m, B, f, e2, hm, hB⟩ := readsMoveSSS_w.2 _ _ _ _ _ _ _ _ _ h2
  simp only [List.cons.injEq, and_true] at e0 e1 e2
  subst e0; subst e1; subst e2
  exact ⟨⟨a, l0, m⟩, ⟨A0, c0, B, f, rfl, hA0, hB⟩, hl0, hm⟩
end Go.Proofs.Ytpknkaidmefenaa
