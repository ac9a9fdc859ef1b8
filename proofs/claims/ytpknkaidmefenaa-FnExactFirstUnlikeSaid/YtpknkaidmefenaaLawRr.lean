/-
  Readers among a law's arguments. Conditions: those in each statement.
-/
import Derived.Test.YtpknkaidmefenaaLaw
import Derived.Test.YtpknkaidmefenaaSReader
set_option linter.unusedVariables false
set_option linter.unusedSimpArgs false
set_option maxRecDepth 100000
set_option maxHeartbeats 1000000
namespace Go.Proofs.Ytpknkaidmefenaa
open Go.RowKit Go.ChangeShapes Go.WideShapes Go.Deep Go.Joins Go.ChangeAt

theorem readsBoolS : Reads Try.prog 22 (List Bool) := reads_slice Try.underlying22 (reads_bool Try.underlying4 (by kernel_rfl)) (by kernel_rfl)
theorem readsInt64S : Reads Try.prog 33 (List Int) := reads_slice Try.underlying33 (reads_int Try.underlying2 (by kernel_rfl)) (by kernel_rfl)
theorem readsInt64SS : Reads Try.prog 23 (List (List Int)) := reads_slice Try.underlying23 readsInt64S (by kernel_rfl)

theorem open_rr {H : Type} {enc : TypeId × Value → H} {W : World} {base : Nat} {v : Value} {d : DataW H} {p : List MemPlace} (hv : Value.okWide Try.prog W .any base 25 v) (h : DataW.Trod enc Try.prog W 0 (fun _ => true) true 25 v d p) :
    ∃ T : Rr, RdRr W W.heap.size v T ∧ T.accept.length ≤ 9223372036854775807 ∧ T.next.length ≤ 9223372036854775807 := by
  obtain ⟨v0, v1, v2, v3, y0, y1, y2, y3, n, rfl, _, _, h0, h1, h2, h3⟩ := open_agg4 Try.underlying25 (by kernel_rfl) (by kernel_rfl) hv h
  obtain ⟨a, e0, _, _⟩ := DataW.trod_int Try.underlying2 h0
  obtain ⟨b, e1, _, _⟩ := DataW.trod_int Try.underlying2 h1
  obtain ⟨l, A, c, e2, hl, hA⟩ := readsBoolS.2 _ _ _ _ _ _ _ _ _ h2
  obtain ⟨m, B, f, e3, hm, hB⟩ := readsInt64SS.2 _ _ _ _ _ _ _ _ _ h3
  simp only [List.cons.injEq, and_true] at e0 e1 e2 e3
  subst e0; subst e1; subst e2; subst e3
  exact ⟨⟨a, b, l, m⟩, ⟨A, c, B, f, rfl, hA, hB⟩, hl, hm⟩
end Go.Proofs.Ytpknkaidmefenaa
