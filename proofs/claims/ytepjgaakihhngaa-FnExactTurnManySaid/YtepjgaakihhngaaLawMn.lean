/-
  Automata with many ways among a law's arguments. Conditions: those in each statement.
-/
import Derived.Test.YtepjgaakihhngaaLaw
import Derived.Test.YtepjgaakihhngaaSMany
set_option linter.unusedVariables false
set_option linter.unusedSimpArgs false
set_option maxRecDepth 100000
set_option maxHeartbeats 1000000
namespace Go.Proofs.Ytepjgaakihhngaa
open Go.RowKit Go.ChangeShapes Go.WideShapes Go.Deep Go.Joins Go.ChangeAt

theorem readsBoolS_m : Reads Try.prog 41 (List Bool) := reads_slice Try.underlying41 (reads_bool Try.underlying4 (by kernel_rfl)) (by kernel_rfl)
theorem readsInt64S_m : Reads Try.prog 26 (List Int) := reads_slice Try.underlying26 (reads_int Try.underlying2 (by kernel_rfl)) (by kernel_rfl)
theorem readsInt64SSS_m : Reads Try.prog 46 (List (List (List Int))) := reads_slice Try.underlying46 (reads_slice Try.underlying42 readsInt64S_m (by kernel_rfl)) (by kernel_rfl)

theorem open_mn {H : Type} {enc : TypeId × Value → H} {W : World} {base : Nat} {v : Value} {d : DataW H} {p : List MemPlace} (hv : Value.okWide Try.prog W .any base 66 v) (h : DataW.Trod enc Try.prog W 0 (fun _ => true) true 66 v d p) :
    ∃ T : Mn, RdMn W W.heap.size v T ∧ T.starts.length ≤ 9223372036854775807 ∧ T.accept.length ≤ 9223372036854775807 ∧ T.next.length ≤ 9223372036854775807 := by
  obtain ⟨v0, v1, v2, v3, y0, y1, y2, y3, n, rfl, _, _, h0, h1, h2, h3⟩ := open_agg4 Try.underlying66 (by kernel_rfl) (by kernel_rfl) hv h
  obtain ⟨a, e0, _, _⟩ := DataW.trod_int Try.underlying2 h0
  obtain ⟨l0, A0, c0, e1, hl0, hA0⟩ := readsInt64S_m.2 _ _ _ _ _ _ _ _ _ h1
  obtain ⟨l, A, c, e2, hl, hA⟩ := readsBoolS_m.2 _ _ _ _ _ _ _ _ _ h2
  obtain ⟨m, B, f, e3, hm, hB⟩ := readsInt64SSS_m.2 _ _ _ _ _ _ _ _ _ h3
  simp only [List.cons.injEq, and_true] at e0 e1 e2 e3
  subst e0; subst e1; subst e2; subst e3
  exact ⟨⟨a, l0, l, m⟩, ⟨A0, c0, A, c, B, f, rfl, hA0, hA, hB⟩, hl0, hl, hm⟩
end Go.Proofs.Ytepjgaakihhngaa
