/-
  Lists of numbers among a law's arguments. Conditions: those in each statement.
-/
import Derived.Test.YtepjgaakihhngaaLaw
import Derived.Test.YtepjgaakihhngaaUInt64S
set_option linter.unusedVariables false
set_option linter.unusedSimpArgs false
set_option maxRecDepth 100000
set_option maxHeartbeats 1000000
namespace Go.Proofs.Ytepjgaakihhngaa
open Go.RowKit Go.ChangeShapes Go.WideShapes Go.Deep Go.Joins Go.ChangeAt

theorem readsInts : Reads Try.prog 26 (List Int) := reads_slice Try.underlying26 (reads_int Try.underlying2 (by kernel_rfl)) (by kernel_rfl)
theorem open_ints {H : Type} {enc : TypeId × Value → H} {W : World} {base : Nat} {v : Value} {d : DataW H} {p : List MemPlace} (hv : Value.okWide Try.prog W .any base 26 v) (h : DataW.Trod enc Try.prog W 0 (fun _ => true) true 26 v d p) :
    ∃ (xs : List Int) (A : Option Addr) (c : Nat), v = .slice A xs.length c ∧ xs.length ≤ 9223372036854775807 ∧ RdS W W.heap.size A xs := by
  obtain ⟨fuel, hf⟩ := h
  obtain ⟨l, A, c, e, hl, hA⟩ := readsInts.2 _ _ _ _ _ _ _ _ _ hf
  obtain ⟨B, n, m, rfl⟩ := okWide_slice Try.underlying26 hv
  simp [Value.cells] at e
  obtain ⟨rfl, rfl, rfl⟩ := e
  exact ⟨l, B, m, rfl, hl, hA⟩
end Go.Proofs.Ytepjgaakihhngaa
