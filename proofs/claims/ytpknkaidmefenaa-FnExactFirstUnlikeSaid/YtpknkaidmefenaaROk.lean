/-
  What a valid reader is. No program in sight. Conditions: those in each statement.
-/
import Derived.Test.YtpknkaidmefenaaVReader
set_option linter.unusedVariables false
set_option linter.unusedSimpArgs false
set_option maxRecDepth 100000
set_option maxHeartbeats 1000000
namespace Go.Proofs.Ytpknkaidmefenaa
open Go.RowKit

structure Rr.Ok (T : Rr) : Prop where
  l1 : 1 ≤ T.letters
  l3 : T.letters ≤ 3
  n1 : 1 ≤ T.accept.length
  n300 : T.accept.length ≤ 300
  s0 : 0 ≤ T.start
  s1 : T.start < T.accept.length
  same : T.next.length = T.accept.length
  row : ∀ r ∈ T.next, (r.length : Int) = T.letters ∧ ∀ x ∈ r, 0 ≤ x ∧ x < T.accept.length
theorem Rr.ok_of {T : Rr} (h : T.okB = true) : T.Ok := by
  unfold Rr.okB inB at h
  simp only [Bool.and_eq_true, List.all_eq_true, decide_eq_true_eq] at h
  obtain ⟨⟨a1, a2⟩, ⟨b1, b2⟩, ⟨c1, c2⟩, d, e⟩ := h
  refine ⟨a1, a2, by omega, by omega, c1, by omega, d, fun r hr => ?_⟩
  have := e r hr
  unfold rowR stOk inB at this
  simp only [Bool.and_eq_true, List.all_eq_true, decide_eq_true_eq] at this
  exact ⟨this.1, fun x hx => by have := this.2 x hx; omega⟩

end Go.Proofs.Ytpknkaidmefenaa
