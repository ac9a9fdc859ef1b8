/-
  Plain words: lists whose elements are right and rise, looked at from the front. No program in sight. Conditions: none.
-/
import Derived.Test.YtpknkaidmefenaaMem
set_option linter.unusedVariables false
set_option linter.unusedSimpArgs false
set_option maxRecDepth 100000
set_option maxHeartbeats 1000000
namespace Go.Proofs.Ytpknkaidmefenaa

section
variable {α : Type} {ok : α → Bool} {lt : α → α → Bool} {xs : List α} {k : Nat} {x p : α}
def riseGo (ok : α → Bool) (lt : α → α → Bool) : Option α → List α → Bool
  | _, [] => true
  | none, x :: xs => ok x && riseGo ok lt (some x) xs
  | some p, x :: xs => ok x && (lt p x && riseGo ok lt (some x) xs)
def riseB (ok : α → Bool) (lt : α → α → Bool) (xs : List α) : Bool := riseGo ok lt none xs
/-- what is left to be looked at from place k on -/
def riseAt (ok : α → Bool) (lt : α → α → Bool) (xs : List α) : Nat → Bool
  | 0 => riseGo ok lt none xs
  | k + 1 => riseGo ok lt xs[k]? (xs.drop (k + 1))
theorem riseAt_end : riseAt ok lt xs xs.length = true := by
  cases h : xs with
  | nil => rfl
  | cons y ys =>
    simp only [List.length_cons, riseAt, List.drop_succ_cons, List.drop_length]
    cases (y :: ys)[ys.length]? <;> rfl
theorem riseAt_bad0 (hx : xs[0]? = some x) (hv : ok x = false) : riseAt ok lt xs 0 = false := by
  have := drop_cons hx
  rw [List.drop_zero] at this
  rw [riseAt, this, riseGo, hv]; rfl
theorem riseAt_ok0 (hx : xs[0]? = some x) (hv : ok x = true) : riseAt ok lt xs 0 = riseAt ok lt xs 1 := by
  have := drop_cons hx
  rw [List.drop_zero] at this
  rw [riseAt, this, riseGo, hv, riseAt]; simp
theorem riseAt_bad1 (hp : xs[k]? = some p) (hx : xs[k + 1]? = some x) (hv : ok x = false) : riseAt ok lt xs (k + 1) = false := by
  rw [riseAt, hp, drop_cons hx, riseGo, hv]; rfl
theorem riseAt_ok1 (hp : xs[k]? = some p) (hx : xs[k + 1]? = some x) (hv : ok x = true) (h : lt p x = true) : riseAt ok lt xs (k + 1) = riseAt ok lt xs (k + 1 + 1) := by
  rw [riseAt, hp, drop_cons hx, riseGo, hv, riseAt, hx]; simp [h]
theorem riseAt_bad2 (hp : xs[k]? = some p) (hx : xs[k + 1]? = some x) (hv : ok x = true) (h : lt p x = false) : riseAt ok lt xs (k + 1) = false := by
  rw [riseAt, hp, drop_cons hx, riseGo, hv]; simp [h]
end
end Go.Proofs.Ytpknkaidmefenaa
