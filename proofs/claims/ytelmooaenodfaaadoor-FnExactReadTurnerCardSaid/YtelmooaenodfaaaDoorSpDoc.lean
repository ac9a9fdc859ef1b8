/-
  When a text's head line is wrong; what follows for the strict readings. Conditions: those in each statement.
-/
import Derived.Test.YtelmooaenodfaaaDoorRdTot
set_option linter.unusedVariables false
set_option linter.unusedSimpArgs false
set_option maxRecDepth 100000
set_option maxHeartbeats 1000000
namespace Go.Proofs.YtelmooaenodfaaaDoor
open Go.RowKit

section
variable {word : List UInt8} {ls : List (List UInt8)}
theorem docBad1 (h : numsOk (hdOf ls).tail = false) : docGood word ls = false := by unfold docGood; rw [h]; rfl
theorem docBad2 (h : (hdOf ls)[0]? ≠ some word) : docGood word ls = false := by unfold docGood; rw [decide_eq_false h]; simp
theorem docBad3 (h : (hdOf ls).tail.length ≠ 3) : docGood word ls = false := by unfold docGood; rw [decide_eq_false h]; simp
theorem docBad4 (h : ls.getLast? ≠ some []) : docGood word ls = false := by unfold docGood; rw [decide_eq_false h]; simp
theorem docBad5 (h : (ls.length : Int) ≠ (numsV (hdOf ls).tail).getD 1 0 + 2) : docGood word ls = false := by unfold docGood; rw [decide_eq_false h]; simp
theorem docYes (h1 : numsOk (hdOf ls).tail = true) (h2 : (hdOf ls)[0]? = some word) (h3 : (hdOf ls).tail.length = 3) (h4 : ls.getLast? = some []) (h5 : (ls.length : Int) = (numsV (hdOf ls).tail).getD 1 0 + 2) : docGood word ls = true := by
  unfold docGood
  rw [h1, decide_eq_true h2, decide_eq_true h3, decide_eq_true h4, decide_eq_true h5]
  rfl
end
theorem rdBad {l : List UInt8} {ls : List (List UInt8)} (h20 : ¬ 20000 < l.length) (hls : ls = splitL 10 l) (h : docGood readerT ls = false) : rdC l = ⟨0, 0, [], []⟩ ∧ rdCode l = 5 := by
  unfold rdC rdCode rdS rdS3
  rw [if_neg h20, if_neg h20, ← hls, h]
  exact ⟨rfl, rfl⟩
theorem rdBadRow {l : List UInt8} {ls : List (List UInt8)} (h20 : ¬ 20000 < l.length) (hls : ls = splitL 10 l) (h : (midOf ls).all rowGood = false) : rdC l = ⟨0, 0, [], []⟩ ∧ rdCode l = 5 := by
  unfold rdC rdCode rdS rdS3
  rw [if_neg h20, if_neg h20, ← hls, h, Bool.false_and, Bool.and_false]
  exact ⟨rfl, rfl⟩
theorem rdBadOk {l : List UInt8} {ls : List (List UInt8)} (h20 : ¬ 20000 < l.length) (hls : ls = splitL 10 l) (h : (rdOf ls).okB = false) : rdC l = ⟨0, 0, [], []⟩ ∧ rdCode l = 5 := by
  unfold rdC rdCode rdS rdS3
  rw [if_neg h20, if_neg h20, ← hls, h, Bool.and_false, Bool.and_false]
  exact ⟨rfl, rfl⟩
theorem rdYes {l : List UInt8} {ls : List (List UInt8)} (h20 : ¬ 20000 < l.length) (hls : ls = splitL 10 l) (h1 : docGood readerT ls = true) (h2 : (midOf ls).all rowGood = true) (h : (rdOf ls).okB = true) : rdC l = rdOf ls ∧ rdCode l = 0 := by
  unfold rdC rdCode rdS rdS3
  rw [if_neg h20, if_neg h20, ← hls, h1, h2, h]
  exact ⟨rfl, rfl⟩
theorem tnBad {l : List UInt8} {ls : List (List UInt8)} (h20 : ¬ 20000 < l.length) (hls : ls = splitL 10 l) (h : docGood turnerT ls = false) : tnC l = ⟨0, 0, []⟩ ∧ tnCode l = 5 := by
  unfold tnC tnCode tnS tnS3
  rw [if_neg h20, if_neg h20, ← hls, h]
  exact ⟨rfl, rfl⟩
theorem tnBadRow {l : List UInt8} {ls : List (List UInt8)} (h20 : ¬ 20000 < l.length) (hls : ls = splitL 10 l) (h : (midOf ls).all rowTGood = false) : tnC l = ⟨0, 0, []⟩ ∧ tnCode l = 5 := by
  unfold tnC tnCode tnS tnS3
  rw [if_neg h20, if_neg h20, ← hls, h, Bool.false_and, Bool.and_false]
  exact ⟨rfl, rfl⟩
theorem tnBadOk {l : List UInt8} {ls : List (List UInt8)} (h20 : ¬ 20000 < l.length) (hls : ls = splitL 10 l) (h : (tnOf ls).okB = false) : tnC l = ⟨0, 0, []⟩ ∧ tnCode l = 5 := by
  unfold tnC tnCode tnS tnS3
  rw [if_neg h20, if_neg h20, ← hls, h, Bool.and_false, Bool.and_false]
  exact ⟨rfl, rfl⟩
theorem tnYes {l : List UInt8} {ls : List (List UInt8)} (h20 : ¬ 20000 < l.length) (hls : ls = splitL 10 l) (h1 : docGood turnerT ls = true) (h2 : (midOf ls).all rowTGood = true) (h : (tnOf ls).okB = true) : tnC l = tnOf ls ∧ tnCode l = 0 := by
  unfold tnC tnCode tnS tnS3
  rw [if_neg h20, if_neg h20, ← hls, h1, h2, h]
  exact ⟨rfl, rfl⟩
theorem numV_bound (l : List UInt8) : 0 ≤ numV l ∧ numV l < 1000000000 := by
  refine ⟨Int.natCast_nonneg _, ?_⟩
  unfold numV numL
  split
  · simp
  · rename_i h
    split
    · rename_i hd
      have h1 := valL_bound l hd
      have h2 : l.length ≤ 9 := by omega
      have h3 : 10 ^ l.length ≤ 1000000000 := Nat.le_trans (Nat.pow_le_pow_right (by decide) h2) (by decide)
      simp only [Option.getD_some]
      omega
    · simp
theorem mid_eq (l0 : List UInt8) (mid : List (List UInt8)) : midOf (l0 :: (mid ++ [[]])) = mid := by
  show (mid ++ [[]]).dropLast = mid
  simp
theorem tot_mid {α : Type} [Cod α] (h0 : ∀ x : α, Cod.tot x = 0) (f : List UInt8 → List α) (hf : ∀ x, (f x).length ≤ x.length) {l l0 : List UInt8} {mid : List (List UInt8)} (h : l0 :: (mid ++ [[]]) = splitL 10 l) : Cod.tot (mid.map f) ≤ l.length + 1 ∧ mid.length ≤ l.length := by
  have h1 := splitL_sum 10 l
  have h2 := tot_lines h0 f hf mid
  have h3 : mid.length ≤ (mid.map fun x => x.length + 1).sum := by
    clear h h1 h2
    induction mid with
    | nil => simp
    | cons x xs ih =>
      simp only [List.length_cons, List.map_cons, List.sum_cons]
      omega
  rw [← h] at h1
  simp only [List.map_cons, List.map_append, List.sum_cons, List.sum_append, List.map_nil, List.sum_nil, List.length_nil] at h1
  omega
end Go.Proofs.YtelmooaenodfaaaDoor
