/-
  The automaton of the turned words, as lists. No program in sight. Conditions: none.
-/
import Derived.Test.YtpknkaidmefenaaVMany
import Derived.Test.YtpknkaidmefenaaTri
set_option linter.unusedVariables false
set_option linter.unusedSimpArgs false
set_option maxRecDepth 100000
set_option maxHeartbeats 1000000
namespace Go.Proofs.Ytpknkaidmefenaa
open Go.RowKit

def hasB (n : Int) (xs : List Int) : Bool := xs.any fun x => decide (x = n)
def cellL (next : List (List (List Int))) (t a : Nat) : List Int := (next.getD t []).getD a []
def castL (l : List Nat) : List Int := List.map (fun (t : Nat) => (t : Int)) l
/-- the states among the first k from which letter a leads to s -/
def fromL (next : List (List (List Int))) (a : Nat) (s : Int) (k : Nat) : List Int := castL ((List.range k).filter fun t => hasB s (cellL next t a))
def turnRow (next : List (List (List Int))) (n : Nat) (s : Int) (l : Nat) : List (List Int) := (List.range l).map fun a => fromL next a s n
def turnStarts (accept : List Bool) (k : Nat) : List Int := castL ((List.range k).filter fun s => accept.getD s false)
def turnAcc (starts : List Int) (k : Nat) : List Bool := (List.range k).map fun (s : Nat) => hasB s starts
def turnNext (next : List (List (List Int))) (n l : Nat) (k : Nat) : List (List (List Int)) := (List.range k).map fun (s : Nat) => turnRow next n s l
def Mn.turn (T : Mn) : Mn := ⟨T.letters, turnStarts T.accept T.accept.length, turnAcc T.starts T.accept.length, turnNext T.next T.accept.length T.letters.toNat T.accept.length⟩
def Mn.turnC (T : Mn) : Mn := if T.okB then T.turn else ⟨0, [], [], []⟩
theorem castL_snoc (l : List Nat) (n : Nat) : castL (l ++ [n]) = castL l ++ [(n : Int)] := by simp [castL]
theorem turnStarts_yes {accept : List Bool} {k : Nat} (h : accept[k]? = some true) : turnStarts accept (k + 1) = turnStarts accept k ++ [(k : Int)] := by
  unfold turnStarts
  rw [List.range_succ, List.filter_append, ← castL_snoc]
  simp [h]
theorem turnStarts_no {accept : List Bool} {k : Nat} (h : accept[k]? = some false) : turnStarts accept (k + 1) = turnStarts accept k := by
  unfold turnStarts
  rw [List.range_succ, List.filter_append]
  simp [h]
theorem turnStarts_le (accept : List Bool) (k : Nat) : (turnStarts accept k).length ≤ k := by
  unfold turnStarts castL
  rw [List.length_map]
  refine Nat.le_trans (List.length_filter_le _ _) (by simp)
theorem turnAcc_snoc (starts : List Int) (k : Nat) : turnAcc starts (k + 1) = turnAcc starts k ++ [hasB k starts] := range_snoc _ _
theorem turnAcc_len (starts : List Int) (k : Nat) : (turnAcc starts k).length = k := by simp [turnAcc]
theorem turnNext_snoc (next : List (List (List Int))) (n l k : Nat) : turnNext next n l (k + 1) = turnNext next n l k ++ [turnRow next n k l] := range_snoc _ _
theorem turnNext_len (next : List (List (List Int))) (n l k : Nat) : (turnNext next n l k).length = k := by simp [turnNext]
theorem turnRow_snoc (next : List (List (List Int))) (n : Nat) (s : Int) (l : Nat) : turnRow next n s (l + 1) = turnRow next n s l ++ [fromL next l s n] := range_snoc _ _
theorem turnRow_len (next : List (List (List Int))) (n : Nat) (s : Int) (l : Nat) : (turnRow next n s l).length = l := by simp [turnRow]
theorem fromL_yes {next : List (List (List Int))} {a k : Nat} {s : Int} (h : hasB s (cellL next k a) = true) : fromL next a s (k + 1) = fromL next a s k ++ [(k : Int)] := by
  unfold fromL
  rw [List.range_succ, List.filter_append, ← castL_snoc]
  simp [h]
theorem fromL_no {next : List (List (List Int))} {a k : Nat} {s : Int} (h : hasB s (cellL next k a) = false) : fromL next a s (k + 1) = fromL next a s k := by
  unfold fromL
  rw [List.range_succ, List.filter_append]
  simp [h]
theorem fromL_le (next : List (List (List Int))) (a : Nat) (s : Int) (k : Nat) : (fromL next a s k).length ≤ k := by
  unfold fromL castL
  rw [List.length_map]
  refine Nat.le_trans (List.length_filter_le _ _) (by simp)
theorem cellL_of {next : List (List (List Int))} {t a : Nat} {row : List (List Int)} {x : List Int} (h : next[t]? = some row) (h' : row[a]? = some x) : cellL next t a = x := by
  unfold cellL
  simp [h, h']
theorem hasB_cons (n x : Int) (xs : List Int) : hasB n (x :: xs) = (decide (x = n) || hasB n xs) := rfl

structure Mn.Ok (T : Mn) : Prop where
  l1 : 1 ≤ T.letters
  l3 : T.letters ≤ 3
  n1 : 1 ≤ T.accept.length
  n10 : T.accept.length ≤ 10
  same : T.next.length = T.accept.length
  st : setOk T.accept.length T.starts = true
  row : ∀ r ∈ T.next, (r.length : Int) = T.letters ∧ ∀ x ∈ r, setOk T.accept.length x = true
theorem Mn.ok_of {T : Mn} (h : T.okB = true) : T.Ok := by
  unfold Mn.okB inB at h
  simp only [Bool.and_eq_true, List.all_eq_true, decide_eq_true_eq] at h
  obtain ⟨⟨a1, a2⟩, ⟨b1, b2⟩, c, d, e⟩ := h
  refine ⟨a1, a2, by omega, by omega, d, c, fun r hr => ?_⟩
  have := e r hr
  unfold rowM at this
  simp only [Bool.and_eq_true, List.all_eq_true, decide_eq_true_eq] at this
  exact this
end Go.Proofs.Ytpknkaidmefenaa
