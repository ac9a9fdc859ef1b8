/-
  How many words of a length a reader takes, as a fold. No program in sight. Conditions: none.
-/
import Derived.Test.YtollaaebheeakaaMem
set_option linter.unusedVariables false
set_option linter.unusedSimpArgs false
set_option maxRecDepth 100000
set_option maxHeartbeats 1000000
namespace Go.Proofs.Ytollaaebheeakaa
open Go.RowKit

def wadd (a b : Int) : Int := wrap64 (a + b)
def addAt (v : Int) (l : List Int) (t : Int) : List Int := l.set t.toNat (wadd (l.getD t.toNat 0) v)
def cntRow (v : Int) : List Int → List Int → List Int
  | l, [] => l
  | l, t :: ts => cntRow v (addAt v l t) ts
def cntRows : List Int → List (List Int) → List Int → List Int
  | c :: cs, r :: rs, l => cntRows cs rs (cntRow c l r)
  | _, _, l => l
def cntIter (next : List (List Int)) (n : Nat) : Nat → List Int → List Int
  | 0, l => l
  | k + 1, l => cntIter next n k (cntRows l next (List.replicate n 0))
def cntSum : List Bool → List Int → Int → Int
  | b :: bs, c :: cs, s => cntSum bs cs (if b then wadd s c else s)
  | _, _, s => s
theorem addAt_length (v : Int) (l : List Int) (t : Int) : (addAt v l t).length = l.length := by simp [addAt]
theorem cntRow_length (v : Int) : ∀ (l ts : List Int), (cntRow v l ts).length = l.length
  | _, [] => rfl
  | l, t :: ts => by rw [cntRow, cntRow_length, addAt_length]
theorem cntRows_length : ∀ (cs : List Int) (rs : List (List Int)) (l : List Int), (cntRows cs rs l).length = l.length
  | c :: cs, r :: rs, l => by rw [cntRows, cntRows_length, cntRow_length]
  | [], _, l => by simp [cntRows]
  | _ :: _, [], l => by simp [cntRows]
theorem cntRow_cons {v : Int} {l xs : List Int} {j : Nat} {t : Int} (h : xs[j]? = some t) : cntRow v l (xs.drop j) = cntRow v (addAt v l t) (xs.drop (j + 1)) := by rw [drop_cons h]; rfl
theorem cntRows_cons {cs : List Int} {rs : List (List Int)} {l : List Int} {s : Nat} {c : Int} {r : List Int} (h : cs[s]? = some c) (h' : rs[s]? = some r) :
    cntRows (cs.drop s) (rs.drop s) l = cntRows (cs.drop (s + 1)) (rs.drop (s + 1)) (cntRow c l r) := by rw [drop_cons h, drop_cons h']; rfl
theorem cntRows_end {cs : List Int} {rs : List (List Int)} {l : List Int} {s : Nat} (h : rs.length ≤ s) : cntRows (cs.drop s) (rs.drop s) l = l := by
  rw [List.drop_eq_nil_of_le h]
  cases cs.drop s <;> rfl
theorem cntSum_cons {bs : List Bool} {cs : List Int} {s : Nat} {c : Int} {b : Bool} {z : Int} (h : bs[s]? = some b) (h' : cs[s]? = some c) :
    cntSum (bs.drop s) (cs.drop s) z = cntSum (bs.drop (s + 1)) (cs.drop (s + 1)) (if b then wadd z c else z) := by rw [drop_cons h, drop_cons h']; rfl
theorem cntSum_end {bs : List Bool} {cs : List Int} {s : Nat} {z : Int} (h : bs.length ≤ s) : cntSum (bs.drop s) (cs.drop s) z = z := by
  rw [List.drop_eq_nil_of_le h]
  cases cs.drop s <;> rfl
/-- How many words of length k are taken. -/
def countC (n : Nat) (accept : List Bool) (next : List (List Int)) (start : Int) (k : Nat) : Int :=
  cntSum accept (cntIter next n k ((List.replicate n 0).set start.toNat 1)) 0
end Go.Proofs.Ytollaaebheeakaa
