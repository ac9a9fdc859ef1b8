/-
  A block of pairs that is known whole; contract of slices.Repeat of one move. Conditions: those in each statement.
-/
import Derived.Test.YtpknkaidmefenaaCat2
import Derived.Test.YtpknkaidmefenaaCopy2
import Derived.Test.YtpknkaidmefenaaTail
import Derived.Test.YtpknkaidmefenaaInts
import Derived.Deep.RegionHeld3
set_option linter.unusedVariables false
set_option linter.unusedSimpArgs false
set_option maxRecDepth 100000
set_option maxHeartbeats 1000000
namespace Go.Proofs.Ytpknkaidmefenaa
open Go.RowKit

/-- Block g holds the pairs xs. -/
def Pairs (w : World) (g : Nat) (t : TypeId) (xs : List (Int × Int)) : Prop := w.heap[g]? = some (.cells (xs.flatMap encP).toArray t (0, 0))
section
variable {w w' : World} {g k : Nat} {t : TypeId} {xs : List (Int × Int)}
theorem flat_at : ∀ {xs : List (Int × Int)} {k : Nat} {x : Int × Int}, xs[k]? = some x → (xs.flatMap encP)[k * 2]? = some (.int .i64 x.1) ∧ (xs.flatMap encP)[k * 2 + 1]? = some (.int .i64 x.2)
  | [], _, _, h => by simp at h
  | y :: ys, 0, x, h => by simp at h; subst h; simp [encP]
  | y :: ys, k + 1, x, h => by
    have := flat_at (xs := ys) (k := k) (by simpa using h)
    rw [show (k + 1) * 2 = k * 2 + 2 by omega]
    simpa [encP] using this
theorem flat_set : ∀ {xs : List (Int × Int)} {k : Nat} (a b : Int), k < xs.length → ((xs.flatMap encP).set (k * 2) (.int .i64 a)).set (k * 2 + 1) (.int .i64 b) = (xs.set k (a, b)).flatMap encP
  | [], _, _, _, h => by simp at h
  | y :: ys, 0, a, b, _ => by simp [encP]
  | y :: ys, k + 1, a, b, h => by
    have := flat_set (xs := ys) (k := k) a b (by simpa using h)
    rw [show (k + 1) * 2 = k * 2 + 2 by omega]
    simp only [List.flatMap_cons, encP, List.cons_append, List.nil_append, List.set_cons_succ, ← this]
theorem Pairs.cell (h : Pairs w g t xs) {x : Int × Int} (hx : xs[k]? = some x) : w.cell? ⟨g, k * 2, none⟩ = some (.int .i64 x.1) ∧ w.cell? ⟨g, k * 2 + 1, none⟩ = some (.int .i64 x.2) := by
  rw [cell_of_row w g _ _ t (0, 0) h, cell_of_row w g _ _ t (0, 0) h]
  have := flat_at hx
  simpa using this
theorem Pairs.free (h : Pairs w g t xs) : w.frozen? ⟨g, k, none⟩ = false := blk_free h
theorem Pairs.lt (h : Pairs w g t xs) : g < w.heap.size := (Array.getElem?_eq_some_iff.1 h).1
theorem Pairs.set (h : Pairs w g t xs) (hk : k < xs.length) (a b : Int) : Pairs ((w.setCell ⟨g, k * 2, none⟩ (.int .i64 a)).setCell ⟨g, k * 2 + 1, none⟩ (.int .i64 b)) g t (xs.set k (a, b)) := by
  have h1 := blk_set (i := k * 2 + 1) (blk_set (i := k * 2) h (.int .i64 a)) (.int .i64 b)
  unfold Pairs
  rw [h1, List.setIfInBounds_toArray, List.setIfInBounds_toArray, flat_set a b hk]
theorem Pairs.keep (h : Pairs w g t xs) (hk : w'.heap[g]? = w.heap[g]?) : Pairs w' g t xs := hk.trans h
theorem Pairs.far (h : Pairs w g t xs) {p : Addr} (hp : g ≠ p.block) (u : Value) : Pairs (w.setCell p u) g t xs := blk_far h hp u
theorem Pairs.own (h : Pairs w g t xs) : OwnS w (some ⟨g, 0, none⟩) xs [g] := by
  refine OwnS.of (m := xs.length * 2) h ?_
  have : (xs.flatMap encP).toArray.toList.take (xs.length * 2) = xs.flatMap encP := List.take_of_length_le (by rw [encP_length]; exact Nat.le_refl _)
  rw [this]
  exact Els_pairs.2 ⟨rfl, rfl⟩
end

/-- the first k of n are x -/
def rpt (n k : Nat) (x : Int × Int) : List (Int × Int) := List.replicate k x ++ List.replicate (n - k) (0, 0)
theorem rpt_len {n k : Nat} (x : Int × Int) (h : k ≤ n) : (rpt n k x).length = n := by simp [rpt]; omega
theorem rpt_end (n : Nat) (x : Int × Int) : rpt n n x = List.replicate n x := by simp [rpt]
theorem rpt_copy {n k m : Nat} (x : Int × Int) (h : k + m ≤ n) : ((rpt n k x).flatMap encP).take (k * 2) ++ (List.replicate m x).flatMap encP ++ ((rpt n k x).flatMap encP).drop (k * 2 + ((List.replicate m x).flatMap encP).length) = (rpt n (k + m) x).flatMap encP := by
  have l1 : ((List.replicate k x).flatMap encP).length = k * 2 := by rw [encP_length]; simp
  have l2 : ((List.replicate m x).flatMap encP).length = m * 2 := by rw [encP_length]; simp
  have l3 : ((List.replicate m ((0, 0) : Int × Int)).flatMap encP).length = m * 2 := by rw [encP_length]; simp
  have e : List.replicate (n - k) ((0, 0) : Int × Int) = List.replicate m (0, 0) ++ List.replicate (n - (k + m)) (0, 0) := by rw [List.replicate_append_replicate]; congr 1; omega
  unfold rpt
  rw [e, List.flatMap_append, List.flatMap_append, List.flatMap_append, ← List.replicate_append_replicate, List.flatMap_append, List.take_left' l1, l2, Nat.add_comm (k * 2), ← List.drop_drop, List.drop_drop, Nat.add_comm (m * 2), ← List.drop_drop, List.drop_left' l1, List.drop_left' l3]
theorem rpt_src {n k m : Nat} (x : Int × Int) (h : m ≤ k) {j : Nat} {v : Value} (hj : ((List.replicate m x).flatMap encP)[j]? = some v) : ((rpt n k x).flatMap encP)[j]? = some v := by
  have e : List.replicate k x = List.replicate m x ++ List.replicate (k - m) x := by rw [List.replicate_append_replicate]; congr 1; omega
  have hl := (List.getElem?_eq_some_iff.1 hj).1
  unfold rpt
  rw [e, List.append_assoc, List.flatMap_append, List.getElem?_append_left hl]
  exact hj
theorem made_pairs (n : Nat) (h : n = 3 ∨ n = 4 ∨ n = 5) : madeCells (Value.agg #[.int .i64 0, .int .i64 0]).cells (n * 2) = ((rpt n 0 (0, 0)).flatMap encP).toArray := by
  rcases h with rfl | rfl | rfl <;> kernel_rfl

theorem sizeMove2 : (Try.prog.info? 73).map (·.size) = some 2 := by kernel_rfl

end Go.Proofs.Ytpknkaidmefenaa
