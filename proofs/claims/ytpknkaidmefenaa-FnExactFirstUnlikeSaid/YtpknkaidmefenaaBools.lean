/-
  A whole block of bools. No program in sight. Conditions: those in each statement.
-/
import Derived.Test.YtpknkaidmefenaaNestLaw
import Derived.Test.YtpknkaidmefenaaInts
set_option linter.unusedVariables false
set_option linter.unusedSimpArgs false
set_option maxRecDepth 100000
set_option maxHeartbeats 1000000
namespace Go.Proofs.Ytpknkaidmefenaa
open Go.RowKit

/-- Block g holds the bools xs. -/
def Bools (w : World) (g : Nat) (t : TypeId) (xs : List Bool) : Prop := w.heap[g]? = some (.cells (xs.map Value.bool).toArray t (0, 0))
section
variable {w w' : World} {g k : Nat} {t : TypeId} {xs : List Bool}
theorem Bools.cell (h : Bools w g t xs) {x : Bool} (hx : xs[k]? = some x) : w.cell? ⟨g, k, none⟩ = some (.bool x) := by
  rw [cell_of_row w g k _ t (0, 0) h]
  simp [hx]
theorem Bools.free (h : Bools w g t xs) : w.frozen? ⟨g, k, none⟩ = false := blk_free h
theorem Bools.set (h : Bools w g t xs) (y : Bool) : Bools (w.setCell ⟨g, k, none⟩ (.bool y)) g t (xs.set k y) := by
  have := blk_set (i := k) h (.bool y)
  unfold Bools
  rw [this, List.setIfInBounds_toArray, List.map_set]
theorem Bools.keep (h : Bools w g t xs) (hk : w'.heap[g]? = w.heap[g]?) : Bools w' g t xs := hk.trans h
theorem Bools.lt (h : Bools w g t xs) : g < w.heap.size := (Array.getElem?_eq_some_iff.1 h).1
theorem Bools.far (h : Bools w g t xs) {p : Addr} (hp : g ≠ p.block) (u : Value) : Bools (w.setCell p u) g t xs := blk_far h hp u
theorem Bools.alloc (h : Bools w g t xs) (o : Obj) : Bools (w.alloc o) g t xs := (Below.heap_alloc w o g h.lt).trans h
theorem Bools.made (w : World) (t : TypeId) (n : Nat) : Bools (w.alloc (.cells (madeCells #[.bool false] n) t)) w.heap.size t (List.replicate n false) := by
  unfold Bools
  rw [heap_alloc_new]
  congr 2
  apply Array.toList_inj.1
  rw [toList_madeCells_one]
  simp
theorem Bools.made' {w : World} {g : Nat} (t : TypeId) (n : Nat) (hg : g = w.heap.size) : Bools (w.alloc (.cells (madeCells (Value.bool false).cells n) t)) g t (List.replicate n false) := by subst hg; exact Bools.made w t n
theorem Bools.own (h : Bools w g t xs) : OwnS w (some ⟨g, 0, none⟩) xs [g] := by
  refine OwnS.of (m := xs.length) h ?_
  have : (xs.map Value.bool).toArray.toList.take xs.length = xs.map Value.bool := List.take_of_length_le (by simp)
  rw [this]
  exact Els_bools xs
theorem Els_nocaps {w : World} : ∀ n : Nat, Els w (List.replicate n (⟨[]⟩ : Cap)) (List.replicate n (.slice none 0 0)) []
  | 0 => ⟨rfl, rfl⟩
  | n + 1 => ⟨[.slice none 0 0], List.replicate n (.slice none 0 0), [], [], rfl, rfl, ⟨none, 0, rfl, by simp, Acc.nil_ _ _ _, rfl⟩, Els_nocaps n⟩
theorem caps_made {w : World} {R : Nat} {t : TypeId} {n : Nat} (h : w.heap[R]? = some (.cells (madeCells #[.slice none 0 0] n) t (0, 0))) : OwnS w (some ⟨R, 0, none⟩) ((List.range n).map fun _ => (⟨[]⟩ : Cap)) [R] := by
  refine OwnS.of (m := n) h ?_
  rw [toList_madeCells_one]
  have e : ((List.range n).map fun _ => (⟨[]⟩ : Cap)) = List.replicate n ⟨[]⟩ := by
    apply List.ext_getElem <;> simp
  rw [e, List.take_of_length_le (by simp)]
  exact Els_nocaps n
end
theorem hasB_take {xs : List Int} {k : Nat} {x : Int} {n : Int} (h : xs[k]? = some x) : hasB n (xs.take (k + 1)) = (hasB n (xs.take k) || decide (x = n)) := by
  rw [take_snoc h]
  simp [hasB]
/-- which states stand among the first j of a list -/
def accP (starts : List Int) (n j : Nat) : List Bool := (List.range n).map fun (t : Nat) => hasB (t : Int) (starts.take j)
theorem accP_0 (starts : List Int) (n : Nat) : accP starts n 0 = List.replicate n false := by
  unfold accP
  apply List.ext_getElem <;> simp [hasB]
theorem accP_end (starts : List Int) (n : Nat) : accP starts n starts.length = turnAcc starts n := by
  unfold accP turnAcc
  rw [List.take_length]
theorem accP_set {starts : List Int} {n j q : Nat} (h : starts[j]? = some (q : Int)) : (accP starts n j).set q true = accP starts n (j + 1) := by
  have key := range_set (fun (t : Nat) => hasB (t : Int) (starts.take j)) (fun (t : Nat) => hasB (t : Int) (starts.take (j + 1))) n q (fun t _ hq => by
    have hd : decide ((q : Int) = (t : Int)) = false := by simp; omega
    simp only [hasB_take h, hd, Bool.or_false])
  have hq : hasB (q : Int) (starts.take (j + 1)) = true := by simp [hasB_take h]
  simp only [hq] at key
  exact key
theorem accP_get {starts : List Int} {n j q : Nat} (h : q < n) : ∃ b, (accP starts n j)[q]? = some b := get_some (by simpa [accP] using h)
end Go.Proofs.Ytpknkaidmefenaa
