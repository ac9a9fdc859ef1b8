/-
  A block that is known whole as a list of numbers, read and written at an index. No program in sight. Conditions: those in each statement.
-/
import Derived.Test.YtpknkaidmefenaaMem
import Derived.Laws.OwnMore
set_option linter.unusedVariables false
set_option linter.unusedSimpArgs false
set_option maxRecDepth 100000
set_option maxHeartbeats 1000000
namespace Go.Proofs.Ytpknkaidmefenaa
open Go.RowKit

def intV (x : Int) : Value := .int .i64 x
/-- Block g holds the numbers xs, and nothing else. -/
def Ints (w : World) (g : Nat) (t : TypeId) (xs : List Int) : Prop := w.heap[g]? = some (.cells (xs.map intV).toArray t (0, 0))
section
variable {w w' : World} {g k : Nat} {t : TypeId} {xs : List Int}
theorem Ints.cell (h : Ints w g t xs) {x : Int} (hx : xs[k]? = some x) : w.cell? ⟨g, k, none⟩ = some (.int .i64 x) := by
  rw [cell_of_row w g k _ t (0, 0) h]
  simp [hx, intV]
theorem Ints.free (h : Ints w g t xs) : w.frozen? ⟨g, k, none⟩ = false := blk_free h
theorem Ints.set (h : Ints w g t xs) (y : Int) : Ints (w.setCell ⟨g, k, none⟩ (.int .i64 y)) g t (xs.set k y) := by
  unfold Ints
  rw [blk_set h]
  rw [List.setIfInBounds_toArray, List.map_set]
  rfl
theorem Ints.keep (h : Ints w g t xs) (hk : w'.heap[g]? = w.heap[g]?) : Ints w' g t xs := hk.trans h
theorem Ints.below (h : Ints w g t xs) {B : Nat} (hb : Below B w w') (hg : g < B) : Ints w' g t xs := (hb.block g hg).trans h
theorem Ints.lt (h : Ints w g t xs) : g < w.heap.size := (Array.getElem?_eq_some_iff.1 h).1
theorem Ints.far (h : Ints w g t xs) {p : Addr} (hp : g ≠ p.block) (u : Value) : Ints (w.setCell p u) g t xs := blk_far h hp u
theorem Ints.alloc (h : Ints w g t xs) (o : Obj) : Ints (w.alloc o) g t xs := (Below.heap_alloc w o g h.lt).trans h
theorem Ints.drew (h : Ints w g t xs) : Ints w.drew g t xs := h
theorem Ints.made (w : World) (t : TypeId) (n : Nat) : Ints (w.alloc (.cells (madeCells #[.int .i64 0] n) t)) w.heap.size t (List.replicate n 0) := by
  unfold Ints
  rw [heap_alloc_new]
  congr 2
  apply Array.toList_inj.1
  rw [toList_madeCells_one]
  simp [intV]
theorem made_get (z : Value) {n k : Nat} (hk : k < n) : (madeCells #[z] n)[k]? = some z := by
  simp [madeCells, hk, Nat.mod_one]
theorem Ints.made_set (w : World) (t : TypeId) (n k : Nat) (y : Int) : Ints (w.alloc (.cells ((madeCells #[.int .i64 0] n).setIfInBounds k (.int .i64 y)) t)) w.heap.size t ((List.replicate n 0).set k y) := by
  unfold Ints
  rw [heap_alloc_new]
  congr 2
  apply Array.toList_inj.1
  rw [Array.toList_setIfInBounds, toList_madeCells_one]
  simp [intV, List.map_set]
theorem Els_ints {w : World} : ∀ xs : List Int, Els w xs (xs.map intV) []
  | [] => ⟨rfl, rfl⟩
  | x :: xs => ⟨[intV x], xs.map intV, [], [], rfl, rfl, ⟨rfl, rfl⟩, Els_ints xs⟩
theorem Ints.own (h : Ints w g t xs) : OwnS w (some ⟨g, 0, none⟩) xs [g] := by
  refine OwnS.of (m := xs.length) h ?_
  have : (xs.map intV).toArray.toList.take xs.length = xs.map intV := List.take_of_length_le (by simp)
  rw [this]
  exact Els_ints xs
end
end Go.Proofs.Ytpknkaidmefenaa
