/-
  One row of an accumulator of rows of pairs, replaced in place. No program in sight. Conditions: those in each statement.
-/
import Derived.Test.YtpknkaidmefenaaPRows
import Derived.Test.YtpknkaidmefenaaCat3
set_option linter.unusedVariables false
set_option linter.unusedSimpArgs false
set_option maxRecDepth 100000
set_option maxHeartbeats 1000000
namespace Go.Proofs.Ytpknkaidmefenaa
open Go.RowKit

/-- A store below its base. -/
theorem Acc.setLow {α : Type} [Cod α] {w : World} {B : Nat} {e : TypeId} {A : Option Addr} {n c : Nat} {xs : List α} {bs : List Nat} (h : Acc w B e A n c xs bs) {p : Addr} (hp : p.block < B) (u : Value) : Acc (w.setCell p u) B e A n c xs bs :=
  h.setCell (fun a ha e0 => by have := (h.lt a ha).1; omega) (fun hm => by have := (h.fresh.2 _ hm).1; omega) u

/-- A world with the same memory. -/
theorem Acc.heap {α : Type} [Cod α] {w w' : World} {B : Nat} {e : TypeId} {A : Option Addr} {n c : Nat} {xs : List α} {bs : List Nat} (h : Acc w B e A n c xs bs) (he : w'.heap = w.heap) : Acc w' B e A n c xs bs :=
  h.keep (fun a _ => by rw [he]) (fun g _ => by rw [he]) (by rw [he]; exact Nat.le_refl _)

/-- Row s of the accumulator: where it lies, what it holds; and the accumulator when that row's block holds other pairs. -/
theorem acc_row {w : World} {B : Nat} {e : TypeId} {A : Option Addr} {n c : Nat} {xs : List (List (Int × Int))} {bs : List Nat} (h : Acc w B e A n c xs bs) {s : Nat} {row : List (Int × Int)} (hr : xs[s]? = some row) (h0 : 0 < row.length) :
    ∃ G R c1 tR cur, A = some ⟨G, 0, none⟩ ∧ B ≤ G ∧ G < w.heap.size ∧ R ∈ bs ∧ B ≤ R ∧ R < w.heap.size ∧ G ≠ R ∧ w.cell? ⟨G, s, none⟩ = some (.slice (some ⟨R, 0, none⟩) row.length c1) ∧ w.heap[R]? = some (.cells cur tR (0, 0)) ∧
      cur.toList.take (row.length * 2) = row.flatMap encP ∧
      ∀ (X : World) (cur' : Array Value) (row' : List (Int × Int)), (∀ g, g = G ∨ g ∈ bs → g ≠ R → X.heap[g]? = w.heap[g]?) → X.heap[R]? = some (.cells cur' tR (0, 0)) → row'.length = row.length → cur'.toList.take (row.length * 2) = row'.flatMap encP → w.heap.size ≤ X.heap.size → Acc X B e A n c (xs.set s row') bs := by
  obtain ⟨cs, ⟨o1, o2⟩, he⟩ := h.cells
  have hs := (List.getElem?_eq_some_iff.1 hr).1
  rcases o2 with ⟨hv, hz⟩ | ⟨G, cap, cur, hv, hB, hg, hnc, hcm, hcur, htake⟩
  · have := h.len; omega
  have hA : A = some ⟨G, 0, none⟩ := by injection hv
  have hcs : cur.toList.take cs.length = cs := by rw [← htake, take_take_len]
  obtain ⟨c1, c0, c2, b1, b, b3, rfl, rfl, ⟨N1, k1, rfl, hl1, hO⟩, hk1, hU⟩ := he.one hr
  rcases hO with ⟨hn, _⟩ | ⟨R, tR, curR, csR, bR, rfl, hgR, hcR, heR, rfl⟩
  · rw [hn] at h0; simp at h0
  obtain ⟨rfl, rfl⟩ := Els_pairs.1 heR
  rw [encP_length] at hcR
  have hk1' : c1.length = s := by rw [hk1]; exact Nat.mul_one _
  have hn2 := List.nodup_append.1 h.fresh.1
  have hn3 := List.nodup_append.1 hn2.2.1
  have hRm : R ∈ b1 ++ ([R] ++ b3) := by simp
  have hGR : G ≠ R := fun e0 => h.out _ hA (by subst e0; exact hRm)
  refine ⟨G, R, k1, tR, curR, hA, hB, (Array.getElem?_eq_some_iff.1 hg).1, hRm, (h.fresh.2 R hRm).1, (h.fresh.2 R hRm).2, hGR, ?_, hgR, hcR, ?_⟩
  · rw [cell_of_row w G s cur _ (0, 0) hg]
    exact take_cell hcs rfl hk1' (j := 0) rfl
  · intro X cur' row' hX hXR hlen htk hsz
    have hrow : Cod.own X row' [.slice (some ⟨R, 0, none⟩) row.length k1] [R] :=
      ⟨some ⟨R, 0, none⟩, k1, by rw [hlen], by rw [hlen]; exact hl1, .inr ⟨R, tR, cur', _, [], rfl, hXR, by rw [encP_length, hlen]; exact htk, Els_pairs.2 ⟨rfl, rfl⟩, rfl⟩⟩
    have hkeep : ∀ g ∈ b1 ++ b3, X.heap[g]? = w.heap[g]? := fun g hg1 => by
      refine hX g (.inr (by rcases List.mem_append.1 hg1 with h1 | h1 <;> simp [h1])) fun e0 => ?_
      rcases List.mem_append.1 hg1 with h1 | h1
      · exact hn2.2.2 g h1 R (by simp) e0
      · exact hn3.2.2 R (by simp) g h1 e0.symm
    have hall := hU _ _ _ _ hrow hkeep
    refine ⟨by rw [List.length_set]; exact h.len, ⟨_, ⟨o1, .inr ⟨G, cap, cur, hv, hB, (hX G (.inl rfl) hGR).trans hg, hnc, hcm, hcur, htake⟩⟩, hall⟩, h.fresh.more hsz, h.out⟩

/-- One pair of one row. -/
theorem acc_at {w : World} {B : Nat} {e : TypeId} {A : Option Addr} {n c : Nat} {xs : List (List (Int × Int))} {bs : List Nat} (h : Acc w B e A n c xs bs) {s k : Nat} {row : List (Int × Int)} {m : Int × Int} (hr : xs[s]? = some row) (hm : row[k]? = some m) :
    ∃ G R c1, A = some ⟨G, 0, none⟩ ∧ R ∈ bs ∧ B ≤ G ∧ G < w.heap.size ∧ B ≤ R ∧ R < w.heap.size ∧ w.cell? ⟨G, s, none⟩ = some (.slice (some ⟨R, 0, none⟩) row.length c1) ∧ w.cell? ⟨R, k * 2, none⟩ = some (.int .i64 m.1) ∧ w.cell? ⟨R, k * 2 + 1, none⟩ = some (.int .i64 m.2) ∧ (∀ i, w.frozen? ⟨R, i, none⟩ = false) ∧ G ≠ R ∧
      (∀ a b, Acc ((w.setCell ⟨R, k * 2, none⟩ (.int .i64 a)).setCell ⟨R, k * 2 + 1, none⟩ (.int .i64 b)) B e A n c (xs.set s (row.set k (a, b))) bs) ∧
      (∀ a b a' b', Acc ((((w.setCell ⟨R, k * 2, none⟩ (.int .i64 a)).setCell ⟨R, k * 2 + 1, none⟩ (.int .i64 b)).setCell ⟨R, k * 2, none⟩ (.int .i64 a')).setCell ⟨R, k * 2 + 1, none⟩ (.int .i64 b')) B e A n c (xs.set s (row.set k (a', b'))) bs) := by
  have hk := (List.getElem?_eq_some_iff.1 hm).1
  obtain ⟨G, R, c1, tR, cur, hA, hB, hG, hRm, hBR, hR, hGR, hc, hgR, hcR, hU⟩ := acc_row h hr (by omega)
  have hat := flat_at hm
  have hcell : ∀ i u, (row.flatMap encP)[i]? = some u → w.cell? ⟨R, i, none⟩ = some u := fun i u hi => by
    rw [cell_of_row w R i cur tR (0, 0) hgR]
    have hl := (List.getElem?_eq_some_iff.1 hi).1
    rw [encP_length] at hl
    rw [← hcR, List.getElem?_take_of_lt hl] at hi
    simpa using hi
  have hset : ∀ (cur : Array Value) (r : List (Int × Int)), r.length = row.length → cur.toList.take (row.length * 2) = r.flatMap encP → ∀ a b : Int, ((cur.setIfInBounds (k * 2) (.int .i64 a)).setIfInBounds (k * 2 + 1) (.int .i64 b)).toList.take (row.length * 2) = (r.set k (a, b)).flatMap encP := fun cur r hl hc a b => by
    rw [Array.toList_setIfInBounds, Array.toList_setIfInBounds, List.take_set, List.take_set, hc, flat_set a b (by omega)]
  refine ⟨G, R, c1, hA, hRm, hB, hG, hBR, hR, hc, hcell _ _ hat.1, hcell _ _ hat.2, fun i => blk_free hgR, hGR, fun a b => ?_, fun a b a' b' => ?_⟩
  · refine hU _ _ _ (fun g _ hne => ?_) (blk_set (i := k * 2 + 1) (blk_set (i := k * 2) hgR (.int .i64 a)) (.int .i64 b)) (by simp) (hset _ _ rfl hcR a b) (by simp [sz_set])
    rw [Below.heap_setCell _ _ _ _ hne, Below.heap_setCell _ _ _ _ hne]
  · refine hU _ _ _ (fun g _ hne => ?_) (blk_set (i := k * 2 + 1) (blk_set (i := k * 2) (blk_set (i := k * 2 + 1) (blk_set (i := k * 2) hgR (.int .i64 a)) (.int .i64 b)) (.int .i64 a')) (.int .i64 b')) (by simp) ?_ (by simp [sz_set])
    · rw [Below.heap_setCell _ _ _ _ hne, Below.heap_setCell _ _ _ _ hne, Below.heap_setCell _ _ _ _ hne, Below.heap_setCell _ _ _ _ hne]
    · have h1 := hset _ _ (by simp) (hset _ _ rfl hcR a b) a' b'
      rw [List.set_set] at h1
      exact h1
end Go.Proofs.Ytpknkaidmefenaa
