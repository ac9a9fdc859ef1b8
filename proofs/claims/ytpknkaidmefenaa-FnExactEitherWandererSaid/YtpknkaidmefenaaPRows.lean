/-
  One pair of a list of lists of pairs, replaced in place. No program in sight. Conditions: those in each statement.
-/
import Derived.Test.YtpknkaidmefenaaNestLaw
import Derived.Test.YtpknkaidmefenaaRep
set_option linter.unusedVariables false
set_option linter.unusedSimpArgs false
set_option maxRecDepth 100000
set_option maxHeartbeats 1000000
namespace Go.Proofs.Ytpknkaidmefenaa
open Go.RowKit

theorem rows_at {w : World} {N : Option Addr} {xs : List (List (Int × Int))} {bs : List Nat} (h : OwnS w N xs bs) (hnd : bs.Nodup) {s k : Nat} {row : List (Int × Int)} {m : Int × Int} (hr : xs[s]? = some row) (hm : row[k]? = some m) :
    ∃ G R c1, N = some ⟨G, 0, none⟩ ∧ G ∈ bs ∧ R ∈ bs ∧ G ≠ R ∧ w.cell? ⟨G, s, none⟩ = some (.slice (some ⟨R, 0, none⟩) row.length c1) ∧ w.cell? ⟨R, k * 2, none⟩ = some (.int .i64 m.1) ∧ w.cell? ⟨R, k * 2 + 1, none⟩ = some (.int .i64 m.2) ∧ (∀ i, w.frozen? ⟨R, i, none⟩ = false) ∧
      ∀ (X : World), (∀ g ∈ bs, X.heap[g]? = w.heap[g]?) → ∀ a b, OwnS ((X.setCell ⟨R, k * 2, none⟩ (.int .i64 a)).setCell ⟨R, k * 2 + 1, none⟩ (.int .i64 b)) N (xs.set s (row.set k (a, b))) bs := by
  rcases h with ⟨h, _⟩ | ⟨G, tG, cur, cs, b2, rfl, hg, hc, he, rfl⟩
  · rw [h] at hr; simp at hr
  obtain ⟨c1, c, c2, b1, b, b3, rfl, rfl, ⟨N1, k1, rfl, hl1, hO⟩, hk1, hU⟩ := he.one hr
  rcases hO with ⟨h, _⟩ | ⟨R, tR, curR, csR, bR, rfl, hgR, hcR, heR, rfl⟩
  · rw [h] at hm; simp at hm
  obtain ⟨rfl, rfl⟩ := Els_pairs.1 heR
  have hk1' : c1.length = s := by rw [hk1]; exact Nat.mul_one _
  have hn1 := List.nodup_cons.1 hnd
  have hn2 := List.nodup_append.1 hn1.2
  have hn3 := List.nodup_append.1 hn2.2.1
  have hGR : G ≠ R := fun e0 => hn1.1 (by subst e0; simp)
  have hat := flat_at hm
  have hcell : ∀ i u, (row.flatMap encP)[i]? = some u → w.cell? ⟨R, i, none⟩ = some u := fun i u hi => by
    rw [cell_of_row w R i curR tR (0, 0) hgR]
    have hl := (List.getElem?_eq_some_iff.1 hi).1
    rw [← hcR, List.getElem?_take_of_lt hl] at hi
    simpa using hi
  refine ⟨G, R, k1, rfl, List.mem_cons_self .., by simp, hGR, ?_, hcell _ _ hat.1, hcell _ _ hat.2, fun i => blk_free hgR, fun X hX a b' => ?_⟩
  · rw [cell_of_row w G s cur tG (0, 0) hg]
    exact take_cell hc rfl hk1' (j := 0) rfl
  · have hlk : k < row.length := (List.getElem?_eq_some_iff.1 hm).1
    have hXR : X.heap[R]? = some (.cells curR tR (0, 0)) := (hX R (by simp)).trans hgR
    have hXG : X.heap[G]? = some (.cells cur tG (0, 0)) := (hX G (by simp)).trans hg
    have hset := blk_set (i := k * 2 + 1) (blk_set (i := k * 2) hXR (.int .i64 a)) (.int .i64 b')
    have hrow : Cod.own ((X.setCell ⟨R, k * 2, none⟩ (.int .i64 a)).setCell ⟨R, k * 2 + 1, none⟩ (.int .i64 b')) (row.set k (a, b')) [.slice (some ⟨R, 0, none⟩) row.length k1] [R] := by
      refine ⟨some ⟨R, 0, none⟩, k1, by rw [List.length_set], by rw [List.length_set]; exact hl1, .inr ⟨R, tR, _, _, [], rfl, hset, ?_, Els_pairs.2 ⟨rfl, rfl⟩, rfl⟩⟩
      have hlen : ((row.set k (a, b')).flatMap encP).length = (row.flatMap encP).length := by rw [encP_length, encP_length, List.length_set]
      rw [hlen, Array.toList_setIfInBounds, Array.toList_setIfInBounds, List.take_set, List.take_set, hcR, flat_set a b' hlk]
    have hkeep : ∀ g ∈ b1 ++ b3, ((X.setCell ⟨R, k * 2, none⟩ (.int .i64 a)).setCell ⟨R, k * 2 + 1, none⟩ (.int .i64 b')).heap[g]? = w.heap[g]? := fun g hg => by
      have hgR' : g ≠ R := fun e0 => by
        rcases List.mem_append.1 hg with h1 | h1
        · exact hn2.2.2 g h1 R (by simp) e0
        · exact hn3.2.2 R (by simp) g h1 e0.symm
      rw [Below.heap_setCell _ _ _ _ hgR', Below.heap_setCell _ _ _ _ hgR']
      exact hX g (by rcases List.mem_append.1 hg with h1 | h1 <;> simp [h1])
    have hall := hU _ _ _ _ hrow hkeep
    refine .inr ⟨G, tG, cur, _, _, rfl, ?_, ?_, hall, by simp⟩
    · rw [Below.heap_setCell _ _ _ _ (by simpa using hGR), Below.heap_setCell _ _ _ _ (by simpa using hGR)]
      exact hXG
    · have e : (c1 ++ ([Value.slice (some ⟨R, 0, none⟩) row.length k1] ++ c2)).length = (c1 ++ ([Value.slice (some ⟨R, 0, none⟩) row.length k1] ++ c2)).length := rfl
      exact hc
end Go.Proofs.Ytpknkaidmefenaa
