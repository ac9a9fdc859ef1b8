/-
  Two accumulators in one structure; one number of one pair of an accumulator of rows replaced in place. Conditions: those in each statement.
-/
import Derived.Test.YtpknkaidmefenaaEitS2
import Derived.Test.YtpknkaidmefenaaPAcc
set_option linter.unusedVariables false
set_option linter.unusedSimpArgs false
set_option maxRecDepth 100000
set_option maxHeartbeats 1000000
namespace Go.Proofs.Ytpknkaidmefenaa
open Go.RowKit

theorem list_set_self {α : Type} {l : List α} {i : Nat} {a : α} (h : l[i]? = some a) : l.set i a = l := by
  obtain ⟨hl, he⟩ := List.getElem?_eq_some_iff.1 h
  rw [← he, List.set_getElem_self]
theorem flat_set1 {row : List (Int × Int)} {k : Nat} {m : Int × Int} (hm : row[k]? = some m) (a : Int) : (row.flatMap encP).set (k * 2) (.int .i64 a) = (row.set k (a, m.2)).flatMap encP := by
  have hk := (List.getElem?_eq_some_iff.1 hm).1
  rw [← flat_set a m.2 hk]
  have h1 : ((row.flatMap encP).set (k * 2) (.int .i64 a))[k * 2 + 1]? = some (.int .i64 m.2) := by
    rw [List.getElem?_set_ne (by omega)]
    exact (flat_at hm).2
  obtain ⟨hl, he⟩ := List.getElem?_eq_some_iff.1 h1
  rw [← he, List.set_getElem_self]
/-- One number of one pair of one row. -/
theorem acc_to {w : World} {B : Nat} {e : TypeId} {A : Option Addr} {n c : Nat} {xs : List (List (Int × Int))} {bs : List Nat} (h : Acc w B e A n c xs bs) {s k : Nat} {row : List (Int × Int)} {m : Int × Int} (hr : xs[s]? = some row) (hm : row[k]? = some m) :
    ∃ G R c1, A = some ⟨G, 0, none⟩ ∧ R ∈ bs ∧ B ≤ G ∧ G < w.heap.size ∧ B ≤ R ∧ R < w.heap.size ∧ w.cell? ⟨G, s, none⟩ = some (.slice (some ⟨R, 0, none⟩) row.length c1) ∧ w.cell? ⟨R, k * 2, none⟩ = some (.int .i64 m.1) ∧ w.cell? ⟨R, k * 2 + 1, none⟩ = some (.int .i64 m.2) ∧ (∀ i, w.frozen? ⟨R, i, none⟩ = false) ∧ G ≠ R ∧
      ∀ a, Acc (w.setCell ⟨R, k * 2, none⟩ (.int .i64 a)) B e A n c (xs.set s (row.set k (a, m.2))) bs := by
  have hk := (List.getElem?_eq_some_iff.1 hm).1
  obtain ⟨G, R, c1, tR, cur, hA, hB, hG, hRm, hBR, hR, hGR, hc, hgR, hcR, hU⟩ := acc_row h hr (by omega)
  have hat := flat_at hm
  have hcell : ∀ i u, (row.flatMap encP)[i]? = some u → w.cell? ⟨R, i, none⟩ = some u := fun i u hi => by
    rw [cell_of_row w R i cur tR (0, 0) hgR]
    have hl := (List.getElem?_eq_some_iff.1 hi).1
    rw [encP_length] at hl
    rw [← hcR, List.getElem?_take_of_lt hl] at hi
    simpa using hi
  refine ⟨G, R, c1, hA, hRm, hB, hG, hBR, hR, hc, hcell _ _ hat.1, hcell _ _ hat.2, fun i => blk_free hgR, hGR, fun a => ?_⟩
  refine hU _ _ _ (fun g _ hne => ?_) (blk_set (i := k * 2) hgR (.int .i64 a)) (by simp) ?_ (by simp [sz_set])
  · rw [Below.heap_setCell _ _ _ _ hne]
  · rw [Array.toList_setIfInBounds, List.take_set, hcR, flat_set1 hm]

/-- Where the accumulator lies, and row s of it. -/
theorem acc_hd {w : World} {B : Nat} {e : TypeId} {A : Option Addr} {n c : Nat} {xs : List (List (Int × Int))} {bs : List Nat} (h : Acc w B e A n c xs bs) {s : Nat} {row : List (Int × Int)} (hr : xs[s]? = some row) :
    ∃ G R rc, A = some ⟨G, 0, none⟩ ∧ B ≤ G ∧ G < w.heap.size ∧ w.cell? ⟨G, s, none⟩ = some (.slice R row.length rc) := by
  have hs := (List.getElem?_eq_some_iff.1 hr).1
  obtain ⟨b, o, R, rc, e1, hb, hc, _, _⟩ := h.rd.row hr
  obtain ⟨cs, ⟨o1, o2⟩, he⟩ := h.cells
  rcases o2 with ⟨hv, hz⟩ | ⟨G, cap, cur, hv, hB, hg, _⟩
  · have := h.len; omega
  · have hA : A = some ⟨G, 0, none⟩ := by injection hv
    rw [hA] at e1
    injection e1 with e1
    injection e1 with e1 e2
    subst e1; subst e2
    rw [Nat.zero_add] at hc
    exact ⟨G, R, rc, hA, hB, hb, hc⟩
theorem sizeMoveSS (A : Option Addr) (n c : Nat) (w : World) (hn : n ≤ 9223372036854775807) : Calls Try.prog 40 #[.slice A n c] w fun e w' => e = .returned (.int .i64 n) ∧ w = w' := by
  go_enter Try.func40, Try.ntmps40
  go_wp2
  go_ret
  exact ⟨rfl, rfl⟩
theorem stops_lit (t d : Int) (r : Bool) (w : World) (h : decide (t < 0) = r) : Calls Try.prog 41 #[.agg #[.int .i64 t, .int .i64 d]] w fun e w' => e = .returned (.bool r) ∧ Below w.heap.size w w' := by
  subst h
  go_enter Try.func41, Try.ntmps41
  go_wp2
  go_ret
  exact ⟨rfl, (by repeat (first | exact Below.refl _ _ | exact Since.out (by assumption) | refine Below.alloc ?_ (by first | omega | (simp only [sz_alloc, sz_set, sz_drew, sz_drewN]; omega) | (simp only [sz_alloc, sz_set, sz_drew, sz_drewN] at *; omega)) _ | refine Below.setCell ?_ (by first | omega | (simp only [sz_alloc, sz_set, sz_drew, sz_drewN]; omega) | (simp only [sz_alloc, sz_set, sz_drew, sz_drewN] at *; omega)) _ | refine Below.drew ?_ | refine below_drewN_ ?_ _))⟩
/-- A wanderer that is being built in block g2. -/
structure EitB (w : World) (B g2 : Nat) (L : Int) (D : Option Addr) (n d : Nat) (ss : List Int) (A : Option Addr) (k c : Nat) (ms : List (List (List (Int × Int)))) (bs : List Nat) : Prop where
  blk : w.heap[g2]? = some (.cells #[.int .i64 L, .slice D n d, .slice A k c] 40 (0, 0))
  ss : Acc w B 2 D n d ss []
  ms : Acc w B 70 A k c ms bs
  d2 : ∀ a, D = some a → a.block ≠ g2
  a2 : ∀ a, A = some a → a.block ≠ g2
  b2 : g2 ∉ bs
  da : ∀ a a', D = some a → A = some a' → a.block ≠ a'.block
  db : ∀ a, D = some a → a.block ∉ bs
  ge : B ≤ g2
section
variable {w w' w6 w7 : World} {B g2 : Nat} {L : Int} {D D' : Option Addr} {n d d' : Nat} {ss : List Int} {A A' : Option Addr} {k c c' : Nat} {ms : List (List (List (Int × Int)))} {bs b1 : List Nat}
theorem EitB.lt (h : EitB w B g2 L D n d ss A k c ms bs) : g2 < w.heap.size := (Array.getElem?_eq_some_iff.1 h.blk).1
theorem EitB.below (h : EitB w B g2 L D n d ss A k c ms bs) {C : Nat} (hb : Below C w w') (hC : w.heap.size ≤ C) : EitB w' B g2 L D n d ss A k c ms bs :=
  ⟨(hb.block _ (Nat.lt_of_lt_of_le h.lt hC)).trans h.blk, h.ss.below hb hC, h.ms.below hb hC, h.d2, h.a2, h.b2, h.da, h.db, h.ge⟩
theorem far_row {A : Option Addr} {x : Nat} (h : ∀ a, A = some a → x ≠ a.block) : some x ≠ A.map (·.block) := fun e => by
  cases hA : A with
  | none => rw [hA] at e; simp at e
  | some a => rw [hA] at e; simp at e; exact h a hA e
theorem EitB.pushM {y : List (List (Int × Int))} (h : EitB w B g2 L D n d ss A k c ms bs) (hb : Below w.heap.size w w6) (hacc : Acc w7 B 70 A' (k + 1) c' (ms ++ [y]) (bs ++ b1)) (hgr : w6.grownBy w7 (A.map (·.block)))
    (hnew : ∀ a', A' = some a' → A = some a' ∨ w6.heap.size ≤ a'.block) (hf : Fresh w.heap.size w6 b1) : EitB (w7.setCell ⟨g2, 2, none⟩ (.slice A' (k + 1) c')) B g2 L D n d ss A' (k + 1) c' (ms ++ [y]) (bs ++ b1) := by
  have hlt := h.lt
  have hsz := hb.size
  have h6 := h.below hb (Nat.le_refl _)
  have h7 : w7.heap[g2]? = some (.cells #[.int .i64 L, .slice D n d, .slice A k c] 40 (0, 0)) := (grown_block hgr (by omega) h.a2).trans h6.blk
  have a2' : ∀ a, A' = some a → a.block ≠ g2 := fun a ha => by
    rcases hnew a ha with h1 | h1
    · exact h.a2 a h1
    · omega
  have b2' : g2 ∉ bs ++ b1 := fun hm => by
    rcases List.mem_append.1 hm with hm | hm
    · exact h.b2 hm
    · have := (hf.2 _ hm).1; omega
  refine ⟨blk_set (i := 2) h7 _, ((h6.ss.grown hgr (fun a ha => far_row fun a' ha' => h.da a a' ha ha') (fun g hg => by simp at hg))).setCell h.d2 (by simp) _, hacc.setCell a2' b2' _, h.d2, a2', b2', fun a a' ha ha' => ?_, fun a ha hm => ?_, h.ge⟩
  · rcases hnew a' ha' with h1 | h1
    · exact h.da a a' ha h1
    · have := (h.ss.lt a ha).2; omega
  · rcases List.mem_append.1 hm with hm | hm
    · exact h.db a ha hm
    · have := (h.ss.lt a ha).2; have := (hf.2 _ hm).1; omega
theorem EitB.pushS {x : Int} (h : EitB w B g2 L D n d ss A k c ms bs) (hb : Below w.heap.size w w6) (hacc : Acc w7 B 2 D' (n + 1) d' (ss ++ [x]) []) (hgr : w6.grownBy w7 (D.map (·.block)))
    (hnew : ∀ a', D' = some a' → D = some a' ∨ w6.heap.size ≤ a'.block) : EitB (w7.setCell ⟨g2, 1, none⟩ (.slice D' (n + 1) d')) B g2 L D' (n + 1) d' (ss ++ [x]) A k c ms bs := by
  have hlt := h.lt
  have hsz := hb.size
  have h6 := h.below hb (Nat.le_refl _)
  have h7 : w7.heap[g2]? = some (.cells #[.int .i64 L, .slice D n d, .slice A k c] 40 (0, 0)) := (grown_block hgr (by omega) h.d2).trans h6.blk
  have d2' : ∀ a, D' = some a → a.block ≠ g2 := fun a ha => by
    rcases hnew a ha with h1 | h1
    · exact h.d2 a h1
    · omega
  refine ⟨blk_set (i := 1) h7 _, hacc.setCell d2' (by simp) _, (h6.ms.grown hgr (fun a ha => far_row fun a' ha' e => h.da a' a ha' ha e.symm) (fun g hg => far_row fun a' ha' e => h.db a' ha' (e ▸ hg))).setCell h.a2 h.b2 _, d2', h.a2, h.b2, fun a a' ha ha' => ?_, fun a ha hm => ?_, h.ge⟩
  · rcases hnew a ha with h1 | h1
    · exact h.da a a' h1 ha'
    · have := (h.ms.lt a' ha').2; omega
  · rcases hnew a ha with h1 | h1
    · exact h.db a h1 hm
    · have := (h.ms.fresh.2 _ hm).2; omega
end
/-- The first rows are raised. -/
def mixR (n j : Nat) (x : List (List (Int × Int))) : List (List (Int × Int)) := (x.take j).map (rsL n) ++ x.drop j
def mixL (n m : Nat) (y : List (Int × Int)) : List (Int × Int) := (y.take m).map (rsM n) ++ y.drop m
theorem mixR_zero (n : Nat) (x : List (List (Int × Int))) : mixR n 0 x = x := by simp [mixR]
theorem mixL_zero (n : Nat) (y : List (Int × Int)) : mixL n 0 y = y := by simp [mixL]
theorem mixR_len (n j : Nat) (x : List (List (Int × Int))) : (mixR n j x).length = x.length := by simp [mixR]; omega
theorem mixL_len (n m : Nat) (y : List (Int × Int)) : (mixL n m y).length = y.length := by simp [mixL]; omega
theorem mixR_all (n : Nat) (x : List (List (Int × Int))) : mixR n x.length x = rsR n x := by simp [mixR, rsR]
theorem mixL_all (n : Nat) (y : List (Int × Int)) : mixL n y.length y = rsL n y := by simp [mixL, rsL]
theorem mixR_get {n j : Nat} {x : List (List (Int × Int))} {y : List (Int × Int)} (h : x[j]? = some y) : (mixR n j x)[j]? = some y := by
  have hl := (List.getElem?_eq_some_iff.1 h).1
  unfold mixR
  rw [List.getElem?_append_right (by simp; omega), List.length_map, List.length_take, Nat.min_eq_left (by omega), Nat.sub_self, List.getElem?_drop, Nat.add_zero, h]
theorem mixL_get {n m : Nat} {y : List (Int × Int)} {z : Int × Int} (h : y[m]? = some z) : (mixL n m y)[m]? = some z := by
  have hl := (List.getElem?_eq_some_iff.1 h).1
  unfold mixL
  rw [List.getElem?_append_right (by simp; omega), List.length_map, List.length_take, Nat.min_eq_left (by omega), Nat.sub_self, List.getElem?_drop, Nat.add_zero, h]
theorem mixR_step {n j : Nat} {x : List (List (Int × Int))} {y : List (Int × Int)} (h : x[j]? = some y) : (mixR n j x).set j (rsL n y) = mixR n (j + 1) x := by
  have hl := (List.getElem?_eq_some_iff.1 h).1
  unfold mixR
  rw [List.set_append_right _ _ (by simp; omega), List.length_map, List.length_take, Nat.min_eq_left (by omega), Nat.sub_self, drop_cons h, List.set_cons_zero, take_snoc h]
  simp
theorem mixL_step {n m : Nat} {y : List (Int × Int)} {z : Int × Int} (h : y[m]? = some z) : (mixL n m y).set m (rsM n z) = mixL n (m + 1) y := by
  have hl := (List.getElem?_eq_some_iff.1 h).1
  unfold mixL
  rw [List.set_append_right _ _ (by simp; omega), List.length_map, List.length_take, Nat.min_eq_left (by omega), Nat.sub_self, drop_cons h, List.set_cons_zero, take_snoc h]
  simp
theorem mixL_skip {n m : Nat} {y : List (Int × Int)} {z : Int × Int} (h : y[m]? = some z) (hz : rsM n z = z) : mixL n m y = mixL n (m + 1) y := by
  rw [← mixL_step h, hz]
  exact (list_set_self (mixL_get h)).symm
end Go.Proofs.Ytpknkaidmefenaa
