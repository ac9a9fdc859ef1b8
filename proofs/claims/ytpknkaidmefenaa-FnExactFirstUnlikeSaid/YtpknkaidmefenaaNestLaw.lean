/-
  A grid of lists that are grown in place. No program in sight. Conditions: those in each statement.
-/
import Derived.Test.YtpknkaidmefenaaTurnLaw
set_option linter.unusedVariables false
set_option linter.unusedSimpArgs false
set_option maxRecDepth 100000
set_option maxHeartbeats 1000000
namespace Go.Proofs.Ytpknkaidmefenaa
open Go.RowKit

/-- A list that lies in a slice whose capacity is known: it may be grown in place. -/
structure Cap where
  l : List Int
def capB (A : Option Addr) : List Nat := (A.map (·.block)).toList
theorem mem_capB {A : Option Addr} {g : Nat} : g ∈ capB A ↔ ∃ a, A = some a ∧ a.block = g := by cases A <;> simp [capB, eq_comm]
theorem acc_keep0 {w w' : World} {e : TypeId} {A : Option Addr} {n c : Nat} {xs : List Int} (hk : ∀ g ∈ capB A, w'.heap[g]? = w.heap[g]?) (h : Acc w 0 e A n c xs []) : Acc w' 0 e A n c xs [] := by
  obtain ⟨cs, ⟨o1, o2⟩, he⟩ := h.cells
  refine ⟨h.len, ⟨cs, ⟨o1, ?_⟩, he.keep (fun g hg => by simp at hg)⟩, ⟨List.nodup_nil, fun g hg => by simp at hg⟩, h.out⟩
  rcases o2 with o2 | ⟨g, cap, cur, hv, hB, hg, r⟩
  · exact .inl o2
  · refine .inr ⟨g, cap, cur, hv, hB, ?_, r⟩
    have : A = some ⟨g, 0, none⟩ := by injection hv
    exact (hk g (mem_capB.2 ⟨_, this, rfl⟩)).trans hg
theorem acc_own0 {w : World} {e : TypeId} {A : Option Addr} {n c : Nat} {xs : List Int} (h : Acc w 0 e A n c xs []) : OwnS w A xs (capB A) := by
  obtain ⟨cs, ⟨o1, o2⟩, he⟩ := h.cells
  rcases o2 with ⟨hv, h0⟩ | ⟨g, cap, cur, hv, hB, hg, hnc, hcm, hcur, htake⟩
  · have : A = none := by injection hv
    subst this
    refine .inl ⟨?_, rfl⟩
    have := h.len
    exact List.eq_nil_of_length_eq_zero (by omega)
  · have hA : A = some ⟨g, 0, none⟩ := by injection hv
    subst hA
    exact OwnS.of (m := n * Cod.size Int) hg (by rw [htake]; exact he)
instance : Cod Cap := ⟨1, fun w B x cs => ∃ A c, cs = [.slice A x.l.length c] ∧ x.l.length ≤ 9223372036854775807 ∧ RdS w B A x.l, fun ⟨_, _, h, _⟩ => by simp [h],
  fun hk ⟨A, c, h, hl, hr⟩ => ⟨A, c, h, hl, hr.keep hk⟩, fun hB ⟨A, c, h, hl, hr⟩ => ⟨A, c, h, hl, hr.more hB⟩,
  fun w x cs bs => ∃ A c, cs = [.slice A x.l.length c] ∧ x.l.length ≤ 9223372036854775807 ∧ Acc w 0 2 A x.l.length c x.l [] ∧ bs = capB A, fun hk ⟨A, c, h, hl, ho, e⟩ => ⟨A, c, h, hl, acc_keep0 (fun g hg => hk g (e ▸ hg)) ho, e⟩,
  fun ⟨A, c, h, hl, ho, e⟩ hB => ⟨A, c, h, hl, (acc_own0 ho).rd (fun g hg => hB g (e ▸ hg))⟩, by decide, fun _ => 0, fun _ => 0, fun _ x => x⟩

section
variable {α : Type} [Cod α] {w w' : World}
/-- One element among all: it may be exchanged. -/
theorem Els.one : ∀ {xs : List α} {cs bs} {k : Nat} {x : α}, Els w xs cs bs → xs[k]? = some x → ∃ c1 c c2 b1 b b2, cs = c1 ++ (c ++ c2) ∧ bs = b1 ++ (b ++ b2) ∧ Cod.own w x c b ∧ c1.length = k * Cod.size α ∧
      ∀ (w' : World) (x' : α) (c' : List Value) (b' : List Nat), Cod.own w' x' c' b' → (∀ g ∈ b1 ++ b2, w'.heap[g]? = w.heap[g]?) → Els w' (xs.set k x') (c1 ++ (c' ++ c2)) (b1 ++ (b' ++ b2))
  | [], _, _, _, _, _, hx => by simp at hx
  | y :: ys, _, _, 0, x, ⟨c1, c2, b1, b2, e1, e2, h1, h2⟩, hx => by
    simp only [List.getElem?_cons_zero, Option.some.injEq] at hx
    subst hx
    refine ⟨[], c1, c2, [], b1, b2, by simpa using e1, by simpa using e2, h1, by simp, fun w' x' c' b' h hk => ?_⟩
    exact ⟨c', c2, b', b2, by simp, by simp, h, h2.keep fun g hg => hk g (by simpa using hg)⟩
  | y :: ys, _, _, k + 1, x, ⟨c1, c2, b1, b2, e1, e2, h1, h2⟩, hx => by
    obtain ⟨d1, d, d2, f1, f, f2, g1, g2, ho, hl, hu⟩ := h2.one (k := k) (by simpa using hx)
    refine ⟨c1 ++ d1, d, d2, b1 ++ f1, f, f2, by simp [e1, g1], by simp [e2, g2], ho, by rw [List.length_append, hl, own_len h1, Nat.add_mul, Nat.one_mul, Nat.add_comm], fun w' x' c' b' h hk => ?_⟩
    refine ⟨c1, d1 ++ (c' ++ d2), b1, f1 ++ (b' ++ f2), by simp, by simp, Cod.own_keep (fun g hg => hk g (by simp [hg])) h1, hu w' x' c' b' h fun g hg => hk g (by
      rcases List.mem_append.1 hg with hg | hg <;> simp [hg])⟩
end

/-- A grid of lists: row t, column a. -/
def grid (f : Nat → Nat → List Int) (n l : Nat) : List (List Cap) := (List.range n).map fun t => (List.range l).map fun a => ⟨f t a⟩
theorem grid_get {f : Nat → Nat → List Int} {n l t : Nat} (h : t < n) : (grid f n l)[t]? = some ((List.range l).map fun a => ⟨f t a⟩) := by simp [grid, h]
theorem grid_len (f : Nat → Nat → List Int) (n l : Nat) : (grid f n l).length = n := by simp [grid]
theorem grid_snoc (f : Nat → Nat → List Int) (n l : Nat) : grid f (n + 1) l = grid f n l ++ [(List.range l).map fun a => ⟨f n a⟩] := range_snoc _ _
theorem grid_congr {f f' : Nat → Nat → List Int} {n l : Nat} (h : ∀ t a, t < n → a < l → f t a = f' t a) : grid f n l = grid f' n l := by
  unfold grid
  refine List.map_congr_left fun t ht => List.map_congr_left fun a ha => ?_
  rw [h t a (List.mem_range.1 ht) (List.mem_range.1 ha)]
theorem range_set {β : Type} (f f' : Nat → β) (n k : Nat) (h : ∀ j, j < n → j ≠ k → f' j = f j) : ((List.range n).map f).set k (f' k) = (List.range n).map f' := by
  refine List.ext_getElem? fun j => ?_
  rw [List.getElem?_set]
  by_cases hj : k = j
  · subst hj
    by_cases hk : k < n
    · simp [hk]
    · simp [hk]
  · rw [if_neg hj]
    by_cases hk : j < n
    · simp [hk, h j hk (fun e => hj e.symm)]
    · simp [hk]
theorem grid_set {f f' : Nat → Nat → List Int} {n l t a : Nat} (h : ∀ t' a', t' < n → a' < l → ¬ (t' = t ∧ a' = a) → f' t' a' = f t' a') : (grid f n l).set t (((List.range l).map fun a => (⟨f t a⟩ : Cap)).set a ⟨f' t a⟩) = grid f' n l := by
  unfold grid
  by_cases ht : t < n
  · have e : (((List.range l).map fun a => (⟨f t a⟩ : Cap)).set a ⟨f' t a⟩) = (List.range l).map fun a => (⟨f' t a⟩ : Cap) :=
      range_set (fun a => (⟨f t a⟩ : Cap)) (fun a => (⟨f' t a⟩ : Cap)) l a fun j hj hne => by rw [h t j ht hj (fun e => hne e.2)]
    rw [e]
    refine range_set (fun t => (List.range l).map fun a => (⟨f t a⟩ : Cap)) (fun t => (List.range l).map fun a => (⟨f' t a⟩ : Cap)) n t fun j hj hne => ?_
    exact List.map_congr_left fun a' ha' => by rw [h j a' hj (List.mem_range.1 ha') (fun e => hne e.1)]
  · rw [List.set_eq_of_length_le (by simp; omega)]
    refine List.map_congr_left fun t' ht' => List.map_congr_left fun a' ha' => ?_
    have := List.mem_range.1 ht'
    rw [h t' a' this (List.mem_range.1 ha') (fun e => by omega)]

theorem take_cell {cur : Array Value} {cs c1 c c2 : List Value} (h : cur.toList.take cs.length = cs) (e : cs = c1 ++ (c ++ c2)) {k j : Nat} (hk : c1.length = k) {u : Value} (hj : c[j]? = some u) : cur[k + j]? = some u := by
  have h1 : cs[k + j]? = some u := by
    rw [e, ← hk, List.getElem?_append_right (by omega)]
    rw [Nat.add_sub_cancel_left, List.getElem?_append_left (List.getElem?_eq_some_iff.1 hj).1]
    exact hj
  have hl : k + j < cs.length := (List.getElem?_eq_some_iff.1 h1).1
  rw [← h, List.getElem?_take_of_lt hl] at h1
  simpa using h1
theorem take_set {cur : Array Value} {cs c1 c2 : List Value} {u u' : Value} (h : cur.toList.take cs.length = cs) (e : cs = c1 ++ ([u] ++ c2)) {k : Nat} (hk : c1.length = k) : (cur.setIfInBounds k u').toList.take (c1 ++ ([u'] ++ c2)).length = c1 ++ ([u'] ++ c2) := by
  have hl : (c1 ++ ([u'] ++ c2)).length = cs.length := by rw [e]; simp
  rw [hl, Array.toList_setIfInBounds]
  rw [List.take_set, h, e, ← hk]
  simp

set_option maxHeartbeats 1000000 in
/-- One list of the grid: where it lies, and what the grid is when the list has grown in place. -/
theorem grid_at {w : World} {N : Option Addr} {f : Nat → Nat → List Int} {n l : Nat} {bs : List Nat} (h : OwnS w N (grid f n l) bs) (hnd : bs.Nodup) (hlt : ∀ g ∈ bs, g < w.heap.size) {t a : Nat} (ht : t < n) (ha : a < l) :
    ∃ G R c1 A c, N = some ⟨G, 0, none⟩ ∧ G ∈ bs ∧ R ∈ bs ∧ G ≠ R ∧ w.cell? ⟨G, t, none⟩ = some (.slice (some ⟨R, 0, none⟩) l c1) ∧ w.cell? ⟨R, a, none⟩ = some (.slice A (f t a).length c) ∧ w.frozen? ⟨R, a, none⟩ = false ∧
      (∀ a0, A = some a0 → a0.block ∈ bs ∧ a0.block ≠ G ∧ a0.block ≠ R) ∧ Acc w 0 2 A (f t a).length c (f t a) [] ∧
      ∀ (w' : World) (A' : Option Addr) (c' : Nat) (s : Int) (f' : Nat → Nat → List Int), w.grownBy w' (A.map (·.block)) → Acc w' 0 2 A' ((f t a).length + 1) c' (f t a ++ [s]) [] → (∀ a', A' = some a' → A = some a' ∨ w.heap.size ≤ a'.block) → (f t a).length + 1 ≤ 9223372036854775807 →
        f' t a = f t a ++ [s] → (∀ t' a', t' < n → a' < l → ¬ (t' = t ∧ a' = a) → f' t' a' = f t' a') →
        ∃ bs', OwnS (w'.setCell ⟨R, a, none⟩ (.slice A' ((f t a).length + 1) c')) N (grid f' n l) bs' ∧ bs'.Nodup ∧ ∀ g ∈ bs', g ∈ bs ∨ (w.heap.size ≤ g ∧ g < w'.heap.size) := by
  have hrow := grid_get (f := f) (l := l) ht
  have hcell : ((List.range l).map fun a => (⟨f t a⟩ : Cap))[a]? = some ⟨f t a⟩ := by simp [ha]
  rcases h with ⟨h, _⟩ | ⟨G, tG, cur, cs, b2, rfl, hg, hc, he, rfl⟩
  · have := grid_len f n l; rw [h] at this; simp at this; omega
  obtain ⟨c1, c, c2, b1, b, b3, rfl, rfl, ⟨N1, k1, rfl, hl1, hO⟩, hk1, hU⟩ := he.one hrow
  rcases hO with ⟨h, _⟩ | ⟨R, tR, curR, csR, bR, rfl, hgR, hcR, heR, rfl⟩
  · rw [h] at hcell; simp at hcell
  obtain ⟨d1, d, d2, e1, e, e2, rfl, rfl, ⟨A, cA, rfl, hlA, hAcc, rfl⟩, hd1, hV⟩ := heR.one hcell
  have hd1' : d1.length = a := by rw [hd1]; exact Nat.mul_one _
  have hk1' : c1.length = t := by rw [hk1]; exact Nat.mul_one _
  have hn1 := List.nodup_cons.1 hnd
  have hn2 := List.nodup_append.1 hn1.2
  have hn3 := List.nodup_append.1 hn2.2.1
  have hn4 := List.nodup_cons.1 hn3.1
  have hn5 := List.nodup_append.1 hn4.2
  have hn6 := List.nodup_append.1 hn5.2.1
  have hGR : G ≠ R := fun e0 => hn1.1 (by subst e0; simp)
  have hlen : ((List.range l).map fun a => (⟨f t a⟩ : Cap)).length = l := by simp
  refine ⟨G, R, k1, A, cA, rfl, List.mem_cons_self .., by simp, hGR, ?_, ?_, blk_free hgR, fun a0 ha0 => ?_, hAcc, ?_⟩
  · rw [cell_of_row w G t cur tG (0, 0) hg]
    have := take_cell hc rfl hk1' (j := 0) rfl
    rw [hlen] at this
    exact this
  · rw [cell_of_row w R a curR tR (0, 0) hgR]
    exact take_cell hcR rfl hd1' (j := 0) rfl
  · have hm : a0.block ∈ capB A := mem_capB.2 ⟨a0, ha0, rfl⟩
    refine ⟨by simp [hm], fun e0 => hn1.1 (by rw [← e0]; simp [hm]), fun e0 => hn4.1 (by rw [← e0]; simp [hm])⟩
  · intro w' A' c' s f' hgr hacc hnew hmax hf hfo
    have hG0 : ∀ g, g ∉ capB A → g < w.heap.size → w'.heap[g]? = w.heap[g]? := fun g hg hlt => hgr.block g hlt fun e0 => hg (by
      cases hA : A with
      | none => rw [hA] at e0; simp at e0
      | some a0 => rw [hA] at e0; simp at e0; exact mem_capB.2 ⟨a0, rfl, e0.symm⟩)
    have hR' : w'.heap[R]? = some (.cells curR tR (0, 0)) := (hG0 R (fun hm => hn4.1 (by simp [hm])) (hlt R (by simp))).trans hgR
    have hG' : w'.heap[G]? = some (.cells cur tG (0, 0)) := (hG0 G (fun hm => hn1.1 (by simp [hm])) (hlt G (by simp))).trans hg
    have hA'new : ∀ g ∈ capB A', g ∈ capB A ∨ (w.heap.size ≤ g ∧ g < w'.heap.size) := fun g hg => by
      obtain ⟨a', ha', rfl⟩ := mem_capB.1 hg
      rcases hnew a' ha' with h1 | h1
      · exact .inl (mem_capB.2 ⟨a', h1, rfl⟩)
      · exact .inr ⟨h1, (hacc.lt a' ha').2⟩
    have hA'R : ∀ g ∈ capB A', g ≠ R := fun g hg e0 => by
      rcases hA'new g hg with h1 | h1
      · exact hn4.1 (by rw [← e0]; simp [h1])
      · have := hlt R (by simp); omega
    have key : ∀ g, g ∈ b1 ++ b3 ∨ g ∈ e1 ++ e2 → (w'.setCell ⟨R, a, none⟩ (.slice A' ((f t a).length + 1) c')).heap[g]? = w.heap[g]? := fun g hg => by
      have h1 : g ≠ R ∧ g ∉ capB A ∧ g < w.heap.size := by
        rcases hg with hg | hg
        · rcases List.mem_append.1 hg with hg | hg
          · exact ⟨fun e0 => hn2.2.2 g hg R (by simp) e0, fun hm => hn2.2.2 g hg g (by simp [hm]) rfl, hlt g (by simp [hg])⟩
          · exact ⟨fun e0 => hn3.2.2 R (by simp) g hg e0.symm, fun hm => hn3.2.2 g (by simp [hm]) g hg rfl, hlt g (by simp [hg])⟩
        · rcases List.mem_append.1 hg with hg | hg
          · exact ⟨fun e0 => hn4.1 (by rw [← e0]; simp [hg]), fun hm => hn5.2.2 g hg g (by simp [hm]) rfl, hlt g (by simp [hg])⟩
          · exact ⟨fun e0 => hn4.1 (by rw [← e0]; simp [hg]), fun hm => hn6.2.2 g hm g hg rfl, hlt g (by simp [hg])⟩
      rw [Below.heap_setCell _ _ _ _ h1.1]
      exact hG0 g h1.2.1 h1.2.2
    have hownA : Cod.own (w'.setCell ⟨R, a, none⟩ (.slice A' ((f t a).length + 1) c')) (⟨f' t a⟩ : Cap) [.slice A' ((f t a).length + 1) c'] (capB A') := by
      refine ⟨A', c', ?_, ?_, ?_, rfl⟩
      · rw [hf]; simp
      · rw [hf]; simpa using hmax
      · show Acc _ 0 _ A' (f' t a).length c' (f' t a) []
        rw [hf, List.length_append]
        exact acc_keep0 (fun g hg => Below.heap_setCell _ _ _ _ (hA'R g hg)) hacc
    have hrow' := hV (w'.setCell ⟨R, a, none⟩ (.slice A' ((f t a).length + 1) c')) ⟨f' t a⟩ _ _ hownA (fun g hg => key g (.inr hg))
    have hownR : Cod.own (w'.setCell ⟨R, a, none⟩ (.slice A' ((f t a).length + 1) c')) (((List.range l).map fun a => (⟨f t a⟩ : Cap)).set a ⟨f' t a⟩) [.slice (some ⟨R, 0, none⟩) ((List.range l).map fun a => (⟨f t a⟩ : Cap)).length k1] (R :: (e1 ++ (capB A' ++ e2))) := by
      refine ⟨_, k1, by rw [List.length_set], by rw [List.length_set]; exact hl1, .inr ⟨R, tR, curR.setIfInBounds a (.slice A' ((f t a).length + 1) c'), _, _, rfl, blk_set hR' _, ?_, hrow', rfl⟩⟩
      exact take_set hcR rfl hd1'
    have hall := hU _ _ _ _ hownR (fun g hg => key g (.inl hg))
    rw [grid_set hfo] at hall
    refine ⟨_, .inr ⟨G, tG, cur, _, _, rfl, blk_far hG' (fun e0 => hGR e0) _, ?_, hall, rfl⟩, ?_, ?_⟩
    · exact hc
    · have hNA : ∀ g, g ∈ b1 ∨ g ∈ b3 ∨ g ∈ e1 ∨ g ∈ e2 ∨ g = R ∨ g = G → g ∉ capB A' := fun g hg hm => by
        have hgl : g < w.heap.size := hlt g (by rcases hg with h | h | h | h | h | h <;> simp [h])
        rcases hA'new g hm with h1 | h1
        · rcases hg with h | h | h | h | h | h
          · exact hn2.2.2 g h g (by simp [h1]) rfl
          · exact hn3.2.2 g (by simp [h1]) g h rfl
          · exact hn5.2.2 g h g (by simp [h1]) rfl
          · exact hn6.2.2 g h1 g h rfl
          · exact hn4.1 (by rw [← h]; simp [h1])
          · exact hn1.1 (by rw [← h]; simp [h1])
        · omega
      have hcn : (capB A').Nodup := by cases A' <;> simp [capB]
      refine List.nodup_cons.2 ⟨fun hm => ?_, List.nodup_append.2 ⟨hn2.1, List.nodup_append.2 ⟨List.nodup_cons.2 ⟨fun hm => ?_, List.nodup_append.2 ⟨hn5.1, List.nodup_append.2 ⟨hcn, hn6.2.1, fun x hx y hy e0 => ?_⟩, fun x hx y hy e0 => ?_⟩⟩, hn3.2.1, fun x hx y hy e0 => ?_⟩, fun x hx y hy e0 => ?_⟩⟩
      · rcases List.mem_append.1 hm with hm | hm
        · exact hn1.1 (by simp [hm])
        · rcases List.mem_append.1 hm with hm | hm
          · rcases List.mem_cons.1 hm with hm | hm
            · exact hGR hm
            · rcases List.mem_append.1 hm with hm | hm
              · exact hn1.1 (by simp [hm])
              · rcases List.mem_append.1 hm with hm | hm
                · exact hNA G (by simp) hm
                · exact hn1.1 (by simp [hm])
          · exact hn1.1 (by simp [hm])
      · rcases List.mem_append.1 hm with hm | hm
        · exact hn4.1 (by simp [hm])
        · rcases List.mem_append.1 hm with hm | hm
          · exact hNA R (by simp) hm
          · exact hn4.1 (by simp [hm])
      · subst e0; exact hNA x (by simp [hy]) hx
      · subst e0
        rcases List.mem_append.1 hy with hy | hy
        · exact hNA x (by simp [hx]) hy
        · exact hn5.2.2 x hx x (by simp [hy]) rfl
      · subst e0
        rcases List.mem_cons.1 hx with hx | hx
        · subst hx; exact hn3.2.2 _ (by simp) _ hy rfl
        · rcases List.mem_append.1 hx with hx | hx
          · exact hn3.2.2 x (by simp [hx]) x hy rfl
          · rcases List.mem_append.1 hx with hx | hx
            · exact hNA x (by simp [hy]) hx
            · exact hn3.2.2 x (by simp [hx]) x hy rfl
      · subst e0
        rcases List.mem_append.1 hy with hy | hy
        · rcases List.mem_cons.1 hy with hy | hy
          · subst hy; exact hn2.2.2 _ hx _ (by simp) rfl
          · rcases List.mem_append.1 hy with hy | hy
            · exact hn2.2.2 x hx x (by simp [hy]) rfl
            · rcases List.mem_append.1 hy with hy | hy
              · exact hNA x (by simp [hx]) hy
              · exact hn2.2.2 x hx x (by simp [hy]) rfl
        · exact hn2.2.2 x hx x (by simp [hy]) rfl
    · intro g hg
      have hA2 : ∀ g ∈ capB A', g ∈ G :: (b1 ++ (R :: (e1 ++ (capB A ++ e2)) ++ b3)) ∨ (w.heap.size ≤ g ∧ g < w'.heap.size) := fun g hg => (hA'new g hg).imp (fun h => by simp [h]) id
      simp only [List.mem_cons, List.mem_append] at hg
      rcases hg with h | h | (h | h | h | h) | h
      · exact .inl (by simp [h])
      · exact .inl (by simp [h])
      · exact .inl (by simp [h])
      · exact .inl (by simp [h])
      · exact hA2 g h
      · exact .inl (by simp [h])
      · exact .inl (by simp [h])

theorem Els_unCap {w : World} : ∀ {xs : List Cap} {cs bs}, Els w xs cs bs → Els w (xs.map Cap.l) cs bs
  | [], _, _, h => h
  | _ :: _, _, _, ⟨c1, c2, b1, b2, e1, e2, ⟨A, c, h, hl, ho, e⟩, h2⟩ => ⟨c1, c2, b1, b2, e1, e2, ⟨A, c, h, hl, e ▸ acc_own0 ho⟩, Els_unCap h2⟩
theorem OwnS_unCap {w : World} {A : Option Addr} {xs : List Cap} {bs : List Nat} (h : OwnS w A xs bs) : OwnS w A (xs.map Cap.l) bs := by
  rcases h with ⟨rfl, rfl⟩ | ⟨g, t, cur, cs, b2, e, hg, hc, he, rfl⟩
  · exact .inl ⟨rfl, rfl⟩
  · exact .inr ⟨g, t, cur, cs, b2, e, hg, hc, Els_unCap he, rfl⟩
theorem Els_unCap2 {w : World} : ∀ {xs : List (List Cap)} {cs bs}, Els w xs cs bs → Els w (xs.map fun r => r.map Cap.l) cs bs
  | [], _, _, h => h
  | _ :: _, _, _, ⟨c1, c2, b1, b2, e1, e2, ⟨A, c, h, hl, ho⟩, h2⟩ => ⟨c1, c2, b1, b2, e1, e2, ⟨A, c, by rw [List.length_map]; exact h, by rw [List.length_map]; exact hl, OwnS_unCap ho⟩, Els_unCap2 h2⟩
theorem OwnS_unCap2 {w : World} {A : Option Addr} {xs : List (List Cap)} {bs : List Nat} (h : OwnS w A xs bs) : OwnS w A (xs.map fun r => r.map Cap.l) bs := by
  rcases h with ⟨rfl, rfl⟩ | ⟨g, t, cur, cs, b2, e, hg, hc, he, rfl⟩
  · exact .inl ⟨rfl, rfl⟩
  · exact .inr ⟨g, t, cur, cs, b2, e, hg, hc, Els_unCap2 he, rfl⟩
theorem grid_map (f : Nat → Nat → List Int) (n l : Nat) : ((grid f n l).map fun r => r.map Cap.l) = (List.range n).map fun t => (List.range l).map fun a => f t a := by simp [grid]
end Go.Proofs.Ytpknkaidmefenaa
