/-
  The state of the program's turning loops: a grid of lists, a list of starts, a block of bools, three blocks of structures. No program in sight. Conditions: none.
-/
import Derived.Test.YtepjgaakihhngaaBools
import Derived.Test.YtepjgaakihhngaaFoldLaw
set_option linter.unusedVariables false
set_option linter.unusedSimpArgs false
set_option maxRecDepth 100000
set_option maxHeartbeats 1000000
namespace Go.Proofs.Ytepjgaakihhngaa
open Go.RowKit

/-- the grid f on bs, the list xs on b1, and other blocks ks that stay: all ks below B, all of bs and b1 from B on -/
structure FoldSt (w0 w : World) (B : Nat) (ks : List Nat) (A1 : Option Addr) (xs : List Int) (b1 : List Nat) (A3 : Option Addr) (f : Nat → Nat → List Int) (n l : Nat) (bs : List Nat) : Prop where
  g : OwnS w A3 (grid f n l) bs
  x : OwnS w A1 xs b1
  fr : Fresh B w (b1 ++ bs)
  kB : ∀ k ∈ ks, k < B
  kw : ∀ k ∈ ks, k < w.heap.size
  keep : ∀ k ∈ ks, w.heap[k]? = w0.heap[k]?
  low : B ≤ w.heap.size

section
variable {w0 w w' : World} {B : Nat} {ks : List Nat} {A1 : Option Addr} {xs : List Int} {b1 : List Nat} {A3 : Option Addr} {f f' : Nat → Nat → List Int} {n l : Nat} {bs : List Nat}
theorem FoldSt.below (h : FoldSt w0 w B ks A1 xs b1 A3 f n l bs) (hb : Below w.heap.size w w') : FoldSt w0 w' B ks A1 xs b1 A3 f n l bs where
  g := h.g.below hb (fun g hg => (h.fr.2 g (List.mem_append_right _ hg)).2)
  x := h.x.below hb (fun g hg => (h.fr.2 g (List.mem_append_left _ hg)).2)
  fr := h.fr.more hb.size
  kB := h.kB
  kw := fun k hk => Nat.lt_of_lt_of_le (h.kw k hk) hb.size
  keep := fun k hk => (hb.block k (h.kw k hk)).trans (h.keep k hk)
  low := Nat.le_trans h.low hb.size
theorem FoldSt.congr (h : FoldSt w0 w B ks A1 xs b1 A3 f n l bs) (hf : ∀ t a, t < n → a < l → f t a = f' t a) : FoldSt w0 w B ks A1 xs b1 A3 f' n l bs :=
  { h with g := grid_congr hf ▸ h.g }
/-- One list of the grid, and what follows when it has grown in place. -/
theorem FoldSt.at_ (h : FoldSt w0 w B ks A1 xs b1 A3 f n l bs) {t a : Nat} (ht : t < n) (ha : a < l) :
    ∃ G R c1 A c, A3 = some ⟨G, 0, none⟩ ∧ B ≤ G ∧ G < w.heap.size ∧ B ≤ R ∧ R < w.heap.size ∧ G ≠ R ∧ w.cell? ⟨G, t, none⟩ = some (.slice (some ⟨R, 0, none⟩) l c1) ∧ w.cell? ⟨R, a, none⟩ = some (.slice A (f t a).length c) ∧ w.frozen? ⟨R, a, none⟩ = false ∧
      (∀ a0, A = some a0 → B ≤ a0.block ∧ a0.block < w.heap.size ∧ a0.block ≠ G ∧ a0.block ≠ R) ∧ Acc w 0 2 A (f t a).length c (f t a) [] ∧
      ∀ (X w' : World) (A' : Option Addr) (c' : Nat) (s : Int) (f' : Nat → Nat → List Int), Below w.heap.size w X → X.grownBy w' (A.map (·.block)) → Acc w' 0 2 A' ((f t a).length + 1) c' (f t a ++ [s]) [] → (∀ a', A' = some a' → A = some a' ∨ X.heap.size ≤ a'.block) → (f t a).length + 1 ≤ 9223372036854775807 →
        f' t a = f t a ++ [s] → (∀ t' a', t' < n → a' < l → ¬ (t' = t ∧ a' = a) → f' t' a' = f t' a') →
        ∃ bs', FoldSt w0 (w'.setCell ⟨R, a, none⟩ (.slice A' ((f t a).length + 1) c')) B ks A1 xs b1 A3 f' n l bs' := by
  have hnd := List.nodup_append.1 h.fr.1
  have hlt : ∀ g ∈ bs, g < w.heap.size := fun g hg => (h.fr.2 g (List.mem_append_right _ hg)).2
  have hlo : ∀ g ∈ bs, B ≤ g := fun g hg => (h.fr.2 g (List.mem_append_right _ hg)).1
  obtain ⟨G, R, c1, A, c, e, hG, hR, hGR, k1, k2, k3, k4, k5, -⟩ := grid_at h.g hnd.2.1 hlt ht ha
  refine ⟨G, R, c1, A, c, e, hlo G hG, hlt G hG, hlo R hR, hlt R hR, hGR, k1, k2, k3, fun a0 h0 => ⟨hlo _ (k4 a0 h0).1, hlt _ (k4 a0 h0).1, (k4 a0 h0).2⟩, k5, ?_⟩
  intro X w' A' c' s f' hX hgr hacc hnew hmax hf hfo
  have hXs := h.below hX
  have hndX := List.nodup_append.1 hXs.fr.1
  obtain ⟨G', R', c1', A'', c'', e', hG', hR', hGR', k1', k2', k3', k4', k5', k6'⟩ := grid_at hXs.g hndX.2.1 (fun g hg => (hXs.fr.2 g (List.mem_append_right _ hg)).2) ht ha
  rw [e] at e'
  injection e' with e'
  injection e' with e1 e2
  subst e1
  rw [hX.cell (hlt _ hG), k1] at k1'
  injection k1' with k1'
  injection k1' with e3 e4 e5
  injection e3 with e3
  injection e3 with e3
  subst e3
  rw [hX.cell (hlt _ hR), k2] at k2'
  injection k2' with k2'
  injection k2' with e6 e7 e8
  subst e6; subst e8
  obtain ⟨bs', o, nd, hin⟩ := k6' w' A' c' s f' hgr hacc hnew hmax hf hfo
  have hA : ∀ g, g ∉ bs → g < X.heap.size → w'.heap[g]? = X.heap[g]? := fun g hg hlt => hgr.block g hlt fun e0 => hg (by
    cases hA : A with
    | none => rw [hA] at e0; simp at e0
    | some a0 => rw [hA] at e0; simp at e0; rw [e0]; exact (k4 a0 hA).1)
  have hset : ∀ g, g ∉ bs → g < X.heap.size → (w'.setCell ⟨R, a, none⟩ (.slice A' ((f t a).length + 1) c')).heap[g]? = X.heap[g]? := fun g hg hlt => (Below.heap_setCell _ _ _ _ (fun e0 => hg (by rw [e0]; exact hR))).trans (hA g hg hlt)
  have hb1 : ∀ g ∈ b1, g ∉ bs ∧ g < X.heap.size := fun g hg => ⟨fun hm => hnd.2.2 g hg g hm rfl, (hXs.fr.2 g (List.mem_append_left _ hg)).2⟩
  refine ⟨bs', ⟨o, hXs.x.keep fun g hg => hset g (hb1 g hg).1 (hb1 g hg).2, ⟨List.nodup_append.2 ⟨hnd.1, nd, fun g hg g' hg' e0 => ?_⟩, fun g hg => ?_⟩, h.kB, fun k hk => ?_, fun k hk => ?_, ?_⟩⟩
  · subst e0
    rcases hin g hg' with h1 | h1
    · exact hnd.2.2 g hg g h1 rfl
    · have := (hb1 g hg).2; omega
  · rw [sz_set]
    have hsz := hgr.size
    rcases List.mem_append.1 hg with hg | hg
    · have := hXs.fr.2 g (List.mem_append_left _ hg); omega
    · rcases hin g hg with h1 | h1
      · have := hXs.fr.2 g (List.mem_append_right _ h1); omega
      · have := hXs.low; omega
  · rw [sz_set]; have := hXs.kw k hk; have := hgr.size; omega
  · refine (hset k (fun hm => ?_) (hXs.kw k hk)).trans (hXs.keep k hk)
    have := hlo k hm; have := h.kB k hk; omega
  · rw [sz_set]; have := hXs.low; have := hgr.size; omega
end
end Go.Proofs.Ytepjgaakihhngaa
