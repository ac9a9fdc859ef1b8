/-
  From the form's readings of the arguments to the words of memory. Conditions: those in each statement.
-/
import Derived.Test.YtpknkaidmefenaaMem
import Derived.ProofKit
import Derived.Deep.Slices
import Derived.Lib.SmallJoins
set_option linter.unusedVariables false
set_option linter.unusedSimpArgs false
set_option maxRecDepth 100000
set_option maxHeartbeats 1000000
namespace Go.Proofs.Ytpknkaidmefenaa
open Go.RowKit Go.ChangeShapes Go.WideShapes Go.Deep Go.Joins

/-- Every reading of a value of type t is one of an α. -/
def Reads (P : Program) (t : TypeId) (α : Type) [Cod α] : Prop := P.cellsOf t = Cod.size α ∧
  ∀ (H : Type) (enc : TypeId × Value → H) (w : World) (base : Nat) (spare : Nat → Bool) (held : Bool) (fuel : Nat) (cs : List Value) (x : DataW H × List MemPlace),
    DataW.trod enc P w base spare held fuel t cs = some x → ∃ a : α, Cod.rd w w.heap.size a cs

section
variable {P : Program} {t e : TypeId}
theorem reads_int (ht : P.underlying t = some (.int .i64)) (hc : P.cellsOf t = 1) : Reads P t Int := ⟨hc, fun H enc w base spare held fuel cs x h => by
  obtain ⟨n, rfl, _, _⟩ := DataW.trod_int ht h
  exact ⟨n, rfl⟩⟩
theorem reads_bool (ht : P.underlying t = some .bool) (hc : P.cellsOf t = 1) : Reads P t Bool := ⟨hc, fun H enc w base spare held fuel cs x h => by
  obtain ⟨n, rfl, _⟩ := DataW.trod_bool ht h
  exact ⟨n, rfl⟩⟩
theorem reads_pair {f0 f1 : Field} (ht : P.underlying t = some (.struct #[f0, f1])) (hc : P.cellsOf t = 2) (o0 : f0.offset = 0) (o1 : f1.offset = 1) (h0 : P.underlying f0.type = some (.int .i64)) (h1 : P.underlying f1.type = some (.int .i64))
    (c0 : P.cellsOf f0.type = 1) (c1 : P.cellsOf f1.type = 1) : Reads P t (Int × Int) := ⟨hc, fun H enc w base spare held fuel cs x h => by
  obtain ⟨y0, y1, n, _, hl, g0, g1⟩ := trod_struct2 ht h
  obtain ⟨a, e0, _, _⟩ := DataW.trod_int h0 g0
  obtain ⟨b, e1, _, _⟩ := DataW.trod_int h1 g1
  rw [o0, c0] at e0
  rw [o1, c1] at e1
  rw [hc] at hl
  match cs, hl with
  | [u, v], _ =>
    simp at e0 e1
    subst e0; subst e1
    exact ⟨(a, b), rfl⟩⟩
theorem reads_slice {α : Type} [Cod α] (ht : P.underlying t = some (.slice e)) (he : Reads P e α) (hc : P.cellsOf t = 1) : Reads P t (List α) := ⟨hc, fun H enc w base spare held fuel cs x h => by
  rcases open_slice ht h with ⟨rfl, _⟩ | ⟨a, len, cap, m, n, D, Pl, rfl, _, hl, hm, hmm, _, hi⟩
  · exact ⟨[], none, 0, rfl, by simp, RdS.nil_⟩
  · have hlm : len ≤ m := by rw [hmm]; split <;> omega
    have hall : ∀ i, i < len → ∃ y : α, ∃ cs' : List Value, Cod.rd w w.heap.size y cs' ∧ ∀ j u, cs'[j]? = some u → w.cell? (a.add (i * Cod.size α + j)) = some u := fun i hil => by
      obtain ⟨cs', h1, h2⟩ := hi i (by omega)
      obtain ⟨y, hy⟩ := he.2 _ _ _ _ _ _ _ _ _ h2
      obtain ⟨_, hlen, hat⟩ := World.cells?_some h1
      refine ⟨y, cs', hy, fun j u hu => ?_⟩
      have hj := (List.getElem?_eq_some_iff.1 hu).1
      rw [← Go.Deep.add_add, ← he.1, hat j (by omega), hu]
    have key : ∀ l, l ≤ len → ∃ ys : List α, ys.length = l ∧ ∀ (i : Nat) (y : α), ys[i]? = some y → ∃ cs' : List Value, Cod.rd w w.heap.size y cs' ∧ ∀ j u, cs'[j]? = some u → w.cell? (a.add (i * Cod.size α + j)) = some u := by
      intro l hll
      induction l with
      | zero => exact ⟨[], rfl, fun i y hy => by simp at hy⟩
      | succ l ih =>
        obtain ⟨ys, hys, hr⟩ := ih (by omega)
        obtain ⟨y, hy⟩ := hall l (by omega)
        refine ⟨ys ++ [y], by simp [hys], fun i z hz => ?_⟩
        rcases Nat.lt_or_ge i ys.length with h1 | h1
        · rw [List.getElem?_append_left h1] at hz
          exact hr i z hz
        · have h2 := (List.getElem?_eq_some_iff.1 hz).1
          obtain rfl : i = ys.length := by simp at h2; omega
          simp at hz
          subst hz
          rw [hys]
          exact hy
    obtain ⟨ys, hys, hr⟩ := key len (Nat.le_refl _)
    subst hys
    refine ⟨ys, some a, cap, rfl, by simp only [maxLen] at hm; omega, fun k y hy => ?_⟩
    obtain ⟨cs', hrd, hat⟩ := hr k y hy
    have hp : 0 < cs'.length := by rw [Cod.len hrd]; exact Cod.pos
    have h0 := hat 0 _ (List.getElem?_eq_getElem hp)
    obtain ⟨b, off, spot⟩ := a
    have hspot : spot = none := by
      rcases Nat.eq_zero_or_pos (k * Cod.size α + 0) with hz | hz
      · rw [hz] at h0
        simpa [Addr.add] using World.cell?_spot h0
      · have h00 := hall 0 (by have := (List.getElem?_eq_some_iff.1 hy).1; omega)
        obtain ⟨y0, cs0, hrd0, hat0⟩ := h00
        have hp0 : 0 < cs0.length := by rw [Cod.len hrd0]; exact Cod.pos
        have := hat0 0 _ (List.getElem?_eq_getElem hp0)
        simpa [Addr.add] using World.cell?_spot this
    subst hspot
    have hadd : ∀ n, (⟨b, off, none⟩ : Addr).add n = ⟨b, off + n, none⟩ := fun n => by unfold Addr.add; split <;> simp_all
    refine ⟨b, off, cs', rfl, ?_, hrd, fun j u hu => by rw [← hadd]; exact hat j u hu⟩
    have := World.block_lt_of_cell? w _ h0
    rw [hadd] at this
    exact this⟩
end
end Go.Proofs.Ytpknkaidmefenaa
