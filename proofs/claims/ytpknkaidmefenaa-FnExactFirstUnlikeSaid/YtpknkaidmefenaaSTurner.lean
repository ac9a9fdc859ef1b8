/-
  Contracts of the laws' own helpers for Turner: sizes, copies, comparisons, marks. Conditions: those in each statement.
-/
import Derived.Test.YtpknkaidmefenaaNMoveSS
import Derived.Deep.RegionWith
set_option linter.unusedVariables false
set_option linter.unusedSimpArgs false
set_option maxRecDepth 100000
set_option maxHeartbeats 1000000
namespace Go.Proofs.Ytpknkaidmefenaa
open Go.RowKit

structure Tn where
  letters : Int
  start : Int
  moves : List (List (Int × Int))
def RdTn (w : World) (B : Nat) (v : Value) (T : Tn) : Prop := ∃ A1 c1, v = .agg #[.int .i64 T.letters, .int .i64 T.start, .slice A1 T.moves.length c1] ∧ RdS w B A1 T.moves
def OwnTn (w : World) (v : Value) (T : Tn) (bs : List Nat) : Prop := ∃ A1 c1 b1, v = .agg #[.int .i64 T.letters, .int .i64 T.start, .slice A1 T.moves.length c1] ∧ OwnS w A1 T.moves b1 ∧ bs = b1
def Tn.cnt (T : Tn) : Nat := cntS T.moves
def Tn.mark (k0 : Nat) (T : Tn) : Tn := { T with moves := mkS (k0) T.moves }
def Tn.tot (T : Tn) : Nat := Cod.tot T.moves
/-- It returns T, in new memory. -/
def RetTn (T : Tn) (w : World) (e : Ending) (w' : World) : Prop := ∃ v bs, e = .returned v ∧ OwnTn w' v T bs ∧ Fresh w.heap.size w' bs ∧ Below w.heap.size w w'
theorem OwnTn.rd {w : World} {v : Value} {T : Tn} {bs : List Nat} {B : Nat} (h : OwnTn w v T bs) (hB : ∀ g ∈ bs, g < B) : RdTn w B v T := by
  obtain ⟨A1, c1, b1, e, o1, rfl⟩ := h
  exact ⟨A1, c1, e, o1.rd fun g hg => hB g (hg)⟩
theorem OwnTn.keep {w w' : World} {v : Value} {T : Tn} {bs : List Nat} (h : OwnTn w v T bs) (hk : ∀ g ∈ bs, w'.heap[g]? = w.heap[g]?) : OwnTn w' v T bs := by
  obtain ⟨A1, c1, b1, e, o1, rfl⟩ := h
  exact ⟨A1, c1, bs, e, o1.keep fun g hg => hk g (hg), rfl⟩
theorem RdTn.up {w w' : World} {v : Value} {T : Tn} (h : RdTn w w.heap.size v T) (hb : Below w.heap.size w w') : RdTn w' w'.heap.size v T := by
  obtain ⟨A1, c1, e, r1⟩ := h
  exact ⟨A1, c1, e, r1.up hb⟩
theorem OwnTn.fresh {w' : World} {v : Value} {T : Tn} {bs : List Nat} {B : Nat} (h : OwnTn w' v T bs) (hf : Fresh B w' bs) : RdTn w' w'.heap.size v T := h.rd fun g hg => (hf.2 g hg).2
theorem OwnTn.below {w w' : World} {v : Value} {T : Tn} {bs : List Nat} {B : Nat} (h : OwnTn w v T bs) (hb : Below B w w') (hlt : ∀ g ∈ bs, g < B) : OwnTn w' v T bs := h.keep fun g hg => hb.block g (hlt g hg)
theorem Tn.cnt_le (T : Tn) : T.cnt ≤ 2 * T.tot := by
  unfold Tn.cnt Tn.tot
  have := cntS_le (cnt_list_le cnt_pair) T.moves
  omega
theorem OwnTn.aside {w w' : World} {v : Value} {T : Tn} {bs : List Nat} {n : Nat} (h : OwnTn w v T bs) (ho : OnlyB [n] w w') (hd : ∀ g ∈ bs, g < w.heap.size ∧ g ≠ n) : RdTn w' w'.heap.size v T :=
  (h.keep fun g hg => ho.block g (hd g hg).1 (by simpa using (hd g hg).2)).rd fun g hg => Nat.lt_of_lt_of_le (hd g hg).1 ho.size
/-- It returns T and a code, T in new memory. -/
def RetTnC (T : Tn) (code : Int) (w : World) (e : Ending) (w' : World) : Prop := ∃ v bs, e = .returned (.tuple #[v, .int .i64 code]) ∧ OwnTn w' v T bs ∧ Fresh w.heap.size w' bs ∧ Below w.heap.size w w'


end Go.Proofs.Ytpknkaidmefenaa
