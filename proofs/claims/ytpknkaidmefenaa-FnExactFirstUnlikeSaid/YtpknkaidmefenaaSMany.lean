/-
  Contracts of the laws' own helpers for Many: sizes, copies, comparisons, marks. Conditions: those in each statement.
-/
import Derived.Test.YtpknkaidmefenaaNInt64SSS
import Derived.Test.YtpknkaidmefenaaUBoolS
import Derived.Test.YtpknkaidmefenaaUInt64S
import Derived.Deep.RegionWith
set_option linter.unusedVariables false
set_option linter.unusedSimpArgs false
set_option maxRecDepth 100000
set_option maxHeartbeats 1000000
namespace Go.Proofs.Ytpknkaidmefenaa
open Go.RowKit

structure Mn where
  letters : Int
  starts : List Int
  accept : List Bool
  next : List (List (List Int))
def RdMn (w : World) (B : Nat) (v : Value) (T : Mn) : Prop := ∃ A1 c1 A2 c2 A3 c3, v = .agg #[.int .i64 T.letters, .slice A1 T.starts.length c1, .slice A2 T.accept.length c2, .slice A3 T.next.length c3] ∧ RdS w B A1 T.starts ∧ RdS w B A2 T.accept ∧ RdS w B A3 T.next
def OwnMn (w : World) (v : Value) (T : Mn) (bs : List Nat) : Prop := ∃ A1 c1 A2 c2 A3 c3 b1 b2 b3, v = .agg #[.int .i64 T.letters, .slice A1 T.starts.length c1, .slice A2 T.accept.length c2, .slice A3 T.next.length c3] ∧ OwnS w A1 T.starts b1 ∧ OwnS w A2 T.accept b2 ∧ OwnS w A3 T.next b3 ∧ bs = b1 ++ (b2 ++ b3)
def Mn.cnt (T : Mn) : Nat := cntS T.starts + cntS T.accept + cntS T.next
def Mn.mark (k0 : Nat) (T : Mn) : Mn := { T with starts := mkS (k0) T.starts, accept := mkS (k0 + cntS T.starts) T.accept, next := mkS (k0 + cntS T.starts + cntS T.accept) T.next }
def Mn.tot (T : Mn) : Nat := Cod.tot T.starts + Cod.tot T.accept + Cod.tot T.next
/-- It returns T, in new memory. -/
def RetMn (T : Mn) (w : World) (e : Ending) (w' : World) : Prop := ∃ v bs, e = .returned v ∧ OwnMn w' v T bs ∧ Fresh w.heap.size w' bs ∧ Below w.heap.size w w'
theorem OwnMn.rd {w : World} {v : Value} {T : Mn} {bs : List Nat} {B : Nat} (h : OwnMn w v T bs) (hB : ∀ g ∈ bs, g < B) : RdMn w B v T := by
  obtain ⟨A1, c1, A2, c2, A3, c3, b1, b2, b3, e, o1, o2, o3, rfl⟩ := h
  exact ⟨A1, c1, A2, c2, A3, c3, e, o1.rd fun g hg => hB g (List.mem_append_left _ hg), o2.rd fun g hg => hB g (List.mem_append_right _ (List.mem_append_left _ hg)), o3.rd fun g hg => hB g (List.mem_append_right _ (List.mem_append_right _ hg))⟩
theorem OwnMn.keep {w w' : World} {v : Value} {T : Mn} {bs : List Nat} (h : OwnMn w v T bs) (hk : ∀ g ∈ bs, w'.heap[g]? = w.heap[g]?) : OwnMn w' v T bs := by
  obtain ⟨A1, c1, A2, c2, A3, c3, b1, b2, b3, e, o1, o2, o3, rfl⟩ := h
  exact ⟨A1, c1, A2, c2, A3, c3, b1, b2, b3, e, o1.keep fun g hg => hk g (List.mem_append_left _ hg), o2.keep fun g hg => hk g (List.mem_append_right _ (List.mem_append_left _ hg)), o3.keep fun g hg => hk g (List.mem_append_right _ (List.mem_append_right _ hg)), rfl⟩
theorem RdMn.up {w w' : World} {v : Value} {T : Mn} (h : RdMn w w.heap.size v T) (hb : Below w.heap.size w w') : RdMn w' w'.heap.size v T := by
  obtain ⟨A1, c1, A2, c2, A3, c3, e, r1, r2, r3⟩ := h
  exact ⟨A1, c1, A2, c2, A3, c3, e, r1.up hb, r2.up hb, r3.up hb⟩
theorem OwnMn.fresh {w' : World} {v : Value} {T : Mn} {bs : List Nat} {B : Nat} (h : OwnMn w' v T bs) (hf : Fresh B w' bs) : RdMn w' w'.heap.size v T := h.rd fun g hg => (hf.2 g hg).2
theorem OwnMn.below {w w' : World} {v : Value} {T : Mn} {bs : List Nat} {B : Nat} (h : OwnMn w v T bs) (hb : Below B w w') (hlt : ∀ g ∈ bs, g < B) : OwnMn w' v T bs := h.keep fun g hg => hb.block g (hlt g hg)
theorem Mn.cnt_le (T : Mn) : T.cnt ≤ 2 * T.tot := by
  unfold Mn.cnt Mn.tot
  have := cntS_le cnt_int T.starts
  have := cntS_le cnt_bool T.accept
  have := cntS_le (cnt_list_le (cnt_list_le cnt_int)) T.next
  omega
theorem OwnMn.aside {w w' : World} {v : Value} {T : Mn} {bs : List Nat} {n : Nat} (h : OwnMn w v T bs) (ho : OnlyB [n] w w') (hd : ∀ g ∈ bs, g < w.heap.size ∧ g ≠ n) : RdMn w' w'.heap.size v T :=
  (h.keep fun g hg => ho.block g (hd g hg).1 (by simpa using (hd g hg).2)).rd fun g hg => Nat.lt_of_lt_of_le (hd g hg).1 ho.size
/-- It returns T and a code, T in new memory. -/
def RetMnC (T : Mn) (code : Int) (w : World) (e : Ending) (w' : World) : Prop := ∃ v bs, e = .returned (.tuple #[v, .int .i64 code]) ∧ OwnMn w' v T bs ∧ Fresh w.heap.size w' bs ∧ Below w.heap.size w w'


end Go.Proofs.Ytpknkaidmefenaa
