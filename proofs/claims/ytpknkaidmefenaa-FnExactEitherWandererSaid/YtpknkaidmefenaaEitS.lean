/-
  Contracts of copies of lists. Conditions: those in each statement.
-/
import Derived.Test.YtpknkaidmefenaaEitLaw
import Derived.Test.YtpknkaidmefenaaPAcc
import Derived.Laws.AppendOwnNone
import Derived.Lib.SliceRun
import Derived.Deep.DeepCutAuto
set_option linter.unusedVariables false
set_option linter.unusedSimpArgs false
set_option maxRecDepth 100000
set_option maxHeartbeats 1000000
namespace Go.Proofs.Ytpknkaidmefenaa
open Go.RowKit

/-- It returns the list as a slice of its own, to which more can be appended. -/
def RetAcc {α : Type} [Cod α] (e : TypeId) (xs : List α) (w : World) (en : Ending) (w' : World) : Prop := ∃ A' c', en = .returned (.slice A' xs.length c') ∧ Acc w' w.heap.size e A' xs.length c' xs [] ∧ Below w.heap.size w w'
theorem run_append_zero {P : Program} {w : World} (base : Nat) (t ty e : TypeId) (i : TypeInfo) (size : Nat) (ht : P.underlying t = some (.slice e)) (hi : P.info? e = some i)
    (v : Value) (n : Nat) (xs : List Value) (hown : w.ownsRow base e size v n xs) (X : Option Addr) (c : Nat) :
    (Builtin.append_ #[t, t] ty #[v, .slice X 0 c]).run P w = .ok v w := by
  rcases hown.2 with ⟨rfl, rfl⟩ | ⟨g, cap, cur, rfl, _, _, hnc, _⟩
  · cases X <;> simp [Builtin.append_, run_underlying ht, sizeOf, typeInfo, hi, Builtin.lenOf, Builtin.firstCells, loadCells, loadCellsFrom, Result.andThen]
  · cases X <;> simp [Builtin.append_, run_underlying ht, sizeOf, typeInfo, hi, Builtin.lenOf, Builtin.firstCells, hnc, loadCells, loadCellsFrom, storeCells, Result.andThen]
theorem wpList_append_zero {P : Program} {w : World} {ops : Array Oper} {rest : List Oper} {o : Oper} {a : Act} {Q : Exit → Act → World → Prop} (hgd : o.guard = none) (s x : Operand) (t : TypeId)
    (ho : o.op = .call { callee := .builtin .append, args := #[s, x], argTypes := #[t, t] })
    (base : Nat) (e : TypeId) (z : Value) (size bytes : Nat) (ht : P.underlying t = some (.slice e)) (hinfo : (P.info? e).map (fun i => (i.zero, i.size, i.bytes)) = some (some z, size, bytes))
    (v : Value) (n : Nat) (xs : List Value) (hs : a.eval s = v) (hown : w.ownsRow base e size v n xs) (X : Option Addr) (c : Nat) (hx : a.eval x = .slice X 0 c)
    (h : wpList P ops Q rest (a.put o.dst v) w) : wpList P ops Q (o :: rest) a w := by
  obtain ⟨i, hi, _⟩ := info_parts hinfo
  refine wpList_plain hgd fun K hK => ?_
  have hrun := run_append_zero (P := P) (w := w) base t o.type e i size ht hi v n xs hown X c
  unfold Oper.wp
  simp [execOp, ho, resolve, invoke, builtin, hs, hx, hrun, Result.andThen]
  exact hK _ _ h
theorem Acc.cellsOf {α : Type} [Cod α] {w : World} {B : Nat} {e : TypeId} {A : Option Addr} {c : Nat} (h : Acc w B e A 0 c ([] : List α) []) : w.ownsRow B e (Cod.size α) (.slice A 0 c) 0 [] := by
  obtain ⟨cs, o, he⟩ := h.cells
  have : cs = [] := he.1
  rw [this] at o
  exact o

theorem ownInts (A : Option Addr) (xs : List Int) (c : Nat) (w : World) (r : RdS w w.heap.size A xs) (hl : xs.length ≤ 1048576) :
    Calls Try.prog 33 #[.slice A xs.length c] w (RetAcc 2 xs w) := by
  by_cases h0 : xs.length = 0
  · obtain rfl := List.eq_nil_of_length_eq_zero h0
    obtain ⟨AX, rfl⟩ : ∃ AX, A = AX := ⟨_, rfl⟩
    go_enter Try.func33, Try.ntmps33
    go_wp2_with (at_builtin; refine wpList_append_zero rfl (.tmp 3) (.tmp 4) 33 rfl w.heap.size 2 (.int .i64 0) 1 8 Try.underlying33 infoInt64S _ 0 [] rfl (Acc.empty_ (α := Int) (new_block rfl) (Nat.le_refl _)).cellsOf A c rfl ?_)
    go_ret
    exact ⟨some ⟨w.heap.size, 0, none⟩, 0, rfl, Acc.empty_ (new_block rfl) (Nat.le_refl _), (by repeat (first | exact Below.refl _ _ | refine Below.alloc ?_ (by first | omega | (simp only [sz_alloc, sz_set, sz_drew, sz_drewN]; omega) | (simp only [sz_alloc, sz_set, sz_drew, sz_drewN] at *; omega)) _ | refine Below.setCell ?_ (by first | omega | (simp only [sz_alloc, sz_set, sz_drew, sz_drewN]; omega) | (simp only [sz_alloc, sz_set, sz_drew, sz_drewN] at *; omega)) _ | refine Below.drew ?_ | refine below_drewN_ ?_ _))⟩
  · have hn : 0 < xs.length := by omega
    clear h0
    obtain ⟨b, o, rfl, hb, hc⟩ := r.nums hn
    have HC := Lib.hid hc
    clear hc
    go_enter Try.func33, Try.ntmps33
    go_wp2_with (at_builtin; refine wpList_cat (α := Int) _ rfl (.tmp 3) (.tmp 4) 33 rfl w.heap.size 2 (.int .i64 0) 8 Try.underlying33 infoInt64S rfl (some ⟨w.heap.size, 0, none⟩) 0 0 ([] : List Int) [] rfl (Acc.empty_ (new_block rfl) (Nat.le_refl _)) ⟨b, o, none⟩ xs.length c rfl xs rfl (xs.map (Value.int .i64)) (fun _ => Els_nums xs) (fun j u hu => by have h := HC.out j u hu; rw [add_lit] at h ⊢; exact (Below.cell ((Below.refl _ w).alloc (Nat.le_refl _) _) (p := ⟨b, o + j, none⟩) hb).trans h) (fun u hu => by obtain ⟨x, _, rfl⟩ := List.mem_map.1 hu; rfl) (by omega) (by omega) (by omega) (by first | omega | (simp only [sz_alloc, sz_set, sz_drew, sz_drewN]; omega) | (simp only [sz_alloc, sz_set, sz_drew, sz_drewN] at *; omega)) ?_
                 intro D d w1 hacc hgr hnew
                 have HS : Since w w1 := ⟨Below.grown (by repeat (first | exact Below.refl _ _ | refine Below.alloc ?_ (by first | omega | (simp only [sz_alloc, sz_set, sz_drew, sz_drewN]; omega) | (simp only [sz_alloc, sz_set, sz_drew, sz_drewN] at *; omega)) _ | refine Below.setCell ?_ (by first | omega | (simp only [sz_alloc, sz_set, sz_drew, sz_drewN]; omega) | (simp only [sz_alloc, sz_set, sz_drew, sz_drewN] at *; omega)) _ | refine Below.drew ?_ | refine below_drewN_ ?_ _)) hgr (by first | omega | (simp only [sz_alloc, sz_set, sz_drew, sz_drewN]; omega) | (simp only [sz_alloc, sz_set, sz_drew, sz_drewN] at *; omega)) (fun g hg => by simp at hg; omega)⟩
                 have HA := Lib.hid hacc
                 clear hacc hgr hnew)
    go_ret
    have hA := HA.out
    rw [List.nil_append, Nat.zero_add] at hA
    exact ⟨D, d, rfl, hA, HS.out⟩

theorem cloneInts (A : Option Addr) (xs : List Int) (c : Nat) (w : World) (r : RdS w w.heap.size A xs) (hl : xs.length ≤ 1048576) :
    Calls Try.prog 38 #[.slice A xs.length c] w (RetAcc 2 xs w) := by
  have q : ∀ (w : World) (a : Option Addr) (n c n' c' : Nat), (binOp .eql 33 (.slice a n c) (.slice none n' c')).run Try.prog w = .ok (.bool a.isNone) w := fun w a n c n' c' => Go.Lib.run_eql_slice_nil w _ _ a n c n' c' Try.underlying33
  by_cases h0 : xs.length = 0
  · obtain rfl := List.eq_nil_of_length_eq_zero h0
    cases A with
    | none =>
      go_enter Try.func38, Try.ntmps38
      go_wp2
      go_ret
      exact ⟨none, 0, rfl, Acc.nil_ _ _ _, Below.refl _ _⟩
    | some a =>
      obtain ⟨AX, hAX⟩ : ∃ AX, AX = some a := ⟨_, rfl⟩
      have hAN : AX.isNone = false := by rw [hAX]; rfl
      rw [← hAX]
      clear hAX
      go_enter Try.func38, Try.ntmps38
      go_wp2_with (at_builtin; refine wpList_append_zero rfl (.tmp 5) (.tmp 6) 33 rfl w.heap.size 2 (.int .i64 0) 1 8 Try.underlying33 infoInt64S _ 0 [] rfl (Acc.empty_ (α := Int) (new_block rfl) (Nat.le_refl _)).cellsOf AX c rfl ?_)
      go_ret
      exact ⟨some ⟨w.heap.size, 0, none⟩, 0, rfl, Acc.empty_ (new_block rfl) (Nat.le_refl _), (by repeat (first | exact Below.refl _ _ | refine Below.alloc ?_ (by first | omega | (simp only [sz_alloc, sz_set, sz_drew, sz_drewN]; omega) | (simp only [sz_alloc, sz_set, sz_drew, sz_drewN] at *; omega)) _ | refine Below.setCell ?_ (by first | omega | (simp only [sz_alloc, sz_set, sz_drew, sz_drewN]; omega) | (simp only [sz_alloc, sz_set, sz_drew, sz_drewN] at *; omega)) _ | refine Below.drew ?_ | refine below_drewN_ ?_ _))⟩
  · have hn : 0 < xs.length := by omega
    clear h0
    obtain ⟨b, o, rfl, hb, hc⟩ := r.nums hn
    have HC := Lib.hid hc
    clear hc
    go_enter Try.func38, Try.ntmps38
    go_wp2_with (at_builtin; refine wpList_cat (α := Int) _ rfl (.tmp 5) (.tmp 6) 33 rfl w.heap.size 2 (.int .i64 0) 8 Try.underlying33 infoInt64S rfl (some ⟨w.heap.size, 0, none⟩) 0 0 ([] : List Int) [] rfl (Acc.empty_ (new_block rfl) (Nat.le_refl _)) ⟨b, o, none⟩ xs.length c rfl xs rfl (xs.map (Value.int .i64)) (fun _ => Els_nums xs) (fun j u hu => by have h := HC.out j u hu; rw [add_lit] at h ⊢; exact (Below.cell ((Below.refl _ w).alloc (Nat.le_refl _) _) (p := ⟨b, o + j, none⟩) hb).trans h) (fun u hu => by obtain ⟨x, _, rfl⟩ := List.mem_map.1 hu; rfl) (by omega) (by omega) (by omega) (by first | omega | (simp only [sz_alloc, sz_set, sz_drew, sz_drewN]; omega) | (simp only [sz_alloc, sz_set, sz_drew, sz_drewN] at *; omega)) ?_
                 intro D d w1 hacc hgr hnew
                 have HS : Since w w1 := ⟨Below.grown (by repeat (first | exact Below.refl _ _ | refine Below.alloc ?_ (by first | omega | (simp only [sz_alloc, sz_set, sz_drew, sz_drewN]; omega) | (simp only [sz_alloc, sz_set, sz_drew, sz_drewN] at *; omega)) _ | refine Below.setCell ?_ (by first | omega | (simp only [sz_alloc, sz_set, sz_drew, sz_drewN]; omega) | (simp only [sz_alloc, sz_set, sz_drew, sz_drewN] at *; omega)) _ | refine Below.drew ?_ | refine below_drewN_ ?_ _)) hgr (by first | omega | (simp only [sz_alloc, sz_set, sz_drew, sz_drewN]; omega) | (simp only [sz_alloc, sz_set, sz_drew, sz_drewN] at *; omega)) (fun g hg => by simp at hg; omega)⟩
                 have HA := Lib.hid hacc
                 clear hacc hgr hnew)
    go_ret
    have hA := HA.out
    rw [List.nil_append, Nat.zero_add] at hA
    exact ⟨D, d, rfl, hA, HS.out⟩

theorem cloneMoves (A : Option Addr) (xs : List (Int × Int)) (c : Nat) (w : World) (r : RdS w w.heap.size A xs) (hl : xs.length ≤ 1048576) :
    Calls Try.prog 67 #[.slice A xs.length c] w (RetAcc 73 xs w) := by
  have q : ∀ (w : World) (a : Option Addr) (n c n' c' : Nat), (binOp .eql 75 (.slice a n c) (.slice none n' c')).run Try.prog w = .ok (.bool a.isNone) w := fun w a n c n' c' => Go.Lib.run_eql_slice_nil w _ _ a n c n' c' Try.underlying75
  by_cases h0 : xs.length = 0
  · obtain rfl := List.eq_nil_of_length_eq_zero h0
    cases A with
    | none =>
      go_enter Try.func67, Try.ntmps67
      go_wp2
      go_ret
      exact ⟨none, 0, rfl, Acc.nil_ _ _ _, Below.refl _ _⟩
    | some a =>
      obtain ⟨AX, hAX⟩ : ∃ AX, AX = some a := ⟨_, rfl⟩
      have hAN : AX.isNone = false := by rw [hAX]; rfl
      rw [← hAX]
      clear hAX
      go_enter Try.func67, Try.ntmps67
      go_wp2_with (at_builtin; refine wpList_append_zero rfl (.tmp 5) (.tmp 6) 75 rfl w.heap.size 73 (.agg #[.int .i64 0, .int .i64 0]) 2 16 Try.underlying75 infoMove _ 0 [] rfl (Acc.empty_ (α := (Int × Int)) (new_block rfl) (Nat.le_refl _)).cellsOf AX c rfl ?_)
      go_ret
      exact ⟨some ⟨w.heap.size, 0, none⟩, 0, rfl, Acc.empty_ (new_block rfl) (Nat.le_refl _), (by repeat (first | exact Below.refl _ _ | refine Below.alloc ?_ (by first | omega | (simp only [sz_alloc, sz_set, sz_drew, sz_drewN]; omega) | (simp only [sz_alloc, sz_set, sz_drew, sz_drewN] at *; omega)) _ | refine Below.setCell ?_ (by first | omega | (simp only [sz_alloc, sz_set, sz_drew, sz_drewN]; omega) | (simp only [sz_alloc, sz_set, sz_drew, sz_drewN] at *; omega)) _ | refine Below.drew ?_ | refine below_drewN_ ?_ _))⟩
  · have hn : 0 < xs.length := by omega
    clear h0
    obtain ⟨b, o, rfl, hb, hc⟩ := r.pairs hn
    have HC := Lib.hid hc
    clear hc
    go_enter Try.func67, Try.ntmps67
    go_wp2_with (at_builtin; refine wpList_cat (α := (Int × Int)) _ rfl (.tmp 5) (.tmp 6) 75 rfl w.heap.size 73 (.agg #[.int .i64 0, .int .i64 0]) 16 Try.underlying75 infoMove rfl (some ⟨w.heap.size, 0, none⟩) 0 0 ([] : List (Int × Int)) [] rfl (Acc.empty_ (new_block rfl) (Nat.le_refl _)) ⟨b, o, none⟩ xs.length c rfl xs rfl (xs.flatMap encP) (fun _ => Els_pairs.2 ⟨rfl, rfl⟩) (fun j u hu => by have h := HC.out j u hu; rw [add_lit] at h ⊢; exact (Below.cell ((Below.refl _ w).alloc (Nat.le_refl _) _) (p := ⟨b, o + j, none⟩) hb).trans h) (flat_one) (by omega) (by omega) (by omega) (by first | omega | (simp only [sz_alloc, sz_set, sz_drew, sz_drewN]; omega) | (simp only [sz_alloc, sz_set, sz_drew, sz_drewN] at *; omega)) ?_
                 intro D d w1 hacc hgr hnew
                 have HS : Since w w1 := ⟨Below.grown (by repeat (first | exact Below.refl _ _ | refine Below.alloc ?_ (by first | omega | (simp only [sz_alloc, sz_set, sz_drew, sz_drewN]; omega) | (simp only [sz_alloc, sz_set, sz_drew, sz_drewN] at *; omega)) _ | refine Below.setCell ?_ (by first | omega | (simp only [sz_alloc, sz_set, sz_drew, sz_drewN]; omega) | (simp only [sz_alloc, sz_set, sz_drew, sz_drewN] at *; omega)) _ | refine Below.drew ?_ | refine below_drewN_ ?_ _)) hgr (by first | omega | (simp only [sz_alloc, sz_set, sz_drew, sz_drewN]; omega) | (simp only [sz_alloc, sz_set, sz_drew, sz_drewN] at *; omega)) (fun g hg => by simp at hg; omega)⟩
                 have HA := Lib.hid hacc
                 clear hacc hgr hnew)
    go_ret
    have hA := HA.out
    rw [List.nil_append, Nat.zero_add] at hA
    exact ⟨D, d, rfl, hA, HS.out⟩
end Go.Proofs.Ytpknkaidmefenaa
