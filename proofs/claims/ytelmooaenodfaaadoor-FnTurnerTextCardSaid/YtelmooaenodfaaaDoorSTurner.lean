/-
  Contracts of the laws' own helpers for Turner: sizes, copies, comparisons, marks. Conditions: those in each statement.
-/
import Derived.Test.YtelmooaenodfaaaDoorNMoveSS
import Derived.Deep.RegionWith
set_option linter.unusedVariables false
set_option linter.unusedSimpArgs false
set_option maxRecDepth 100000
set_option maxHeartbeats 1000000
namespace Go.Proofs.YtelmooaenodfaaaDoor
open Go.RowKit

structure Tn where
  letters : Int
  start : Int
  moves : List (List (Int × Int))
def RdTn (w : World) (B : Nat) (v : Value) (T : Tn) : Prop := ∃ A1 c1, v = .agg #[.int .i64 T.letters, .int .i64 T.start, .slice A1 T.moves.length c1] ∧ RdS w B A1 T.moves
def OwnTn (w : World) (v : Value) (T : Tn) (bs : List Nat) : Prop := ∃ A1 c1 b1, v = .agg #[.int .i64 T.letters, .int .i64 T.start, .slice A1 T.moves.length c1] ∧ OwnS w A1 T.moves b1 ∧ bs = b1
def Tn.cnt (T : Tn) : Nat := cntS T.moves
def Tn.mark (k0 : Nat) (T : Tn) : Tn := { T with moves := mkS (k0) T.moves }
def Tn.tot (T : Tn) : Nat := Cod.tot T.moves
/-- It returns T, in new memory. -/
def RetTn (T : Tn) (w : World) (e : Ending) (w' : World) : Prop := ∃ v bs, e = .returned v ∧ OwnTn w' v T bs ∧ Fresh w.heap.size w' bs ∧ Below w.heap.size w w'
theorem OwnTn.rd {w : World} {v : Value} {T : Tn} {bs : List Nat} {B : Nat} (h : OwnTn w v T bs) (hB : ∀ g ∈ bs, g < B) : RdTn w B v T := by
  obtain ⟨A1, c1, b1, e, o1, rfl⟩ := h
  exact ⟨A1, c1, e, o1.rd fun g hg => hB g (hg)⟩
theorem OwnTn.keep {w w' : World} {v : Value} {T : Tn} {bs : List Nat} (h : OwnTn w v T bs) (hk : ∀ g ∈ bs, w'.heap[g]? = w.heap[g]?) : OwnTn w' v T bs := by
  obtain ⟨A1, c1, b1, e, o1, rfl⟩ := h
  exact ⟨A1, c1, bs, e, o1.keep fun g hg => hk g (hg), rfl⟩
theorem RdTn.up {w w' : World} {v : Value} {T : Tn} (h : RdTn w w.heap.size v T) (hb : Below w.heap.size w w') : RdTn w' w'.heap.size v T := by
  obtain ⟨A1, c1, e, r1⟩ := h
  exact ⟨A1, c1, e, r1.up hb⟩
theorem OwnTn.fresh {w' : World} {v : Value} {T : Tn} {bs : List Nat} {B : Nat} (h : OwnTn w' v T bs) (hf : Fresh B w' bs) : RdTn w' w'.heap.size v T := h.rd fun g hg => (hf.2 g hg).2
theorem OwnTn.below {w w' : World} {v : Value} {T : Tn} {bs : List Nat} {B : Nat} (h : OwnTn w v T bs) (hb : Below B w w') (hlt : ∀ g ∈ bs, g < B) : OwnTn w' v T bs := h.keep fun g hg => hb.block g (hlt g hg)
theorem Tn.cnt_le (T : Tn) : T.cnt ≤ 2 * T.tot := by
  unfold Tn.cnt Tn.tot
  have := cntS_le (cnt_list_le cnt_pair) T.moves
  omega
theorem OwnTn.aside {w w' : World} {v : Value} {T : Tn} {bs : List Nat} {n : Nat} (h : OwnTn w v T bs) (ho : OnlyB [n] w w') (hd : ∀ g ∈ bs, g < w.heap.size ∧ g ≠ n) : RdTn w' w'.heap.size v T :=
  (h.keep fun g hg => ho.block g (hd g hg).1 (by simpa using (hd g hg).2)).rd fun g hg => Nat.lt_of_lt_of_le (hd g hg).1 ho.size
/-- It returns T and a code, T in new memory. -/
def RetTnC (T : Tn) (code : Int) (w : World) (e : Ending) (w' : World) : Prop := ∃ v bs, e = .returned (.tuple #[v, .int .i64 code]) ∧ OwnTn w' v T bs ∧ Fresh w.heap.size w' bs ∧ Below w.heap.size w w'

theorem szTurner (A1 : Option Addr) (c1 : Nat) (T : Tn) (left : Int) (w : World) (r1 : RdS w w.heap.size A1 T.moves) (l1 : T.moves.length ≤ 9223372036854775807) (h1 : 0 ≤ left) (h2 : left ≤ 1048576) :
    Calls Tryd.prog 36 #[.agg #[.int .i64 T.letters, .int .i64 T.start, .slice A1 T.moves.length c1], .int .i64 left] w (RetLeft left T.tot w) := by
  unfold Tn.tot
  go_enter Tryd.func36, Tryd.ntmps36
  go_wp2_with fail
  refine (uszMoveSS A1 T.moves c1 left _ (r1.up (by repeat (first | exact Below.refl _ _ | exact Since.out (by assumption) | refine Below.alloc ?_ (by first | omega | (simp only [sz_alloc, sz_set, sz_drew, sz_drewN]; omega) | (simp only [sz_alloc, sz_set, sz_drew, sz_drewN] at *; omega)) _ | refine Below.setCell ?_ (by first | omega | (simp only [sz_alloc, sz_set, sz_drew, sz_drewN]; omega) | (simp only [sz_alloc, sz_set, sz_drew, sz_drewN] at *; omega)) _ | refine Below.drew ?_ | refine below_drewN_ ?_ _))) l1 h1 h2).mono ?_
  rintro e w1 ⟨q1, rfl, hq1, hb1⟩
  have HBw1 : Since w w1 := ⟨below_cat (by repeat (first | exact Below.refl _ _ | exact Since.out (by assumption) | refine Below.alloc ?_ (by first | omega | (simp only [sz_alloc, sz_set, sz_drew, sz_drewN]; omega) | (simp only [sz_alloc, sz_set, sz_drew, sz_drewN] at *; omega)) _ | refine Below.setCell ?_ (by first | omega | (simp only [sz_alloc, sz_set, sz_drew, sz_drewN]; omega) | (simp only [sz_alloc, sz_set, sz_drew, sz_drewN] at *; omega)) _ | refine Below.drew ?_ | refine below_drewN_ ?_ _)) hb1 (by first | omega | (simp only [sz_alloc, sz_set, sz_drew, sz_drewN]; omega) | (simp only [sz_alloc, sz_set, sz_drew, sz_drewN] at *; omega))⟩; have hzw1 := hb1.size; (try simp only [sz_alloc, sz_set, sz_drew, sz_drewN] at hzw1); have hcw1k0 := fun o => hb1.cell (p := ⟨w.heap.size, o, none⟩) (by first | omega | (simp only [sz_alloc, sz_set, sz_drew, sz_drewN]; omega) | (simp only [sz_alloc, sz_set, sz_drew, sz_drewN] at *; omega)); have hfw1k0 := fun o => hb1.frozen (p := ⟨w.heap.size, o, none⟩) (by first | omega | (simp only [sz_alloc, sz_set, sz_drew, sz_drewN]; omega) | (simp only [sz_alloc, sz_set, sz_drew, sz_drewN] at *; omega)); have hlw1k0 : w.heap.size < w1.heap.size := (by first | omega | (simp only [sz_alloc, sz_set, sz_drew, sz_drewN]; omega) | (simp only [sz_alloc, sz_set, sz_drew, sz_drewN] at *; omega))
  rcases hq1 with rfl | ⟨g1, e1⟩
  · skip
    go_wp2
    go_ret
    exact ⟨_, rfl, .inl rfl, HBw1.out⟩
  · have m1 : q1 ≤ 1048576 := by omega
    have E1 := Lib.hid e1
    clear e1
    go_wp2
    go_ret
    have e1 := E1.out
    exact ⟨_, rfl, .inr ⟨by omega, by push_cast; omega⟩, HBw1.out⟩

theorem toTurner (A1 : Option Addr) (c1 : Nat) (T : Tn) (w : World) (r1 : RdS w w.heap.size A1 T.moves) (hn : T.tot ≤ 1048576) :
    Calls Tryd.prog 38 #[.agg #[.int .i64 T.letters, .int .i64 T.start, .slice A1 T.moves.length c1]] w (RetTn T w) := by
  have n1 : Cod.tot T.moves ≤ 1048576 := by unfold Tn.tot at hn; omega
  go_enter Tryd.func38, Tryd.ntmps38
  go_wp2_with fail
  refine (utoMoveSS A1 T.moves c1 _ (r1.up (by repeat (first | exact Below.refl _ _ | exact Since.out (by assumption) | refine Below.alloc ?_ (by first | omega | (simp only [sz_alloc, sz_set, sz_drew, sz_drewN]; omega) | (simp only [sz_alloc, sz_set, sz_drew, sz_drewN] at *; omega)) _ | refine Below.setCell ?_ (by first | omega | (simp only [sz_alloc, sz_set, sz_drew, sz_drewN]; omega) | (simp only [sz_alloc, sz_set, sz_drew, sz_drewN] at *; omega)) _ | refine Below.drew ?_ | refine below_drewN_ ?_ _))) n1).mono ?_
  rintro e w1 ⟨D1, d1, b1, rfl, o1, f1, hb1⟩
  have HBw1 : Since w w1 := ⟨below_cat (by repeat (first | exact Below.refl _ _ | exact Since.out (by assumption) | refine Below.alloc ?_ (by first | omega | (simp only [sz_alloc, sz_set, sz_drew, sz_drewN]; omega) | (simp only [sz_alloc, sz_set, sz_drew, sz_drewN] at *; omega)) _ | refine Below.setCell ?_ (by first | omega | (simp only [sz_alloc, sz_set, sz_drew, sz_drewN]; omega) | (simp only [sz_alloc, sz_set, sz_drew, sz_drewN] at *; omega)) _ | refine Below.drew ?_ | refine below_drewN_ ?_ _)) hb1 (by first | omega | (simp only [sz_alloc, sz_set, sz_drew, sz_drewN]; omega) | (simp only [sz_alloc, sz_set, sz_drew, sz_drewN] at *; omega))⟩; have hzw1 := hb1.size; (try simp only [sz_alloc, sz_set, sz_drew, sz_drewN] at hzw1); have hcw1k0 := fun o => hb1.cell (p := ⟨w.heap.size, o, none⟩) (by first | omega | (simp only [sz_alloc, sz_set, sz_drew, sz_drewN]; omega) | (simp only [sz_alloc, sz_set, sz_drew, sz_drewN] at *; omega)); have hfw1k0 := fun o => hb1.frozen (p := ⟨w.heap.size, o, none⟩) (by first | omega | (simp only [sz_alloc, sz_set, sz_drew, sz_drewN]; omega) | (simp only [sz_alloc, sz_set, sz_drew, sz_drewN] at *; omega)); have hlw1k0 : w.heap.size < w1.heap.size := (by first | omega | (simp only [sz_alloc, sz_set, sz_drew, sz_drewN]; omega) | (simp only [sz_alloc, sz_set, sz_drew, sz_drewN] at *; omega)); have hcw1k1 := fun o => hb1.cell (p := ⟨w.heap.size + 1, o, none⟩) (by first | omega | (simp only [sz_alloc, sz_set, sz_drew, sz_drewN]; omega) | (simp only [sz_alloc, sz_set, sz_drew, sz_drewN] at *; omega)); have hfw1k1 := fun o => hb1.frozen (p := ⟨w.heap.size + 1, o, none⟩) (by first | omega | (simp only [sz_alloc, sz_set, sz_drew, sz_drewN]; omega) | (simp only [sz_alloc, sz_set, sz_drew, sz_drewN] at *; omega)); have hlw1k1 : w.heap.size + 1 < w1.heap.size := (by first | omega | (simp only [sz_alloc, sz_set, sz_drew, sz_drewN]; omega) | (simp only [sz_alloc, sz_set, sz_drew, sz_drewN] at *; omega)); have hcw1k2 := fun o => hb1.cell (p := ⟨w.heap.size + 1 + 1, o, none⟩) (by first | omega | (simp only [sz_alloc, sz_set, sz_drew, sz_drewN]; omega) | (simp only [sz_alloc, sz_set, sz_drew, sz_drewN] at *; omega)); have hfw1k2 := fun o => hb1.frozen (p := ⟨w.heap.size + 1 + 1, o, none⟩) (by first | omega | (simp only [sz_alloc, sz_set, sz_drew, sz_drewN]; omega) | (simp only [sz_alloc, sz_set, sz_drew, sz_drewN] at *; omega)); have hlw1k2 : w.heap.size + 1 + 1 < w1.heap.size := (by first | omega | (simp only [sz_alloc, sz_set, sz_drew, sz_drewN]; omega) | (simp only [sz_alloc, sz_set, sz_drew, sz_drewN] at *; omega))
  simp only [sz_alloc, sz_set] at f1
  go_wp2
  refine bodyPost_ret (v := .agg #[.int .i64 T.letters, .int .i64 T.start, .slice D1 T.moves.length d1]) (by simp [results, Tryd.results38, go_sem, hcw1k1]) rfl
    ⟨_, _, rfl, ⟨D1, d1, b1, rfl, o1.only (bs' := [w.heap.size + 1, w.heap.size + 1 + 1]) (by repeat (first | with_reducible exact OnlyB.refl _ _ | with_reducible refine OnlyB.setCell ?_ (by simp) _ | with_reducible refine OnlyB.alloc ?_ _ | with_reducible refine OnlyB.drew ?_ | refine OnlyB.trans ?_ (OnlyB.of_below (by assumption) _))) (fun g hg => by have := f1.2 g hg; simp; omega), rfl⟩, ?_, (by repeat (first | exact Below.refl _ _ | exact Since.out (by assumption) | refine Below.alloc ?_ (by first | omega | (simp only [sz_alloc, sz_set, sz_drew, sz_drewN]; omega) | (simp only [sz_alloc, sz_set, sz_drew, sz_drewN] at *; omega)) _ | refine Below.setCell ?_ (by first | omega | (simp only [sz_alloc, sz_set, sz_drew, sz_drewN]; omega) | (simp only [sz_alloc, sz_set, sz_drew, sz_drewN] at *; omega)) _ | refine Below.drew ?_ | refine below_drewN_ ?_ _))⟩
  exact ⟨f1.1, fun g hg => by have := f1.2 g hg; simp only [sz_set]; omega⟩

theorem eqTurner (v v' : Value) (T : Tn) (w : World) (h1 : RdTn w w.heap.size v T) (h2 : RdTn w w.heap.size v' T) (hn : T.tot ≤ 140737488355328) :
    Calls Tryd.prog 23 #[v, v'] w fun e w' => e = .returned (.bool true) ∧ Below w.heap.size w w' := by
  have n1 : Cod.tot T.moves ≤ 140737488355328 := by unfold Tn.tot at hn; omega
  obtain ⟨A1, c1, rfl, r1⟩ := h1
  obtain ⟨pA1, pc1, rfl, s1⟩ := h2
  go_enter Tryd.func23, Tryd.ntmps23
  go_wp2_with fail
  refine (ueqMoveSS A1 pA1 T.moves c1 pc1 _ (r1.up (by repeat (first | exact Below.refl _ _ | exact Since.out (by assumption) | refine Below.alloc ?_ (by first | omega | (simp only [sz_alloc, sz_set, sz_drew, sz_drewN]; omega) | (simp only [sz_alloc, sz_set, sz_drew, sz_drewN] at *; omega)) _ | refine Below.setCell ?_ (by first | omega | (simp only [sz_alloc, sz_set, sz_drew, sz_drewN]; omega) | (simp only [sz_alloc, sz_set, sz_drew, sz_drewN] at *; omega)) _ | refine Below.drew ?_ | refine below_drewN_ ?_ _))) (s1.up (by repeat (first | exact Below.refl _ _ | exact Since.out (by assumption) | refine Below.alloc ?_ (by first | omega | (simp only [sz_alloc, sz_set, sz_drew, sz_drewN]; omega) | (simp only [sz_alloc, sz_set, sz_drew, sz_drewN] at *; omega)) _ | refine Below.setCell ?_ (by first | omega | (simp only [sz_alloc, sz_set, sz_drew, sz_drewN]; omega) | (simp only [sz_alloc, sz_set, sz_drew, sz_drewN] at *; omega)) _ | refine Below.drew ?_ | refine below_drewN_ ?_ _))) n1).mono ?_
  rintro e w1 ⟨rfl, hb1⟩
  have HBw1 : Since w w1 := ⟨below_cat (by repeat (first | exact Below.refl _ _ | exact Since.out (by assumption) | refine Below.alloc ?_ (by first | omega | (simp only [sz_alloc, sz_set, sz_drew, sz_drewN]; omega) | (simp only [sz_alloc, sz_set, sz_drew, sz_drewN] at *; omega)) _ | refine Below.setCell ?_ (by first | omega | (simp only [sz_alloc, sz_set, sz_drew, sz_drewN]; omega) | (simp only [sz_alloc, sz_set, sz_drew, sz_drewN] at *; omega)) _ | refine Below.drew ?_ | refine below_drewN_ ?_ _)) hb1 (by first | omega | (simp only [sz_alloc, sz_set, sz_drew, sz_drewN]; omega) | (simp only [sz_alloc, sz_set, sz_drew, sz_drewN] at *; omega))⟩; have hzw1 := hb1.size; (try simp only [sz_alloc, sz_set, sz_drew, sz_drewN] at hzw1); have hcw1k0 := fun o => hb1.cell (p := ⟨w.heap.size, o, none⟩) (by first | omega | (simp only [sz_alloc, sz_set, sz_drew, sz_drewN]; omega) | (simp only [sz_alloc, sz_set, sz_drew, sz_drewN] at *; omega)); have hfw1k0 := fun o => hb1.frozen (p := ⟨w.heap.size, o, none⟩) (by first | omega | (simp only [sz_alloc, sz_set, sz_drew, sz_drewN]; omega) | (simp only [sz_alloc, sz_set, sz_drew, sz_drewN] at *; omega)); have hlw1k0 : w.heap.size < w1.heap.size := (by first | omega | (simp only [sz_alloc, sz_set, sz_drew, sz_drewN]; omega) | (simp only [sz_alloc, sz_set, sz_drew, sz_drewN] at *; omega)); have hcw1k1 := fun o => hb1.cell (p := ⟨w.heap.size + 1, o, none⟩) (by first | omega | (simp only [sz_alloc, sz_set, sz_drew, sz_drewN]; omega) | (simp only [sz_alloc, sz_set, sz_drew, sz_drewN] at *; omega)); have hfw1k1 := fun o => hb1.frozen (p := ⟨w.heap.size + 1, o, none⟩) (by first | omega | (simp only [sz_alloc, sz_set, sz_drew, sz_drewN]; omega) | (simp only [sz_alloc, sz_set, sz_drew, sz_drewN] at *; omega)); have hlw1k1 : w.heap.size + 1 < w1.heap.size := (by first | omega | (simp only [sz_alloc, sz_set, sz_drew, sz_drewN]; omega) | (simp only [sz_alloc, sz_set, sz_drew, sz_drewN] at *; omega))
  go_wp2
  go_ret
  exact ⟨rfl, HBw1.out⟩

theorem markTurner (v : Value) (T : Tn) (k0 : Nat) (bs : List Nat) (w : World) (h : OwnTn w v T bs) (hd : bs.Nodup) (hlt : ∀ g ∈ bs, g < w.heap.size) (hk0 : k0 + T.cnt ≤ 4611686018427387904) (hn : T.tot ≤ 1048576) :
    Calls Tryd.prog 24 #[v, .int .i64 k0] w fun e w' => e = .returned (.int .i64 ((k0 + T.cnt : Nat) : Int)) ∧ OwnTn w' v (T.mark k0) bs ∧ OnlyB bs w w' := by
  have n1 : Cod.tot T.moves ≤ 1048576 := by unfold Tn.tot at hn; omega
  have hk : k0 + (cntS T.moves) ≤ 4611686018427387904 := hk0
  obtain ⟨A1, c1, b1, rfl, o1, rfl⟩ := h
  have dis : True := trivial
  have nd1 := hd
  have lt1 : ∀ g ∈ bs, g < w.heap.size := fun g hg => hlt g (hg)
  go_enter Tryd.func24, Tryd.ntmps24
  go_wp2_with fail
  have u1 : OwnS (w.alloc (Obj.cells #[Value.int .i64 T.letters, Value.int .i64 T.start, Value.slice A1 T.moves.length c1] 40)) A1 T.moves bs := o1.below (by repeat (first | exact Below.refl _ _ | refine Below.alloc ?_ (by first | omega | (simp only [sz_alloc, sz_set, sz_drew, sz_drewN]; omega) | (simp only [sz_alloc, sz_set, sz_drew, sz_drewN] at *; omega)) _ | refine Below.setCell ?_ (by first | omega | (simp only [sz_alloc, sz_set, sz_drew, sz_drewN]; omega) | (simp only [sz_alloc, sz_set, sz_drew, sz_drewN] at *; omega)) _ | refine Below.drew ?_ | refine below_drewN_ ?_ _)) lt1
  refine (umarkMoveSS A1 T.moves c1 (k0) bs _ u1 nd1 (fun g hg => by have := lt1 g hg; first | omega | (simp only [sz_alloc]; omega)) (by omega) n1).mono ?_
  rintro e w1 ⟨rfl, p1, q1⟩
  have hzw1 := q1.size; (try simp only [sz_alloc, sz_set, sz_drew, sz_drewN] at hzw1); have hcw1k0 := fun o => World.cell?_of_block (a := ⟨w.heap.size, o, none⟩) (q1.block (w.heap.size) (by first | omega | (simp only [sz_alloc, sz_set, sz_drew, sz_drewN]; omega) | (simp only [sz_alloc, sz_set, sz_drew, sz_drewN] at *; omega)) (fun hm => by have := hlt (w.heap.size) (by simp [hm]); omega)); have hfw1k0 := fun o => World.frozen?_of_block (a := ⟨w.heap.size, o, none⟩) (q1.block (w.heap.size) (by first | omega | (simp only [sz_alloc, sz_set, sz_drew, sz_drewN]; omega) | (simp only [sz_alloc, sz_set, sz_drew, sz_drewN] at *; omega)) (fun hm => by have := hlt (w.heap.size) (by simp [hm]); omega))
  go_wp2
  go_ret
  refine ⟨ret_int (by unfold Tn.cnt; push_cast; omega), ⟨A1, c1, bs, ?_, p1, rfl⟩, ((OnlyB.refl _ w).alloc _).trans (q1.mono fun g hg => hg)⟩
  simp only [Tn.mark, mkS_length]

theorem heldTurner (v : Value) (T : Tn) (k0 : Nat) (w : World) (h : RdTn w w.heap.size v (T.mark k0)) (hk0 : k0 + T.cnt ≤ 4611686018427387904) (hn : T.tot ≤ 1048576) :
    Calls Tryd.prog 25 #[v, .int .i64 k0] w fun e w' => e = .returned (.int .i64 ((k0 + T.cnt : Nat) : Int)) ∧ Below w.heap.size w w' := by
  have n1 : Cod.tot T.moves ≤ 1048576 := by unfold Tn.tot at hn; omega
  have hk : k0 + (cntS T.moves) ≤ 4611686018427387904 := hk0
  obtain ⟨A1, c1, e, r1⟩ := h
  simp only [Tn.mark, mkS_length] at e r1
  subst e
  go_enter Tryd.func25, Tryd.ntmps25
  go_wp2_with fail
  refine (uheldMoveSS A1 T.moves c1 (k0) _ (r1.up (by repeat (first | exact Below.refl _ _ | exact Since.out (by assumption) | refine Below.alloc ?_ (by first | omega | (simp only [sz_alloc, sz_set, sz_drew, sz_drewN]; omega) | (simp only [sz_alloc, sz_set, sz_drew, sz_drewN] at *; omega)) _ | refine Below.setCell ?_ (by first | omega | (simp only [sz_alloc, sz_set, sz_drew, sz_drewN]; omega) | (simp only [sz_alloc, sz_set, sz_drew, sz_drewN] at *; omega)) _ | refine Below.drew ?_ | refine below_drewN_ ?_ _))) (by omega) n1).mono ?_
  rintro e w1 ⟨rfl, hb1⟩
  have HBw1 : Since w w1 := ⟨below_cat (by repeat (first | exact Below.refl _ _ | exact Since.out (by assumption) | refine Below.alloc ?_ (by first | omega | (simp only [sz_alloc, sz_set, sz_drew, sz_drewN]; omega) | (simp only [sz_alloc, sz_set, sz_drew, sz_drewN] at *; omega)) _ | refine Below.setCell ?_ (by first | omega | (simp only [sz_alloc, sz_set, sz_drew, sz_drewN]; omega) | (simp only [sz_alloc, sz_set, sz_drew, sz_drewN] at *; omega)) _ | refine Below.drew ?_ | refine below_drewN_ ?_ _)) hb1 (by first | omega | (simp only [sz_alloc, sz_set, sz_drew, sz_drewN]; omega) | (simp only [sz_alloc, sz_set, sz_drew, sz_drewN] at *; omega))⟩; have hzw1 := hb1.size; (try simp only [sz_alloc, sz_set, sz_drew, sz_drewN] at hzw1); have hcw1k0 := fun o => hb1.cell (p := ⟨w.heap.size, o, none⟩) (by first | omega | (simp only [sz_alloc, sz_set, sz_drew, sz_drewN]; omega) | (simp only [sz_alloc, sz_set, sz_drew, sz_drewN] at *; omega)); have hfw1k0 := fun o => hb1.frozen (p := ⟨w.heap.size, o, none⟩) (by first | omega | (simp only [sz_alloc, sz_set, sz_drew, sz_drewN]; omega) | (simp only [sz_alloc, sz_set, sz_drew, sz_drewN] at *; omega)); have hlw1k0 : w.heap.size < w1.heap.size := (by first | omega | (simp only [sz_alloc, sz_set, sz_drew, sz_drewN]; omega) | (simp only [sz_alloc, sz_set, sz_drew, sz_drewN] at *; omega))
  go_wp2
  go_ret
  exact ⟨ret_int (by unfold Tn.cnt; push_cast; omega), HBw1.out⟩
end Go.Proofs.YtelmooaenodfaaaDoor
