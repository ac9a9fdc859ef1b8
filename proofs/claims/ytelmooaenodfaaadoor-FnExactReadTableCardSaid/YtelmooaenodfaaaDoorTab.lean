/-
  Contracts of the laws' own helpers for tables (their sizes, copies, comparisons, marks). Conditions: those in each statement.
-/
import Derived.Test.YtelmooaenodfaaaDoorPExit
import Derived.Test.YtelmooaenodfaaaDoorRows
import Derived.ProofKit
import Derived.StillTailTactics
import Derived.Deep.RegionWith
set_option linter.unusedVariables false
set_option linter.unusedSimpArgs false
set_option maxRecDepth 100000
set_option maxHeartbeats 1000000
namespace Go.Proofs.YtelmooaenodfaaaDoor
open Go.RowKit

/-- A table: the exits of those that come from the left, and from the right. -/
structure Tb where
  l : List (Int × Int)
  r : List (Int × Int)
def RdTb (w : World) (B : Nat) (v : Value) (T : Tb) : Prop := ∃ A c A' c', v = .agg #[.slice A T.l.length c, .slice A' T.r.length c'] ∧ RdS w B A T.l ∧ RdS w B A' T.r
def OwnTb (w : World) (v : Value) (T : Tb) (bs : List Nat) : Prop := ∃ A c A' c' b1 b2, v = .agg #[.slice A T.l.length c, .slice A' T.r.length c'] ∧ OwnS w A T.l b1 ∧ OwnS w A' T.r b2 ∧ bs = b1 ++ b2
def Tb.cnt (T : Tb) : Nat := cntS T.l + cntS T.r
def Tb.mark (k : Nat) (T : Tb) : Tb := ⟨mkS k T.l, mkS (k + cntS T.l) T.r⟩
def Tb.tot (T : Tb) : Nat := T.l.length + T.r.length
/-- It returns the table T, in new memory. -/
def RetTb (T : Tb) (w : World) (e : Ending) (w' : World) : Prop := ∃ v bs, e = .returned v ∧ OwnTb w' v T bs ∧ Fresh w.heap.size w' bs ∧ Below w.heap.size w w'

/-- It returns the table T and a code, the table in new memory. -/
def RetTbC (T : Tb) (code : Int) (w : World) (e : Ending) (w' : World) : Prop := ∃ v bs, e = .returned (.tuple #[v, .int .i64 code]) ∧ OwnTb w' v T bs ∧ Fresh w.heap.size w' bs ∧ Below w.heap.size w w'

theorem toTable (A A' : Option Addr) (T : Tb) (c c' : Nat) (w : World) (h1 : RdS w w.heap.size A T.l) (h2 : RdS w w.heap.size A' T.r) (hn : T.tot ≤ 1048576) :
    Calls Tryd.prog 30 #[.agg #[.slice A T.l.length c, .slice A' T.r.length c']] w (RetTb T w) := by
  have hn1 : T.l.length ≤ 1048576 := by unfold Tb.tot at hn; omega
  have hn2 : T.r.length ≤ 1048576 := by unfold Tb.tot at hn; omega
  go_enter Tryd.func30, Tryd.ntmps30
  go_wp2_with (first
    | (go_at_call_of 75 A; refine (toExitS A T.l c _ (h1.up (by repeat (first | exact Below.refl _ _ | exact Since.out (by assumption) | refine Below.alloc ?_ (by first | omega | (simp only [sz_alloc, sz_set, sz_drew, sz_drewN]; omega) | (simp only [sz_alloc, sz_set, sz_drew, sz_drewN] at *; omega)) _ | refine Below.setCell ?_ (by first | omega | (simp only [sz_alloc, sz_set, sz_drew, sz_drewN]; omega) | (simp only [sz_alloc, sz_set, sz_drew, sz_drewN] at *; omega)) _ | refine Below.drew ?_ | refine below_drewN_ ?_ _))) hn1).mono ?_; rintro e w1 ⟨rfl, ho1, hb1, hg1⟩; have HBw1 : Since w w1 := ⟨below_cat (by repeat (first | exact Below.refl _ _ | exact Since.out (by assumption) | refine Below.alloc ?_ (by first | omega | (simp only [sz_alloc, sz_set, sz_drew, sz_drewN]; omega) | (simp only [sz_alloc, sz_set, sz_drew, sz_drewN] at *; omega)) _ | refine Below.setCell ?_ (by first | omega | (simp only [sz_alloc, sz_set, sz_drew, sz_drewN]; omega) | (simp only [sz_alloc, sz_set, sz_drew, sz_drewN] at *; omega)) _ | refine Below.drew ?_ | refine below_drewN_ ?_ _)) hb1 (by first | omega | (simp only [sz_alloc, sz_set, sz_drew, sz_drewN]; omega) | (simp only [sz_alloc, sz_set, sz_drew, sz_drewN] at *; omega))⟩; have hzw1 := hb1.size; (try simp only [sz_alloc, sz_set, sz_drew, sz_drewN] at hzw1); have hcw1k0 := fun o => hb1.cell (p := ⟨w.heap.size, o, none⟩) (by first | omega | (simp only [sz_alloc, sz_set, sz_drew, sz_drewN]; omega) | (simp only [sz_alloc, sz_set, sz_drew, sz_drewN] at *; omega)); have hfw1k0 := fun o => hb1.frozen (p := ⟨w.heap.size, o, none⟩) (by first | omega | (simp only [sz_alloc, sz_set, sz_drew, sz_drewN]; omega) | (simp only [sz_alloc, sz_set, sz_drew, sz_drewN] at *; omega)); have hlw1k0 : w.heap.size < w1.heap.size := (by first | omega | (simp only [sz_alloc, sz_set, sz_drew, sz_drewN]; omega) | (simp only [sz_alloc, sz_set, sz_drew, sz_drewN] at *; omega)); have hcw1k1 := fun o => hb1.cell (p := ⟨w.heap.size + 1, o, none⟩) (by first | omega | (simp only [sz_alloc, sz_set, sz_drew, sz_drewN]; omega) | (simp only [sz_alloc, sz_set, sz_drew, sz_drewN] at *; omega)); have hfw1k1 := fun o => hb1.frozen (p := ⟨w.heap.size + 1, o, none⟩) (by first | omega | (simp only [sz_alloc, sz_set, sz_drew, sz_drewN]; omega) | (simp only [sz_alloc, sz_set, sz_drew, sz_drewN] at *; omega)); have hlw1k1 : w.heap.size + 1 < w1.heap.size := (by first | omega | (simp only [sz_alloc, sz_set, sz_drew, sz_drewN]; omega) | (simp only [sz_alloc, sz_set, sz_drew, sz_drewN] at *; omega)); have hcw1k2 := fun o => hb1.cell (p := ⟨w.heap.size + 1 + 1, o, none⟩) (by first | omega | (simp only [sz_alloc, sz_set, sz_drew, sz_drewN]; omega) | (simp only [sz_alloc, sz_set, sz_drew, sz_drewN] at *; omega)); have hfw1k2 := fun o => hb1.frozen (p := ⟨w.heap.size + 1 + 1, o, none⟩) (by first | omega | (simp only [sz_alloc, sz_set, sz_drew, sz_drewN]; omega) | (simp only [sz_alloc, sz_set, sz_drew, sz_drewN] at *; omega)); have hlw1k2 : w.heap.size + 1 + 1 < w1.heap.size := (by first | omega | (simp only [sz_alloc, sz_set, sz_drew, sz_drewN]; omega) | (simp only [sz_alloc, sz_set, sz_drew, sz_drewN] at *; omega)))
    | (go_at_call_of 75 A'; refine (toExitS A' T.r c' _ (h2.up (by repeat (first | exact Below.refl _ _ | exact Since.out (by assumption) | refine Below.alloc ?_ (by first | omega | (simp only [sz_alloc, sz_set, sz_drew, sz_drewN]; omega) | (simp only [sz_alloc, sz_set, sz_drew, sz_drewN] at *; omega)) _ | refine Below.setCell ?_ (by first | omega | (simp only [sz_alloc, sz_set, sz_drew, sz_drewN]; omega) | (simp only [sz_alloc, sz_set, sz_drew, sz_drewN] at *; omega)) _ | refine Below.drew ?_ | refine below_drewN_ ?_ _))) hn2).mono ?_; rintro e w2 ⟨rfl, ho2, hb2, hg2⟩; have HBw2 : Since w w2 := ⟨below_cat (by repeat (first | exact Below.refl _ _ | exact Since.out (by assumption) | refine Below.alloc ?_ (by first | omega | (simp only [sz_alloc, sz_set, sz_drew, sz_drewN]; omega) | (simp only [sz_alloc, sz_set, sz_drew, sz_drewN] at *; omega)) _ | refine Below.setCell ?_ (by first | omega | (simp only [sz_alloc, sz_set, sz_drew, sz_drewN]; omega) | (simp only [sz_alloc, sz_set, sz_drew, sz_drewN] at *; omega)) _ | refine Below.drew ?_ | refine below_drewN_ ?_ _)) hb2 (by first | omega | (simp only [sz_alloc, sz_set, sz_drew, sz_drewN]; omega) | (simp only [sz_alloc, sz_set, sz_drew, sz_drewN] at *; omega))⟩; have hzw2 := hb2.size; (try simp only [sz_alloc, sz_set, sz_drew, sz_drewN] at hzw2); have hcw2k0 := fun o => hb2.cell (p := ⟨w.heap.size, o, none⟩) (by first | omega | (simp only [sz_alloc, sz_set, sz_drew, sz_drewN]; omega) | (simp only [sz_alloc, sz_set, sz_drew, sz_drewN] at *; omega)); have hfw2k0 := fun o => hb2.frozen (p := ⟨w.heap.size, o, none⟩) (by first | omega | (simp only [sz_alloc, sz_set, sz_drew, sz_drewN]; omega) | (simp only [sz_alloc, sz_set, sz_drew, sz_drewN] at *; omega)); have hlw2k0 : w.heap.size < w2.heap.size := (by first | omega | (simp only [sz_alloc, sz_set, sz_drew, sz_drewN]; omega) | (simp only [sz_alloc, sz_set, sz_drew, sz_drewN] at *; omega)); have hcw2k1 := fun o => hb2.cell (p := ⟨w.heap.size + 1, o, none⟩) (by first | omega | (simp only [sz_alloc, sz_set, sz_drew, sz_drewN]; omega) | (simp only [sz_alloc, sz_set, sz_drew, sz_drewN] at *; omega)); have hfw2k1 := fun o => hb2.frozen (p := ⟨w.heap.size + 1, o, none⟩) (by first | omega | (simp only [sz_alloc, sz_set, sz_drew, sz_drewN]; omega) | (simp only [sz_alloc, sz_set, sz_drew, sz_drewN] at *; omega)); have hlw2k1 : w.heap.size + 1 < w2.heap.size := (by first | omega | (simp only [sz_alloc, sz_set, sz_drew, sz_drewN]; omega) | (simp only [sz_alloc, sz_set, sz_drew, sz_drewN] at *; omega)); have hcw2k2 := fun o => hb2.cell (p := ⟨w.heap.size + 1 + 1, o, none⟩) (by first | omega | (simp only [sz_alloc, sz_set, sz_drew, sz_drewN]; omega) | (simp only [sz_alloc, sz_set, sz_drew, sz_drewN] at *; omega)); have hfw2k2 := fun o => hb2.frozen (p := ⟨w.heap.size + 1 + 1, o, none⟩) (by first | omega | (simp only [sz_alloc, sz_set, sz_drew, sz_drewN]; omega) | (simp only [sz_alloc, sz_set, sz_drew, sz_drewN] at *; omega)); have hlw2k2 : w.heap.size + 1 + 1 < w2.heap.size := (by first | omega | (simp only [sz_alloc, sz_set, sz_drew, sz_drewN]; omega) | (simp only [sz_alloc, sz_set, sz_drew, sz_drewN] at *; omega))))
  simp only [sz_alloc, sz_set, sz_drew, sz_drewN] at ho1 ho2 hg1 hg2
  refine bodyPost_ret (v := .agg #[.slice (some ⟨w.heap.size + 1 + 1 + 1, 0, none⟩) T.l.length T.l.length, .slice (some ⟨w1.heap.size, 0, none⟩) T.r.length T.r.length]) (by simp [results, Tryd.results30, go_sem, *]) rfl
    ⟨_, _, rfl, ⟨_, _, _, _, _, _, rfl, ho1.only (bs' := [w.heap.size + 1, w.heap.size + 1 + 1]) (by repeat (first | with_reducible exact OnlyB.refl _ _ | with_reducible refine OnlyB.setCell ?_ (by simp) _ | with_reducible refine OnlyB.alloc ?_ _ | with_reducible refine OnlyB.drew ?_ | refine OnlyB.trans ?_ (OnlyB.of_below (by assumption) _))) (by simp; omega), ho2.only (bs' := [w.heap.size + 1, w.heap.size + 1 + 1]) (by repeat (first | with_reducible exact OnlyB.refl _ _ | with_reducible refine OnlyB.setCell ?_ (by simp) _ | with_reducible refine OnlyB.alloc ?_ _ | with_reducible refine OnlyB.drew ?_ | refine OnlyB.trans ?_ (OnlyB.of_below (by assumption) _))) (by simp; omega), rfl⟩, ⟨by simp; omega, ?_⟩, (by repeat (first | exact Below.refl _ _ | exact Since.out (by assumption) | refine Below.alloc ?_ (by first | omega | (simp only [sz_alloc, sz_set, sz_drew, sz_drewN]; omega) | (simp only [sz_alloc, sz_set, sz_drew, sz_drewN] at *; omega)) _ | refine Below.setCell ?_ (by first | omega | (simp only [sz_alloc, sz_set, sz_drew, sz_drewN]; omega) | (simp only [sz_alloc, sz_set, sz_drew, sz_drewN] at *; omega)) _ | refine Below.drew ?_ | refine below_drewN_ ?_ _))⟩
  simp only [sz_set, List.cons_append, List.nil_append, List.mem_cons, List.not_mem_nil, or_false]
  rintro g (rfl | rfl) <;> omega

theorem szTable (A A' : Option Addr) (n n' c c' : Nat) (left : Int) (w : World) (hn : (n : Int) ≤ 9223372036854775807) (hn' : (n' : Int) ≤ 9223372036854775807) (h1 : 0 ≤ left) (h2 : left ≤ 1048576) :
    Calls Tryd.prog 28 #[.agg #[.slice A n c, .slice A' n' c'], .int .i64 left] w (RetLeft left (n + n') w) := by
  go_enter Tryd.func28, Tryd.ntmps28
  go_wp2_with fail
  refine (szExitS A n c left _ hn h1 h2).mono ?_
  rintro e w1 ⟨r, rfl, hr, hb1⟩
  have HBw1 : Since w w1 := ⟨below_cat (by repeat (first | exact Below.refl _ _ | exact Since.out (by assumption) | refine Below.alloc ?_ (by first | omega | (simp only [sz_alloc, sz_set, sz_drew, sz_drewN]; omega) | (simp only [sz_alloc, sz_set, sz_drew, sz_drewN] at *; omega)) _ | refine Below.setCell ?_ (by first | omega | (simp only [sz_alloc, sz_set, sz_drew, sz_drewN]; omega) | (simp only [sz_alloc, sz_set, sz_drew, sz_drewN] at *; omega)) _ | refine Below.drew ?_ | refine below_drewN_ ?_ _)) hb1 (by first | omega | (simp only [sz_alloc, sz_set, sz_drew, sz_drewN]; omega) | (simp only [sz_alloc, sz_set, sz_drew, sz_drewN] at *; omega))⟩; have hzw1 := hb1.size; (try simp only [sz_alloc, sz_set, sz_drew, sz_drewN] at hzw1); have hcw1k0 := fun o => hb1.cell (p := ⟨w.heap.size, o, none⟩) (by first | omega | (simp only [sz_alloc, sz_set, sz_drew, sz_drewN]; omega) | (simp only [sz_alloc, sz_set, sz_drew, sz_drewN] at *; omega)); have hfw1k0 := fun o => hb1.frozen (p := ⟨w.heap.size, o, none⟩) (by first | omega | (simp only [sz_alloc, sz_set, sz_drew, sz_drewN]; omega) | (simp only [sz_alloc, sz_set, sz_drew, sz_drewN] at *; omega)); have hlw1k0 : w.heap.size < w1.heap.size := (by first | omega | (simp only [sz_alloc, sz_set, sz_drew, sz_drewN]; omega) | (simp only [sz_alloc, sz_set, sz_drew, sz_drewN] at *; omega))
  rcases hr with rfl | ⟨hr0, hr1⟩
  · go_wp2
    go_ret
    exact ⟨_, rfl, .inl rfl, HBw1.out⟩
  · have hr2 : r ≤ 1048576 := by omega
    have Hr := Lib.hid hr1
    clear hr1
    go_wp2_with fail
    refine (szExitS A' n' c' r _ hn' hr0 hr2).mono ?_
    rintro e w2 ⟨r', rfl, hr', hb2⟩
    have HBw2 : Since w w2 := ⟨below_cat (by repeat (first | exact Below.refl _ _ | exact Since.out (by assumption) | refine Below.alloc ?_ (by first | omega | (simp only [sz_alloc, sz_set, sz_drew, sz_drewN]; omega) | (simp only [sz_alloc, sz_set, sz_drew, sz_drewN] at *; omega)) _ | refine Below.setCell ?_ (by first | omega | (simp only [sz_alloc, sz_set, sz_drew, sz_drewN]; omega) | (simp only [sz_alloc, sz_set, sz_drew, sz_drewN] at *; omega)) _ | refine Below.drew ?_ | refine below_drewN_ ?_ _)) hb2 (by first | omega | (simp only [sz_alloc, sz_set, sz_drew, sz_drewN]; omega) | (simp only [sz_alloc, sz_set, sz_drew, sz_drewN] at *; omega))⟩; have hzw2 := hb2.size; (try simp only [sz_alloc, sz_set, sz_drew, sz_drewN] at hzw2); have hcw2k0 := fun o => hb2.cell (p := ⟨w.heap.size, o, none⟩) (by first | omega | (simp only [sz_alloc, sz_set, sz_drew, sz_drewN]; omega) | (simp only [sz_alloc, sz_set, sz_drew, sz_drewN] at *; omega)); have hfw2k0 := fun o => hb2.frozen (p := ⟨w.heap.size, o, none⟩) (by first | omega | (simp only [sz_alloc, sz_set, sz_drew, sz_drewN]; omega) | (simp only [sz_alloc, sz_set, sz_drew, sz_drewN] at *; omega)); have hlw2k0 : w.heap.size < w2.heap.size := (by first | omega | (simp only [sz_alloc, sz_set, sz_drew, sz_drewN]; omega) | (simp only [sz_alloc, sz_set, sz_drew, sz_drewN] at *; omega))
    have hr1 := Hr.out
    rcases hr' with rfl | ⟨hr0', hr1'⟩
    · clear hr1
      go_wp2
      go_ret
      exact ⟨_, rfl, .inl rfl, HBw2.out⟩
    · have Hr' := Lib.hid hr1'
      clear hr1 hr1'
      go_wp2
      go_ret
      have := Hr.out
      have := Hr'.out
      exact ⟨_, rfl, .inr ⟨by omega, by push_cast; omega⟩, HBw2.out⟩

theorem eqTable (v v' : Value) (T : Tb) (w : World) (h1 : RdTb w w.heap.size v T) (h2 : RdTb w w.heap.size v' T) (hn : T.tot ≤ 140737488355328) :
    Calls Tryd.prog 13 #[v, v'] w fun e w' => e = .returned (.bool true) ∧ Below w.heap.size w w' := by
  have hn1 : T.l.length ≤ 140737488355328 := by unfold Tb.tot at hn; omega
  have hn2 : T.r.length ≤ 140737488355328 := by unfold Tb.tot at hn; omega
  obtain ⟨A, c, A', c', rfl, r1, r2⟩ := h1
  obtain ⟨D, d, D', d', rfl, r3, r4⟩ := h2
  go_enter Tryd.func13, Tryd.ntmps13
  go_wp2_with fail
  refine (eqExitS A D T.l c d _ (r1.up (by repeat (first | exact Below.refl _ _ | exact Since.out (by assumption) | refine Below.alloc ?_ (by first | omega | (simp only [sz_alloc, sz_set, sz_drew, sz_drewN]; omega) | (simp only [sz_alloc, sz_set, sz_drew, sz_drewN] at *; omega)) _ | refine Below.setCell ?_ (by first | omega | (simp only [sz_alloc, sz_set, sz_drew, sz_drewN]; omega) | (simp only [sz_alloc, sz_set, sz_drew, sz_drewN] at *; omega)) _ | refine Below.drew ?_ | refine below_drewN_ ?_ _))) (r3.up (by repeat (first | exact Below.refl _ _ | exact Since.out (by assumption) | refine Below.alloc ?_ (by first | omega | (simp only [sz_alloc, sz_set, sz_drew, sz_drewN]; omega) | (simp only [sz_alloc, sz_set, sz_drew, sz_drewN] at *; omega)) _ | refine Below.setCell ?_ (by first | omega | (simp only [sz_alloc, sz_set, sz_drew, sz_drewN]; omega) | (simp only [sz_alloc, sz_set, sz_drew, sz_drewN] at *; omega)) _ | refine Below.drew ?_ | refine below_drewN_ ?_ _))) hn1).mono ?_
  rintro e w1 ⟨rfl, hb1⟩
  have HBw1 : Since w w1 := ⟨below_cat (by repeat (first | exact Below.refl _ _ | exact Since.out (by assumption) | refine Below.alloc ?_ (by first | omega | (simp only [sz_alloc, sz_set, sz_drew, sz_drewN]; omega) | (simp only [sz_alloc, sz_set, sz_drew, sz_drewN] at *; omega)) _ | refine Below.setCell ?_ (by first | omega | (simp only [sz_alloc, sz_set, sz_drew, sz_drewN]; omega) | (simp only [sz_alloc, sz_set, sz_drew, sz_drewN] at *; omega)) _ | refine Below.drew ?_ | refine below_drewN_ ?_ _)) hb1 (by first | omega | (simp only [sz_alloc, sz_set, sz_drew, sz_drewN]; omega) | (simp only [sz_alloc, sz_set, sz_drew, sz_drewN] at *; omega))⟩; have hzw1 := hb1.size; (try simp only [sz_alloc, sz_set, sz_drew, sz_drewN] at hzw1); have hcw1k0 := fun o => hb1.cell (p := ⟨w.heap.size, o, none⟩) (by first | omega | (simp only [sz_alloc, sz_set, sz_drew, sz_drewN]; omega) | (simp only [sz_alloc, sz_set, sz_drew, sz_drewN] at *; omega)); have hfw1k0 := fun o => hb1.frozen (p := ⟨w.heap.size, o, none⟩) (by first | omega | (simp only [sz_alloc, sz_set, sz_drew, sz_drewN]; omega) | (simp only [sz_alloc, sz_set, sz_drew, sz_drewN] at *; omega)); have hlw1k0 : w.heap.size < w1.heap.size := (by first | omega | (simp only [sz_alloc, sz_set, sz_drew, sz_drewN]; omega) | (simp only [sz_alloc, sz_set, sz_drew, sz_drewN] at *; omega)); have hcw1k1 := fun o => hb1.cell (p := ⟨w.heap.size + 1, o, none⟩) (by first | omega | (simp only [sz_alloc, sz_set, sz_drew, sz_drewN]; omega) | (simp only [sz_alloc, sz_set, sz_drew, sz_drewN] at *; omega)); have hfw1k1 := fun o => hb1.frozen (p := ⟨w.heap.size + 1, o, none⟩) (by first | omega | (simp only [sz_alloc, sz_set, sz_drew, sz_drewN]; omega) | (simp only [sz_alloc, sz_set, sz_drew, sz_drewN] at *; omega)); have hlw1k1 : w.heap.size + 1 < w1.heap.size := (by first | omega | (simp only [sz_alloc, sz_set, sz_drew, sz_drewN]; omega) | (simp only [sz_alloc, sz_set, sz_drew, sz_drewN] at *; omega))
  go_wp2_with fail
  refine (eqExitS A' D' T.r c' d' _ (r2.up (by repeat (first | exact Below.refl _ _ | exact Since.out (by assumption) | refine Below.alloc ?_ (by first | omega | (simp only [sz_alloc, sz_set, sz_drew, sz_drewN]; omega) | (simp only [sz_alloc, sz_set, sz_drew, sz_drewN] at *; omega)) _ | refine Below.setCell ?_ (by first | omega | (simp only [sz_alloc, sz_set, sz_drew, sz_drewN]; omega) | (simp only [sz_alloc, sz_set, sz_drew, sz_drewN] at *; omega)) _ | refine Below.drew ?_ | refine below_drewN_ ?_ _))) (r4.up (by repeat (first | exact Below.refl _ _ | exact Since.out (by assumption) | refine Below.alloc ?_ (by first | omega | (simp only [sz_alloc, sz_set, sz_drew, sz_drewN]; omega) | (simp only [sz_alloc, sz_set, sz_drew, sz_drewN] at *; omega)) _ | refine Below.setCell ?_ (by first | omega | (simp only [sz_alloc, sz_set, sz_drew, sz_drewN]; omega) | (simp only [sz_alloc, sz_set, sz_drew, sz_drewN] at *; omega)) _ | refine Below.drew ?_ | refine below_drewN_ ?_ _))) hn2).mono ?_
  rintro e w2 ⟨rfl, hb2⟩
  have HBw2 : Since w w2 := ⟨below_cat (by repeat (first | exact Below.refl _ _ | exact Since.out (by assumption) | refine Below.alloc ?_ (by first | omega | (simp only [sz_alloc, sz_set, sz_drew, sz_drewN]; omega) | (simp only [sz_alloc, sz_set, sz_drew, sz_drewN] at *; omega)) _ | refine Below.setCell ?_ (by first | omega | (simp only [sz_alloc, sz_set, sz_drew, sz_drewN]; omega) | (simp only [sz_alloc, sz_set, sz_drew, sz_drewN] at *; omega)) _ | refine Below.drew ?_ | refine below_drewN_ ?_ _)) hb2 (by first | omega | (simp only [sz_alloc, sz_set, sz_drew, sz_drewN]; omega) | (simp only [sz_alloc, sz_set, sz_drew, sz_drewN] at *; omega))⟩; have hzw2 := hb2.size; (try simp only [sz_alloc, sz_set, sz_drew, sz_drewN] at hzw2); have hcw2k0 := fun o => hb2.cell (p := ⟨w.heap.size, o, none⟩) (by first | omega | (simp only [sz_alloc, sz_set, sz_drew, sz_drewN]; omega) | (simp only [sz_alloc, sz_set, sz_drew, sz_drewN] at *; omega)); have hfw2k0 := fun o => hb2.frozen (p := ⟨w.heap.size, o, none⟩) (by first | omega | (simp only [sz_alloc, sz_set, sz_drew, sz_drewN]; omega) | (simp only [sz_alloc, sz_set, sz_drew, sz_drewN] at *; omega)); have hlw2k0 : w.heap.size < w2.heap.size := (by first | omega | (simp only [sz_alloc, sz_set, sz_drew, sz_drewN]; omega) | (simp only [sz_alloc, sz_set, sz_drew, sz_drewN] at *; omega)); have hcw2k1 := fun o => hb2.cell (p := ⟨w.heap.size + 1, o, none⟩) (by first | omega | (simp only [sz_alloc, sz_set, sz_drew, sz_drewN]; omega) | (simp only [sz_alloc, sz_set, sz_drew, sz_drewN] at *; omega)); have hfw2k1 := fun o => hb2.frozen (p := ⟨w.heap.size + 1, o, none⟩) (by first | omega | (simp only [sz_alloc, sz_set, sz_drew, sz_drewN]; omega) | (simp only [sz_alloc, sz_set, sz_drew, sz_drewN] at *; omega)); have hlw2k1 : w.heap.size + 1 < w2.heap.size := (by first | omega | (simp only [sz_alloc, sz_set, sz_drew, sz_drewN]; omega) | (simp only [sz_alloc, sz_set, sz_drew, sz_drewN] at *; omega))
  go_wp2
  go_ret
  exact ⟨rfl, HBw2.out⟩

theorem OwnTb.rd {w : World} {v : Value} {T : Tb} {bs : List Nat} {B : Nat} (h : OwnTb w v T bs) (hB : ∀ g ∈ bs, g < B) : RdTb w B v T := by
  obtain ⟨A, c, A', c', b1, b2, e, o1, o2, rfl⟩ := h
  exact ⟨A, c, A', c', e, o1.rd fun g hg => hB g (List.mem_append_left _ hg), o2.rd fun g hg => hB g (List.mem_append_right _ hg)⟩
theorem OwnTb.keep {w w' : World} {v : Value} {T : Tb} {bs : List Nat} (h : OwnTb w v T bs) (hk : ∀ g ∈ bs, w'.heap[g]? = w.heap[g]?) : OwnTb w' v T bs := by
  obtain ⟨A, c, A', c', b1, b2, e, o1, o2, rfl⟩ := h
  exact ⟨A, c, A', c', b1, b2, e, o1.keep fun g hg => hk g (List.mem_append_left _ hg), o2.keep fun g hg => hk g (List.mem_append_right _ hg), rfl⟩
theorem RdTb.up {w w' : World} {v : Value} {T : Tb} (h : RdTb w w.heap.size v T) (hb : Below w.heap.size w w') : RdTb w' w'.heap.size v T := by
  obtain ⟨A, c, A', c', e, r1, r2⟩ := h
  exact ⟨A, c, A', c', e, r1.up hb, r2.up hb⟩

/-- It returns k, and the table is marked; only its own blocks have been written. -/
theorem markTable (v : Value) (T : Tb) (k0 : Nat) (bs : List Nat) (w : World) (h : OwnTb w v T bs) (hd : bs.Nodup) (hlt : ∀ g ∈ bs, g < w.heap.size) (hk0 : k0 ≤ 2305843009213693952) (hn : T.tot ≤ 1048576) :
    Calls Tryd.prog 14 #[v, .int .i64 k0] w fun e w' => e = .returned (.int .i64 ((k0 + T.cnt : Nat) : Int)) ∧ OwnTb w' v (T.mark k0) bs ∧ OnlyB bs w w' := by
  have hn1 : T.l.length ≤ 1048576 := by unfold Tb.tot at hn; omega
  have hn2 : T.r.length ≤ 1048576 := by unfold Tb.tot at hn; omega
  obtain ⟨A, c, A', c', b1, b2, rfl, o1, o2, rfl⟩ := h
  rw [List.nodup_append] at hd
  obtain ⟨_, _, hdis⟩ := hd
  have hc1 : cntS T.l ≤ 2 * T.l.length := cntS_pairs T.l
  go_enter Tryd.func14, Tryd.ntmps14
  go_wp2_with fail
  refine (markExitS A T.l c k0 b1 _ (o1.below (by repeat (first | exact Below.refl _ _ | exact Since.out (by assumption) | refine Below.alloc ?_ (by first | omega | (simp only [sz_alloc, sz_set, sz_drew, sz_drewN]; omega) | (simp only [sz_alloc, sz_set, sz_drew, sz_drewN] at *; omega)) _ | refine Below.setCell ?_ (by first | omega | (simp only [sz_alloc, sz_set, sz_drew, sz_drewN]; omega) | (simp only [sz_alloc, sz_set, sz_drew, sz_drewN] at *; omega)) _ | refine Below.drew ?_ | refine below_drewN_ ?_ _)) fun g hg => hlt g (List.mem_append_left _ hg)) (by omega) hn1).mono ?_
  rintro e w1 ⟨rfl, p1, q1⟩
  have hzw1 := q1.size; (try simp only [sz_alloc, sz_set, sz_drew, sz_drewN] at hzw1); have hcw1k0 := fun o => World.cell?_of_block (a := ⟨w.heap.size, o, none⟩) (q1.block (w.heap.size) (by first | omega | (simp only [sz_alloc, sz_set, sz_drew, sz_drewN]; omega) | (simp only [sz_alloc, sz_set, sz_drew, sz_drewN] at *; omega)) (fun hm => by have := hlt (w.heap.size) (by simp [hm]); omega)); have hfw1k0 := fun o => World.frozen?_of_block (a := ⟨w.heap.size, o, none⟩) (q1.block (w.heap.size) (by first | omega | (simp only [sz_alloc, sz_set, sz_drew, sz_drewN]; omega) | (simp only [sz_alloc, sz_set, sz_drew, sz_drewN] at *; omega)) (fun hm => by have := hlt (w.heap.size) (by simp [hm]); omega))
  go_wp2_with fail
  have o2' : OwnS w1 A' T.r b2 := (o2.below (w' := w.alloc (Obj.cells #[Value.slice A T.l.length c, Value.slice A' T.r.length c'] 24)) (by repeat (first | exact Below.refl _ _ | exact Since.out (by assumption) | refine Below.alloc ?_ (by first | omega | (simp only [sz_alloc, sz_set, sz_drew, sz_drewN]; omega) | (simp only [sz_alloc, sz_set, sz_drew, sz_drewN] at *; omega)) _ | refine Below.setCell ?_ (by first | omega | (simp only [sz_alloc, sz_set, sz_drew, sz_drewN]; omega) | (simp only [sz_alloc, sz_set, sz_drew, sz_drewN] at *; omega)) _ | refine Below.drew ?_ | refine below_drewN_ ?_ _)) fun g hg => hlt g (List.mem_append_right _ hg)).only q1 (fun g hg => ⟨fun hm => hdis g hm g hg rfl, by have := hlt g (List.mem_append_right _ hg); simp; omega⟩)
  refine (markExitS A' T.r c' (k0 + cntS T.l) b2 _ o2' (by omega) hn2).mono ?_
  rintro e w2 ⟨rfl, p2, q2⟩
  have hzw2 := q2.size; (try simp only [sz_alloc, sz_set, sz_drew, sz_drewN] at hzw2); have hcw2k0 := fun o => World.cell?_of_block (a := ⟨w.heap.size, o, none⟩) (q2.block (w.heap.size) (by first | omega | (simp only [sz_alloc, sz_set, sz_drew, sz_drewN]; omega) | (simp only [sz_alloc, sz_set, sz_drew, sz_drewN] at *; omega)) (fun hm => by have := hlt (w.heap.size) (by simp [hm]); omega)); have hfw2k0 := fun o => World.frozen?_of_block (a := ⟨w.heap.size, o, none⟩) (q2.block (w.heap.size) (by first | omega | (simp only [sz_alloc, sz_set, sz_drew, sz_drewN]; omega) | (simp only [sz_alloc, sz_set, sz_drew, sz_drewN] at *; omega)) (fun hm => by have := hlt (w.heap.size) (by simp [hm]); omega))
  go_wp2
  go_ret
  have p1' := p1.only q2 (fun g hg => ⟨fun hm => hdis g hg g hm rfl, by have := hlt g (List.mem_append_left _ hg); omega⟩)
  exact ⟨ret_int (by unfold Tb.cnt; push_cast; omega), ⟨A, c, A', c', b1, b2, by rw [Tb.mark, mkS_length, mkS_length], p1', p2, rfl⟩,
    (((OnlyB.refl _ w).alloc _).trans (q1.mono fun g hg => List.mem_append_left _ hg)).trans (q2.mono fun g hg => List.mem_append_right _ hg)⟩

theorem heldTable (v : Value) (T : Tb) (k0 : Nat) (w : World) (h : RdTb w w.heap.size v (T.mark k0)) (hk0 : k0 ≤ 2305843009213693952) (hn : T.tot ≤ 1048576) :
    Calls Tryd.prog 15 #[v, .int .i64 k0] w fun e w' => e = .returned (.int .i64 ((k0 + T.cnt : Nat) : Int)) ∧ Below w.heap.size w w' := by
  have hn1 : T.l.length ≤ 1048576 := by unfold Tb.tot at hn; omega
  have hn2 : T.r.length ≤ 1048576 := by unfold Tb.tot at hn; omega
  have hc1 : cntS T.l ≤ 2 * T.l.length := cntS_pairs T.l
  obtain ⟨A, c, A', c', e, r1, r2⟩ := h
  rw [Tb.mark, mkS_length, mkS_length] at e
  subst e
  go_enter Tryd.func15, Tryd.ntmps15
  go_wp2_with fail
  refine (heldExitS A T.l c k0 _ (r1.up (by repeat (first | exact Below.refl _ _ | exact Since.out (by assumption) | refine Below.alloc ?_ (by first | omega | (simp only [sz_alloc, sz_set, sz_drew, sz_drewN]; omega) | (simp only [sz_alloc, sz_set, sz_drew, sz_drewN] at *; omega)) _ | refine Below.setCell ?_ (by first | omega | (simp only [sz_alloc, sz_set, sz_drew, sz_drewN]; omega) | (simp only [sz_alloc, sz_set, sz_drew, sz_drewN] at *; omega)) _ | refine Below.drew ?_ | refine below_drewN_ ?_ _))) (by omega) hn1).mono ?_
  rintro e w1 ⟨rfl, rfl⟩
  go_wp2_with fail
  refine (heldExitS A' T.r c' (k0 + cntS T.l) _ (r2.up (by repeat (first | exact Below.refl _ _ | exact Since.out (by assumption) | refine Below.alloc ?_ (by first | omega | (simp only [sz_alloc, sz_set, sz_drew, sz_drewN]; omega) | (simp only [sz_alloc, sz_set, sz_drew, sz_drewN] at *; omega)) _ | refine Below.setCell ?_ (by first | omega | (simp only [sz_alloc, sz_set, sz_drew, sz_drewN]; omega) | (simp only [sz_alloc, sz_set, sz_drew, sz_drewN] at *; omega)) _ | refine Below.drew ?_ | refine below_drewN_ ?_ _))) (by omega) hn2).mono ?_
  rintro e w2 ⟨rfl, rfl⟩
  go_wp2
  go_ret
  exact ⟨ret_int (by unfold Tb.cnt; push_cast; omega), (by repeat (first | exact Below.refl _ _ | exact Since.out (by assumption) | refine Below.alloc ?_ (by first | omega | (simp only [sz_alloc, sz_set, sz_drew, sz_drewN]; omega) | (simp only [sz_alloc, sz_set, sz_drew, sz_drewN] at *; omega)) _ | refine Below.setCell ?_ (by first | omega | (simp only [sz_alloc, sz_set, sz_drew, sz_drewN]; omega) | (simp only [sz_alloc, sz_set, sz_drew, sz_drewN] at *; omega)) _ | refine Below.drew ?_ | refine below_drewN_ ?_ _))⟩
theorem OwnTb.fresh {w' : World} {v : Value} {T : Tb} {bs : List Nat} {B : Nat} (h : OwnTb w' v T bs) (hf : Fresh B w' bs) : RdTb w' w'.heap.size v T := h.rd fun g hg => (hf.2 g hg).2
theorem OwnTb.below {w w' : World} {v : Value} {T : Tb} {bs : List Nat} {B : Nat} (h : OwnTb w v T bs) (hb : Below B w w') (hlt : ∀ g ∈ bs, g < B) : OwnTb w' v T bs := h.keep fun g hg => hb.block g (hlt g hg)
theorem Tb.cnt_le (T : Tb) : T.cnt ≤ 2 * T.tot := by
  unfold Tb.cnt Tb.tot
  have := cntS_pairs T.l
  have := cntS_pairs T.r
  omega
theorem OwnTb.aside {w w' : World} {v : Value} {T : Tb} {bs : List Nat} {n : Nat} (h : OwnTb w v T bs) (ho : OnlyB [n] w w') (hd : ∀ g ∈ bs, g < w.heap.size ∧ g ≠ n) : RdTb w' w'.heap.size v T :=
  (h.keep fun g hg => ho.block g (hd g hg).1 (by simpa using (hd g hg).2)).rd fun g hg => Nat.lt_of_lt_of_le (hd g hg).1 ho.size
end Go.Proofs.YtelmooaenodfaaaDoor
