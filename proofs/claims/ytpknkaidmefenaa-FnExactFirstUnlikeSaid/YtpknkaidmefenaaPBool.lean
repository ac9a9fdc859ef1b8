/-
  Contracts of the laws' own helpers for []bool: sizes, copies, comparisons, marks. Conditions: those in each statement.
-/
import Derived.Test.YtpknkaidmefenaaMem
import Derived.Test.YtpknkaidmefenaaRows
import Derived.ProofKit
import Derived.StillTailTactics
import Derived.BigQuiet
set_option linter.unusedVariables false
set_option linter.unusedSimpArgs false
set_option maxRecDepth 100000
set_option maxHeartbeats 1000000
namespace Go.Proofs.Ytpknkaidmefenaa
open Go.RowKit

theorem infoBoolS : (Try.prog.info? 4).map (fun i => (i.zero, i.size, i.bytes)) = some (some (.bool false), 1, 1) := by kernel_rfl
def encBool (x : Bool) : List Value := [.bool x]
theorem ElsBoolS {w : World} : ∀ {xs : List Bool} {cs : List Value} {bs : List Nat}, Els w xs cs bs ↔ cs = xs.map (fun x => .bool x) ∧ bs = []
  | [], cs, bs => by simp [Els]
  | x :: xs, cs, bs => by
    simp only [Els, ElsBoolS, List.map_cons, Cod.own]
    constructor
    · rintro ⟨c1, c2, b1, b2, rfl, rfl, ⟨rfl, rfl⟩, rfl, rfl⟩
      exact ⟨rfl, rfl⟩
    · rintro ⟨rfl, rfl⟩
      exact ⟨_, _, [], [], rfl, rfl, ⟨rfl, rfl⟩, rfl, rfl⟩
theorem cntSBoolS : ∀ xs : List Bool, cntS xs = xs.length
  | [] => rfl
  | x :: xs => by rw [cntS, cntSBoolS xs, List.length_cons]; show 1 + _ = _; omega
theorem setBoolS {cur : Array Value} {m k : Nat} {P R : List Bool} {x : Bool} (y : Bool) (h : cur.toList.take m = (P ++ x :: R).map (fun x => .bool x)) (hP : P.length = k) :
    (cur.setIfInBounds k (.bool y)).toList.take m = (P ++ y :: R).map (fun x => .bool x) := by
  rw [Array.toList_setIfInBounds, List.take_set, h, List.map_append, List.map_append, List.map_cons, List.map_cons]
  rw [List.set_append_right _ _ (by simp [hP]), List.length_map, hP, Nat.sub_self]
  rfl

theorem mod3 (a b : Nat) : (((a : Int) + (b : Int)) % 3 == 0) = decide ((a + b) % 3 = 0) := by
  rw [Bool.eq_iff_iff]
  simp
  omega

theorem szBoolS (A : Option Addr) (n c : Nat) (left : Int) (w : World) (hn : (n : Int) ≤ 9223372036854775807) (h1 : 0 ≤ left) (h2 : left ≤ 1048576) :
    Calls Try.prog 17 #[.slice A n c, .int .i64 left] w (RetLeft left n w) := by
  go_enter Try.func17, Try.ntmps17
  go_wp2
  all_goals go_ret
  · exact ⟨_, rfl, .inl rfl, Below.refl _ _⟩
  · exact ⟨_, rfl, .inr ⟨by omega, by omega⟩, Below.refl _ _⟩

theorem toBoolS (A : Option Addr) (xs : List Bool) (c : Nat) (w : World) (h1 : RdS w w.heap.size A xs) (hn : xs.length ≤ 1048576) :
    Calls Try.prog 22 #[.slice A xs.length c] w fun e w' => e = .returned (.slice (some ⟨w.heap.size, 0, none⟩) xs.length xs.length) ∧ OwnS w' (some ⟨w.heap.size, 0, none⟩) xs [w.heap.size] ∧ Below w.heap.size w w' ∧ w.heap.size < w'.heap.size := by
  have hmk := make_full (P := Try.prog) 22 4 _ _ _ _ Try.underlying22 infoBoolS rfl xs.length (by omega) (by omega)
  go_enter Try.func22, Try.ntmps22
  go_wp2
  go_loopw [4] (fun i wr => ∃ (k : Nat) (cur : Array Value), k ≤ xs.length ∧ i = .int .i64 k ∧ wr.heap[w.heap.size]? = some (.cells cur 4 (0, 0)) ∧ Hid (cur.size = xs.length ∧ Els wr (xs.take k) (cur.toList.take k) []) ∧ Below w.heap.size w wr)
    (fun i _ => xs.length - (intOf i).toNat)
  case atStart => exact ⟨0, _, Nat.zero_le _, rfl, heap_alloc_new w _, Lib.hid ⟨by simp [size_madeCells], by simp [Els]⟩, (Below.refl _ _).alloc (Nat.le_refl _) _⟩
  case round =>
    obtain ⟨k, cur, hk, rfl, hblk, hcur, hb⟩ := hrel
    by_cases hlt : k < xs.length
    · obtain ⟨x, hx⟩ := get_some hlt
      obtain ⟨b, o, rfl, hbb, c1⟩ := (h1.below hb (Nat.le_refl _)).bool hx
      have HX := Lib.hid hx
      clear hx
      have HBLK := Lib.hid hblk
      clear hblk
      obtain ⟨u0, hu0⟩ := blk_cell (i := k) HBLK.out (by have := hcur.out.1; omega)
      have hf0 := blk_free (i := k) HBLK.out
      go_wp2
      go_roundw
      case rel =>
        have hz := hcur.out.1
        refine ⟨k + 1, _, by omega, by go_num, blk_set HBLK.out _, Lib.hid ⟨by simpa using hz, ?_⟩, hb.setCell (Nat.le_refl _) _⟩
        rw [fill1 _ (by omega), take_snoc HX.out]
        exact (hcur.out.2.keep (by simp)).snoc (b := []) ⟨rfl, rfl⟩
      case measure => simp [intOf]; omega
    · go_wp2
      go_ret
      obtain ⟨hz, he⟩ := hcur.out
      rw [List.take_of_length_le (by omega)] at he
      exact ⟨rfl, OwnS.of hblk he, hb, (Array.getElem?_eq_some_iff.1 hblk).1⟩

theorem eqBoolS (A A' : Option Addr) (xs : List Bool) (c c' : Nat) (w : World) (h1 : RdS w w.heap.size A xs) (h2 : RdS w w.heap.size A' xs) (hn : xs.length ≤ 140737488355328) :
    Calls Try.prog 28 #[.slice A xs.length c, .slice A' xs.length c'] w fun e w' => e = .returned (.bool true) ∧ Below w.heap.size w w' := by
  go_enter Try.func28, Try.ntmps28
  go_wp2
  go_loopw [5] (fun i wr => ∃ k : Nat, k ≤ xs.length ∧ i = .int .i64 k ∧ Drew w wr) (fun i _ => xs.length - (intOf i).toNat)
  case atStart => exact ⟨0, Nat.zero_le _, rfl, Drew.refl _⟩
  case round =>
    obtain ⟨k, hk, rfl, hb⟩ := hrel
    by_cases hlt : k < xs.length
    · obtain ⟨x, hx⟩ := get_some hlt
      obtain ⟨b, o, rfl, hbb, c1⟩ := (hb.rd h1).bool hx
      obtain ⟨b', o', rfl, hbb', c3⟩ := (hb.rd h2).bool hx
      have i1 : (0 : Int) ≤ (k : Int) := by omega
      have i2 : (k : Int) < (xs.length : Int) := by omega
      clear hx
      go_wp2
      go_quiet (fail)
      go_wp2
      go_roundw
      case rel => exact ⟨k + 1, by omega, by go_num, hb.more _⟩
      case measure => simp [intOf]; omega
    · go_wp2
      go_ret
      exact ⟨rfl, hb.below _⟩


end Go.Proofs.Ytpknkaidmefenaa
