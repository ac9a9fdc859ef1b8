/-
  Contracts of the laws' own helpers for rows of pairs (Exit): sizes, copies, comparisons, marks. Conditions: those in each statement.
-/
import Derived.Test.YtepjgaakihhngaaMem
import Derived.Test.YtepjgaakihhngaaRows
import Derived.ProofKit
import Derived.StillTailTactics
import Derived.Deep.RegionWith
set_option linter.unusedVariables false
set_option linter.unusedSimpArgs false
set_option maxRecDepth 100000
set_option maxHeartbeats 1000000
namespace Go.Proofs.Ytepjgaakihhngaa
open Go.RowKit

theorem infoExit : (Try.prog.info? 141).map (fun i => (i.zero, i.size, i.bytes)) = some (some (.agg #[.int .i64 0, .int .i64 0]), 2, 16) := by kernel_rfl
/-- The model's == at the pairs' type. -/
theorem eqGuardExit : Try.prog.eqGuardType Try.prog.depth 141 = false := by kernel_rfl
theorem equalExit (x y : Int × Int) (W : World) : (Op.equalIn 10000 141 (.agg #[.int .i64 x.1, .int .i64 x.2]) (.agg #[.int .i64 y.1, .int .i64 y.2])).run Try.prog W = .ok (decide (x = y)) W := by
  have hS : Try.prog.underlying 141 = some (.struct (Try.prog.fieldsOf 141)) := by kernel_rfl
  have hp : Try.prog.stoodInHeld 141 = false := by kernel_rfl
  rw [show (10000 : Nat) = 9999 + 1 from rfl, run_equalIn_agg W 9999 _ _ _ hS hp]
  obtain ⟨a, b⟩ := x
  obtain ⟨c, d⟩ := y
  simp [Program.fieldsOf, Try.underlying141, Try.underlying2, Op.eqFields, part, run_equalIn_int, go_sem]
  by_cases h1 : a = c <;> by_cases h2 : b = d <;> simp [h1, h2]
theorem toExit (x : Int × Int) (w : World) :
    Calls Try.prog 144 #[.agg #[.int .i64 x.1, .int .i64 x.2]] w fun e w' => e = .returned (.agg #[.int .i64 x.1, .int .i64 x.2]) ∧ Below w.heap.size w w' := by
  obtain ⟨a, b⟩ := x
  go_enter Try.func144, Try.ntmps144
  go_wp2
  exact bodyPost_ret (v := .agg #[.int .i64 a, .int .i64 b]) (by simp [results, Try.results144, go_sem]) rfl ⟨rfl, (((Below.refl _ _).alloc (Nat.le_refl _) _).alloc (by simp) _).alloc (by simp; omega) _⟩

theorem toExitS (A : Option Addr) (xs : List (Int × Int)) (c : Nat) (w : World) (h1 : RdS w w.heap.size A xs) (hn : xs.length ≤ 1048576) :
    Calls Try.prog 103 #[.slice A xs.length c] w fun e w' => e = .returned (.slice (some ⟨w.heap.size, 0, none⟩) xs.length xs.length) ∧ OwnS w' (some ⟨w.heap.size, 0, none⟩) xs [w.heap.size] ∧ Below w.heap.size w w' ∧ w.heap.size < w'.heap.size := by
  have hmk := make_full (P := Try.prog) 77 141 _ _ _ _ Try.underlying77 infoExit rfl xs.length (by omega) (by omega)
  go_enter Try.func103, Try.ntmps103
  go_wp2
  go_loopw [4] (fun i wr => ∃ (k : Nat) (cur : Array Value), k ≤ xs.length ∧ i = .int .i64 k ∧ wr.heap[w.heap.size]? = some (.cells cur 141 (0, 0)) ∧ Hid (cur.size = xs.length * 2 ∧ Els wr (xs.take k) (cur.toList.take (k * 2)) []) ∧ Below w.heap.size w wr)
    (fun i _ => xs.length - (intOf i).toNat)
  case atStart => exact ⟨0, _, Nat.zero_le _, rfl, heap_alloc_new w _, Lib.hid ⟨size_madeCells _ _, by simp [Els]⟩, (Below.refl _ _).alloc (Nat.le_refl _) _⟩
  case round =>
    obtain ⟨k, cur, hk, rfl, hblk, hcur, hb⟩ := hrel
    by_cases hlt : k < xs.length
    · obtain ⟨x, hx⟩ := get_some hlt
      obtain ⟨b, o, rfl, hbb, c1, c2⟩ := (h1.below hb (Nat.le_refl _)).pair hx
      have HX := Lib.hid hx
      clear hx
      have hg : w.heap.size < wr.heap.size := (Array.getElem?_eq_some_iff.1 hblk).1
      have HBLK := Lib.hid hblk
      clear hblk
      go_wp2_with (go_at_call 144; refine (toExit x _).mono ?_; rintro e w1 ⟨rfl, hb1⟩; have hblk1 := Lib.hid ((hb1.block _ hg).trans HBLK.out); obtain ⟨u0, hu0⟩ := blk_cell (i := k * 2) hblk1.out (by have := hcur.out.1; omega); obtain ⟨u1, hu1⟩ := blk_cell (i := k * 2 + 1) hblk1.out (by have := hcur.out.1; omega); have hf0 := blk_free (i := k * 2) hblk1.out; have hf1 := blk_free (i := k * 2 + 1) hblk1.out)
      go_roundw
      case rel =>
        have hz := hcur.out.1
        refine ⟨k + 1, _, by omega, by go_num, blk_set (blk_set hblk1.out _) _, Lib.hid ⟨by simpa using hz, ?_⟩, ((below_cat hb hb1 hb.size).setCell (Nat.le_refl _) _).setCell (Nat.le_refl _) _⟩
        rw [fill2 _ _ (by omega), take_snoc HX.out]
        exact (hcur.out.2.keep (by simp)).snoc (b := []) ⟨rfl, rfl⟩
      case measure => simp [intOf]; omega
    · go_wp2
      go_ret
      obtain ⟨hz, he⟩ := hcur.out
      rw [List.take_of_length_le (by omega)] at he
      exact ⟨rfl, OwnS.of hblk he, hb, (Array.getElem?_eq_some_iff.1 hblk).1⟩

theorem eqExit (x : Int × Int) (w : World) :
    Calls Try.prog 152 #[.agg #[.int .i64 x.1, .int .i64 x.2], .agg #[.int .i64 x.1, .int .i64 x.2]] w fun e w' => e = .returned (.bool true) ∧ Below w.heap.size w w' := by
  obtain ⟨a, b⟩ := x
  go_enter Try.func152, Try.ntmps152
  go_wp2
  go_ret
  exact ⟨rfl, ((Below.refl _ _).alloc (Nat.le_refl _) _).alloc (by simp) _⟩

theorem eqExitS (A A' : Option Addr) (xs : List (Int × Int)) (c c' : Nat) (w : World) (h1 : RdS w w.heap.size A xs) (h2 : RdS w w.heap.size A' xs) (hn : xs.length ≤ 140737488355328) :
    Calls Try.prog 108 #[.slice A xs.length c, .slice A' xs.length c'] w fun e w' => e = .returned (.bool true) ∧ Below w.heap.size w w' := by
  go_enter Try.func108, Try.ntmps108
  go_wp2
  go_loopw [5] (fun i wr => ∃ k : Nat, k ≤ xs.length ∧ i = .int .i64 k ∧ Below w.heap.size w wr) (fun i _ => xs.length - (intOf i).toNat)
  case atStart => exact ⟨0, Nat.zero_le _, rfl, Below.refl _ _⟩
  case round =>
    obtain ⟨k, hk, rfl, hb⟩ := hrel
    by_cases hlt : k < xs.length
    · obtain ⟨x, hx⟩ := get_some hlt
      obtain ⟨b, o, rfl, hbb, c1, c2⟩ := (h1.below hb (Nat.le_refl _)).pair hx
      obtain ⟨b', o', rfl, hbb', c3, c4⟩ := (h2.below hb (Nat.le_refl _)).pair hx
      have i1 : (0 : Int) ≤ (k : Int) := by omega
      have i2 : (k : Int) < (xs.length : Int) := by omega
      clear hx
      go_wp2
      go_still_tail 8, (by kernel_rfl)
      go_wp2_with (go_at_call 152; refine (eqExit x _).mono ?_; rintro e w1 ⟨rfl, hb1⟩)
      go_roundw
      case rel => exact ⟨k + 1, by omega, by go_num, below_cat hb.drew hb1 hb.size⟩
      case measure => simp [intOf]; omega
    · go_wp2
      go_ret
      exact ⟨rfl, hb⟩

/-- What the marking of a row of pairs does. -/
theorem szExitS (A : Option Addr) (n c : Nat) (left : Int) (w : World) (hn : (n : Int) ≤ 9223372036854775807) (h1 : 0 ≤ left) (h2 : left ≤ 1048576) :
    Calls Try.prog 100 #[.slice A n c, .int .i64 left] w (RetLeft left n w) := by
  go_enter Try.func100, Try.ntmps100
  go_wp2
  all_goals go_ret
  · exact ⟨_, rfl, .inl rfl, Below.refl _ _⟩
  · exact ⟨_, rfl, .inr ⟨by omega, by omega⟩, Below.refl _ _⟩

end Go.Proofs.Ytepjgaakihhngaa
