/-
  Contracts of slices.Min and slices.Max of numbers. Conditions: those in each statement.
-/
import Derived.Test.YtepjgaakihhngaaModS
import Derived.Laws.Small
set_option linter.unusedVariables false
set_option linter.unusedSimpArgs false
set_option maxRecDepth 100000
set_option maxHeartbeats 1000000
namespace Go.Proofs.Ytepjgaakihhngaa
open Go.RowKit

theorem slicesMin (A : Option Addr) (xs : List Int) (c : Nat) (w : World) (h1 : RdS w w.heap.size A xs) (hn : 0 < xs.length) (hl : xs.length ≤ 1048576) :
    Calls Try.prog 81 #[.slice A xs.length c] w fun e w' => w = w' ∧ ∃ m, e = .returned (.int .i64 m) ∧ m ∈ xs ∧ ∀ x ∈ xs, m ≤ x := by
  obtain ⟨x0, hx0⟩ := get_some hn
  obtain ⟨b, o, rfl, hb, c0⟩ := h1.int hx0
  have HX0 := Lib.hid hx0
  clear hx0
  have n1 : ¬ (xs.length : Int) < 1 := by omega
  have n0 : (0 : Int) < (xs.length : Int) := by omega
  rw [Nat.add_zero] at c0
  go_enter Try.func81, Try.ntmps81
  go_wp2
  go_loop [3, 4] (fun mv i => ∃ (k : Nat) (m : Int), 0 < k ∧ k ≤ xs.length ∧ i = .int .i64 k ∧ mv = .int .i64 m ∧ Hid (m ∈ xs ∧ ∀ (j : Nat) (x : Int), j < k → xs[j]? = some x → m ≤ x)) (fun _ i => xs.length - (intOf i).toNat)
  case atStart => exact ⟨1, x0, Nat.one_pos, by omega, rfl, rfl, Lib.hid ⟨List.mem_of_getElem? HX0.out, fun j x hj hx => by (have hj0 : j = 0 := by omega); subst hj0; rw [HX0.out] at hx; injection hx with hx; omega⟩⟩
  case round =>
    obtain ⟨k, m, hk0, hk, rfl, rfl, H⟩ := hrel
    by_cases hlt : k < xs.length
    · obtain ⟨x, hx⟩ := get_some hlt
      obtain ⟨_, _, ⟨⟩, _, cx⟩ := h1.int hx
      have i1 : (0 : Int) ≤ (k : Int) := by omega
      have i2 : (k : Int) < (xs.length : Int) := by omega
      have HX := Lib.hid hx
      clear hx
      have hmx : ∀ (w : World) (ts : Array TypeId) (t : TypeId), (Builtin.min_ ts t #[.int .i64 m, .int .i64 x]).run Try.prog w = .ok (.int .i64 (min m x)) w := fun w ts t => by
        rw [run_min_int2]
        congr 2
        omega
      go_wp2
      go_round
      case rel =>
        refine ⟨k + 1, min m x, by omega, by omega, by go_num, by first | rfl | (congr 1; omega), Lib.hid ⟨?_, fun j y hj hy => ?_⟩⟩
        · by_cases hc : x < m
          · rw [show min m x = x by omega]; exact List.mem_of_getElem? HX.out
          · rw [show min m x = m by omega]; exact H.out.1
        · rcases Nat.lt_or_eq_of_le (Nat.le_of_lt_succ hj) with h | rfl
          · have := H.out.2 j y h hy; omega
          · rw [HX.out] at hy; injection hy with hy; omega
      case measure => simp [intOf]; omega
    · obtain rfl : k = xs.length := by omega
      go_wp2
      go_ret
      exact ⟨rfl, m, rfl, H.out.1, fun x hx => by
        obtain ⟨j, hj⟩ := List.getElem?_of_mem hx
        exact H.out.2 j x (List.getElem?_eq_some_iff.1 hj).1 hj⟩

theorem slicesMax (A : Option Addr) (xs : List Int) (c : Nat) (w : World) (h1 : RdS w w.heap.size A xs) (hn : 0 < xs.length) (hl : xs.length ≤ 1048576) :
    Calls Try.prog 82 #[.slice A xs.length c] w fun e w' => w = w' ∧ ∃ m, e = .returned (.int .i64 m) ∧ m ∈ xs ∧ ∀ x ∈ xs, x ≤ m := by
  obtain ⟨x0, hx0⟩ := get_some hn
  obtain ⟨b, o, rfl, hb, c0⟩ := h1.int hx0
  have HX0 := Lib.hid hx0
  clear hx0
  have n1 : ¬ (xs.length : Int) < 1 := by omega
  have n0 : (0 : Int) < (xs.length : Int) := by omega
  rw [Nat.add_zero] at c0
  go_enter Try.func82, Try.ntmps82
  go_wp2
  go_loop [3, 4] (fun mv i => ∃ (k : Nat) (m : Int), 0 < k ∧ k ≤ xs.length ∧ i = .int .i64 k ∧ mv = .int .i64 m ∧ Hid (m ∈ xs ∧ ∀ (j : Nat) (x : Int), j < k → xs[j]? = some x → x ≤ m)) (fun _ i => xs.length - (intOf i).toNat)
  case atStart => exact ⟨1, x0, Nat.one_pos, by omega, rfl, rfl, Lib.hid ⟨List.mem_of_getElem? HX0.out, fun j x hj hx => by (have hj0 : j = 0 := by omega); subst hj0; rw [HX0.out] at hx; injection hx with hx; omega⟩⟩
  case round =>
    obtain ⟨k, m, hk0, hk, rfl, rfl, H⟩ := hrel
    by_cases hlt : k < xs.length
    · obtain ⟨x, hx⟩ := get_some hlt
      obtain ⟨_, _, ⟨⟩, _, cx⟩ := h1.int hx
      have i1 : (0 : Int) ≤ (k : Int) := by omega
      have i2 : (k : Int) < (xs.length : Int) := by omega
      have HX := Lib.hid hx
      clear hx
      have hmx : ∀ (w : World) (ts : Array TypeId) (t : TypeId), (Builtin.max_ ts t #[.int .i64 m, .int .i64 x]).run Try.prog w = .ok (.int .i64 (max m x)) w := fun w ts t => by
        rw [run_max_int2]
        congr 2
        omega
      go_wp2
      go_round
      case rel =>
        refine ⟨k + 1, max m x, by omega, by omega, by go_num, by first | rfl | (congr 1; omega), Lib.hid ⟨?_, fun j y hj hy => ?_⟩⟩
        · by_cases hc : m < x
          · rw [show max m x = x by omega]; exact List.mem_of_getElem? HX.out
          · rw [show max m x = m by omega]; exact H.out.1
        · rcases Nat.lt_or_eq_of_le (Nat.le_of_lt_succ hj) with h | rfl
          · have := H.out.2 j y h hy; omega
          · rw [HX.out] at hy; injection hy with hy; omega
      case measure => simp [intOf]; omega
    · obtain rfl : k = xs.length := by omega
      go_wp2
      go_ret
      exact ⟨rfl, m, rfl, H.out.1, fun x hx => by
        obtain ⟨j, hj⟩ := List.getElem?_of_mem hx
        exact H.out.2 j x (List.getElem?_eq_some_iff.1 hj).1 hj⟩
end Go.Proofs.Ytepjgaakihhngaa
