/-
  Contracts of the program's and the reference's turned lists of exits. Conditions: those in each statement.
-/
import Derived.Test.YtollaaebheeakaaAcc
import Derived.Test.YtollaaebheeakaaVTab
set_option linter.unusedVariables false
set_option linter.unusedSimpArgs false
set_option maxRecDepth 100000
set_option maxHeartbeats 1000000
namespace Go.Proofs.Ytollaaebheeakaa
open Go.RowKit

/-- the exits seen from the other side -/
def turnL (xs : List (Int × Int)) : List (Int × Int) := xs.map fun x => (-x.1, x.2)
theorem turnL_snoc {xs : List (Int × Int)} {k : Nat} {x : Int × Int} (h : xs[k]? = some x) : turnL (xs.take (k + 1)) = turnL (xs.take k) ++ [(-x.1, x.2)] := by rw [take_snoc h]; simp [turnL]
theorem l03Turned (A : Option Addr) (xs : List (Int × Int)) (c : Nat) (w : World) (h1 : RdS w w.heap.size A xs) (hl : xs.length ≤ 1048576) (hs : ∀ x ∈ xs, -1 ≤ x.1 ∧ x.1 ≤ 1) :
    Calls Try.prog 43 #[.slice A xs.length c] w (RetOwn (turnL xs) w) := by
  have HS := Lib.hid hs
  clear hs
  go_enter Try.func43, Try.ntmps43
  go_wp2
  go_loopw [3, 4] (fun l i wr => ∃ (k : Nat) (D : Option Addr) (d : Nat), k ≤ xs.length ∧ i = .int .i64 k ∧ l = .slice D k d ∧ Hid (Acc wr w.heap.size 138 D k d (turnL (xs.take k)) []) ∧ Since w wr) (fun _ i _ => xs.length - (intOf i).toNat)
  case atStart => exact ⟨0, _, _, Nat.zero_le _, rfl, rfl, Lib.hid (Acc.empty_ (new_block rfl) (Nat.le_refl _)), ⟨(by repeat (first | exact Below.refl _ _ | refine Below.alloc ?_ (by first | omega | (simp only [sz_alloc, sz_set, sz_drew, sz_drewN]; omega) | (simp only [sz_alloc, sz_set, sz_drew, sz_drewN] at *; omega)) _ | refine Below.setCell ?_ (by first | omega | (simp only [sz_alloc, sz_set, sz_drew, sz_drewN]; omega) | (simp only [sz_alloc, sz_set, sz_drew, sz_drewN] at *; omega)) _ | refine Below.drew ?_ | refine below_drewN_ ?_ _))⟩⟩
  case round =>
    obtain ⟨k, D, d, hk, rfl, rfl, H, hsw⟩ := hrel
    have hzr := hsw.out.size
    by_cases hlt : k < xs.length
    · obtain ⟨x, hx⟩ := get_some hlt
      obtain ⟨x1, x2⟩ := HS.out x (List.mem_of_getElem? hx)
      obtain ⟨b, o, rfl, hbb, c1, c2⟩ := (h1.below hsw.out (Nat.le_refl _)).pair hx
      have i1 : (0 : Int) ≤ (k : Int) := by omega
      have i2 : (k : Int) < (xs.length : Int) := by omega
      have HX := Lib.hid hx
      have HW : Hid (IntKind.i64.wrap (-x.1) = -x.1) := Lib.hid (by rcases (show x.1 = -1 ∨ x.1 = 0 ∨ x.1 = 1 by omega) with h | h | h <;> rw [h] <;> rfl)
      clear hx
      go_wp2
      go_region_held3 (fun w' => w'.cell? ⟨b, o + k * 2, none⟩ = some (.int .i64 x.1) ∧ w'.cell? ⟨b, o + k * 2 + 1, none⟩ = some (.int .i64 x.2)) (go_keep)
        ((refine step_push (α := Int × Int) _ (by rfl) (.tmp 12) (.tmp 25) 26 (by rfl) w.heap.size 138 (.agg #[.int .i64 0, .int .i64 0]) 16 Try.underlying26 infoExit rfl D k d _ [] (by rfl) (H.out.alloc _).drew wr.heap.size 1 (by rfl) (-x.1, x.2) [.int .i64 (IntKind.i64.wrap (-x.1)), .int .i64 x.2] [] (by rw [HW.out]; exact ⟨rfl, rfl⟩) (fun j u hu => new_cells (w := wr) rfl j u hu) (fun u hu => by (simp at hu; rcases hu with rfl | rfl <;> rfl)) ⟨List.nodup_nil, fun g hg => by simp at hg⟩ (fun g hg => by simp at hg) (by omega) (by omega) (by first | omega | (simp only [sz_alloc, sz_set, sz_drew, sz_drewN]; omega) | (simp only [sz_alloc, sz_set, sz_drew, sz_drewN] at *; omega)) ?_; intro D1 d1 w1 hacc hgr hnew; have e1 := (hgr.cell_far ⟨b, o + k * 2, none⟩ (by simp; omega) (H.out.far hbb)).trans (show ((wr.alloc _).drew).cell? _ = some (.int .i64 x.1) by go_simp); have e2 := (hgr.cell_far ⟨b, o + k * 2 + 1, none⟩ (by simp; omega) (H.out.far hbb)).trans (show ((wr.alloc _).drew).cell? _ = some (.int .i64 x.2) by go_simp); have HA := Lib.hid hacc; have HG := Lib.hid hgr; clear hacc hgr))
      go_wp2
      go_roundw
      case rel =>
        refine ⟨k + 1, D1, d1, by omega, by go_num, rfl, Lib.hid (by rw [turnL_snoc HX.out]; exact HA.out), ⟨?_⟩⟩
        refine Below.grown (by repeat (first | exact Below.refl _ _ | exact Since.out (by assumption) | refine Below.alloc ?_ (by first | omega | (simp only [sz_alloc, sz_set, sz_drew, sz_drewN]; omega) | (simp only [sz_alloc, sz_set, sz_drew, sz_drewN] at *; omega)) _ | refine Below.setCell ?_ (by first | omega | (simp only [sz_alloc, sz_set, sz_drew, sz_drewN]; omega) | (simp only [sz_alloc, sz_set, sz_drew, sz_drewN] at *; omega)) _ | refine Below.drew ?_ | refine below_drewN_ ?_ _)) HG.out (by first | omega | (simp only [sz_alloc, sz_set, sz_drew, sz_drewN]; omega) | (simp only [sz_alloc, sz_set, sz_drew, sz_drewN] at *; omega)) (fun g hg => ?_)
        cases hD : D with
        | none => rw [hD] at hg; simp at hg
        | some a => rw [hD] at hg; simp at hg; have := H.out.lt a hD; omega
      case measure => simp [intOf]; omega
    · obtain rfl : k = xs.length := by omega
      go_wp2
      go_ret
      have hA := H.out
      rw [List.take_length] at hA
      obtain ⟨b2, o2, f2, _⟩ := hA.own
      exact ⟨D, d, b2, by rw [show (turnL xs).length = xs.length by simp [turnL]]; rfl, o2, f2, hsw.out⟩
theorem turnedExits (A : Option Addr) (xs : List (Int × Int)) (c : Nat) (w : World) (h1 : RdS w w.heap.size A xs) (hl : xs.length ≤ 1048576) (hs : ∀ x ∈ xs, -1 ≤ x.1 ∧ x.1 ≤ 1) :
    Calls Try.prog 46 #[.slice A xs.length c] w (RetOwn (turnL xs) w) := by
  have HS := Lib.hid hs
  clear hs
  go_enter Try.func46, Try.ntmps46
  go_wp2
  go_loopw [3, 9] (fun l i wr => ∃ (k : Nat) (D : Option Addr) (d : Nat), k ≤ xs.length ∧ i = .int .i64 k ∧ l = .slice D k d ∧ Hid (Acc wr w.heap.size 138 D k d (turnL (xs.take k)) []) ∧ Since w wr) (fun _ i _ => xs.length - (intOf i).toNat)
  case atStart => exact ⟨0, _, _, Nat.zero_le _, rfl, rfl, Lib.hid (Acc.empty_ (new_block rfl) (Nat.le_refl _)), ⟨(by repeat (first | exact Below.refl _ _ | refine Below.alloc ?_ (by first | omega | (simp only [sz_alloc, sz_set, sz_drew, sz_drewN]; omega) | (simp only [sz_alloc, sz_set, sz_drew, sz_drewN] at *; omega)) _ | refine Below.setCell ?_ (by first | omega | (simp only [sz_alloc, sz_set, sz_drew, sz_drewN]; omega) | (simp only [sz_alloc, sz_set, sz_drew, sz_drewN] at *; omega)) _ | refine Below.drew ?_ | refine below_drewN_ ?_ _))⟩⟩
  case round =>
    obtain ⟨k, D, d, hk, rfl, rfl, H, hsw⟩ := hrel
    have hzr := hsw.out.size
    by_cases hlt : k < xs.length
    · obtain ⟨x, hx⟩ := get_some hlt
      obtain ⟨x1, x2⟩ := HS.out x (List.mem_of_getElem? hx)
      obtain ⟨b, o, rfl, hbb, c1, c2⟩ := (h1.below hsw.out (Nat.le_refl _)).pair hx
      have i1 : (0 : Int) ≤ (k : Int) := by omega
      have i2 : (k : Int) < (xs.length : Int) := by omega
      have HX := Lib.hid hx
      have HW : Hid (IntKind.i64.wrap (-x.1) = -x.1) := Lib.hid (by rcases (show x.1 = -1 ∨ x.1 = 0 ∨ x.1 = 1 by omega) with h | h | h <;> rw [h] <;> rfl)
      clear hx
      go_wp2_with (at_builtin; refine wpList_push (α := Int × Int) _ (by rfl) (.tmp 17) (.tmp 19) 26 (by rfl) w.heap.size 138 (.agg #[.int .i64 0, .int .i64 0]) 16 Try.underlying26 infoExit rfl D k d _ [] (by rfl) (Acc.below H.out (C := wr.heap.size) (by repeat (first | exact Below.refl _ _ | refine Below.alloc ?_ (by first | omega | (simp only [sz_alloc, sz_set, sz_drew, sz_drewN]; omega) | (simp only [sz_alloc, sz_set, sz_drew, sz_drewN] at *; omega)) _ | refine Below.setCell ?_ (by first | omega | (simp only [sz_alloc, sz_set, sz_drew, sz_drewN]; omega) | (simp only [sz_alloc, sz_set, sz_drew, sz_drewN] at *; omega)) _ | refine Below.drew ?_ | refine below_drewN_ ?_ _)) (Nat.le_refl _)) (wr.heap.size + 1) 1 (by rfl) (-x.1, x.2) [.int .i64 (-x.1), .int .i64 x.2] [] ⟨rfl, rfl⟩ (new_cells (by first | rfl | simp [sz_set])) (fun u hu => by (simp at hu; rcases hu with rfl | rfl <;> rfl)) ⟨List.nodup_nil, fun g hg => by simp at hg⟩ (fun g hg => by simp at hg) (by omega) (by omega) (by first | omega | (simp only [sz_alloc, sz_set, sz_drew, sz_drewN]; omega) | (simp only [sz_alloc, sz_set, sz_drew, sz_drewN] at *; omega)) ?_
                   intro D1 d1 w1 hacc hgr hnew
                   have HA := Lib.hid hacc
                   have HG := Lib.hid hgr
                   clear hacc hgr)
      go_roundw
      case rel =>
        refine ⟨k + 1, D1, d1, by omega, by go_num, rfl, Lib.hid (by rw [turnL_snoc HX.out]; exact HA.out), ⟨?_⟩⟩
        refine Below.grown (by repeat (first | exact Below.refl _ _ | exact Since.out (by assumption) | refine Below.alloc ?_ (by first | omega | (simp only [sz_alloc, sz_set, sz_drew, sz_drewN]; omega) | (simp only [sz_alloc, sz_set, sz_drew, sz_drewN] at *; omega)) _ | refine Below.setCell ?_ (by first | omega | (simp only [sz_alloc, sz_set, sz_drew, sz_drewN]; omega) | (simp only [sz_alloc, sz_set, sz_drew, sz_drewN] at *; omega)) _ | refine Below.drew ?_ | refine below_drewN_ ?_ _)) HG.out (by first | omega | (simp only [sz_alloc, sz_set, sz_drew, sz_drewN]; omega) | (simp only [sz_alloc, sz_set, sz_drew, sz_drewN] at *; omega)) (fun g hg => ?_)
        cases hD : D with
        | none => rw [hD] at hg; simp at hg
        | some a => rw [hD] at hg; simp at hg; have := H.out.lt a hD; omega
      case measure => simp [intOf]; omega
    · obtain rfl : k = xs.length := by omega
      go_wp2
      go_ret
      have hA := H.out
      rw [List.take_length] at hA
      obtain ⟨b2, o2, f2, _⟩ := hA.own
      exact ⟨D, d, b2, by rw [show (turnL xs).length = xs.length by simp [turnL]]; rfl, o2, f2, hsw.out⟩
end Go.Proofs.Ytollaaebheeakaa
