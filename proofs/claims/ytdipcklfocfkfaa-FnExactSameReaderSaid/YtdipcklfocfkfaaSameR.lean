/-
  Contracts of the program's and the reference's SameReader. Conditions: those in each statement.
-/
import Derived.Test.YtdipcklfocfkfaaSReader
import Derived.Test.YtdipcklfocfkfaaEqInt
import Derived.Test.YtdipcklfocfkfaaEqBool
import Derived.Test.YtdipcklfocfkfaaEqL01
set_option linter.unusedVariables false
set_option linter.unusedSimpArgs false
set_option maxRecDepth 100000
set_option maxHeartbeats 1000000
namespace Go.Proofs.Ytdipcklfocfkfaa
open Go.RowKit

def Rr.sameB (T U : Rr) : Bool := decide (T.letters = U.letters) && (decide (T.start = U.start) && (decide (T.accept = U.accept) && decide (T.next = U.next)))

theorem sameReader_impl (v v' : Value) (T U : Rr) (w : World) (h1 : RdRr w w.heap.size v T) (h2 : RdRr w w.heap.size v' U) (hn : T.tot ≤ 140737488355328) :
    Calls Try.prog 28 #[v, v'] w fun e w' => e = .returned (.bool (T.sameB U)) ∧ Below w.heap.size w w' := by
  have hn1 : T.accept.length ≤ 140737488355328 := by unfold Rr.tot at hn; rw [tot_list] at hn; omega
  have hn2 : Cod.tot T.next ≤ 140737488355328 := by unfold Rr.tot at hn; omega
  obtain ⟨A1, c1, A2, c2, rfl, r1, r2⟩ := h1
  obtain ⟨B1, d1, B2, d2, rfl, s1, s2⟩ := h2
  by_cases k1 : T.letters = U.letters
  · have e1 : (T.letters == U.letters) = true := by simp [k1]
    have K1 := Lib.hid (decide_eq_true k1)
    clear k1
    by_cases k2 : T.start = U.start
    · have e2 : (T.start == U.start) = true := by simp [k2]
      have K2 := Lib.hid (decide_eq_true k2)
      clear k2
      by_cases k3 : T.accept = U.accept
      · have K3 := Lib.hid (decide_eq_true k3)
        have HB : Hid (∀ W, Below w.heap.size w W → Calls Try.prog 60 #[.slice A1 T.accept.length c1, .slice B1 U.accept.length d1] W fun (e : Ending) w' => e = .returned (.bool true) ∧ ∃ m, w' = W.drewN m) := Lib.hid fun W hW =>
          (equalBools A1 B1 T.accept U.accept c1 d1 W (r1.up hW) (s1.up hW) hn1).mono fun e w' ⟨he, hw⟩ => ⟨by rw [he, decide_eq_true k3], hw⟩
        clear k3
        go_enter Try.func28, Try.ntmps28
        go_wp2_with (first
          | (go_at_call 60; refine (HB.out _ (by repeat (first | exact Below.refl _ _ | refine Below.alloc ?_ (by first | omega | (simp only [sz_alloc, sz_set, sz_drew, sz_drewN]; omega) | (simp only [sz_alloc, sz_set, sz_drew, sz_drewN] at *; omega)) _ | refine Below.setCell ?_ (by first | omega | (simp only [sz_alloc, sz_set, sz_drew, sz_drewN]; omega) | (simp only [sz_alloc, sz_set, sz_drew, sz_drewN] at *; omega)) _ | refine Below.drew ?_ | refine below_drewN_ ?_ _))).mono ?_; rintro e wx ⟨rfl, n1, rfl⟩)
          | (go_at_call 61; refine (equalFuncInt64SS A2 B2 T.next U.next c2 d2 _ (r2.up (by repeat (first | exact Below.refl _ _ | refine Below.alloc ?_ (by first | omega | (simp only [sz_alloc, sz_set, sz_drew, sz_drewN]; omega) | (simp only [sz_alloc, sz_set, sz_drew, sz_drewN] at *; omega)) _ | refine Below.setCell ?_ (by first | omega | (simp only [sz_alloc, sz_set, sz_drew, sz_drewN]; omega) | (simp only [sz_alloc, sz_set, sz_drew, sz_drewN] at *; omega)) _ | refine Below.drew ?_ | refine below_drewN_ ?_ _))) (s2.up (by repeat (first | exact Below.refl _ _ | refine Below.alloc ?_ (by first | omega | (simp only [sz_alloc, sz_set, sz_drew, sz_drewN]; omega) | (simp only [sz_alloc, sz_set, sz_drew, sz_drewN] at *; omega)) _ | refine Below.setCell ?_ (by first | omega | (simp only [sz_alloc, sz_set, sz_drew, sz_drewN]; omega) | (simp only [sz_alloc, sz_set, sz_drew, sz_drewN] at *; omega)) _ | refine Below.drew ?_ | refine below_drewN_ ?_ _))) hn2).mono ?_; rintro e wy ⟨rfl, n2, rfl⟩))
        go_ret
        exact ⟨ret_bool (by unfold Rr.sameB; rw [K1.out, K2.out, K3.out]; simp), (by repeat (first | exact Below.refl _ _ | refine Below.alloc ?_ (by first | omega | (simp only [sz_alloc, sz_set, sz_drew, sz_drewN]; omega) | (simp only [sz_alloc, sz_set, sz_drew, sz_drewN] at *; omega)) _ | refine Below.setCell ?_ (by first | omega | (simp only [sz_alloc, sz_set, sz_drew, sz_drewN]; omega) | (simp only [sz_alloc, sz_set, sz_drew, sz_drewN] at *; omega)) _ | refine Below.drew ?_ | refine below_drewN_ ?_ _))⟩
      · have K3 := Lib.hid (decide_eq_false k3)
        have HB : Hid (∀ W, Below w.heap.size w W → Calls Try.prog 60 #[.slice A1 T.accept.length c1, .slice B1 U.accept.length d1] W fun (e : Ending) w' => e = .returned (.bool false) ∧ ∃ m, w' = W.drewN m) := Lib.hid fun W hW =>
          (equalBools A1 B1 T.accept U.accept c1 d1 W (r1.up hW) (s1.up hW) hn1).mono fun e w' ⟨he, hw⟩ => ⟨by rw [he, decide_eq_false k3], hw⟩
        clear k3
        go_enter Try.func28, Try.ntmps28
        go_wp2_with (go_at_call 60; refine (HB.out _ (by repeat (first | exact Below.refl _ _ | refine Below.alloc ?_ (by first | omega | (simp only [sz_alloc, sz_set, sz_drew, sz_drewN]; omega) | (simp only [sz_alloc, sz_set, sz_drew, sz_drewN] at *; omega)) _ | refine Below.setCell ?_ (by first | omega | (simp only [sz_alloc, sz_set, sz_drew, sz_drewN]; omega) | (simp only [sz_alloc, sz_set, sz_drew, sz_drewN] at *; omega)) _ | refine Below.drew ?_ | refine below_drewN_ ?_ _))).mono ?_; rintro e wx ⟨rfl, n1, rfl⟩)
        go_ret
        exact ⟨ret_bool (by unfold Rr.sameB; rw [K1.out, K2.out, K3.out]; simp), (by repeat (first | exact Below.refl _ _ | refine Below.alloc ?_ (by first | omega | (simp only [sz_alloc, sz_set, sz_drew, sz_drewN]; omega) | (simp only [sz_alloc, sz_set, sz_drew, sz_drewN] at *; omega)) _ | refine Below.setCell ?_ (by first | omega | (simp only [sz_alloc, sz_set, sz_drew, sz_drewN]; omega) | (simp only [sz_alloc, sz_set, sz_drew, sz_drewN] at *; omega)) _ | refine Below.drew ?_ | refine below_drewN_ ?_ _))⟩
    · have e2 : (T.start == U.start) = false := by simp [k2]
      have K2 := Lib.hid (decide_eq_false k2)
      clear k2
      go_enter Try.func28, Try.ntmps28
      go_wp2_with fail
      go_ret
      exact ⟨ret_bool (by unfold Rr.sameB; rw [K1.out, K2.out]; simp), (by repeat (first | exact Below.refl _ _ | refine Below.alloc ?_ (by first | omega | (simp only [sz_alloc, sz_set, sz_drew, sz_drewN]; omega) | (simp only [sz_alloc, sz_set, sz_drew, sz_drewN] at *; omega)) _ | refine Below.setCell ?_ (by first | omega | (simp only [sz_alloc, sz_set, sz_drew, sz_drewN]; omega) | (simp only [sz_alloc, sz_set, sz_drew, sz_drewN] at *; omega)) _ | refine Below.drew ?_ | refine below_drewN_ ?_ _))⟩
  · have e1 : (T.letters == U.letters) = false := by simp [k1]
    have K1 := Lib.hid (decide_eq_false k1)
    clear k1
    go_enter Try.func28, Try.ntmps28
    go_wp2_with fail
    go_ret
    exact ⟨ret_bool (by unfold Rr.sameB; rw [K1.out]; simp), (by repeat (first | exact Below.refl _ _ | refine Below.alloc ?_ (by first | omega | (simp only [sz_alloc, sz_set, sz_drew, sz_drewN]; omega) | (simp only [sz_alloc, sz_set, sz_drew, sz_drewN] at *; omega)) _ | refine Below.setCell ?_ (by first | omega | (simp only [sz_alloc, sz_set, sz_drew, sz_drewN]; omega) | (simp only [sz_alloc, sz_set, sz_drew, sz_drewN] at *; omega)) _ | refine Below.drew ?_ | refine below_drewN_ ?_ _))⟩

theorem sameReader_spec (v v' : Value) (T U : Rr) (w : World) (h1 : RdRr w w.heap.size v T) (h2 : RdRr w w.heap.size v' U) (hn : T.tot ≤ 140737488355328) :
    Calls Try.prog 26 #[v, v'] w fun e w' => e = .returned (.bool (T.sameB U)) ∧ Below w.heap.size w w' := by
  have hn1 : T.accept.length ≤ 140737488355328 := by unfold Rr.tot at hn; rw [tot_list] at hn; omega
  have hn2 : Cod.tot T.next ≤ 140737488355328 := by unfold Rr.tot at hn; omega
  obtain ⟨A1, c1, A2, c2, rfl, r1, r2⟩ := h1
  obtain ⟨B1, d1, B2, d2, rfl, s1, s2⟩ := h2
  by_cases k1 : T.letters = U.letters
  · have e1 : (T.letters == U.letters) = true := by simp [k1]
    have K1 := Lib.hid (decide_eq_true k1)
    clear k1
    by_cases k2 : T.start = U.start
    · have e2 : (T.start == U.start) = true := by simp [k2]
      have K2 := Lib.hid (decide_eq_true k2)
      clear k2
      by_cases k3 : T.accept = U.accept
      · have K3 := Lib.hid (decide_eq_true k3)
        have HB : Hid (∀ W, Below w.heap.size w W → Calls Try.prog 56 #[.slice A1 T.accept.length c1, .slice B1 U.accept.length d1] W fun (e : Ending) w' => e = .returned (.bool true) ∧ ∃ m, w' = W.drewN m) := Lib.hid fun W hW =>
          (l01Bools A1 B1 T.accept U.accept c1 d1 W (r1.up hW) (s1.up hW) hn1).mono fun e w' ⟨he, hw⟩ => ⟨by rw [he, decide_eq_true k3], hw⟩
        clear k3
        go_enter Try.func26, Try.ntmps26
        go_wp2_with (first
          | (go_at_call 56; refine (HB.out _ (by repeat (first | exact Below.refl _ _ | refine Below.alloc ?_ (by first | omega | (simp only [sz_alloc, sz_set, sz_drew, sz_drewN]; omega) | (simp only [sz_alloc, sz_set, sz_drew, sz_drewN] at *; omega)) _ | refine Below.setCell ?_ (by first | omega | (simp only [sz_alloc, sz_set, sz_drew, sz_drewN]; omega) | (simp only [sz_alloc, sz_set, sz_drew, sz_drewN] at *; omega)) _ | refine Below.drew ?_ | refine below_drewN_ ?_ _))).mono ?_; rintro e wx ⟨rfl, n1, rfl⟩)
          | (go_at_call 57; refine (l01Lists A2 B2 T.next U.next c2 d2 _ (r2.up (by repeat (first | exact Below.refl _ _ | refine Below.alloc ?_ (by first | omega | (simp only [sz_alloc, sz_set, sz_drew, sz_drewN]; omega) | (simp only [sz_alloc, sz_set, sz_drew, sz_drewN] at *; omega)) _ | refine Below.setCell ?_ (by first | omega | (simp only [sz_alloc, sz_set, sz_drew, sz_drewN]; omega) | (simp only [sz_alloc, sz_set, sz_drew, sz_drewN] at *; omega)) _ | refine Below.drew ?_ | refine below_drewN_ ?_ _))) (s2.up (by repeat (first | exact Below.refl _ _ | refine Below.alloc ?_ (by first | omega | (simp only [sz_alloc, sz_set, sz_drew, sz_drewN]; omega) | (simp only [sz_alloc, sz_set, sz_drew, sz_drewN] at *; omega)) _ | refine Below.setCell ?_ (by first | omega | (simp only [sz_alloc, sz_set, sz_drew, sz_drewN]; omega) | (simp only [sz_alloc, sz_set, sz_drew, sz_drewN] at *; omega)) _ | refine Below.drew ?_ | refine below_drewN_ ?_ _))) hn2).mono ?_; rintro e wy ⟨rfl, n2, rfl⟩))
        go_ret
        exact ⟨ret_bool (by unfold Rr.sameB; rw [K1.out, K2.out, K3.out]; simp), (by repeat (first | exact Below.refl _ _ | refine Below.alloc ?_ (by first | omega | (simp only [sz_alloc, sz_set, sz_drew, sz_drewN]; omega) | (simp only [sz_alloc, sz_set, sz_drew, sz_drewN] at *; omega)) _ | refine Below.setCell ?_ (by first | omega | (simp only [sz_alloc, sz_set, sz_drew, sz_drewN]; omega) | (simp only [sz_alloc, sz_set, sz_drew, sz_drewN] at *; omega)) _ | refine Below.drew ?_ | refine below_drewN_ ?_ _))⟩
      · have K3 := Lib.hid (decide_eq_false k3)
        have HB : Hid (∀ W, Below w.heap.size w W → Calls Try.prog 56 #[.slice A1 T.accept.length c1, .slice B1 U.accept.length d1] W fun (e : Ending) w' => e = .returned (.bool false) ∧ ∃ m, w' = W.drewN m) := Lib.hid fun W hW =>
          (l01Bools A1 B1 T.accept U.accept c1 d1 W (r1.up hW) (s1.up hW) hn1).mono fun e w' ⟨he, hw⟩ => ⟨by rw [he, decide_eq_false k3], hw⟩
        clear k3
        go_enter Try.func26, Try.ntmps26
        go_wp2_with (go_at_call 56; refine (HB.out _ (by repeat (first | exact Below.refl _ _ | refine Below.alloc ?_ (by first | omega | (simp only [sz_alloc, sz_set, sz_drew, sz_drewN]; omega) | (simp only [sz_alloc, sz_set, sz_drew, sz_drewN] at *; omega)) _ | refine Below.setCell ?_ (by first | omega | (simp only [sz_alloc, sz_set, sz_drew, sz_drewN]; omega) | (simp only [sz_alloc, sz_set, sz_drew, sz_drewN] at *; omega)) _ | refine Below.drew ?_ | refine below_drewN_ ?_ _))).mono ?_; rintro e wx ⟨rfl, n1, rfl⟩)
        go_ret
        exact ⟨ret_bool (by unfold Rr.sameB; rw [K1.out, K2.out, K3.out]; simp), (by repeat (first | exact Below.refl _ _ | refine Below.alloc ?_ (by first | omega | (simp only [sz_alloc, sz_set, sz_drew, sz_drewN]; omega) | (simp only [sz_alloc, sz_set, sz_drew, sz_drewN] at *; omega)) _ | refine Below.setCell ?_ (by first | omega | (simp only [sz_alloc, sz_set, sz_drew, sz_drewN]; omega) | (simp only [sz_alloc, sz_set, sz_drew, sz_drewN] at *; omega)) _ | refine Below.drew ?_ | refine below_drewN_ ?_ _))⟩
    · have e2 : (T.start == U.start) = false := by simp [k2]
      have K2 := Lib.hid (decide_eq_false k2)
      clear k2
      go_enter Try.func26, Try.ntmps26
      go_wp2_with fail
      go_ret
      exact ⟨ret_bool (by unfold Rr.sameB; rw [K1.out, K2.out]; simp), (by repeat (first | exact Below.refl _ _ | refine Below.alloc ?_ (by first | omega | (simp only [sz_alloc, sz_set, sz_drew, sz_drewN]; omega) | (simp only [sz_alloc, sz_set, sz_drew, sz_drewN] at *; omega)) _ | refine Below.setCell ?_ (by first | omega | (simp only [sz_alloc, sz_set, sz_drew, sz_drewN]; omega) | (simp only [sz_alloc, sz_set, sz_drew, sz_drewN] at *; omega)) _ | refine Below.drew ?_ | refine below_drewN_ ?_ _))⟩
  · have e1 : (T.letters == U.letters) = false := by simp [k1]
    have K1 := Lib.hid (decide_eq_false k1)
    clear k1
    go_enter Try.func26, Try.ntmps26
    go_wp2_with fail
    go_ret
    exact ⟨ret_bool (by unfold Rr.sameB; rw [K1.out]; simp), (by repeat (first | exact Below.refl _ _ | refine Below.alloc ?_ (by first | omega | (simp only [sz_alloc, sz_set, sz_drew, sz_drewN]; omega) | (simp only [sz_alloc, sz_set, sz_drew, sz_drewN] at *; omega)) _ | refine Below.setCell ?_ (by first | omega | (simp only [sz_alloc, sz_set, sz_drew, sz_drewN]; omega) | (simp only [sz_alloc, sz_set, sz_drew, sz_drewN] at *; omega)) _ | refine Below.drew ?_ | refine below_drewN_ ?_ _))⟩
end Go.Proofs.Ytdipcklfocfkfaa
