/-
  Contracts of SameMany, and of what it calls. Conditions: those in each statement.
-/
import Derived.Test.YtollaaebheeakaaSMany
import Derived.Test.YtollaaebheeakaaEqInt
import Derived.Test.YtollaaebheeakaaEqBool
import Derived.Test.YtollaaebheeakaaEqL01
import Derived.ProofKit
import Derived.BigQuiet
import Derived.Deep.QuietTactic
set_option linter.unusedVariables false
set_option linter.unusedSimpArgs false
set_option maxRecDepth 100000
set_option maxHeartbeats 1000000
namespace Go.Proofs.Ytollaaebheeakaa
open Go.RowKit

theorem sameManyRow (A A' : Option Addr) (xs ys : List (List Int)) (c c' : Nat) (w : World) (h1 : RdS w w.heap.size A xs) (h2 : RdS w w.heap.size A' ys) (hn : Cod.tot xs ≤ 140737488355328) :
    Calls Try.prog 83 #[.slice A xs.length c, .slice A' ys.length c'] w fun e w' => e = .returned (.bool (decide (xs = ys))) ∧ ∃ n, w' = w.drewN n := by
  go_enter Try.func83, Try.ntmps83
  go_wp2_with (go_at_call 84; refine (equalFuncInt64SS A A' xs ys c c' _ (Drew.rd ⟨0, rfl⟩ h1) (Drew.rd ⟨0, rfl⟩ h2) hn).mono ?_; rintro e w1 ⟨rfl, n1, rfl⟩)
  go_ret
  exact ⟨rfl, _, rfl⟩


theorem equalFuncInt64SSS (A A' : Option Addr) (xs ys : List (List (List Int))) (c c' : Nat) (w : World) (h1 : RdS w w.heap.size A xs) (h2 : RdS w w.heap.size A' ys) (hn : Cod.tot xs ≤ 140737488355328) :
    Calls Try.prog 82 #[.slice A xs.length c, .slice A' ys.length c', .func (.func 83) #[] #[]] w fun e w' => e = .returned (.bool (decide (xs = ys))) ∧ ∃ n, w' = w.drewN n := by
  have hn0 : xs.length ≤ 140737488355328 := by rw [tot_list] at hn; omega
  have hn1 : totS xs ≤ 140737488355328 := by rw [tot_list] at hn; omega
  by_cases hl : xs.length = ys.length
  · have hl0 : ((xs.length : Int) != (ys.length : Int)) = false := by simp [hl]
    have hl1 : xs.length ≤ ys.length := by omega
    have hl2 : ys.length ≤ xs.length := by omega
    clear hl
    go_enter Try.func82, Try.ntmps82
    go_wp2
    go_loopw [17] (fun i wr => ∃ k : Nat, k ≤ xs.length ∧ i = .int .i64 k ∧ Drew w wr ∧ Hid (decide (xs = ys) = decide (xs.drop k = ys.drop k))) (fun i _ => xs.length - (intOf i).toNat)
    case atStart => exact ⟨0, Nat.zero_le _, rfl, ⟨0, rfl⟩, Lib.hid (by simp)⟩
    case round =>
      obtain ⟨k, hk, rfl, hb, heq⟩ := hrel
      by_cases hlt : k < xs.length
      · obtain ⟨x, hx⟩ := get_some hlt
        obtain ⟨y, hy⟩ := get_some (xs := ys) (k := k) (by omega)
        obtain ⟨b, o, P, p, rfl, hbb, c1, hxl, rx⟩ := (hb.rd h1).row hx
        obtain ⟨b', o', Q, q, rfl, hbb', c3, hyl, ry⟩ := (hb.rd h2).row hy
        have heq' : Hid (decide (xs = ys) = decide (x :: xs.drop (k + 1) = y :: ys.drop (k + 1))) := by
          have := heq.out
          rwa [drop_cons hx, drop_cons hy] at this
        have i1 : (0 : Int) ≤ (k : Int) := by omega
        have i2 : (k : Int) < (xs.length : Int) := by omega
        have i3 : (k : Int) < (ys.length : Int) := by omega
        have hx1 : Cod.tot x ≤ 140737488355328 := Nat.le_trans (tot_at hx) hn1
        have hx2 : x.length ≤ 140737488355328 := by rw [tot_list] at hx1; omega
        have C1 : Hid (∀ n, Calls Try.prog 83 #[.slice P x.length p, .slice Q y.length q] (wr.drewN n) fun (e : Ending) w' => e = .returned (.bool (decide (x = y))) ∧ ∃ m, w' = wr.drewN m) := Lib.hid fun n =>
          (sameManyRow P Q x y p q (wr.drewN n) (Drew.rd ⟨n, rfl⟩ rx) (Drew.rd ⟨n, rfl⟩ ry) hx1).mono fun e w' ⟨he, hw⟩ => ⟨he, Drew.trans ⟨n, rfl⟩ hw⟩
        clear hx hy heq
        by_cases hxy : x = y
        · have hxe : decide (x = y) = true := by simp [hxy]
          rw [hxe] at C1
          have HX := Lib.hid hxy
          clear hxy
          go_wp2_with (go_at_call 83; refine (C1.out 0).mono ?_; rintro e w1 ⟨rfl, n1, rfl⟩)
          go_roundw
          case rel => exact ⟨k + 1, by omega, by go_num, hb.more _, Lib.hid (by rw [heq'.out, HX.out]; simp)⟩
          case measure => simp [intOf]; omega
        · have hxe : decide (x = y) = false := by simp [hxy]
          rw [hxe] at C1
          have HX := Lib.hid hxy
          clear hxy
          go_wp2_with (go_at_call 83; refine (C1.out 0).mono ?_; rintro e w1 ⟨rfl, n1, rfl⟩)
          go_ret
          exact ⟨ret_bool (by rw [heq'.out]; simp [HX.out]), hb.more _⟩
      · go_wp2
        go_ret
        exact ⟨ret_bool (by rw [heq.out, List.drop_eq_nil_of_le (by omega), List.drop_eq_nil_of_le (by omega)]; simp), hb⟩
  · have hl0 : ((xs.length : Int) != (ys.length : Int)) = true := by simp; omega
    have HL := Lib.hid hl
    clear hl
    go_enter Try.func82, Try.ntmps82
    go_wp2
    go_ret
    exact ⟨ret_bool (by simp; intro h; exact HL.out (by rw [h])), ⟨0, rfl⟩⟩

def Mn.sameB (T U : Mn) : Bool := decide (T.letters = U.letters) && (decide (T.starts = U.starts) && (decide (T.accept = U.accept) && decide (T.next = U.next)))

theorem sameMany_impl (v v' : Value) (T U : Mn) (w : World) (h1 : RdMn w w.heap.size v T) (h2 : RdMn w w.heap.size v' U) (hn : T.tot ≤ 140737488355328) :
    Calls Try.prog 31 #[v, v'] w fun e w' => e = .returned (.bool (T.sameB U)) ∧ Below w.heap.size w w' := by
  have hn1 : T.starts.length ≤ 140737488355328 := by unfold Mn.tot at hn; rw [tot_list] at hn; omega
  have hn2 : T.accept.length ≤ 140737488355328 := by unfold Mn.tot at hn; rw [tot_list T.accept] at hn; omega
  have hn3 : Cod.tot T.next ≤ 140737488355328 := by unfold Mn.tot at hn; omega
  obtain ⟨A1, C1, A2, C2, A3, C3, rfl, r1, r2, r3⟩ := h1
  obtain ⟨B1, D1, B2, D2, B3, D3, rfl, s1, s2, s3⟩ := h2
  by_cases k1 : T.letters = U.letters
  · have e1 : (T.letters == U.letters) = true := by simp [k1]
    have K1 := Lib.hid (decide_eq_true k1)
    clear k1
    by_cases k2 : T.starts = U.starts
    · have K2 := Lib.hid (decide_eq_true k2)
      have HB2 : Hid (∀ W, Below w.heap.size w W → Calls Try.prog 80 #[.slice A1 T.starts.length C1, .slice B1 U.starts.length D1] W fun (e : Ending) w' => e = .returned (.bool true) ∧ ∃ m, w' = W.drewN m) := Lib.hid fun W hW =>
        (equalInt64s A1 B1 T.starts U.starts C1 D1 W (r1.up hW) (s1.up hW) hn1).mono fun e w' ⟨he, hw⟩ => ⟨by rw [he, decide_eq_true k2], hw⟩
      clear k2
      by_cases k3 : T.accept = U.accept
      · have K3 := Lib.hid (decide_eq_true k3)
        have HB3 : Hid (∀ W, Below w.heap.size w W → Calls Try.prog 81 #[.slice A2 T.accept.length C2, .slice B2 U.accept.length D2] W fun (e : Ending) w' => e = .returned (.bool true) ∧ ∃ m, w' = W.drewN m) := Lib.hid fun W hW =>
          (equalBools A2 B2 T.accept U.accept C2 D2 W (r2.up hW) (s2.up hW) hn2).mono fun e w' ⟨he, hw⟩ => ⟨by rw [he, decide_eq_true k3], hw⟩
        clear k3
        go_enter Try.func31, Try.ntmps31
        go_wp2_with (first
          | (go_at_call 80; refine (HB2.out _ (by repeat (first | exact Below.refl _ _ | refine Below.alloc ?_ (by first | omega | (simp only [sz_alloc, sz_set, sz_drew, sz_drewN]; omega) | (simp only [sz_alloc, sz_set, sz_drew, sz_drewN] at *; omega)) _ | refine Below.setCell ?_ (by first | omega | (simp only [sz_alloc, sz_set, sz_drew, sz_drewN]; omega) | (simp only [sz_alloc, sz_set, sz_drew, sz_drewN] at *; omega)) _ | refine Below.drew ?_ | refine below_drewN_ ?_ _))).mono ?_; rintro e wx2 ⟨rfl, n2, rfl⟩)
          | (go_at_call 81; refine (HB3.out _ (by repeat (first | exact Below.refl _ _ | refine Below.alloc ?_ (by first | omega | (simp only [sz_alloc, sz_set, sz_drew, sz_drewN]; omega) | (simp only [sz_alloc, sz_set, sz_drew, sz_drewN] at *; omega)) _ | refine Below.setCell ?_ (by first | omega | (simp only [sz_alloc, sz_set, sz_drew, sz_drewN]; omega) | (simp only [sz_alloc, sz_set, sz_drew, sz_drewN] at *; omega)) _ | refine Below.drew ?_ | refine below_drewN_ ?_ _))).mono ?_; rintro e wx3 ⟨rfl, n3, rfl⟩)
          | (go_at_call 82; refine (equalFuncInt64SSS A3 B3 T.next U.next C3 D3 _ (r3.up (by repeat (first | exact Below.refl _ _ | refine Below.alloc ?_ (by first | omega | (simp only [sz_alloc, sz_set, sz_drew, sz_drewN]; omega) | (simp only [sz_alloc, sz_set, sz_drew, sz_drewN] at *; omega)) _ | refine Below.setCell ?_ (by first | omega | (simp only [sz_alloc, sz_set, sz_drew, sz_drewN]; omega) | (simp only [sz_alloc, sz_set, sz_drew, sz_drewN] at *; omega)) _ | refine Below.drew ?_ | refine below_drewN_ ?_ _))) (s3.up (by repeat (first | exact Below.refl _ _ | refine Below.alloc ?_ (by first | omega | (simp only [sz_alloc, sz_set, sz_drew, sz_drewN]; omega) | (simp only [sz_alloc, sz_set, sz_drew, sz_drewN] at *; omega)) _ | refine Below.setCell ?_ (by first | omega | (simp only [sz_alloc, sz_set, sz_drew, sz_drewN]; omega) | (simp only [sz_alloc, sz_set, sz_drew, sz_drewN] at *; omega)) _ | refine Below.drew ?_ | refine below_drewN_ ?_ _))) hn3).mono ?_; rintro e wz ⟨rfl, nz, rfl⟩))
        go_ret
        exact ⟨ret_bool (by unfold Mn.sameB; rw [K1.out, K2.out, K3.out]; simp), (by repeat (first | exact Below.refl _ _ | refine Below.alloc ?_ (by first | omega | (simp only [sz_alloc, sz_set, sz_drew, sz_drewN]; omega) | (simp only [sz_alloc, sz_set, sz_drew, sz_drewN] at *; omega)) _ | refine Below.setCell ?_ (by first | omega | (simp only [sz_alloc, sz_set, sz_drew, sz_drewN]; omega) | (simp only [sz_alloc, sz_set, sz_drew, sz_drewN] at *; omega)) _ | refine Below.drew ?_ | refine below_drewN_ ?_ _))⟩
      · have K3 := Lib.hid (decide_eq_false k3)
        have HB3 : Hid (∀ W, Below w.heap.size w W → Calls Try.prog 81 #[.slice A2 T.accept.length C2, .slice B2 U.accept.length D2] W fun (e : Ending) w' => e = .returned (.bool false) ∧ ∃ m, w' = W.drewN m) := Lib.hid fun W hW =>
          (equalBools A2 B2 T.accept U.accept C2 D2 W (r2.up hW) (s2.up hW) hn2).mono fun e w' ⟨he, hw⟩ => ⟨by rw [he, decide_eq_false k3], hw⟩
        clear k3
        go_enter Try.func31, Try.ntmps31
        go_wp2_with (first
          | (go_at_call 80; refine (HB2.out _ (by repeat (first | exact Below.refl _ _ | refine Below.alloc ?_ (by first | omega | (simp only [sz_alloc, sz_set, sz_drew, sz_drewN]; omega) | (simp only [sz_alloc, sz_set, sz_drew, sz_drewN] at *; omega)) _ | refine Below.setCell ?_ (by first | omega | (simp only [sz_alloc, sz_set, sz_drew, sz_drewN]; omega) | (simp only [sz_alloc, sz_set, sz_drew, sz_drewN] at *; omega)) _ | refine Below.drew ?_ | refine below_drewN_ ?_ _))).mono ?_; rintro e wx2 ⟨rfl, n2, rfl⟩)
          | (go_at_call 81; refine (HB3.out _ (by repeat (first | exact Below.refl _ _ | refine Below.alloc ?_ (by first | omega | (simp only [sz_alloc, sz_set, sz_drew, sz_drewN]; omega) | (simp only [sz_alloc, sz_set, sz_drew, sz_drewN] at *; omega)) _ | refine Below.setCell ?_ (by first | omega | (simp only [sz_alloc, sz_set, sz_drew, sz_drewN]; omega) | (simp only [sz_alloc, sz_set, sz_drew, sz_drewN] at *; omega)) _ | refine Below.drew ?_ | refine below_drewN_ ?_ _))).mono ?_; rintro e wx3 ⟨rfl, n3, rfl⟩))
        go_ret
        exact ⟨ret_bool (by unfold Mn.sameB; rw [K1.out, K2.out, K3.out]; simp), (by repeat (first | exact Below.refl _ _ | refine Below.alloc ?_ (by first | omega | (simp only [sz_alloc, sz_set, sz_drew, sz_drewN]; omega) | (simp only [sz_alloc, sz_set, sz_drew, sz_drewN] at *; omega)) _ | refine Below.setCell ?_ (by first | omega | (simp only [sz_alloc, sz_set, sz_drew, sz_drewN]; omega) | (simp only [sz_alloc, sz_set, sz_drew, sz_drewN] at *; omega)) _ | refine Below.drew ?_ | refine below_drewN_ ?_ _))⟩
    · have K2 := Lib.hid (decide_eq_false k2)
      have HB2 : Hid (∀ W, Below w.heap.size w W → Calls Try.prog 80 #[.slice A1 T.starts.length C1, .slice B1 U.starts.length D1] W fun (e : Ending) w' => e = .returned (.bool false) ∧ ∃ m, w' = W.drewN m) := Lib.hid fun W hW =>
        (equalInt64s A1 B1 T.starts U.starts C1 D1 W (r1.up hW) (s1.up hW) hn1).mono fun e w' ⟨he, hw⟩ => ⟨by rw [he, decide_eq_false k2], hw⟩
      clear k2
      go_enter Try.func31, Try.ntmps31
      go_wp2_with (first
        | (go_at_call 80; refine (HB2.out _ (by repeat (first | exact Below.refl _ _ | refine Below.alloc ?_ (by first | omega | (simp only [sz_alloc, sz_set, sz_drew, sz_drewN]; omega) | (simp only [sz_alloc, sz_set, sz_drew, sz_drewN] at *; omega)) _ | refine Below.setCell ?_ (by first | omega | (simp only [sz_alloc, sz_set, sz_drew, sz_drewN]; omega) | (simp only [sz_alloc, sz_set, sz_drew, sz_drewN] at *; omega)) _ | refine Below.drew ?_ | refine below_drewN_ ?_ _))).mono ?_; rintro e wx2 ⟨rfl, n2, rfl⟩))
      go_ret
      exact ⟨ret_bool (by unfold Mn.sameB; rw [K1.out, K2.out]; simp), (by repeat (first | exact Below.refl _ _ | refine Below.alloc ?_ (by first | omega | (simp only [sz_alloc, sz_set, sz_drew, sz_drewN]; omega) | (simp only [sz_alloc, sz_set, sz_drew, sz_drewN] at *; omega)) _ | refine Below.setCell ?_ (by first | omega | (simp only [sz_alloc, sz_set, sz_drew, sz_drewN]; omega) | (simp only [sz_alloc, sz_set, sz_drew, sz_drewN] at *; omega)) _ | refine Below.drew ?_ | refine below_drewN_ ?_ _))⟩
  · have e1 : (T.letters == U.letters) = false := by simp [k1]
    have K1 := Lib.hid (decide_eq_false k1)
    clear k1
    go_enter Try.func31, Try.ntmps31
    go_wp2_with fail
    go_ret
    exact ⟨ret_bool (by unfold Mn.sameB; rw [K1.out]; simp), (by repeat (first | exact Below.refl _ _ | refine Below.alloc ?_ (by first | omega | (simp only [sz_alloc, sz_set, sz_drew, sz_drewN]; omega) | (simp only [sz_alloc, sz_set, sz_drew, sz_drewN] at *; omega)) _ | refine Below.setCell ?_ (by first | omega | (simp only [sz_alloc, sz_set, sz_drew, sz_drewN]; omega) | (simp only [sz_alloc, sz_set, sz_drew, sz_drewN] at *; omega)) _ | refine Below.drew ?_ | refine below_drewN_ ?_ _))⟩

theorem sameMany_spec (v v' : Value) (T U : Mn) (w : World) (h1 : RdMn w w.heap.size v T) (h2 : RdMn w w.heap.size v' U) (hn : T.tot ≤ 140737488355328) :
    Calls Try.prog 30 #[v, v'] w fun e w' => e = .returned (.bool (T.sameB U)) ∧ Below w.heap.size w w' := by
  have hn1 : T.starts.length ≤ 140737488355328 := by unfold Mn.tot at hn; rw [tot_list] at hn; omega
  have hn2 : T.accept.length ≤ 140737488355328 := by unfold Mn.tot at hn; rw [tot_list T.accept] at hn; omega
  have hn3 : Cod.tot T.next ≤ 140737488355328 := by unfold Mn.tot at hn; omega
  obtain ⟨A1, C1, A2, C2, A3, C3, rfl, r1, r2, r3⟩ := h1
  obtain ⟨B1, D1, B2, D2, B3, D3, rfl, s1, s2, s3⟩ := h2
  by_cases k1 : T.letters = U.letters
  · have e1 : (T.letters != U.letters) = false := by simp [k1]
    have K1 := Lib.hid (decide_eq_true k1)
    clear k1
    by_cases k2 : T.starts = U.starts
    · have K2 := Lib.hid (decide_eq_true k2)
      have HB2 : Hid (∀ W, Below w.heap.size w W → Calls Try.prog 77 #[.slice A1 T.starts.length C1, .slice B1 U.starts.length D1] W fun (e : Ending) w' => e = .returned (.bool true) ∧ ∃ m, w' = W.drewN m) := Lib.hid fun W hW =>
        (l00Same A1 B1 T.starts U.starts C1 D1 W (r1.up hW) (s1.up hW) hn1).mono fun e w' ⟨he, hw⟩ => ⟨by rw [he, decide_eq_true k2], hw⟩
      clear k2
      by_cases k3 : T.accept = U.accept
      · have K3 := Lib.hid (decide_eq_true k3)
        have HB3 : Hid (∀ W, Below w.heap.size w W → Calls Try.prog 78 #[.slice A2 T.accept.length C2, .slice B2 U.accept.length D2] W fun (e : Ending) w' => e = .returned (.bool true) ∧ ∃ m, w' = W.drewN m) := Lib.hid fun W hW =>
          (l01Bools A2 B2 T.accept U.accept C2 D2 W (r2.up hW) (s2.up hW) hn2).mono fun e w' ⟨he, hw⟩ => ⟨by rw [he, decide_eq_true k3], hw⟩
        clear k3
        by_cases kl : T.next.length = U.next.length
        · have el : ((T.next.length : Int) != (U.next.length : Int)) = false := by simp [kl]
          have hl1 : T.next.length ≤ U.next.length := by omega
          have hl2 : U.next.length ≤ T.next.length := by omega
          clear kl
          go_enter Try.func30, Try.ntmps30
          go_wp2_with (first
            | (go_at_call 77; refine (HB2.out _ (by repeat (first | exact Below.refl _ _ | refine Below.alloc ?_ (by first | omega | (simp only [sz_alloc, sz_set, sz_drew, sz_drewN]; omega) | (simp only [sz_alloc, sz_set, sz_drew, sz_drewN] at *; omega)) _ | refine Below.setCell ?_ (by first | omega | (simp only [sz_alloc, sz_set, sz_drew, sz_drewN]; omega) | (simp only [sz_alloc, sz_set, sz_drew, sz_drewN] at *; omega)) _ | refine Below.drew ?_ | refine below_drewN_ ?_ _))).mono ?_; rintro e wx2 ⟨rfl, n2, rfl⟩)
            | (go_at_call 78; refine (HB3.out _ (by repeat (first | exact Below.refl _ _ | refine Below.alloc ?_ (by first | omega | (simp only [sz_alloc, sz_set, sz_drew, sz_drewN]; omega) | (simp only [sz_alloc, sz_set, sz_drew, sz_drewN] at *; omega)) _ | refine Below.setCell ?_ (by first | omega | (simp only [sz_alloc, sz_set, sz_drew, sz_drewN]; omega) | (simp only [sz_alloc, sz_set, sz_drew, sz_drewN] at *; omega)) _ | refine Below.drew ?_ | refine below_drewN_ ?_ _))).mono ?_; rintro e wx3 ⟨rfl, n3, rfl⟩))
          have hn4 : totS T.next ≤ 140737488355328 := by rw [tot_list] at hn3; omega
          have hn5 : T.next.length ≤ 140737488355328 := by rw [tot_list] at hn3; omega
          go_loopw [5] (fun i wr => ∃ k : Nat, k ≤ T.next.length ∧ i = .int .i64 k ∧ Drew ((w.alloc (Obj.cells #[Value.int .i64 T.letters, Value.slice A1 T.starts.length C1, Value.slice A2 T.accept.length C2, Value.slice A3 T.next.length C3] 44)).alloc (Obj.cells #[Value.int .i64 U.letters, Value.slice B1 U.starts.length D1, Value.slice B2 U.accept.length D2, Value.slice B3 U.next.length D3] 44)) wr ∧ Hid (decide (T.next = U.next) = decide (T.next.drop k = U.next.drop k))) (fun i _ => T.next.length - (intOf i).toNat)
          case atStart => exact ⟨0, Nat.zero_le _, rfl, (by first | exact ⟨0, rfl⟩ | exact ⟨_, rfl⟩ | exact Drew.more ⟨_, rfl⟩ _), Lib.hid (by simp)⟩
          case round =>
            obtain ⟨k, hk, rfl, hb, heq⟩ := hrel
            have hbw : Since w wr := ⟨by obtain ⟨n, rfl⟩ := hb; exact (by repeat (first | exact Below.refl _ _ | refine Below.alloc ?_ (by first | omega | (simp only [sz_alloc, sz_set, sz_drew, sz_drewN]; omega) | (simp only [sz_alloc, sz_set, sz_drew, sz_drewN] at *; omega)) _ | refine Below.setCell ?_ (by first | omega | (simp only [sz_alloc, sz_set, sz_drew, sz_drewN]; omega) | (simp only [sz_alloc, sz_set, sz_drew, sz_drewN] at *; omega)) _ | refine Below.drew ?_ | refine below_drewN_ ?_ _))⟩
            have m0 : wr.cell? ⟨w.heap.size, 3, none⟩ = some (.slice A3 T.next.length C3) := by obtain ⟨n, rfl⟩ := hb; go_simp
            have m1 : wr.cell? ⟨w.heap.size + 1, 3, none⟩ = some (.slice B3 U.next.length D3) := by obtain ⟨n, rfl⟩ := hb; go_simp
            by_cases hlt : k < T.next.length
            · obtain ⟨x, hx⟩ := get_some hlt
              obtain ⟨y, hy⟩ := get_some (xs := U.next) (k := k) (by omega)
              obtain ⟨b, o, P, p, rfl, hbb, c1, hxl, rx⟩ := (r3.up hbw.out).row hx
              obtain ⟨b', o', Q, q, rfl, hbb', c3, hyl, ry⟩ := (s3.up hbw.out).row hy
              have heq' : Hid (decide (T.next = U.next) = decide (x :: T.next.drop (k + 1) = y :: U.next.drop (k + 1))) := by
                have := heq.out
                rwa [drop_cons hx, drop_cons hy] at this
              have i1 : (0 : Int) ≤ (k : Int) := by omega
              have i2 : (k : Int) < (T.next.length : Int) := by omega
              have i3 : (k : Int) < (U.next.length : Int) := by omega
              have hx1 : Cod.tot x ≤ 140737488355328 := Nat.le_trans (tot_at hx) hn4
              have CQ : Hid (∀ n', Calls Try.prog 79 #[.slice P x.length p, .slice Q y.length q] (wr.drewN n') fun (e : Ending) w' => e = .returned (.bool (decide (x = y))) ∧ ∃ m, w' = wr.drewN m) := Lib.hid fun n' =>
                (l01Lists P Q x y p q (wr.drewN n') (Drew.rd ⟨n', rfl⟩ rx) (Drew.rd ⟨n', rfl⟩ ry) hx1).mono fun e w' ⟨he, hw⟩ => ⟨he, Drew.trans ⟨n', rfl⟩ hw⟩
              clear hx hy heq
              by_cases hxy : x = y
              · have hxe : decide (x = y) = true := by simp [hxy]
                rw [hxe] at CQ
                have HX := Lib.hid hxy
                clear hxy
                go_wp2
                go_quiet ((go_at_call 79; exact CQ.out _))
                go_wp2
                go_roundw
                case rel => exact ⟨k + 1, by omega, by go_num, hb.more _, Lib.hid (by rw [heq'.out, HX.out]; simp)⟩
                case measure => simp [intOf]; omega
              · have hxe : decide (x = y) = false := by simp [hxy]
                rw [hxe] at CQ
                have HX := Lib.hid hxy
                clear hxy
                go_wp2
                go_quiet ((go_at_call 79; exact CQ.out _))
                go_wp2
                go_ret
                exact ⟨ret_bool (by unfold Mn.sameB; rw [K1.out, K2.out, K3.out, heq'.out]; simp [HX.out]), (by repeat (first | exact Below.refl _ _ | exact Since.out (by assumption) | refine Below.alloc ?_ (by first | omega | (simp only [sz_alloc, sz_set, sz_drew, sz_drewN]; omega) | (simp only [sz_alloc, sz_set, sz_drew, sz_drewN] at *; omega)) _ | refine Below.setCell ?_ (by first | omega | (simp only [sz_alloc, sz_set, sz_drew, sz_drewN]; omega) | (simp only [sz_alloc, sz_set, sz_drew, sz_drewN] at *; omega)) _ | refine Below.drew ?_ | refine below_drewN_ ?_ _))⟩
            · go_wp2
              go_ret
              exact ⟨ret_bool (by unfold Mn.sameB; rw [K1.out, K2.out, K3.out, heq.out, List.drop_eq_nil_of_le (by omega), List.drop_eq_nil_of_le (by omega)]; simp), (by repeat (first | exact Below.refl _ _ | exact Since.out (by assumption) | refine Below.alloc ?_ (by first | omega | (simp only [sz_alloc, sz_set, sz_drew, sz_drewN]; omega) | (simp only [sz_alloc, sz_set, sz_drew, sz_drewN] at *; omega)) _ | refine Below.setCell ?_ (by first | omega | (simp only [sz_alloc, sz_set, sz_drew, sz_drewN]; omega) | (simp only [sz_alloc, sz_set, sz_drew, sz_drewN] at *; omega)) _ | refine Below.drew ?_ | refine below_drewN_ ?_ _))⟩
        · have el : ((T.next.length : Int) != (U.next.length : Int)) = true := by simp; omega
          have HL := Lib.hid kl
          clear kl
          go_enter Try.func30, Try.ntmps30
          go_wp2_with (first
            | (go_at_call 77; refine (HB2.out _ (by repeat (first | exact Below.refl _ _ | refine Below.alloc ?_ (by first | omega | (simp only [sz_alloc, sz_set, sz_drew, sz_drewN]; omega) | (simp only [sz_alloc, sz_set, sz_drew, sz_drewN] at *; omega)) _ | refine Below.setCell ?_ (by first | omega | (simp only [sz_alloc, sz_set, sz_drew, sz_drewN]; omega) | (simp only [sz_alloc, sz_set, sz_drew, sz_drewN] at *; omega)) _ | refine Below.drew ?_ | refine below_drewN_ ?_ _))).mono ?_; rintro e wx2 ⟨rfl, n2, rfl⟩)
            | (go_at_call 78; refine (HB3.out _ (by repeat (first | exact Below.refl _ _ | refine Below.alloc ?_ (by first | omega | (simp only [sz_alloc, sz_set, sz_drew, sz_drewN]; omega) | (simp only [sz_alloc, sz_set, sz_drew, sz_drewN] at *; omega)) _ | refine Below.setCell ?_ (by first | omega | (simp only [sz_alloc, sz_set, sz_drew, sz_drewN]; omega) | (simp only [sz_alloc, sz_set, sz_drew, sz_drewN] at *; omega)) _ | refine Below.drew ?_ | refine below_drewN_ ?_ _))).mono ?_; rintro e wx3 ⟨rfl, n3, rfl⟩))
          go_ret
          exact ⟨ret_bool (by unfold Mn.sameB; rw [K1.out, K2.out, K3.out]; simp; intro h; exact absurd (by rw [h]) HL.out), (by repeat (first | exact Below.refl _ _ | refine Below.alloc ?_ (by first | omega | (simp only [sz_alloc, sz_set, sz_drew, sz_drewN]; omega) | (simp only [sz_alloc, sz_set, sz_drew, sz_drewN] at *; omega)) _ | refine Below.setCell ?_ (by first | omega | (simp only [sz_alloc, sz_set, sz_drew, sz_drewN]; omega) | (simp only [sz_alloc, sz_set, sz_drew, sz_drewN] at *; omega)) _ | refine Below.drew ?_ | refine below_drewN_ ?_ _))⟩
      · have K3 := Lib.hid (decide_eq_false k3)
        have HB3 : Hid (∀ W, Below w.heap.size w W → Calls Try.prog 78 #[.slice A2 T.accept.length C2, .slice B2 U.accept.length D2] W fun (e : Ending) w' => e = .returned (.bool false) ∧ ∃ m, w' = W.drewN m) := Lib.hid fun W hW =>
          (l01Bools A2 B2 T.accept U.accept C2 D2 W (r2.up hW) (s2.up hW) hn2).mono fun e w' ⟨he, hw⟩ => ⟨by rw [he, decide_eq_false k3], hw⟩
        clear k3
        go_enter Try.func30, Try.ntmps30
        go_wp2_with (first
          | (go_at_call 77; refine (HB2.out _ (by repeat (first | exact Below.refl _ _ | refine Below.alloc ?_ (by first | omega | (simp only [sz_alloc, sz_set, sz_drew, sz_drewN]; omega) | (simp only [sz_alloc, sz_set, sz_drew, sz_drewN] at *; omega)) _ | refine Below.setCell ?_ (by first | omega | (simp only [sz_alloc, sz_set, sz_drew, sz_drewN]; omega) | (simp only [sz_alloc, sz_set, sz_drew, sz_drewN] at *; omega)) _ | refine Below.drew ?_ | refine below_drewN_ ?_ _))).mono ?_; rintro e wx2 ⟨rfl, n2, rfl⟩)
          | (go_at_call 78; refine (HB3.out _ (by repeat (first | exact Below.refl _ _ | refine Below.alloc ?_ (by first | omega | (simp only [sz_alloc, sz_set, sz_drew, sz_drewN]; omega) | (simp only [sz_alloc, sz_set, sz_drew, sz_drewN] at *; omega)) _ | refine Below.setCell ?_ (by first | omega | (simp only [sz_alloc, sz_set, sz_drew, sz_drewN]; omega) | (simp only [sz_alloc, sz_set, sz_drew, sz_drewN] at *; omega)) _ | refine Below.drew ?_ | refine below_drewN_ ?_ _))).mono ?_; rintro e wx3 ⟨rfl, n3, rfl⟩))
        go_ret
        exact ⟨ret_bool (by unfold Mn.sameB; rw [K1.out, K2.out, K3.out]; simp), (by repeat (first | exact Below.refl _ _ | refine Below.alloc ?_ (by first | omega | (simp only [sz_alloc, sz_set, sz_drew, sz_drewN]; omega) | (simp only [sz_alloc, sz_set, sz_drew, sz_drewN] at *; omega)) _ | refine Below.setCell ?_ (by first | omega | (simp only [sz_alloc, sz_set, sz_drew, sz_drewN]; omega) | (simp only [sz_alloc, sz_set, sz_drew, sz_drewN] at *; omega)) _ | refine Below.drew ?_ | refine below_drewN_ ?_ _))⟩
    · have K2 := Lib.hid (decide_eq_false k2)
      have HB2 : Hid (∀ W, Below w.heap.size w W → Calls Try.prog 77 #[.slice A1 T.starts.length C1, .slice B1 U.starts.length D1] W fun (e : Ending) w' => e = .returned (.bool false) ∧ ∃ m, w' = W.drewN m) := Lib.hid fun W hW =>
        (l00Same A1 B1 T.starts U.starts C1 D1 W (r1.up hW) (s1.up hW) hn1).mono fun e w' ⟨he, hw⟩ => ⟨by rw [he, decide_eq_false k2], hw⟩
      clear k2
      go_enter Try.func30, Try.ntmps30
      go_wp2_with (first
        | (go_at_call 77; refine (HB2.out _ (by repeat (first | exact Below.refl _ _ | refine Below.alloc ?_ (by first | omega | (simp only [sz_alloc, sz_set, sz_drew, sz_drewN]; omega) | (simp only [sz_alloc, sz_set, sz_drew, sz_drewN] at *; omega)) _ | refine Below.setCell ?_ (by first | omega | (simp only [sz_alloc, sz_set, sz_drew, sz_drewN]; omega) | (simp only [sz_alloc, sz_set, sz_drew, sz_drewN] at *; omega)) _ | refine Below.drew ?_ | refine below_drewN_ ?_ _))).mono ?_; rintro e wx2 ⟨rfl, n2, rfl⟩))
      go_ret
      exact ⟨ret_bool (by unfold Mn.sameB; rw [K1.out, K2.out]; simp), (by repeat (first | exact Below.refl _ _ | refine Below.alloc ?_ (by first | omega | (simp only [sz_alloc, sz_set, sz_drew, sz_drewN]; omega) | (simp only [sz_alloc, sz_set, sz_drew, sz_drewN] at *; omega)) _ | refine Below.setCell ?_ (by first | omega | (simp only [sz_alloc, sz_set, sz_drew, sz_drewN]; omega) | (simp only [sz_alloc, sz_set, sz_drew, sz_drewN] at *; omega)) _ | refine Below.drew ?_ | refine below_drewN_ ?_ _))⟩
  · have e1 : (T.letters != U.letters) = true := by simp [k1]
    have K1 := Lib.hid (decide_eq_false k1)
    clear k1
    go_enter Try.func30, Try.ntmps30
    go_wp2_with fail
    go_ret
    exact ⟨ret_bool (by unfold Mn.sameB; rw [K1.out]; simp), (by repeat (first | exact Below.refl _ _ | refine Below.alloc ?_ (by first | omega | (simp only [sz_alloc, sz_set, sz_drew, sz_drewN]; omega) | (simp only [sz_alloc, sz_set, sz_drew, sz_drewN] at *; omega)) _ | refine Below.setCell ?_ (by first | omega | (simp only [sz_alloc, sz_set, sz_drew, sz_drewN]; omega) | (simp only [sz_alloc, sz_set, sz_drew, sz_drewN] at *; omega)) _ | refine Below.drew ?_ | refine below_drewN_ ?_ _))⟩
end Go.Proofs.Ytollaaebheeakaa
