/-
  Contracts of slices.Equal on numbers, and over rows of them. Conditions: those in each statement.
-/
import Derived.Test.YtollaaebheeakaaMem
import Derived.Test.YtollaaebheeakaaRows
import Derived.ProofKit
import Derived.BigQuiet
import Derived.Deep.QuietTactic
set_option linter.unusedVariables false
set_option linter.unusedSimpArgs false
set_option maxRecDepth 100000
set_option maxHeartbeats 1000000
namespace Go.Proofs.Ytollaaebheeakaa
open Go.RowKit

theorem equalInt64s (A A' : Option Addr) (xs ys : List Int) (c c' : Nat) (w : World) (h1 : RdS w w.heap.size A xs) (h2 : RdS w w.heap.size A' ys) (hn : xs.length ≤ 140737488355328) :
    Calls Try.prog 80 #[.slice A xs.length c, .slice A' ys.length c'] w fun e w' => e = .returned (.bool (decide (xs = ys))) ∧ ∃ n, w' = w.drewN n := by
  by_cases hl : xs.length = ys.length
  · have hl0 : ((xs.length : Int) != (ys.length : Int)) = false := by simp [hl]
    have hl1 : xs.length ≤ ys.length := by omega
    have hl2 : ys.length ≤ xs.length := by omega
    clear hl
    go_enter Try.func80, Try.ntmps80
    go_wp2
    go_loopw [13] (fun i wr => ∃ k : Nat, k ≤ xs.length ∧ i = .int .i64 k ∧ Drew w wr ∧ Hid (decide (xs = ys) = decide (xs.drop k = ys.drop k))) (fun i _ => xs.length - (intOf i).toNat)
    case atStart => exact ⟨0, Nat.zero_le _, rfl, ⟨0, rfl⟩, Lib.hid (by simp)⟩
    case round =>
      obtain ⟨k, hk, rfl, hb, heq⟩ := hrel
      by_cases hlt : k < xs.length
      · obtain ⟨x, hx⟩ := get_some hlt
        obtain ⟨y, hy⟩ := get_some (xs := ys) (k := k) (by omega)
        obtain ⟨b, o, rfl, hbb, c1⟩ := (hb.rd h1).int hx
        obtain ⟨b', o', rfl, hbb', c3⟩ := (hb.rd h2).int hy
        have heq' : Hid (decide (xs = ys) = decide (x :: xs.drop (k + 1) = y :: ys.drop (k + 1))) := by
          have := heq.out
          rwa [drop_cons hx, drop_cons hy] at this
        have i1 : (0 : Int) ≤ (k : Int) := by omega
        have i2 : (k : Int) < (xs.length : Int) := by omega
        have i3 : (k : Int) < (ys.length : Int) := by omega
        clear hx hy heq
        by_cases hxy : x = y
        · have hxe : (x != y) = false := by simp [hxy]
          have HX := Lib.hid hxy
          clear hxy
          go_wp2
          go_quiet (fail)
          go_wp2
          go_roundw
          case rel => exact ⟨k + 1, by omega, by go_num, hb.more _, Lib.hid (by rw [heq'.out, HX.out]; simp)⟩
          case measure => simp [intOf]; omega
        · have hxe : (x != y) = true := by simp [hxy]
          have HX := Lib.hid hxy
          clear hxy
          go_wp2
          go_quiet (fail)
          go_wp2
          go_ret
          exact ⟨ret_bool (by rw [heq'.out]; simp [HX.out]), hb.more _⟩
      · go_wp2
        go_ret
        exact ⟨ret_bool (by rw [heq.out, List.drop_eq_nil_of_le (by omega), List.drop_eq_nil_of_le (by omega)]; simp), hb⟩
  · have hl0 : ((xs.length : Int) != (ys.length : Int)) = true := by simp; omega
    have HL := Lib.hid hl
    clear hl
    go_enter Try.func80, Try.ntmps80
    go_wp2
    go_ret
    exact ⟨ret_bool (by simp; intro h; exact HL.out (by rw [h])), ⟨0, rfl⟩⟩

theorem equalFuncInt64SS (A A' : Option Addr) (xs ys : List (List Int)) (c c' : Nat) (w : World) (h1 : RdS w w.heap.size A xs) (h2 : RdS w w.heap.size A' ys) (hn : Cod.tot xs ≤ 140737488355328) :
    Calls Try.prog 84 #[.slice A xs.length c, .slice A' ys.length c', .func (.func 80) #[] #[]] w fun e w' => e = .returned (.bool (decide (xs = ys))) ∧ ∃ n, w' = w.drewN n := by
  have hn0 : xs.length ≤ 140737488355328 := by rw [tot_list] at hn; omega
  have hn1 : totS xs ≤ 140737488355328 := by rw [tot_list] at hn; omega
  by_cases hl : xs.length = ys.length
  · have hl0 : ((xs.length : Int) != (ys.length : Int)) = false := by simp [hl]
    have hl1 : xs.length ≤ ys.length := by omega
    have hl2 : ys.length ≤ xs.length := by omega
    clear hl
    go_enter Try.func84, Try.ntmps84
    go_wp2
    go_loopw [17] (fun i wr => ∃ k : Nat, k ≤ xs.length ∧ i = .int .i64 k ∧ Drew w wr ∧ Hid (decide (xs = ys) = decide (xs.drop k = ys.drop k))) (fun i _ => xs.length - (intOf i).toNat)
    case atStart => exact ⟨0, Nat.zero_le _, rfl, ⟨0, rfl⟩, Lib.hid (by simp)⟩
    case round =>
      obtain ⟨k, hk, rfl, hb, heq⟩ := hrel
      by_cases hlt : k < xs.length
      · obtain ⟨x, hx⟩ := get_some hlt
        obtain ⟨y, hy⟩ := get_some (xs := ys) (k := k) (by omega)
        obtain ⟨b, o, P, p, rfl, hbb, c1, hxl, rx⟩ := (hb.rd h1).row hx
        obtain ⟨b', o', Q, q, rfl, hbb', c3, hyl, ry⟩ := (hb.rd h2).row hy
        have heq' : Hid (decide (xs = ys) = decide (x :: xs.drop (k + 1) = y :: ys.drop (k + 1))) := by
          have := heq.out
          rwa [drop_cons hx, drop_cons hy] at this
        have i1 : (0 : Int) ≤ (k : Int) := by omega
        have i2 : (k : Int) < (xs.length : Int) := by omega
        have i3 : (k : Int) < (ys.length : Int) := by omega
        have hx1 : Cod.tot x ≤ 140737488355328 := Nat.le_trans (tot_at hx) hn1
        have hx2 : x.length ≤ 140737488355328 := by rw [tot_list] at hx1; omega
        have C1 : Hid (∀ n, Calls Try.prog 80 #[.slice P x.length p, .slice Q y.length q] (wr.drewN n) fun (e : Ending) w' => e = .returned (.bool (decide (x = y))) ∧ ∃ m, w' = wr.drewN m) := Lib.hid fun n =>
          (equalInt64s P Q x y p q (wr.drewN n) (Drew.rd ⟨n, rfl⟩ rx) (Drew.rd ⟨n, rfl⟩ ry) hx2).mono fun e w' ⟨he, hw⟩ => ⟨he, Drew.trans ⟨n, rfl⟩ hw⟩
        clear hx hy heq hx1
        by_cases hxy : x = y
        · have hxe : decide (x = y) = true := by simp [hxy]
          rw [hxe] at C1
          have HX := Lib.hid hxy
          clear hxy
          go_wp2_with (go_at_call 80; refine (C1.out 0).mono ?_; rintro e w1 ⟨rfl, n1, rfl⟩)
          go_roundw
          case rel => exact ⟨k + 1, by omega, by go_num, hb.more _, Lib.hid (by rw [heq'.out, HX.out]; simp)⟩
          case measure => simp [intOf]; omega
        · have hxe : decide (x = y) = false := by simp [hxy]
          rw [hxe] at C1
          have HX := Lib.hid hxy
          clear hxy
          go_wp2_with (go_at_call 80; refine (C1.out 0).mono ?_; rintro e w1 ⟨rfl, n1, rfl⟩)
          go_ret
          exact ⟨ret_bool (by rw [heq'.out]; simp [HX.out]), hb.more _⟩
      · go_wp2
        go_ret
        exact ⟨ret_bool (by rw [heq.out, List.drop_eq_nil_of_le (by omega), List.drop_eq_nil_of_le (by omega)]; simp), hb⟩
  · have hl0 : ((xs.length : Int) != (ys.length : Int)) = true := by simp; omega
    have HL := Lib.hid hl
    clear hl
    go_enter Try.func84, Try.ntmps84
    go_wp2
    go_ret
    exact ⟨ret_bool (by simp; intro h; exact HL.out (by rw [h])), ⟨0, rfl⟩⟩
end Go.Proofs.Ytollaaebheeakaa
