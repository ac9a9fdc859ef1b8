/-
  Contracts of the program's and the reference's comparisons of rows of pairs. Conditions: those in each statement.
-/
import Derived.Test.YtahcholnfehibaaTab
import Derived.BigQuiet
import Derived.Deep.QuietTactic
set_option linter.unusedVariables false
set_option linter.unusedSimpArgs false
namespace Go.Proofs.Ytahcholnfehibaa
open Go.RowKit

theorem l03Exits (A A' : Option Addr) (xs ys : List (Int × Int)) (c c' : Nat) (w : World) (h1 : RdS w w.heap.size A xs) (h2 : RdS w w.heap.size A' ys) (hn : xs.length ≤ 140737488355328) :
    Calls Try.prog 34 #[.slice A xs.length c, .slice A' ys.length c'] w fun e w' => e = .returned (.bool (decide (xs = ys))) ∧ ∃ n, w' = w.drewN n := by
  by_cases hl : xs.length = ys.length
  · have hl0 : ((xs.length : Int) != (ys.length : Int)) = false := by simp [hl]
    have hl1 : xs.length ≤ ys.length := by omega
    have hl2 : ys.length ≤ xs.length := by omega
    clear hl
    go_enter Try.func34, Try.ntmps34
    go_wp2
    go_loopw [5] (fun i wr => ∃ k : Nat, k ≤ xs.length ∧ i = .int .i64 k ∧ Drew w wr ∧ Hid (decide (xs = ys) = decide (xs.drop k = ys.drop k))) (fun i _ => xs.length - (intOf i).toNat)
    case atStart => exact ⟨0, Nat.zero_le _, rfl, ⟨0, rfl⟩, Lib.hid (by simp)⟩
    case round =>
      obtain ⟨k, hk, rfl, hb, heq⟩ := hrel
      by_cases hlt : k < xs.length
      · obtain ⟨x, hx⟩ := get_some hlt
        obtain ⟨y, hy⟩ := get_some (xs := ys) (k := k) (by omega)
        obtain ⟨b, o, rfl, hbb, c1, c2⟩ := (hb.rd h1).pair hx
        obtain ⟨b', o', rfl, hbb', c3, c4⟩ := (hb.rd h2).pair hy
        have heq' : Hid (decide (xs = ys) = decide (x :: xs.drop (k + 1) = y :: ys.drop (k + 1))) := by
          have := heq.out
          rwa [drop_cons hx, drop_cons hy] at this
        have i1 : (0 : Int) ≤ (k : Int) := by omega
        have i2 : (k : Int) < (xs.length : Int) := by omega
        have i3 : (k : Int) < (ys.length : Int) := by omega
        clear hx hy heq
        have hg := eqGuardExit
        have he := equalExit x y
        go_wp2
        go_quiet (fail)
        go_wp2
        · have hne : (!decide (x = y)) = true := by assumption
          go_ret
          exact ⟨ret_bool (by rw [heq'.out]; simp_all), hb.more _⟩
        · have hne : (!decide (x = y)) = false := by assumption
          go_roundw
          case rel => exact ⟨k + 1, by omega, by go_num, hb.more _, Lib.hid (by rw [heq'.out]; simp_all)⟩
          case measure => simp [intOf]; omega
      · go_wp2
        go_ret
        exact ⟨ret_bool (by rw [heq.out, List.drop_eq_nil_of_le (by omega), List.drop_eq_nil_of_le (by omega)]; simp), hb⟩
  · have hl0 : ((xs.length : Int) != (ys.length : Int)) = true := by simp; omega
    have HL := Lib.hid hl
    clear hl
    go_enter Try.func34, Try.ntmps34
    go_wp2
    go_ret
    exact ⟨ret_bool (by simp; intro h; exact HL.out (by rw [h])), ⟨0, rfl⟩⟩
theorem equalExits (A A' : Option Addr) (xs ys : List (Int × Int)) (c c' : Nat) (w : World) (h1 : RdS w w.heap.size A xs) (h2 : RdS w w.heap.size A' ys) (hn : xs.length ≤ 140737488355328) :
    Calls Try.prog 21 #[.slice A xs.length c, .slice A' ys.length c'] w fun e w' => e = .returned (.bool (decide (xs = ys))) ∧ ∃ n, w' = w.drewN n := by
  by_cases hl : xs.length = ys.length
  · have hl0 : ((xs.length : Int) != (ys.length : Int)) = false := by simp [hl]
    have hl1 : xs.length ≤ ys.length := by omega
    have hl2 : ys.length ≤ xs.length := by omega
    clear hl
    go_enter Try.func21, Try.ntmps21
    go_wp2
    go_loopw [13] (fun i wr => ∃ k : Nat, k ≤ xs.length ∧ i = .int .i64 k ∧ Drew w wr ∧ Hid (decide (xs = ys) = decide (xs.drop k = ys.drop k))) (fun i _ => xs.length - (intOf i).toNat)
    case atStart => exact ⟨0, Nat.zero_le _, rfl, ⟨0, rfl⟩, Lib.hid (by simp)⟩
    case round =>
      obtain ⟨k, hk, rfl, hb, heq⟩ := hrel
      by_cases hlt : k < xs.length
      · obtain ⟨x, hx⟩ := get_some hlt
        obtain ⟨y, hy⟩ := get_some (xs := ys) (k := k) (by omega)
        obtain ⟨b, o, rfl, hbb, c1, c2⟩ := (hb.rd h1).pair hx
        obtain ⟨b', o', rfl, hbb', c3, c4⟩ := (hb.rd h2).pair hy
        have heq' : Hid (decide (xs = ys) = decide (x :: xs.drop (k + 1) = y :: ys.drop (k + 1))) := by
          have := heq.out
          rwa [drop_cons hx, drop_cons hy] at this
        have i1 : (0 : Int) ≤ (k : Int) := by omega
        have i2 : (k : Int) < (xs.length : Int) := by omega
        have i3 : (k : Int) < (ys.length : Int) := by omega
        clear hx hy heq
        have hg := eqGuardExit
        have he := equalExit x y
        go_wp2
        go_quiet (fail)
        go_wp2
        · have hne : (!decide (x = y)) = true := by assumption
          go_ret
          exact ⟨ret_bool (by rw [heq'.out]; simp_all), hb.more _⟩
        · have hne : (!decide (x = y)) = false := by assumption
          go_roundw
          case rel => exact ⟨k + 1, by omega, by go_num, hb.more _, Lib.hid (by rw [heq'.out]; simp_all)⟩
          case measure => simp [intOf]; omega
      · go_wp2
        go_ret
        exact ⟨ret_bool (by rw [heq.out, List.drop_eq_nil_of_le (by omega), List.drop_eq_nil_of_le (by omega)]; simp), hb⟩
  · have hl0 : ((xs.length : Int) != (ys.length : Int)) = true := by simp; omega
    have HL := Lib.hid hl
    clear hl
    go_enter Try.func21, Try.ntmps21
    go_wp2
    go_ret
    exact ⟨ret_bool (by simp; intro h; exact HL.out (by rw [h])), ⟨0, rfl⟩⟩

theorem l03Same (b b' : Nat) (A A' D D' : Option Addr) (T T' : Tb) (c c' d d' : Nat) (w : World) (k1 : w.cell? ⟨b, 0, none⟩ = some (.slice A T.l.length c)) (k2 : w.cell? ⟨b, 1, none⟩ = some (.slice A' T.r.length c'))
    (k3 : w.cell? ⟨b', 0, none⟩ = some (.slice D T'.l.length d)) (k4 : w.cell? ⟨b', 1, none⟩ = some (.slice D' T'.r.length d'))
    (r1 : RdS w w.heap.size A T.l) (r2 : RdS w w.heap.size A' T.r) (r3 : RdS w w.heap.size D T'.l) (r4 : RdS w w.heap.size D' T'.r) (hn : T.tot ≤ 140737488355328) :
    Calls Try.prog 19 #[.pointer (some ⟨b, 0, none⟩), .pointer (some ⟨b', 0, none⟩)] w fun e w' => e = .returned (.bool (decide (T.l = T'.l) && decide (T.r = T'.r))) ∧ ∃ n, w' = w.drewN n := by
  have hn1 : T.l.length ≤ 140737488355328 := by unfold Tb.tot at hn; omega
  have hn2 : T.r.length ≤ 140737488355328 := by unfold Tb.tot at hn; omega
  by_cases h : T.l = T'.l
  · have C1 : Hid (∀ n, Calls Try.prog 34 #[.slice A T.l.length c, .slice D T'.l.length d] (w.drewN n) fun (e : Ending) w' => e = .returned (.bool true) ∧ ∃ m, w' = w.drewN m) := fun n =>
      Calls.quiet_of ((l03Exits A D T.l T'.l c d (w.drewN n) (Drew.rd ⟨n, rfl⟩ r1) (Drew.rd ⟨n, rfl⟩ r3) hn1).mono fun e w' ⟨he, hw⟩ => ⟨by rw [he, decide_eq_true h], hw⟩)
    have C2 : Hid (∀ n, Calls Try.prog 34 #[.slice A' T.r.length c', .slice D' T'.r.length d'] (w.drewN n) fun (e : Ending) w' => e = .returned (.bool (decide (T.r = T'.r))) ∧ ∃ m, w' = w.drewN m) := fun n =>
      Calls.quiet_of (l03Exits A' D' T.r T'.r c' d' (w.drewN n) (Drew.rd ⟨n, rfl⟩ r2) (Drew.rd ⟨n, rfl⟩ r4) hn2)
    have H := Lib.hid h
    clear h
    go_enter Try.func19, Try.ntmps19
    go_wp2
    go_quiet (first | (go_at_call 34; with_reducible exact C1.out _) | (go_at_call 34; with_reducible exact C2.out _))
    go_wp2
    go_ret
    exact ⟨ret_bool (by rw [decide_eq_true H.out]; rfl), ⟨_, rfl⟩⟩
  · have C1 : Hid (∀ n, Calls Try.prog 34 #[.slice A T.l.length c, .slice D T'.l.length d] (w.drewN n) fun (e : Ending) w' => e = .returned (.bool false) ∧ ∃ m, w' = w.drewN m) := fun n =>
      Calls.quiet_of ((l03Exits A D T.l T'.l c d (w.drewN n) (Drew.rd ⟨n, rfl⟩ r1) (Drew.rd ⟨n, rfl⟩ r3) hn1).mono fun e w' ⟨he, hw⟩ => ⟨by rw [he, decide_eq_false h], hw⟩)
    have H := Lib.hid h
    clear h
    go_enter Try.func19, Try.ntmps19
    go_wp2
    go_quiet ((go_at_call 34; exact C1.out _))
    go_wp2
    go_ret
    exact ⟨ret_bool (by rw [decide_eq_false H.out]; rfl), ⟨_, rfl⟩⟩
theorem sameTable_spec (v v' : Value) (T T' : Tb) (w : World) (h1 : RdTb w w.heap.size v T) (h2 : RdTb w w.heap.size v' T') (hn : T.tot ≤ 140737488355328) :
    Calls Try.prog 8 #[v, v'] w fun e w' => e = .returned (.bool (decide (T.l = T'.l) && decide (T.r = T'.r))) ∧ Below w.heap.size w w' := by
  obtain ⟨A, c, A', c', rfl, r1, r2⟩ := h1
  obtain ⟨D, d, D', d', rfl, r3, r4⟩ := h2
  go_enter Try.func8, Try.ntmps8
  go_wp2_with fail
  refine (l03Same w.heap.size (w.heap.size + 1) A A' D D' T T' c c' d d' _ (by go_simp) (by go_simp) (by go_simp) (by go_simp) (r1.up (by repeat (first | exact Below.refl _ _ | exact Since.out (by assumption) | refine Below.alloc ?_ (by first | omega | (simp only [sz_alloc, sz_set, sz_drew, sz_drewN]; omega) | (simp only [sz_alloc, sz_set, sz_drew, sz_drewN] at *; omega)) _ | refine Below.setCell ?_ (by first | omega | (simp only [sz_alloc, sz_set, sz_drew, sz_drewN]; omega) | (simp only [sz_alloc, sz_set, sz_drew, sz_drewN] at *; omega)) _ | refine Below.drew ?_ | refine below_drewN_ ?_ _))) (r2.up (by repeat (first | exact Below.refl _ _ | exact Since.out (by assumption) | refine Below.alloc ?_ (by first | omega | (simp only [sz_alloc, sz_set, sz_drew, sz_drewN]; omega) | (simp only [sz_alloc, sz_set, sz_drew, sz_drewN] at *; omega)) _ | refine Below.setCell ?_ (by first | omega | (simp only [sz_alloc, sz_set, sz_drew, sz_drewN]; omega) | (simp only [sz_alloc, sz_set, sz_drew, sz_drewN] at *; omega)) _ | refine Below.drew ?_ | refine below_drewN_ ?_ _))) (r3.up (by repeat (first | exact Below.refl _ _ | exact Since.out (by assumption) | refine Below.alloc ?_ (by first | omega | (simp only [sz_alloc, sz_set, sz_drew, sz_drewN]; omega) | (simp only [sz_alloc, sz_set, sz_drew, sz_drewN] at *; omega)) _ | refine Below.setCell ?_ (by first | omega | (simp only [sz_alloc, sz_set, sz_drew, sz_drewN]; omega) | (simp only [sz_alloc, sz_set, sz_drew, sz_drewN] at *; omega)) _ | refine Below.drew ?_ | refine below_drewN_ ?_ _))) (r4.up (by repeat (first | exact Below.refl _ _ | exact Since.out (by assumption) | refine Below.alloc ?_ (by first | omega | (simp only [sz_alloc, sz_set, sz_drew, sz_drewN]; omega) | (simp only [sz_alloc, sz_set, sz_drew, sz_drewN] at *; omega)) _ | refine Below.setCell ?_ (by first | omega | (simp only [sz_alloc, sz_set, sz_drew, sz_drewN]; omega) | (simp only [sz_alloc, sz_set, sz_drew, sz_drewN] at *; omega)) _ | refine Below.drew ?_ | refine below_drewN_ ?_ _))) hn).mono ?_
  rintro e w1 ⟨rfl, n, rfl⟩
  go_wp2
  go_ret
  exact ⟨rfl, (by repeat (first | exact Below.refl _ _ | exact Since.out (by assumption) | refine Below.alloc ?_ (by first | omega | (simp only [sz_alloc, sz_set, sz_drew, sz_drewN]; omega) | (simp only [sz_alloc, sz_set, sz_drew, sz_drewN] at *; omega)) _ | refine Below.setCell ?_ (by first | omega | (simp only [sz_alloc, sz_set, sz_drew, sz_drewN]; omega) | (simp only [sz_alloc, sz_set, sz_drew, sz_drewN] at *; omega)) _ | refine Below.drew ?_ | refine below_drewN_ ?_ _))⟩
theorem sameTable_impl (v v' : Value) (T T' : Tb) (w : World) (h1 : RdTb w w.heap.size v T) (h2 : RdTb w w.heap.size v' T') (hn : T.tot ≤ 140737488355328) :
    Calls Try.prog 10 #[v, v'] w fun e w' => e = .returned (.bool (decide (T.l = T'.l) && decide (T.r = T'.r))) ∧ Below w.heap.size w w' := by
  have hn1 : T.l.length ≤ 140737488355328 := by unfold Tb.tot at hn; omega
  have hn2 : T.r.length ≤ 140737488355328 := by unfold Tb.tot at hn; omega
  obtain ⟨A, c, A', c', rfl, r1, r2⟩ := h1
  obtain ⟨D, d, D', d', rfl, r3, r4⟩ := h2
  go_enter Try.func10, Try.ntmps10
  go_wp2_with fail
  refine (equalExits A D T.l T'.l c d _ (r1.up (by repeat (first | exact Below.refl _ _ | exact Since.out (by assumption) | refine Below.alloc ?_ (by first | omega | (simp only [sz_alloc, sz_set, sz_drew, sz_drewN]; omega) | (simp only [sz_alloc, sz_set, sz_drew, sz_drewN] at *; omega)) _ | refine Below.setCell ?_ (by first | omega | (simp only [sz_alloc, sz_set, sz_drew, sz_drewN]; omega) | (simp only [sz_alloc, sz_set, sz_drew, sz_drewN] at *; omega)) _ | refine Below.drew ?_ | refine below_drewN_ ?_ _))) (r3.up (by repeat (first | exact Below.refl _ _ | exact Since.out (by assumption) | refine Below.alloc ?_ (by first | omega | (simp only [sz_alloc, sz_set, sz_drew, sz_drewN]; omega) | (simp only [sz_alloc, sz_set, sz_drew, sz_drewN] at *; omega)) _ | refine Below.setCell ?_ (by first | omega | (simp only [sz_alloc, sz_set, sz_drew, sz_drewN]; omega) | (simp only [sz_alloc, sz_set, sz_drew, sz_drewN] at *; omega)) _ | refine Below.drew ?_ | refine below_drewN_ ?_ _))) hn1).mono ?_
  rintro e w1 ⟨rfl, n, rfl⟩
  by_cases h : T.l = T'.l
  · have H := decide_eq_true h
    have H' := Lib.hid H
    clear h
    go_wp2_with fail
    refine (equalExits A' D' T.r T'.r c' d' _ (r2.up (by repeat (first | exact Below.refl _ _ | exact Since.out (by assumption) | refine Below.alloc ?_ (by first | omega | (simp only [sz_alloc, sz_set, sz_drew, sz_drewN]; omega) | (simp only [sz_alloc, sz_set, sz_drew, sz_drewN] at *; omega)) _ | refine Below.setCell ?_ (by first | omega | (simp only [sz_alloc, sz_set, sz_drew, sz_drewN]; omega) | (simp only [sz_alloc, sz_set, sz_drew, sz_drewN] at *; omega)) _ | refine Below.drew ?_ | refine below_drewN_ ?_ _))) (r4.up (by repeat (first | exact Below.refl _ _ | exact Since.out (by assumption) | refine Below.alloc ?_ (by first | omega | (simp only [sz_alloc, sz_set, sz_drew, sz_drewN]; omega) | (simp only [sz_alloc, sz_set, sz_drew, sz_drewN] at *; omega)) _ | refine Below.setCell ?_ (by first | omega | (simp only [sz_alloc, sz_set, sz_drew, sz_drewN]; omega) | (simp only [sz_alloc, sz_set, sz_drew, sz_drewN] at *; omega)) _ | refine Below.drew ?_ | refine below_drewN_ ?_ _))) hn2).mono ?_
    rintro e w1 ⟨rfl, m, rfl⟩
    go_wp2
    go_ret
    exact ⟨ret_bool (by rw [H'.out]; rfl), (by repeat (first | exact Below.refl _ _ | exact Since.out (by assumption) | refine Below.alloc ?_ (by first | omega | (simp only [sz_alloc, sz_set, sz_drew, sz_drewN]; omega) | (simp only [sz_alloc, sz_set, sz_drew, sz_drewN] at *; omega)) _ | refine Below.setCell ?_ (by first | omega | (simp only [sz_alloc, sz_set, sz_drew, sz_drewN]; omega) | (simp only [sz_alloc, sz_set, sz_drew, sz_drewN] at *; omega)) _ | refine Below.drew ?_ | refine below_drewN_ ?_ _))⟩
  · have H := decide_eq_false h
    have H' := Lib.hid H
    clear h
    go_wp2
    go_ret
    exact ⟨ret_bool (by rw [H'.out]; rfl), (by repeat (first | exact Below.refl _ _ | exact Since.out (by assumption) | refine Below.alloc ?_ (by first | omega | (simp only [sz_alloc, sz_set, sz_drew, sz_drewN]; omega) | (simp only [sz_alloc, sz_set, sz_drew, sz_drewN] at *; omega)) _ | refine Below.setCell ?_ (by first | omega | (simp only [sz_alloc, sz_set, sz_drew, sz_drewN]; omega) | (simp only [sz_alloc, sz_set, sz_drew, sz_drewN] at *; omega)) _ | refine Below.drew ?_ | refine below_drewN_ ?_ _))⟩
end Go.Proofs.Ytahcholnfehibaa
