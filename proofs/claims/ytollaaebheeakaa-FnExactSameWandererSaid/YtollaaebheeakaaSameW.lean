/-
  Contracts of SameWanderer, and of what it calls. Conditions: those in each statement.
-/
import Derived.Test.YtollaaebheeakaaSWanderer
import Derived.Test.YtollaaebheeakaaEqInt
import Derived.Test.YtollaaebheeakaaEqMove
import Derived.Test.YtollaaebheeakaaEqL01
import Derived.ProofKit
import Derived.BigQuiet
import Derived.Deep.QuietTactic
set_option linter.unusedVariables false
set_option linter.unusedSimpArgs false
set_option maxRecDepth 100000
set_option maxHeartbeats 1000000
namespace Go.Proofs.Ytollaaebheeakaa
open Go.RowKit

theorem l04SameMoves (A A' : Option Addr) (xs ys : List (Int × Int)) (c c' : Nat) (w : World) (h1 : RdS w w.heap.size A xs) (h2 : RdS w w.heap.size A' ys) (hn : xs.length ≤ 140737488355328) :
    Calls Try.prog 86 #[.slice A xs.length c, .slice A' ys.length c'] w fun e w' => e = .returned (.bool (decide (xs = ys))) ∧ ∃ n, w' = w.drewN n := by
  by_cases hl : xs.length = ys.length
  · have hl0 : ((xs.length : Int) != (ys.length : Int)) = false := by simp [hl]
    have hl1 : xs.length ≤ ys.length := by omega
    have hl2 : ys.length ≤ xs.length := by omega
    clear hl
    go_enter Try.func86, Try.ntmps86
    go_wp2
    go_loopw [5] (fun i wr => ∃ k : Nat, k ≤ xs.length ∧ i = .int .i64 k ∧ Drew w wr ∧ Hid (decide (xs = ys) = decide (xs.drop k = ys.drop k))) (fun i _ => xs.length - (intOf i).toNat)
    case atStart => exact ⟨0, Nat.zero_le _, rfl, ⟨0, rfl⟩, Lib.hid (by simp)⟩
    case round =>
      obtain ⟨k, hk, rfl, hb, heq⟩ := hrel
      by_cases hlt : k < xs.length
      · obtain ⟨x, hx⟩ := get_some hlt
        obtain ⟨y, hy⟩ := get_some (xs := ys) (k := k) (by omega)
        obtain ⟨b, o, rfl, hbb, c1, c2⟩ := (hb.rd h1).pair hx
        obtain ⟨b', o', rfl, hbb', c3, c4⟩ := (hb.rd h2).pair hy
        have heq' : Hid (decide (xs = ys) = decide (x :: xs.drop (k + 1) = y :: ys.drop (k + 1))) := by
          have := heq.out
          rwa [drop_cons hx, drop_cons hy] at this
        have i1 : (0 : Int) ≤ (k : Int) := by omega
        have i2 : (k : Int) < (xs.length : Int) := by omega
        have i3 : (k : Int) < (ys.length : Int) := by omega
        clear hx hy heq
        have hg := eqGuardMove
        have he := equalMove x y
        by_cases hxy : x = y
        · have hxe : decide (x = y) = true := by simp [hxy]
          have HX := Lib.hid hxy
          clear hxy
          go_wp2
          go_quiet (fail)
          go_wp2
          go_roundw
          case rel => exact ⟨k + 1, by omega, by go_num, hb.more _, Lib.hid (by rw [heq'.out, HX.out]; simp)⟩
          case measure => simp [intOf]; omega
        · have hxe : decide (x = y) = false := by simp [hxy]
          have HX := Lib.hid hxy
          clear hxy
          go_wp2
          go_quiet (fail)
          go_wp2
          go_ret
          exact ⟨ret_bool (by rw [heq'.out]; simp [HX.out]), hb.more _⟩
      · go_wp2
        go_ret
        exact ⟨ret_bool (by rw [heq.out, List.drop_eq_nil_of_le (by omega), List.drop_eq_nil_of_le (by omega)]; simp), hb⟩
  · have hl0 : ((xs.length : Int) != (ys.length : Int)) = true := by simp; omega
    have HL := Lib.hid hl
    clear hl
    go_enter Try.func86, Try.ntmps86
    go_wp2
    go_ret
    exact ⟨ret_bool (by simp; intro h; exact HL.out (by rw [h])), ⟨0, rfl⟩⟩
theorem sameWandererRow (A A' : Option Addr) (xs ys : List (List (Int × Int))) (c c' : Nat) (w : World) (h1 : RdS w w.heap.size A xs) (h2 : RdS w w.heap.size A' ys) (hn : Cod.tot xs ≤ 140737488355328) :
    Calls Try.prog 89 #[.slice A xs.length c, .slice A' ys.length c'] w fun e w' => e = .returned (.bool (decide (xs = ys))) ∧ ∃ n, w' = w.drewN n := by
  go_enter Try.func89, Try.ntmps89
  go_wp2_with (go_at_call 90; refine (equalFuncMoveSS A A' xs ys c c' _ (Drew.rd ⟨0, rfl⟩ h1) (Drew.rd ⟨0, rfl⟩ h2) hn).mono ?_; rintro e w1 ⟨rfl, n1, rfl⟩)
  go_ret
  exact ⟨rfl, _, rfl⟩


theorem equalFuncMoveSSS (A A' : Option Addr) (xs ys : List (List (List (Int × Int)))) (c c' : Nat) (w : World) (h1 : RdS w w.heap.size A xs) (h2 : RdS w w.heap.size A' ys) (hn : Cod.tot xs ≤ 140737488355328) :
    Calls Try.prog 88 #[.slice A xs.length c, .slice A' ys.length c', .func (.func 89) #[] #[]] w fun e w' => e = .returned (.bool (decide (xs = ys))) ∧ ∃ n, w' = w.drewN n := by
  have hn0 : xs.length ≤ 140737488355328 := by rw [tot_list] at hn; omega
  have hn1 : totS xs ≤ 140737488355328 := by rw [tot_list] at hn; omega
  by_cases hl : xs.length = ys.length
  · have hl0 : ((xs.length : Int) != (ys.length : Int)) = false := by simp [hl]
    have hl1 : xs.length ≤ ys.length := by omega
    have hl2 : ys.length ≤ xs.length := by omega
    clear hl
    go_enter Try.func88, Try.ntmps88
    go_wp2
    go_loopw [17] (fun i wr => ∃ k : Nat, k ≤ xs.length ∧ i = .int .i64 k ∧ Drew w wr ∧ Hid (decide (xs = ys) = decide (xs.drop k = ys.drop k))) (fun i _ => xs.length - (intOf i).toNat)
    case atStart => exact ⟨0, Nat.zero_le _, rfl, ⟨0, rfl⟩, Lib.hid (by simp)⟩
    case round =>
      obtain ⟨k, hk, rfl, hb, heq⟩ := hrel
      by_cases hlt : k < xs.length
      · obtain ⟨x, hx⟩ := get_some hlt
        obtain ⟨y, hy⟩ := get_some (xs := ys) (k := k) (by omega)
        obtain ⟨b, o, P, p, rfl, hbb, c1, hxl, rx⟩ := (hb.rd h1).row hx
        obtain ⟨b', o', Q, q, rfl, hbb', c3, hyl, ry⟩ := (hb.rd h2).row hy
        have heq' : Hid (decide (xs = ys) = decide (x :: xs.drop (k + 1) = y :: ys.drop (k + 1))) := by
          have := heq.out
          rwa [drop_cons hx, drop_cons hy] at this
        have i1 : (0 : Int) ≤ (k : Int) := by omega
        have i2 : (k : Int) < (xs.length : Int) := by omega
        have i3 : (k : Int) < (ys.length : Int) := by omega
        have hx1 : Cod.tot x ≤ 140737488355328 := Nat.le_trans (tot_at hx) hn1
        have hx2 : x.length ≤ 140737488355328 := by rw [tot_list] at hx1; omega
        have C1 : Hid (∀ n, Calls Try.prog 89 #[.slice P x.length p, .slice Q y.length q] (wr.drewN n) fun (e : Ending) w' => e = .returned (.bool (decide (x = y))) ∧ ∃ m, w' = wr.drewN m) := Lib.hid fun n =>
          (sameWandererRow P Q x y p q (wr.drewN n) (Drew.rd ⟨n, rfl⟩ rx) (Drew.rd ⟨n, rfl⟩ ry) hx1).mono fun e w' ⟨he, hw⟩ => ⟨he, Drew.trans ⟨n, rfl⟩ hw⟩
        clear hx hy heq
        by_cases hxy : x = y
        · have hxe : decide (x = y) = true := by simp [hxy]
          rw [hxe] at C1
          have HX := Lib.hid hxy
          clear hxy
          go_wp2_with (go_at_call 89; refine (C1.out 0).mono ?_; rintro e w1 ⟨rfl, n1, rfl⟩)
          go_roundw
          case rel => exact ⟨k + 1, by omega, by go_num, hb.more _, Lib.hid (by rw [heq'.out, HX.out]; simp)⟩
          case measure => simp [intOf]; omega
        · have hxe : decide (x = y) = false := by simp [hxy]
          rw [hxe] at C1
          have HX := Lib.hid hxy
          clear hxy
          go_wp2_with (go_at_call 89; refine (C1.out 0).mono ?_; rintro e w1 ⟨rfl, n1, rfl⟩)
          go_ret
          exact ⟨ret_bool (by rw [heq'.out]; simp [HX.out]), hb.more _⟩
      · go_wp2
        go_ret
        exact ⟨ret_bool (by rw [heq.out, List.drop_eq_nil_of_le (by omega), List.drop_eq_nil_of_le (by omega)]; simp), hb⟩
  · have hl0 : ((xs.length : Int) != (ys.length : Int)) = true := by simp; omega
    have HL := Lib.hid hl
    clear hl
    go_enter Try.func88, Try.ntmps88
    go_wp2
    go_ret
    exact ⟨ret_bool (by simp; intro h; exact HL.out (by rw [h])), ⟨0, rfl⟩⟩

def Wn.sameB (T U : Wn) : Bool := decide (T.letters = U.letters) && (decide (T.starts = U.starts) && decide (T.moves = U.moves))

theorem sameWanderer_impl (v v' : Value) (T U : Wn) (w : World) (h1 : RdWn w w.heap.size v T) (h2 : RdWn w w.heap.size v' U) (hn : T.tot ≤ 140737488355328) :
    Calls Try.prog 35 #[v, v'] w fun e w' => e = .returned (.bool (T.sameB U)) ∧ Below w.heap.size w w' := by
  have hn1 : T.starts.length ≤ 140737488355328 := by unfold Wn.tot at hn; rw [tot_list] at hn; omega
  have hn3 : Cod.tot T.moves ≤ 140737488355328 := by unfold Wn.tot at hn; omega
  obtain ⟨A1, C1, A2, C2, rfl, r1, r2⟩ := h1
  obtain ⟨B1, D1, B2, D2, rfl, s1, s2⟩ := h2
  by_cases k1 : T.letters = U.letters
  · have e1 : (T.letters == U.letters) = true := by simp [k1]
    have K1 := Lib.hid (decide_eq_true k1)
    clear k1
    by_cases k2 : T.starts = U.starts
    · have K2 := Lib.hid (decide_eq_true k2)
      have HB2 : Hid (∀ W, Below w.heap.size w W → Calls Try.prog 80 #[.slice A1 T.starts.length C1, .slice B1 U.starts.length D1] W fun (e : Ending) w' => e = .returned (.bool true) ∧ ∃ m, w' = W.drewN m) := Lib.hid fun W hW =>
        (equalInt64s A1 B1 T.starts U.starts C1 D1 W (r1.up hW) (s1.up hW) hn1).mono fun e w' ⟨he, hw⟩ => ⟨by rw [he, decide_eq_true k2], hw⟩
      clear k2
      go_enter Try.func35, Try.ntmps35
      go_wp2_with (first
        | (go_at_call 80; refine (HB2.out _ (by repeat (first | exact Below.refl _ _ | refine Below.alloc ?_ (by first | omega | (simp only [sz_alloc, sz_set, sz_drew, sz_drewN]; omega) | (simp only [sz_alloc, sz_set, sz_drew, sz_drewN] at *; omega)) _ | refine Below.setCell ?_ (by first | omega | (simp only [sz_alloc, sz_set, sz_drew, sz_drewN]; omega) | (simp only [sz_alloc, sz_set, sz_drew, sz_drewN] at *; omega)) _ | refine Below.drew ?_ | refine below_drewN_ ?_ _))).mono ?_; rintro e wx2 ⟨rfl, n2, rfl⟩)
        | (go_at_call 88; refine (equalFuncMoveSSS A2 B2 T.moves U.moves C2 D2 _ (r2.up (by repeat (first | exact Below.refl _ _ | refine Below.alloc ?_ (by first | omega | (simp only [sz_alloc, sz_set, sz_drew, sz_drewN]; omega) | (simp only [sz_alloc, sz_set, sz_drew, sz_drewN] at *; omega)) _ | refine Below.setCell ?_ (by first | omega | (simp only [sz_alloc, sz_set, sz_drew, sz_drewN]; omega) | (simp only [sz_alloc, sz_set, sz_drew, sz_drewN] at *; omega)) _ | refine Below.drew ?_ | refine below_drewN_ ?_ _))) (s2.up (by repeat (first | exact Below.refl _ _ | refine Below.alloc ?_ (by first | omega | (simp only [sz_alloc, sz_set, sz_drew, sz_drewN]; omega) | (simp only [sz_alloc, sz_set, sz_drew, sz_drewN] at *; omega)) _ | refine Below.setCell ?_ (by first | omega | (simp only [sz_alloc, sz_set, sz_drew, sz_drewN]; omega) | (simp only [sz_alloc, sz_set, sz_drew, sz_drewN] at *; omega)) _ | refine Below.drew ?_ | refine below_drewN_ ?_ _))) hn3).mono ?_; rintro e wz ⟨rfl, nz, rfl⟩))
      go_ret
      exact ⟨ret_bool (by unfold Wn.sameB; rw [K1.out, K2.out]; simp), (by repeat (first | exact Below.refl _ _ | refine Below.alloc ?_ (by first | omega | (simp only [sz_alloc, sz_set, sz_drew, sz_drewN]; omega) | (simp only [sz_alloc, sz_set, sz_drew, sz_drewN] at *; omega)) _ | refine Below.setCell ?_ (by first | omega | (simp only [sz_alloc, sz_set, sz_drew, sz_drewN]; omega) | (simp only [sz_alloc, sz_set, sz_drew, sz_drewN] at *; omega)) _ | refine Below.drew ?_ | refine below_drewN_ ?_ _))⟩
    · have K2 := Lib.hid (decide_eq_false k2)
      have HB2 : Hid (∀ W, Below w.heap.size w W → Calls Try.prog 80 #[.slice A1 T.starts.length C1, .slice B1 U.starts.length D1] W fun (e : Ending) w' => e = .returned (.bool false) ∧ ∃ m, w' = W.drewN m) := Lib.hid fun W hW =>
        (equalInt64s A1 B1 T.starts U.starts C1 D1 W (r1.up hW) (s1.up hW) hn1).mono fun e w' ⟨he, hw⟩ => ⟨by rw [he, decide_eq_false k2], hw⟩
      clear k2
      go_enter Try.func35, Try.ntmps35
      go_wp2_with (first
        | (go_at_call 80; refine (HB2.out _ (by repeat (first | exact Below.refl _ _ | refine Below.alloc ?_ (by first | omega | (simp only [sz_alloc, sz_set, sz_drew, sz_drewN]; omega) | (simp only [sz_alloc, sz_set, sz_drew, sz_drewN] at *; omega)) _ | refine Below.setCell ?_ (by first | omega | (simp only [sz_alloc, sz_set, sz_drew, sz_drewN]; omega) | (simp only [sz_alloc, sz_set, sz_drew, sz_drewN] at *; omega)) _ | refine Below.drew ?_ | refine below_drewN_ ?_ _))).mono ?_; rintro e wx2 ⟨rfl, n2, rfl⟩))
      go_ret
      exact ⟨ret_bool (by unfold Wn.sameB; rw [K1.out, K2.out]; simp), (by repeat (first | exact Below.refl _ _ | refine Below.alloc ?_ (by first | omega | (simp only [sz_alloc, sz_set, sz_drew, sz_drewN]; omega) | (simp only [sz_alloc, sz_set, sz_drew, sz_drewN] at *; omega)) _ | refine Below.setCell ?_ (by first | omega | (simp only [sz_alloc, sz_set, sz_drew, sz_drewN]; omega) | (simp only [sz_alloc, sz_set, sz_drew, sz_drewN] at *; omega)) _ | refine Below.drew ?_ | refine below_drewN_ ?_ _))⟩
  · have e1 : (T.letters == U.letters) = false := by simp [k1]
    have K1 := Lib.hid (decide_eq_false k1)
    clear k1
    go_enter Try.func35, Try.ntmps35
    go_wp2_with fail
    go_ret
    exact ⟨ret_bool (by unfold Wn.sameB; rw [K1.out]; simp), (by repeat (first | exact Below.refl _ _ | refine Below.alloc ?_ (by first | omega | (simp only [sz_alloc, sz_set, sz_drew, sz_drewN]; omega) | (simp only [sz_alloc, sz_set, sz_drew, sz_drewN] at *; omega)) _ | refine Below.setCell ?_ (by first | omega | (simp only [sz_alloc, sz_set, sz_drew, sz_drewN]; omega) | (simp only [sz_alloc, sz_set, sz_drew, sz_drewN] at *; omega)) _ | refine Below.drew ?_ | refine below_drewN_ ?_ _))⟩

theorem sameWanderer_spec (v v' : Value) (T U : Wn) (w : World) (h1 : RdWn w w.heap.size v T) (h2 : RdWn w w.heap.size v' U) (hn : T.tot ≤ 140737488355328) :
    Calls Try.prog 33 #[v, v'] w fun e w' => e = .returned (.bool (T.sameB U)) ∧ Below w.heap.size w w' := by
  have hn1 : T.starts.length ≤ 140737488355328 := by unfold Wn.tot at hn; rw [tot_list] at hn; omega
  have hn3 : Cod.tot T.moves ≤ 140737488355328 := by unfold Wn.tot at hn; omega
  obtain ⟨A1, C1, A2, C2, rfl, r1, r2⟩ := h1
  obtain ⟨B1, D1, B2, D2, rfl, s1, s2⟩ := h2
  by_cases k1 : T.letters = U.letters
  · have e1 : (T.letters != U.letters) = false := by simp [k1]
    have K1 := Lib.hid (decide_eq_true k1)
    clear k1
    by_cases k2 : T.starts = U.starts
    · have K2 := Lib.hid (decide_eq_true k2)
      have HB2 : Hid (∀ W, Below w.heap.size w W → Calls Try.prog 77 #[.slice A1 T.starts.length C1, .slice B1 U.starts.length D1] W fun (e : Ending) w' => e = .returned (.bool true) ∧ ∃ m, w' = W.drewN m) := Lib.hid fun W hW =>
        (l00Same A1 B1 T.starts U.starts C1 D1 W (r1.up hW) (s1.up hW) hn1).mono fun e w' ⟨he, hw⟩ => ⟨by rw [he, decide_eq_true k2], hw⟩
      clear k2
      by_cases kl : T.moves.length = U.moves.length
      · have el : ((T.moves.length : Int) != (U.moves.length : Int)) = false := by simp [kl]
        have hl1 : T.moves.length ≤ U.moves.length := by omega
        have hl2 : U.moves.length ≤ T.moves.length := by omega
        clear kl
        go_enter Try.func33, Try.ntmps33
        go_wp2_with (first
          | (go_at_call 77; refine (HB2.out _ (by repeat (first | exact Below.refl _ _ | refine Below.alloc ?_ (by first | omega | (simp only [sz_alloc, sz_set, sz_drew, sz_drewN]; omega) | (simp only [sz_alloc, sz_set, sz_drew, sz_drewN] at *; omega)) _ | refine Below.setCell ?_ (by first | omega | (simp only [sz_alloc, sz_set, sz_drew, sz_drewN]; omega) | (simp only [sz_alloc, sz_set, sz_drew, sz_drewN] at *; omega)) _ | refine Below.drew ?_ | refine below_drewN_ ?_ _))).mono ?_; rintro e wx2 ⟨rfl, n2, rfl⟩))
        have hn4 : totS T.moves ≤ 140737488355328 := by rw [tot_list] at hn3; omega
        have hn5 : T.moves.length ≤ 140737488355328 := by rw [tot_list] at hn3; omega
        go_loopw [5] (fun i wr => ∃ k : Nat, k ≤ T.moves.length ∧ i = .int .i64 k ∧ Drew ((w.alloc (Obj.cells #[Value.int .i64 T.letters, Value.slice A1 T.starts.length C1, Value.slice A2 T.moves.length C2] 66)).alloc (Obj.cells #[Value.int .i64 U.letters, Value.slice B1 U.starts.length D1, Value.slice B2 U.moves.length D2] 66)) wr ∧ Hid (decide (T.moves = U.moves) = decide (T.moves.drop k = U.moves.drop k))) (fun i _ => T.moves.length - (intOf i).toNat)
        case atStart => exact ⟨0, Nat.zero_le _, rfl, (by first | exact ⟨0, rfl⟩ | exact ⟨_, rfl⟩ | exact Drew.more ⟨_, rfl⟩ _), Lib.hid (by simp)⟩
        case round =>
          obtain ⟨wo, rfl⟩ : ∃ wo, wo = wr := ⟨_, rfl⟩
          obtain ⟨k, hk, rfl, hb, heq⟩ := hrel
          have hbw : Since w wo := ⟨by obtain ⟨n, rfl⟩ := hb; exact (by repeat (first | exact Below.refl _ _ | refine Below.alloc ?_ (by first | omega | (simp only [sz_alloc, sz_set, sz_drew, sz_drewN]; omega) | (simp only [sz_alloc, sz_set, sz_drew, sz_drewN] at *; omega)) _ | refine Below.setCell ?_ (by first | omega | (simp only [sz_alloc, sz_set, sz_drew, sz_drewN]; omega) | (simp only [sz_alloc, sz_set, sz_drew, sz_drewN] at *; omega)) _ | refine Below.drew ?_ | refine below_drewN_ ?_ _))⟩
          have m0 : wo.cell? ⟨w.heap.size, 2, none⟩ = some (.slice A2 T.moves.length C2) := by obtain ⟨n, rfl⟩ := hb; go_simp
          have m1 : wo.cell? ⟨w.heap.size + 1, 2, none⟩ = some (.slice B2 U.moves.length D2) := by obtain ⟨n, rfl⟩ := hb; go_simp
          by_cases hlt : k < T.moves.length
          · obtain ⟨x, hx⟩ := get_some hlt
            obtain ⟨y, hy⟩ := get_some (xs := U.moves) (k := k) (by omega)
            obtain ⟨b, o, P, p, rfl, hbb, c1, hxl, rx⟩ := (r2.up hbw.out).row hx
            obtain ⟨b', o', Q, q, rfl, hbb', c3, hyl, ry⟩ := (s2.up hbw.out).row hy
            have heq' : Hid (decide (T.moves = U.moves) = decide (x :: T.moves.drop (k + 1) = y :: U.moves.drop (k + 1))) := by
              have := heq.out
              rwa [drop_cons hx, drop_cons hy] at this
            have i1 : (0 : Int) ≤ (k : Int) := by omega
            have i2 : (k : Int) < (T.moves.length : Int) := by omega
            have i3 : (k : Int) < (U.moves.length : Int) := by omega
            have hx1 : Cod.tot x ≤ 140737488355328 := Nat.le_trans (tot_at hx) hn4
            have hx2 : x.length ≤ 140737488355328 := by rw [tot_list] at hx1; omega
            have hx3 : totS x ≤ 140737488355328 := by rw [tot_list] at hx1; omega
            clear hx hy heq
            by_cases hl : x.length = y.length
            · have e4 : ((x.length : Int) != (y.length : Int)) = false := by simp [hl]
              have hl3 : x.length ≤ y.length := by omega
              have hl4 : y.length ≤ x.length := by omega
              clear hl
              go_wp2
              go_quiet (fail)
              go_wp2
              go_loopw [6] (fun i wr => ∃ j : Nat, j ≤ x.length ∧ i = .int .i64 j ∧ Drew wo wr ∧ Hid (decide (x = y) = decide (x.drop j = y.drop j))) (fun i _ => x.length - (intOf i).toNat)
              case atStart => exact ⟨0, Nat.zero_le _, rfl, (by first | exact ⟨0, rfl⟩ | exact ⟨_, rfl⟩ | exact Drew.more ⟨_, rfl⟩ _), Lib.hid (by simp)⟩
              case round =>
                obtain ⟨j, hj, rfl, hbj, hej⟩ := hrel
                have m2 : wr.cell? ⟨w.heap.size, 2, none⟩ = some (.slice (some ⟨b, o, none⟩) T.moves.length C2) := by obtain ⟨n, rfl⟩ := hbj; go_simp
                have m3 : wr.cell? ⟨w.heap.size + 1, 2, none⟩ = some (.slice (some ⟨b', o', none⟩) U.moves.length D2) := by obtain ⟨n, rfl⟩ := hbj; go_simp
                have m4 : wr.cell? ⟨b, o + k, none⟩ = some (.slice P x.length p) := by obtain ⟨n, rfl⟩ := hbj; go_simp
                have m5 : wr.cell? ⟨b', o' + k, none⟩ = some (.slice Q y.length q) := by obtain ⟨n, rfl⟩ := hbj; go_simp
                by_cases hlj : j < x.length
                · obtain ⟨z, hz⟩ := get_some hlj
                  obtain ⟨u, hu⟩ := get_some (xs := y) (k := j) (by omega)
                  obtain ⟨f, g, Z, ζ, rfl, hff, c5, hzl, rz⟩ := (Drew.rd hbj rx).row hz
                  obtain ⟨f', g', V, ν, rfl, hff', c7, hul, ru⟩ := (Drew.rd hbj ry).row hu
                  have hej' : Hid (decide (x = y) = decide (z :: x.drop (j + 1) = u :: y.drop (j + 1))) := by
                    have := hej.out
                    rwa [drop_cons hz, drop_cons hu] at this
                  have j1 : (0 : Int) ≤ (j : Int) := by omega
                  have j2 : (j : Int) < (x.length : Int) := by omega
                  have j3 : (j : Int) < (y.length : Int) := by omega
                  have hz1 : Cod.tot z ≤ 140737488355328 := Nat.le_trans (tot_at hz) hx3
                  have hz2 : z.length ≤ 140737488355328 := by rw [tot_list] at hz1; omega
                  have CQ : Hid (∀ n', Calls Try.prog 86 #[.slice Z z.length ζ, .slice V u.length ν] (wr.drewN n') fun (e : Ending) w' => e = .returned (.bool (decide (z = u))) ∧ ∃ m, w' = wr.drewN m) := Lib.hid fun n' =>
                    (l04SameMoves Z V z u ζ ν (wr.drewN n') (Drew.rd ⟨n', rfl⟩ rz) (Drew.rd ⟨n', rfl⟩ ru) hz2).mono fun e w' ⟨he, hw⟩ => ⟨he, Drew.trans ⟨n', rfl⟩ hw⟩
                  clear hz hu hej
                  by_cases hzu : z = u
                  · have hxe : decide (z = u) = true := by simp [hzu]
                    rw [hxe] at CQ
                    have HX := Lib.hid hzu
                    clear hzu
                    go_wp2
                    go_quiet ((go_at_call 86; exact CQ.out _))
                    go_wp2
                    go_roundw
                    case rel => exact ⟨j + 1, by omega, by go_num, hbj.more _, Lib.hid (by rw [hej'.out, HX.out]; simp)⟩
                    case measure => simp [intOf]; omega
                  · have hxe : decide (z = u) = false := by simp [hzu]
                    rw [hxe] at CQ
                    have HX := Lib.hid hzu
                    clear hzu
                    go_wp2
                    go_quiet ((go_at_call 86; exact CQ.out _))
                    go_wp2
                    go_ret
                    exact ⟨ret_bool (by unfold Wn.sameB; rw [K1.out, K2.out, heq'.out]; have := hej'.out; simp [HX.out] at this; simp; intro h; exact absurd h this), (below_drewN_ (below_cat hbw.out (hbj.below _) hbw.out.size) _)⟩
                · have HE : Hid (x = y) := Lib.hid (by have := hej.out; rw [List.drop_eq_nil_of_le (by omega), List.drop_eq_nil_of_le (by omega)] at this; simpa using this)
                  go_wp2
                  go_roundw
                  case rel => exact ⟨k + 1, by omega, by go_num, hb.trans hbj, Lib.hid (by rw [heq'.out, HE.out]; simp)⟩
                  case measure => simp [intOf]; omega
            · have e4 : ((x.length : Int) != (y.length : Int)) = true := by simp; omega
              have HL := Lib.hid hl
              clear hl
              go_wp2
              go_quiet (fail)
              go_wp2
              go_ret
              exact ⟨ret_bool (by unfold Wn.sameB; rw [K1.out, K2.out, heq'.out]; simp; intro h; exact absurd (by rw [h]) HL.out), (by repeat (first | exact Below.refl _ _ | exact Since.out (by assumption) | refine Below.alloc ?_ (by first | omega | (simp only [sz_alloc, sz_set, sz_drew, sz_drewN]; omega) | (simp only [sz_alloc, sz_set, sz_drew, sz_drewN] at *; omega)) _ | refine Below.setCell ?_ (by first | omega | (simp only [sz_alloc, sz_set, sz_drew, sz_drewN]; omega) | (simp only [sz_alloc, sz_set, sz_drew, sz_drewN] at *; omega)) _ | refine Below.drew ?_ | refine below_drewN_ ?_ _))⟩
          · go_wp2
            go_ret
            exact ⟨ret_bool (by unfold Wn.sameB; rw [K1.out, K2.out, heq.out, List.drop_eq_nil_of_le (by omega), List.drop_eq_nil_of_le (by omega)]; simp), (by repeat (first | exact Below.refl _ _ | exact Since.out (by assumption) | refine Below.alloc ?_ (by first | omega | (simp only [sz_alloc, sz_set, sz_drew, sz_drewN]; omega) | (simp only [sz_alloc, sz_set, sz_drew, sz_drewN] at *; omega)) _ | refine Below.setCell ?_ (by first | omega | (simp only [sz_alloc, sz_set, sz_drew, sz_drewN]; omega) | (simp only [sz_alloc, sz_set, sz_drew, sz_drewN] at *; omega)) _ | refine Below.drew ?_ | refine below_drewN_ ?_ _))⟩
      · have el : ((T.moves.length : Int) != (U.moves.length : Int)) = true := by simp; omega
        have HL := Lib.hid kl
        clear kl
        go_enter Try.func33, Try.ntmps33
        go_wp2_with (first
          | (go_at_call 77; refine (HB2.out _ (by repeat (first | exact Below.refl _ _ | refine Below.alloc ?_ (by first | omega | (simp only [sz_alloc, sz_set, sz_drew, sz_drewN]; omega) | (simp only [sz_alloc, sz_set, sz_drew, sz_drewN] at *; omega)) _ | refine Below.setCell ?_ (by first | omega | (simp only [sz_alloc, sz_set, sz_drew, sz_drewN]; omega) | (simp only [sz_alloc, sz_set, sz_drew, sz_drewN] at *; omega)) _ | refine Below.drew ?_ | refine below_drewN_ ?_ _))).mono ?_; rintro e wx2 ⟨rfl, n2, rfl⟩))
        go_ret
        exact ⟨ret_bool (by unfold Wn.sameB; rw [K1.out, K2.out]; simp; intro h; exact absurd (by rw [h]) HL.out), (by repeat (first | exact Below.refl _ _ | refine Below.alloc ?_ (by first | omega | (simp only [sz_alloc, sz_set, sz_drew, sz_drewN]; omega) | (simp only [sz_alloc, sz_set, sz_drew, sz_drewN] at *; omega)) _ | refine Below.setCell ?_ (by first | omega | (simp only [sz_alloc, sz_set, sz_drew, sz_drewN]; omega) | (simp only [sz_alloc, sz_set, sz_drew, sz_drewN] at *; omega)) _ | refine Below.drew ?_ | refine below_drewN_ ?_ _))⟩
    · have K2 := Lib.hid (decide_eq_false k2)
      have HB2 : Hid (∀ W, Below w.heap.size w W → Calls Try.prog 77 #[.slice A1 T.starts.length C1, .slice B1 U.starts.length D1] W fun (e : Ending) w' => e = .returned (.bool false) ∧ ∃ m, w' = W.drewN m) := Lib.hid fun W hW =>
        (l00Same A1 B1 T.starts U.starts C1 D1 W (r1.up hW) (s1.up hW) hn1).mono fun e w' ⟨he, hw⟩ => ⟨by rw [he, decide_eq_false k2], hw⟩
      clear k2
      go_enter Try.func33, Try.ntmps33
      go_wp2_with (first
        | (go_at_call 77; refine (HB2.out _ (by repeat (first | exact Below.refl _ _ | refine Below.alloc ?_ (by first | omega | (simp only [sz_alloc, sz_set, sz_drew, sz_drewN]; omega) | (simp only [sz_alloc, sz_set, sz_drew, sz_drewN] at *; omega)) _ | refine Below.setCell ?_ (by first | omega | (simp only [sz_alloc, sz_set, sz_drew, sz_drewN]; omega) | (simp only [sz_alloc, sz_set, sz_drew, sz_drewN] at *; omega)) _ | refine Below.drew ?_ | refine below_drewN_ ?_ _))).mono ?_; rintro e wx2 ⟨rfl, n2, rfl⟩))
      go_ret
      exact ⟨ret_bool (by unfold Wn.sameB; rw [K1.out, K2.out]; simp), (by repeat (first | exact Below.refl _ _ | refine Below.alloc ?_ (by first | omega | (simp only [sz_alloc, sz_set, sz_drew, sz_drewN]; omega) | (simp only [sz_alloc, sz_set, sz_drew, sz_drewN] at *; omega)) _ | refine Below.setCell ?_ (by first | omega | (simp only [sz_alloc, sz_set, sz_drew, sz_drewN]; omega) | (simp only [sz_alloc, sz_set, sz_drew, sz_drewN] at *; omega)) _ | refine Below.drew ?_ | refine below_drewN_ ?_ _))⟩
  · have e1 : (T.letters != U.letters) = true := by simp [k1]
    have K1 := Lib.hid (decide_eq_false k1)
    clear k1
    go_enter Try.func33, Try.ntmps33
    go_wp2_with fail
    go_ret
    exact ⟨ret_bool (by unfold Wn.sameB; rw [K1.out]; simp), (by repeat (first | exact Below.refl _ _ | refine Below.alloc ?_ (by first | omega | (simp only [sz_alloc, sz_set, sz_drew, sz_drewN]; omega) | (simp only [sz_alloc, sz_set, sz_drew, sz_drewN] at *; omega)) _ | refine Below.setCell ?_ (by first | omega | (simp only [sz_alloc, sz_set, sz_drew, sz_drewN]; omega) | (simp only [sz_alloc, sz_set, sz_drew, sz_drewN] at *; omega)) _ | refine Below.drew ?_ | refine below_drewN_ ?_ _))⟩
end Go.Proofs.Ytollaaebheeakaa
