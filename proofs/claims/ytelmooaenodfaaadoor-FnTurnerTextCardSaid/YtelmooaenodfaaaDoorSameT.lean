/-
  Contracts of the program's and the reference's SameTurner. Conditions: those in each statement.
-/
import Derived.Test.YtelmooaenodfaaaDoorSTurner
import Derived.Test.YtelmooaenodfaaaDoorEqMove
set_option linter.unusedVariables false
set_option linter.unusedSimpArgs false
set_option maxRecDepth 100000
set_option maxHeartbeats 1000000
namespace Go.Proofs.YtelmooaenodfaaaDoor
open Go.RowKit

theorem tn_eq_iff {T U : Tn} : T = U ↔ T.letters = U.letters ∧ T.start = U.start ∧ T.moves = U.moves := by
  constructor
  · rintro rfl; exact ⟨rfl, rfl, rfl⟩
  · obtain ⟨a, b, c⟩ := T
    obtain ⟨d, e, f⟩ := U
    rintro ⟨h1, h2, h3⟩
    simp only at h1 h2 h3
    subst h1; subst h2; subst h3
    rfl
noncomputable instance : DecidableEq Tn := fun _ _ => Classical.propDecidable _
def Tn.sameB (T U : Tn) : Bool := decide (T.letters = U.letters) && (decide (T.start = U.start) && decide (T.moves = U.moves))

theorem sameTurner_spec (v v' : Value) (T U : Tn) (w : World) (h1 : RdTn w w.heap.size v T) (h2 : RdTn w w.heap.size v' U) (hn : T.tot ≤ 140737488355328) :
    Calls Tryd.prog 42 #[v, v'] w fun e w' => e = .returned (.bool (T.sameB U)) ∧ Below w.heap.size w w' := by
  have hn0 : T.moves.length ≤ 140737488355328 := by unfold Tn.tot at hn; rw [tot_list] at hn; omega
  have hn1 : totS T.moves ≤ 140737488355328 := by unfold Tn.tot at hn; rw [tot_list] at hn; omega
  obtain ⟨A1, C1, rfl, r1⟩ := h1
  obtain ⟨B1, D1, rfl, s1⟩ := h2
  by_cases k1 : T.letters = U.letters
  · have e1 : (T.letters != U.letters) = false := by simp [k1]
    have K1 := Lib.hid (decide_eq_true k1)
    clear k1
    by_cases k2 : T.start = U.start
    · have e2 : (T.start != U.start) = false := by simp [k2]
      have K2 := Lib.hid (decide_eq_true k2)
      clear k2
      by_cases k3 : T.moves.length = U.moves.length
      · have e3 : ((T.moves.length : Int) != (U.moves.length : Int)) = false := by simp [k3]
        have hl1 : T.moves.length ≤ U.moves.length := by omega
        have hl2 : U.moves.length ≤ T.moves.length := by omega
        clear k3
        go_enter Tryd.func42, Tryd.ntmps42
        go_wp2_with fail
        go_loopw [5] (fun i wr => ∃ k : Nat, k ≤ T.moves.length ∧ i = .int .i64 k ∧ Drew ((w.alloc (Obj.cells #[Value.int .i64 T.letters, Value.int .i64 T.start, Value.slice A1 T.moves.length C1] 40)).alloc (Obj.cells #[Value.int .i64 U.letters, Value.int .i64 U.start, Value.slice B1 U.moves.length D1] 40)) wr ∧ Hid (decide (T.moves = U.moves) = decide (T.moves.drop k = U.moves.drop k))) (fun i _ => T.moves.length - (intOf i).toNat)
        case atStart => exact ⟨0, Nat.zero_le _, rfl, ⟨0, rfl⟩, Lib.hid (by simp)⟩
        case round =>
          obtain ⟨k, hk, rfl, ⟨n, rfl⟩, heq⟩ := hrel
          by_cases hlt : k < T.moves.length
          · obtain ⟨x, hx⟩ := get_some hlt
            obtain ⟨y, hy⟩ := get_some (xs := U.moves) (k := k) (by omega)
            obtain ⟨b, o, P, p, rfl, hbb, c1, hxl, rx⟩ := r1.row hx
            obtain ⟨b', o', Q, q, rfl, hbb', c3, hyl, ry⟩ := s1.row hy
            have heq' : Hid (decide (T.moves = U.moves) = decide (x :: T.moves.drop (k + 1) = y :: U.moves.drop (k + 1))) := by
              have := heq.out
              rwa [drop_cons hx, drop_cons hy] at this
            have i1 : (0 : Int) ≤ (k : Int) := by omega
            have i2 : (k : Int) < (T.moves.length : Int) := by omega
            have i3 : (k : Int) < (U.moves.length : Int) := by omega
            have hx1 : Cod.tot x ≤ 140737488355328 := Nat.le_trans (tot_at hx) hn1
            have hx2 : x.length ≤ 140737488355328 := by rw [tot_list] at hx1; omega
            clear hx hy heq hx1
            by_cases hl : x.length = y.length
            · have e4 : ((x.length : Int) != (y.length : Int)) = false := by simp [hl]
              have hl3 : x.length ≤ y.length := by omega
              have hl4 : y.length ≤ x.length := by omega
              clear hl
              go_wp2
              go_quiet (fail)
              go_wp2
              go_loopw [6] (fun i wr => ∃ j : Nat, j ≤ x.length ∧ i = .int .i64 j ∧ Drew ((w.alloc (Obj.cells #[Value.int .i64 T.letters, Value.int .i64 T.start, Value.slice (some ⟨b, o, none⟩) T.moves.length C1] 40)).alloc (Obj.cells #[Value.int .i64 U.letters, Value.int .i64 U.start, Value.slice (some ⟨b', o', none⟩) U.moves.length D1] 40)) wr ∧ Hid (decide (x = y) = decide (x.drop j = y.drop j))) (fun i _ => x.length - (intOf i).toNat)
              case atStart => exact ⟨0, Nat.zero_le _, rfl, Drew.more ⟨n, rfl⟩ _, Lib.hid (by simp)⟩
              case round =>
                obtain ⟨j, hj, rfl, ⟨m, rfl⟩, hej⟩ := hrel
                by_cases hlj : j < x.length
                · obtain ⟨z, hz⟩ := get_some hlj
                  obtain ⟨u, hu⟩ := get_some (xs := y) (k := j) (by omega)
                  obtain ⟨f, g, rfl, hff, c5, c6⟩ := rx.pair hz
                  obtain ⟨f', g', rfl, hff', c7, c8⟩ := ry.pair hu
                  have hej' : Hid (decide (x = y) = decide (z :: x.drop (j + 1) = u :: y.drop (j + 1))) := by
                    have := hej.out
                    rwa [drop_cons hz, drop_cons hu] at this
                  have j1 : (0 : Int) ≤ (j : Int) := by omega
                  have j2 : (j : Int) < (x.length : Int) := by omega
                  have j3 : (j : Int) < (y.length : Int) := by omega
                  clear hz hu hej
                  have hg := eqGuardMove
                  have he := equalMove z u
                  by_cases hzu : z = u
                  · have hxe : decide (z = u) = true := by simp [hzu]
                    have HX := Lib.hid hzu
                    clear hzu
                    go_wp2
                    go_quiet (fail)
                    go_wp2
                    go_roundw
                    case rel => exact ⟨j + 1, by omega, by go_num, ⟨_, rfl⟩, Lib.hid (by rw [hej'.out, HX.out]; simp)⟩
                    case measure => simp [intOf]; omega
                  · have hxe : decide (z = u) = false := by simp [hzu]
                    have HX := Lib.hid hzu
                    clear hzu
                    go_wp2
                    go_quiet (fail)
                    go_wp2
                    go_ret
                    exact ⟨ret_bool (by unfold Tn.sameB; rw [K1.out, K2.out, heq'.out]; have := hej'.out; simp [HX.out] at this; simp; intro h; exact absurd h this), (by repeat (first | exact Below.refl _ _ | refine Below.alloc ?_ (by first | omega | (simp only [sz_alloc, sz_set, sz_drew, sz_drewN]; omega) | (simp only [sz_alloc, sz_set, sz_drew, sz_drewN] at *; omega)) _ | refine Below.setCell ?_ (by first | omega | (simp only [sz_alloc, sz_set, sz_drew, sz_drewN]; omega) | (simp only [sz_alloc, sz_set, sz_drew, sz_drewN] at *; omega)) _ | refine Below.drew ?_ | refine below_drewN_ ?_ _))⟩
                · have HE : Hid (x = y) := Lib.hid (by have := hej.out; rw [List.drop_eq_nil_of_le (by omega), List.drop_eq_nil_of_le (by omega)] at this; simpa using this)
                  go_wp2
                  go_roundw
                  case rel => exact ⟨k + 1, by omega, by go_num, ⟨m, rfl⟩, Lib.hid (by rw [heq'.out, HE.out]; simp)⟩
                  case measure => simp [intOf]; omega
            · have e4 : ((x.length : Int) != (y.length : Int)) = true := by simp; omega
              have HL := Lib.hid hl
              clear hl
              go_wp2
              go_quiet (fail)
              go_wp2
              go_ret
              exact ⟨ret_bool (by unfold Tn.sameB; rw [K1.out, K2.out, heq'.out]; simp; intro h; exact absurd (by rw [h]) HL.out), (by repeat (first | exact Below.refl _ _ | refine Below.alloc ?_ (by first | omega | (simp only [sz_alloc, sz_set, sz_drew, sz_drewN]; omega) | (simp only [sz_alloc, sz_set, sz_drew, sz_drewN] at *; omega)) _ | refine Below.setCell ?_ (by first | omega | (simp only [sz_alloc, sz_set, sz_drew, sz_drewN]; omega) | (simp only [sz_alloc, sz_set, sz_drew, sz_drewN] at *; omega)) _ | refine Below.drew ?_ | refine below_drewN_ ?_ _))⟩
          · go_wp2
            go_ret
            exact ⟨ret_bool (by unfold Tn.sameB; rw [K1.out, K2.out, heq.out, List.drop_eq_nil_of_le (by omega), List.drop_eq_nil_of_le (by omega)]; simp), (by repeat (first | exact Below.refl _ _ | refine Below.alloc ?_ (by first | omega | (simp only [sz_alloc, sz_set, sz_drew, sz_drewN]; omega) | (simp only [sz_alloc, sz_set, sz_drew, sz_drewN] at *; omega)) _ | refine Below.setCell ?_ (by first | omega | (simp only [sz_alloc, sz_set, sz_drew, sz_drewN]; omega) | (simp only [sz_alloc, sz_set, sz_drew, sz_drewN] at *; omega)) _ | refine Below.drew ?_ | refine below_drewN_ ?_ _))⟩
      · have e3 : ((T.moves.length : Int) != (U.moves.length : Int)) = true := by simp; omega
        have HL := Lib.hid k3
        clear k3
        go_enter Tryd.func42, Tryd.ntmps42
        go_wp2_with fail
        go_ret
        exact ⟨ret_bool (by unfold Tn.sameB; rw [K1.out, K2.out]; simp; intro h; exact HL.out (by rw [h])), (by repeat (first | exact Below.refl _ _ | refine Below.alloc ?_ (by first | omega | (simp only [sz_alloc, sz_set, sz_drew, sz_drewN]; omega) | (simp only [sz_alloc, sz_set, sz_drew, sz_drewN] at *; omega)) _ | refine Below.setCell ?_ (by first | omega | (simp only [sz_alloc, sz_set, sz_drew, sz_drewN]; omega) | (simp only [sz_alloc, sz_set, sz_drew, sz_drewN] at *; omega)) _ | refine Below.drew ?_ | refine below_drewN_ ?_ _))⟩
    · have e2 : (T.start != U.start) = true := by simp [k2]
      have K2 := Lib.hid (decide_eq_false k2)
      clear k2
      go_enter Tryd.func42, Tryd.ntmps42
      go_wp2_with fail
      go_ret
      exact ⟨ret_bool (by unfold Tn.sameB; rw [K1.out, K2.out]; simp), (by repeat (first | exact Below.refl _ _ | refine Below.alloc ?_ (by first | omega | (simp only [sz_alloc, sz_set, sz_drew, sz_drewN]; omega) | (simp only [sz_alloc, sz_set, sz_drew, sz_drewN] at *; omega)) _ | refine Below.setCell ?_ (by first | omega | (simp only [sz_alloc, sz_set, sz_drew, sz_drewN]; omega) | (simp only [sz_alloc, sz_set, sz_drew, sz_drewN] at *; omega)) _ | refine Below.drew ?_ | refine below_drewN_ ?_ _))⟩
  · have e1 : (T.letters != U.letters) = true := by simp [k1]
    have K1 := Lib.hid (decide_eq_false k1)
    clear k1
    go_enter Tryd.func42, Tryd.ntmps42
    go_wp2_with fail
    go_ret
    exact ⟨ret_bool (by unfold Tn.sameB; rw [K1.out]; simp), (by repeat (first | exact Below.refl _ _ | refine Below.alloc ?_ (by first | omega | (simp only [sz_alloc, sz_set, sz_drew, sz_drewN]; omega) | (simp only [sz_alloc, sz_set, sz_drew, sz_drewN] at *; omega)) _ | refine Below.setCell ?_ (by first | omega | (simp only [sz_alloc, sz_set, sz_drew, sz_drewN]; omega) | (simp only [sz_alloc, sz_set, sz_drew, sz_drewN] at *; omega)) _ | refine Below.drew ?_ | refine below_drewN_ ?_ _))⟩
end Go.Proofs.YtelmooaenodfaaaDoor
