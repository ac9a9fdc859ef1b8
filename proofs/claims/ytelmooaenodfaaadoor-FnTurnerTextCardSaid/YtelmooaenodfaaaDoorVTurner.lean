/-
  Contracts of the program's and the reference's ValidTurner. Conditions: those in each statement.
-/
import Derived.Test.YtelmooaenodfaaaDoorMoveOk
import Derived.Test.YtelmooaenodfaaaDoorSTurner
import Derived.BigQuiet
import Derived.Deep.QuietTactic
import Derived.Deep.RegionWith
import Derived.Deep.RegionHeld3
import Derived.StillTailTactics
set_option linter.unusedVariables false
set_option linter.unusedSimpArgs false
set_option maxRecDepth 100000
set_option maxHeartbeats 1000000
namespace Go.Proofs.YtelmooaenodfaaaDoor
open Go.RowKit

def movesFrom (n L : Int) : Nat → List (Int × Int) → Bool
  | _, [] => true
  | k, x :: xs => moveOk n L k x && movesFrom n L (k + 1) xs
def rowOk (n L : Int) (row : List (Int × Int)) : Bool := decide ((row.length : Int) = L + 2) && movesFrom n L 0 row
def Tn.okB (T : Tn) : Bool := inB T.letters 1 3 && (inB T.moves.length 1 12 && (inB T.start 0 (T.moves.length - 1) && T.moves.all (rowOk T.moves.length T.letters)))
theorem isMove_lit (r : Bool) (n L k : Int) (x : Int × Int) (w : World) (h0 : 0 ≤ n) (h1 : n ≤ 1048576) (h2 : 0 ≤ L) (h3 : L ≤ 1048576) (h : moveOk n L k x = r) :
    Calls Tryd.prog 97 #[.agg #[.int .i64 x.1, .int .i64 x.2], .int .i64 n, .int .i64 L, .int .i64 k] w fun e w' => e = .returned (.bool r) ∧ Below w.heap.size w w' := h ▸ isMove n L k x w h0 h1 h2 h3
theorem l02Move_lit (r : Bool) (n L k : Int) (x : Int × Int) (w : World) (h0 : 0 ≤ n) (h1 : n ≤ 1048576) (h2 : 0 ≤ L) (h3 : L ≤ 1048576) (h : moveOk n L k x = r) :
    Calls Tryd.prog 118 #[.agg #[.int .i64 x.1, .int .i64 x.2], .int .i64 n, .int .i64 L, .int .i64 k] w fun e w' => e = .returned (.bool r) ∧ Below w.heap.size w w' := h ▸ l02Move n L k x w h0 h1 h2 h3
theorem sizeMoves (A : Option Addr) (n c : Nat) (w : World) (hn : n ≤ 9223372036854775807) : Calls Tryd.prog 96 #[.slice A n c] w fun e w' => e = .returned (.int .i64 n) ∧ w = w' := by
  go_enter Tryd.func96, Tryd.ntmps96
  go_wp2
  go_ret
  exact ⟨rfl, rfl⟩
theorem sizeMoveS (A : Option Addr) (n c : Nat) (w : World) (hn : n ≤ 9223372036854775807) : Calls Tryd.prog 89 #[.slice A n c] w fun e w' => e = .returned (.int .i64 n) ∧ w = w' := by
  go_enter Tryd.func89, Tryd.ntmps89
  go_wp2
  go_ret
  exact ⟨rfl, rfl⟩
theorem isAlphabet_lit (r : Bool) (n : Int) (w : World) (h : inB n 1 3 = r) : Calls Tryd.prog 94 #[.int .i64 n] w fun e w' => e = .returned (.bool r) ∧ w = w' := by
  go_enter Tryd.func94, Tryd.ntmps94
  go_wp2_with (go_at_call 95; refine (within_lit r _ _ _ _ h).mono ?_; rintro e w1 ⟨rfl, rfl⟩)
  go_ret
  exact ⟨rfl, rfl⟩
theorem inB_iff {n a b : Int} : inB n a b = true ↔ a ≤ n ∧ n ≤ b := decide_eq_true_iff

theorem validTurner_impl (v : Value) (T : Tn) (w : World) (h1 : RdTn w w.heap.size v T) (hn : T.tot ≤ 1048576) :
    Calls Tryd.prog 43 #[v] w fun e w' => e = .returned (.bool T.okB) ∧ Below w.heap.size w w' := by
  obtain ⟨A1, c1, rfl, r1⟩ := h1
  have hn1 : T.moves.length ≤ 1048576 := by unfold Tn.tot at hn; rw [tot_list] at hn; omega
  by_cases hA : inB T.letters 1 3 = true
  · by_cases hB : inB T.moves.length 1 12 = true
    · by_cases hC : inB T.start 0 (T.moves.length - 1) = true
      · have MM : Hid (T.okB = T.moves.all (rowOk T.moves.length T.letters)) := Lib.hid (by unfold Tn.okB; rw [hA, hB, hC]; simp)
        obtain ⟨la, lb⟩ := inB_iff.1 hA
        obtain ⟨ma, mb⟩ := inB_iff.1 hB
        go_enter Tryd.func43, Tryd.ntmps43
        go_wp2_with (first
          | (go_at_call 89; refine (sizeMoveS _ _ _ _ (by omega)).mono ?_; rintro e w1 ⟨rfl, rfl⟩)
          | (go_at_call 94; refine (isAlphabet_lit true _ _ hA).mono ?_; rintro e w1 ⟨rfl, rfl⟩)
          | (go_at_call 95; refine (within_lit true _ _ _ _ (by assumption)).mono ?_; rintro e w1 ⟨rfl, rfl⟩))
        go_loopw [31] (fun i wr => ∃ k : Nat, k ≤ T.moves.length ∧ i = .int .i64 k ∧ Since (w.alloc (Obj.cells #[Value.int .i64 T.letters, Value.int .i64 T.start, Value.slice A1 T.moves.length c1] 40)) wr ∧ Hid (T.moves.all (rowOk T.moves.length T.letters) = (T.moves.drop k).all (rowOk T.moves.length T.letters))) (fun i _ => T.moves.length - (intOf i).toNat)
        case atStart => exact ⟨0, Nat.zero_le _, rfl, ⟨Below.refl _ _⟩, Lib.hid (by simp)⟩
        case round =>
          obtain ⟨k, hk, rfl, hs, heq⟩ := hrel
          obtain ⟨wo, rfl⟩ : ∃ wo, wo = wr := ⟨_, rfl⟩
          have HBwo : Since w wo := ⟨below_cat (by repeat (first | exact Below.refl _ _ | exact Since.out (by assumption) | refine Below.alloc ?_ (by first | omega | (simp only [sz_alloc, sz_set, sz_drew, sz_drewN]; omega) | (simp only [sz_alloc, sz_set, sz_drew, sz_drewN] at *; omega)) _ | refine Below.setCell ?_ (by first | omega | (simp only [sz_alloc, sz_set, sz_drew, sz_drewN]; omega) | (simp only [sz_alloc, sz_set, sz_drew, sz_drewN] at *; omega)) _ | refine Below.drew ?_ | refine below_drewN_ ?_ _)) hs.out (by first | omega | (simp only [sz_alloc, sz_set, sz_drew, sz_drewN]; omega) | (simp only [sz_alloc, sz_set, sz_drew, sz_drewN] at *; omega))⟩; have hzwo := hs.out.size; (try simp only [sz_alloc, sz_set, sz_drew, sz_drewN] at hzwo); have hcwok0 := fun o => hs.out.cell (p := ⟨w.heap.size, o, none⟩) (by first | omega | (simp only [sz_alloc, sz_set, sz_drew, sz_drewN]; omega) | (simp only [sz_alloc, sz_set, sz_drew, sz_drewN] at *; omega)); have hfwok0 := fun o => hs.out.frozen (p := ⟨w.heap.size, o, none⟩) (by first | omega | (simp only [sz_alloc, sz_set, sz_drew, sz_drewN]; omega) | (simp only [sz_alloc, sz_set, sz_drew, sz_drewN] at *; omega)); have hlwok0 : w.heap.size < wo.heap.size := (by first | omega | (simp only [sz_alloc, sz_set, sz_drew, sz_drewN]; omega) | (simp only [sz_alloc, sz_set, sz_drew, sz_drewN] at *; omega))
          by_cases hlt : k < T.moves.length
          · obtain ⟨x, hx⟩ := get_some hlt
            obtain ⟨b, o, P, p, rfl, hbb, c2, hxl, rx⟩ := (r1.up HBwo.out).row hx
            have heq' : Hid (T.moves.all (rowOk T.moves.length T.letters) = (x :: T.moves.drop (k + 1)).all (rowOk T.moves.length T.letters)) := by
              have := heq.out
              rwa [drop_cons hx] at this
            have i1 : (0 : Int) ≤ (k : Int) := by omega
            have i2 : (k : Int) < (T.moves.length : Int) := by omega
            clear hx heq
            by_cases hl : (x.length : Int) = T.letters + 2
            · have e4 : ((x.length : Int) != T.letters + 2) = false := by simp [hl]
              have X : Hid ((rowOk T.moves.length T.letters x) = movesFrom T.moves.length T.letters 0 x) := Lib.hid (by unfold rowOk; simp [hl])
              clear hl
              go_wp2
              go_quiet ((go_at_call 96; exact Calls.quiet_of_same ((sizeMoves _ _ _ _ (by omega)).mono fun _ _ h => ⟨h.1, h.2.symm⟩)))
              go_wp2
              go_loopw [43] (fun i wi => ∃ j : Nat, j ≤ x.length ∧ i = .int .i64 j ∧ Since wo wi ∧ Hid (movesFrom T.moves.length T.letters 0 x = movesFrom T.moves.length T.letters j (x.drop j))) (fun i _ => x.length - (intOf i).toNat)
              case atStart => exact ⟨0, Nat.zero_le _, rfl, ⟨(by repeat (first | exact Below.refl _ _ | refine Below.alloc ?_ (by first | omega | (simp only [sz_alloc, sz_set, sz_drew, sz_drewN]; omega) | (simp only [sz_alloc, sz_set, sz_drew, sz_drewN] at *; omega)) _ | refine Below.setCell ?_ (by first | omega | (simp only [sz_alloc, sz_set, sz_drew, sz_drewN]; omega) | (simp only [sz_alloc, sz_set, sz_drew, sz_drewN] at *; omega)) _ | refine Below.drew ?_ | refine below_drewN_ ?_ _))⟩, Lib.hid (by simp)⟩
              case round =>
                obtain ⟨j, hj, rfl, hs2, hej⟩ := hrel
                have HBwr : Since w wr := ⟨below_cat (by repeat (first | exact Below.refl _ _ | exact Since.out (by assumption) | refine Below.alloc ?_ (by first | omega | (simp only [sz_alloc, sz_set, sz_drew, sz_drewN]; omega) | (simp only [sz_alloc, sz_set, sz_drew, sz_drewN] at *; omega)) _ | refine Below.setCell ?_ (by first | omega | (simp only [sz_alloc, sz_set, sz_drew, sz_drewN]; omega) | (simp only [sz_alloc, sz_set, sz_drew, sz_drewN] at *; omega)) _ | refine Below.drew ?_ | refine below_drewN_ ?_ _)) hs2.out (by first | omega | (simp only [sz_alloc, sz_set, sz_drew, sz_drewN]; omega) | (simp only [sz_alloc, sz_set, sz_drew, sz_drewN] at *; omega))⟩; have hzwr := hs2.out.size; (try simp only [sz_alloc, sz_set, sz_drew, sz_drewN] at hzwr); have hcwrk0 := fun o => hs2.out.cell (p := ⟨w.heap.size, o, none⟩) (by first | omega | (simp only [sz_alloc, sz_set, sz_drew, sz_drewN]; omega) | (simp only [sz_alloc, sz_set, sz_drew, sz_drewN] at *; omega)); have hfwrk0 := fun o => hs2.out.frozen (p := ⟨w.heap.size, o, none⟩) (by first | omega | (simp only [sz_alloc, sz_set, sz_drew, sz_drewN]; omega) | (simp only [sz_alloc, sz_set, sz_drew, sz_drewN] at *; omega)); have hlwrk0 : w.heap.size < wr.heap.size := (by first | omega | (simp only [sz_alloc, sz_set, sz_drew, sz_drewN]; omega) | (simp only [sz_alloc, sz_set, sz_drew, sz_drewN] at *; omega))
                by_cases hlj : j < x.length
                · obtain ⟨z, hz⟩ := get_some hlj
                  obtain ⟨f, g, rfl, hff, c5, c6⟩ := (rx.up hs2.out).pair hz
                  have hej' : Hid (movesFrom T.moves.length T.letters 0 x = (moveOk T.moves.length T.letters j z && movesFrom T.moves.length T.letters (j + 1) (x.drop (j + 1)))) := by
                    have := hej.out
                    rwa [drop_cons hz] at this
                  have j1 : (0 : Int) ≤ (j : Int) := by omega
                  have j2 : (j : Int) < (x.length : Int) := by omega
                  clear hz hej
                  by_cases hm : moveOk T.moves.length T.letters j z = true
                  · have HM := Lib.hid hm
                    clear hm
                    go_wp2_with (go_at_call 97; refine (isMove_lit true _ _ _ z _ (by omega) (by omega) (by omega) (by omega) HM.out).mono ?_; rintro e w3 ⟨rfl, hb3⟩; have HBw3 : Since w w3 := ⟨below_cat (by repeat (first | exact Below.refl _ _ | exact Since.out (by assumption) | refine Below.alloc ?_ (by first | omega | (simp only [sz_alloc, sz_set, sz_drew, sz_drewN]; omega) | (simp only [sz_alloc, sz_set, sz_drew, sz_drewN] at *; omega)) _ | refine Below.setCell ?_ (by first | omega | (simp only [sz_alloc, sz_set, sz_drew, sz_drewN]; omega) | (simp only [sz_alloc, sz_set, sz_drew, sz_drewN] at *; omega)) _ | refine Below.drew ?_ | refine below_drewN_ ?_ _)) hb3 (by first | omega | (simp only [sz_alloc, sz_set, sz_drew, sz_drewN]; omega) | (simp only [sz_alloc, sz_set, sz_drew, sz_drewN] at *; omega))⟩; have hzw3 := hb3.size; (try simp only [sz_alloc, sz_set, sz_drew, sz_drewN] at hzw3); have hcw3k0 := fun o => hb3.cell (p := ⟨w.heap.size, o, none⟩) (by first | omega | (simp only [sz_alloc, sz_set, sz_drew, sz_drewN]; omega) | (simp only [sz_alloc, sz_set, sz_drew, sz_drewN] at *; omega)); have hfw3k0 := fun o => hb3.frozen (p := ⟨w.heap.size, o, none⟩) (by first | omega | (simp only [sz_alloc, sz_set, sz_drew, sz_drewN]; omega) | (simp only [sz_alloc, sz_set, sz_drew, sz_drewN] at *; omega)); have hlw3k0 : w.heap.size < w3.heap.size := (by first | omega | (simp only [sz_alloc, sz_set, sz_drew, sz_drewN]; omega) | (simp only [sz_alloc, sz_set, sz_drew, sz_drewN] at *; omega)))
                    go_roundw
                    case rel => exact ⟨j + 1, by omega, by go_num, ⟨below_cat (by repeat (first | exact Below.refl _ _ | exact Since.out (by assumption) | refine Below.alloc ?_ (by first | omega | (simp only [sz_alloc, sz_set, sz_drew, sz_drewN]; omega) | (simp only [sz_alloc, sz_set, sz_drew, sz_drewN] at *; omega)) _ | refine Below.setCell ?_ (by first | omega | (simp only [sz_alloc, sz_set, sz_drew, sz_drewN]; omega) | (simp only [sz_alloc, sz_set, sz_drew, sz_drewN] at *; omega)) _ | refine Below.drew ?_ | refine below_drewN_ ?_ _)) hb3 (by first | omega | (simp only [sz_alloc, sz_set, sz_drew, sz_drewN]; omega) | (simp only [sz_alloc, sz_set, sz_drew, sz_drewN] at *; omega))⟩, Lib.hid (by rw [hej'.out, HM.out]; simp)⟩
                    case measure => simp [intOf]; omega
                  · have HM := Lib.hid (Bool.not_eq_true _ |>.mp hm)
                    clear hm
                    go_wp2_with (go_at_call 97; refine (isMove_lit false _ _ _ z _ (by omega) (by omega) (by omega) (by omega) HM.out).mono ?_; rintro e w3 ⟨rfl, hb3⟩; have HBw3 : Since w w3 := ⟨below_cat (by repeat (first | exact Below.refl _ _ | exact Since.out (by assumption) | refine Below.alloc ?_ (by first | omega | (simp only [sz_alloc, sz_set, sz_drew, sz_drewN]; omega) | (simp only [sz_alloc, sz_set, sz_drew, sz_drewN] at *; omega)) _ | refine Below.setCell ?_ (by first | omega | (simp only [sz_alloc, sz_set, sz_drew, sz_drewN]; omega) | (simp only [sz_alloc, sz_set, sz_drew, sz_drewN] at *; omega)) _ | refine Below.drew ?_ | refine below_drewN_ ?_ _)) hb3 (by first | omega | (simp only [sz_alloc, sz_set, sz_drew, sz_drewN]; omega) | (simp only [sz_alloc, sz_set, sz_drew, sz_drewN] at *; omega))⟩; have hzw3 := hb3.size; (try simp only [sz_alloc, sz_set, sz_drew, sz_drewN] at hzw3); have hcw3k0 := fun o => hb3.cell (p := ⟨w.heap.size, o, none⟩) (by first | omega | (simp only [sz_alloc, sz_set, sz_drew, sz_drewN]; omega) | (simp only [sz_alloc, sz_set, sz_drew, sz_drewN] at *; omega)); have hfw3k0 := fun o => hb3.frozen (p := ⟨w.heap.size, o, none⟩) (by first | omega | (simp only [sz_alloc, sz_set, sz_drew, sz_drewN]; omega) | (simp only [sz_alloc, sz_set, sz_drew, sz_drewN] at *; omega)); have hlw3k0 : w.heap.size < w3.heap.size := (by first | omega | (simp only [sz_alloc, sz_set, sz_drew, sz_drewN]; omega) | (simp only [sz_alloc, sz_set, sz_drew, sz_drewN] at *; omega)))
                    go_ret
                    exact ⟨ret_bool (by rw [MM.out, heq'.out]; simp [X.out, hej'.out, HM.out]), HBw3.out⟩
                · have HE : Hid (movesFrom T.moves.length T.letters 0 x = true) := Lib.hid (by rw [hej.out, List.drop_eq_nil_of_le (by omega)]; rfl)
                  go_wp2
                  go_roundw
                  case rel => exact ⟨k + 1, by omega, by go_num, ⟨below_cat hs.out hs2.out hs.out.size⟩, Lib.hid (by rw [heq'.out]; simp [X.out, HE.out])⟩
                  case measure => simp [intOf]; omega
            · have e4 : ((x.length : Int) != T.letters + 2) = true := by simp; omega
              have X : Hid ((rowOk T.moves.length T.letters x) = false) := Lib.hid (by unfold rowOk; simp [hl])
              clear hl
              go_wp2
              go_quiet ((go_at_call 96; exact Calls.quiet_of_same ((sizeMoves _ _ _ _ (by omega)).mono fun _ _ h => ⟨h.1, h.2.symm⟩)))
              go_wp2
              go_ret
              exact ⟨ret_bool (by rw [MM.out, heq'.out]; simp [X.out]), (by repeat (first | exact Below.refl _ _ | exact Since.out (by assumption) | refine Below.alloc ?_ (by first | omega | (simp only [sz_alloc, sz_set, sz_drew, sz_drewN]; omega) | (simp only [sz_alloc, sz_set, sz_drew, sz_drewN] at *; omega)) _ | refine Below.setCell ?_ (by first | omega | (simp only [sz_alloc, sz_set, sz_drew, sz_drewN]; omega) | (simp only [sz_alloc, sz_set, sz_drew, sz_drewN] at *; omega)) _ | refine Below.drew ?_ | refine below_drewN_ ?_ _))⟩
          · go_wp2
            go_ret
            exact ⟨ret_bool (by rw [MM.out, heq.out, List.drop_eq_nil_of_le (by omega)]; simp), HBwo.out⟩
      · have hC := Bool.not_eq_true _ |>.mp hC
        have MM : Hid (T.okB = false) := Lib.hid (by unfold Tn.okB; rw [hA, hB, hC]; simp)
        obtain ⟨ma, mb⟩ := inB_iff.1 hB
        go_enter Tryd.func43, Tryd.ntmps43
        go_wp2_with (first
          | (go_at_call 89; refine (sizeMoveS _ _ _ _ (by omega)).mono ?_; rintro e w1 ⟨rfl, rfl⟩)
          | (go_at_call 94; refine (isAlphabet_lit true _ _ hA).mono ?_; rintro e w1 ⟨rfl, rfl⟩)
          | (go_at_call 95; refine (within_lit _ _ _ _ _ (by assumption)).mono ?_; rintro e w1 ⟨rfl, rfl⟩))
        go_ret
        exact ⟨ret_bool (by rw [MM.out]), (by repeat (first | exact Below.refl _ _ | refine Below.alloc ?_ (by first | omega | (simp only [sz_alloc, sz_set, sz_drew, sz_drewN]; omega) | (simp only [sz_alloc, sz_set, sz_drew, sz_drewN] at *; omega)) _ | refine Below.setCell ?_ (by first | omega | (simp only [sz_alloc, sz_set, sz_drew, sz_drewN]; omega) | (simp only [sz_alloc, sz_set, sz_drew, sz_drewN] at *; omega)) _ | refine Below.drew ?_ | refine below_drewN_ ?_ _))⟩
    · have hB := Bool.not_eq_true _ |>.mp hB
      have MM : Hid (T.okB = false) := Lib.hid (by unfold Tn.okB; rw [hA, hB]; simp)
      go_enter Tryd.func43, Tryd.ntmps43
      go_wp2_with (first
        | (go_at_call 89; refine (sizeMoveS _ _ _ _ (by omega)).mono ?_; rintro e w1 ⟨rfl, rfl⟩)
        | (go_at_call 94; refine (isAlphabet_lit true _ _ hA).mono ?_; rintro e w1 ⟨rfl, rfl⟩)
        | (go_at_call 95; refine (within_lit _ _ _ _ _ (by assumption)).mono ?_; rintro e w1 ⟨rfl, rfl⟩))
      go_ret
      exact ⟨ret_bool (by rw [MM.out]), (by repeat (first | exact Below.refl _ _ | refine Below.alloc ?_ (by first | omega | (simp only [sz_alloc, sz_set, sz_drew, sz_drewN]; omega) | (simp only [sz_alloc, sz_set, sz_drew, sz_drewN] at *; omega)) _ | refine Below.setCell ?_ (by first | omega | (simp only [sz_alloc, sz_set, sz_drew, sz_drewN]; omega) | (simp only [sz_alloc, sz_set, sz_drew, sz_drewN] at *; omega)) _ | refine Below.drew ?_ | refine below_drewN_ ?_ _))⟩
  · have hA := Bool.not_eq_true _ |>.mp hA
    have MM : Hid (T.okB = false) := Lib.hid (by unfold Tn.okB; rw [hA]; simp)
    go_enter Tryd.func43, Tryd.ntmps43
    go_wp2_with (first
      | (go_at_call 89; refine (sizeMoveS _ _ _ _ (by omega)).mono ?_; rintro e w1 ⟨rfl, rfl⟩)
      | (go_at_call 94; refine (isAlphabet_lit false _ _ hA).mono ?_; rintro e w1 ⟨rfl, rfl⟩))
    go_ret
    exact ⟨ret_bool (by rw [MM.out]), (by repeat (first | exact Below.refl _ _ | refine Below.alloc ?_ (by first | omega | (simp only [sz_alloc, sz_set, sz_drew, sz_drewN]; omega) | (simp only [sz_alloc, sz_set, sz_drew, sz_drewN] at *; omega)) _ | refine Below.setCell ?_ (by first | omega | (simp only [sz_alloc, sz_set, sz_drew, sz_drewN]; omega) | (simp only [sz_alloc, sz_set, sz_drew, sz_drewN] at *; omega)) _ | refine Below.drew ?_ | refine below_drewN_ ?_ _))⟩

theorem l02Ok (b : Nat) (A1 : Option Addr) (c1 : Nat) (T : Tn) (w : World) (q0 : w.cell? ⟨b, 0, none⟩ = some (.int .i64 T.letters)) (q1 : w.cell? ⟨b, 1, none⟩ = some (.int .i64 T.start)) (q2 : w.cell? ⟨b, 2, none⟩ = some (.slice A1 T.moves.length c1)) (hbw : b < w.heap.size)
    (r1 : RdS w w.heap.size A1 T.moves) (hn : T.tot ≤ 1048576) :
    Calls Tryd.prog 67 #[.pointer (some ⟨b, 0, none⟩)] w fun e w' => e = .returned (.bool T.okB) ∧ Below w.heap.size w w' := by
  have hn1 : T.moves.length ≤ 1048576 := by unfold Tn.tot at hn; rw [tot_list] at hn; omega
  by_cases hA : inB T.letters 1 3 = true
  · by_cases hB : inB T.moves.length 1 12 = true
    · by_cases hC : inB T.start 0 (T.moves.length - 1) = true
      · have MM : Hid (T.okB = T.moves.all (rowOk T.moves.length T.letters)) := Lib.hid (by unfold Tn.okB; rw [hA, hB, hC]; simp)
        obtain ⟨la, lb⟩ := inB_iff.1 hA
        obtain ⟨ma, mb⟩ := inB_iff.1 hB
        go_enter Tryd.func67, Tryd.ntmps67
        go_wp2_with (go_at_call 72; refine (l00In_lit _ _ _ _ _ (by assumption)).mono ?_; rintro e w1 ⟨rfl, rfl⟩)
        go_loopw [4] (fun i wr => ∃ k : Nat, k ≤ T.moves.length ∧ i = .int .i64 k ∧ Since w wr ∧ Hid (T.moves.all (rowOk T.moves.length T.letters) = (T.moves.drop k).all (rowOk T.moves.length T.letters))) (fun i _ => T.moves.length - (intOf i).toNat)
        case atStart => exact ⟨0, Nat.zero_le _, rfl, ⟨Below.refl _ _⟩, Lib.hid (by simp)⟩
        case round =>
          obtain ⟨k, hk, rfl, hs, heq⟩ := hrel
          obtain ⟨wo, rfl⟩ : ∃ wo, wo = wr := ⟨_, rfl⟩
          have p0 := (hs.out.cell (p := ⟨b, 0, none⟩) hbw).trans q0
          have p1 := (hs.out.cell (p := ⟨b, 1, none⟩) hbw).trans q1
          have p2 := (hs.out.cell (p := ⟨b, 2, none⟩) hbw).trans q2
          by_cases hlt : k < T.moves.length
          · obtain ⟨x, hx⟩ := get_some hlt
            obtain ⟨b', o, P, p, rfl, hbb, c2, hxl, rx⟩ := (r1.up hs.out).row hx
            have heq' : Hid (T.moves.all (rowOk T.moves.length T.letters) = (x :: T.moves.drop (k + 1)).all (rowOk T.moves.length T.letters)) := by
              have := heq.out
              rwa [drop_cons hx] at this
            have i1 : (0 : Int) ≤ (k : Int) := by omega
            have i2 : (k : Int) < (T.moves.length : Int) := by omega
            clear hx heq
            by_cases hl : (x.length : Int) = T.letters + 2
            · have e4 : ((x.length : Int) != T.letters + 2) = false := by simp [hl]
              have X : Hid ((rowOk T.moves.length T.letters x) = movesFrom T.moves.length T.letters 0 x) := Lib.hid (by unfold rowOk; simp [hl])
              have HL := Lib.hid hl
              clear hl
              go_wp2
              go_quiet (fail)
              go_wp2
              go_loopw [5] (fun i wi => ∃ j : Nat, j ≤ x.length ∧ i = .int .i64 j ∧ Since wo wi ∧ Hid (movesFrom T.moves.length T.letters 0 x = movesFrom T.moves.length T.letters j (x.drop j))) (fun i _ => x.length - (intOf i).toNat)
              case atStart => exact ⟨0, Nat.zero_le _, rfl, ⟨(by repeat (first | exact Below.refl _ _ | refine Below.alloc ?_ (by first | omega | (simp only [sz_alloc, sz_set, sz_drew, sz_drewN]; omega) | (simp only [sz_alloc, sz_set, sz_drew, sz_drewN] at *; omega)) _ | refine Below.setCell ?_ (by first | omega | (simp only [sz_alloc, sz_set, sz_drew, sz_drewN]; omega) | (simp only [sz_alloc, sz_set, sz_drew, sz_drewN] at *; omega)) _ | refine Below.drew ?_ | refine below_drewN_ ?_ _))⟩, Lib.hid (by simp)⟩
              case round =>
                obtain ⟨j, hj, rfl, hs2, hej⟩ := hrel
                have t0 := (hs2.out.cell (p := ⟨b, 0, none⟩) (Nat.lt_of_lt_of_le hbw hs.out.size)).trans p0
                have t1 := (hs2.out.cell (p := ⟨b, 1, none⟩) (Nat.lt_of_lt_of_le hbw hs.out.size)).trans p1
                have t2 := (hs2.out.cell (p := ⟨b, 2, none⟩) (Nat.lt_of_lt_of_le hbw hs.out.size)).trans p2
                have t3 := (hs2.out.cell (p := ⟨b', o + k, none⟩) hbb).trans c2
                by_cases hlj : j < x.length
                · obtain ⟨z, hz⟩ := get_some hlj
                  obtain ⟨f, g, rfl, hff, c5, c6⟩ := (rx.up hs2.out).pair hz
                  have hej' : Hid (movesFrom T.moves.length T.letters 0 x = (moveOk T.moves.length T.letters j z && movesFrom T.moves.length T.letters (j + 1) (x.drop (j + 1)))) := by
                    have := hej.out
                    rwa [drop_cons hz] at this
                  have j1 : (0 : Int) ≤ (j : Int) := by omega
                  have j2 : (j : Int) < (x.length : Int) := by omega
                  have j3 : (j : Int) < T.letters + 2 := by have := HL.out; omega
                  clear hz hej
                  by_cases hm : moveOk T.moves.length T.letters j z = true
                  · have HM := Lib.hid hm
                    clear hm
                    go_wp2
                    go_still_tail 16, (by kernel_rfl)
                    go_wp2_with fail
                    refine (l02Move_lit true _ _ _ z _ (by omega) (by omega) (by omega) (by omega) HM.out).mono ?_
                    rintro e w3 ⟨rfl, hb3⟩
                    have HB3 : Since wo w3 := ⟨below_cat hs2.out.drew hb3 hs2.out.size⟩
                    go_wp2
                    go_roundw
                    case rel => exact ⟨j + 1, by omega, by go_num, HB3, Lib.hid (by rw [hej'.out, HM.out]; simp)⟩
                    case measure => simp [intOf]; omega
                  · have HM := Lib.hid (Bool.not_eq_true _ |>.mp hm)
                    clear hm
                    go_wp2
                    go_still_tail 16, (by kernel_rfl)
                    go_wp2_with fail
                    refine (l02Move_lit false _ _ _ z _ (by omega) (by omega) (by omega) (by omega) HM.out).mono ?_
                    rintro e w3 ⟨rfl, hb3⟩
                    have HB3 : Since wo w3 := ⟨below_cat hs2.out.drew hb3 hs2.out.size⟩
                    go_wp2
                    go_ret
                    exact ⟨ret_bool (by rw [MM.out, heq'.out]; simp [X.out, hej'.out, HM.out]), below_cat hs.out HB3.out hs.out.size⟩
                · have HE : Hid (movesFrom T.moves.length T.letters 0 x = true) := Lib.hid (by rw [hej.out, List.drop_eq_nil_of_le (by omega)]; rfl)
                  have j3 : ¬ (j : Int) < T.letters + 2 := by have := HL.out; omega
                  go_wp2
                  go_roundw
                  case rel => exact ⟨k + 1, by omega, by go_num, ⟨below_cat hs.out hs2.out hs.out.size⟩, Lib.hid (by rw [heq'.out]; simp [X.out, HE.out])⟩
                  case measure => simp [intOf]; omega
            · have e4 : ((x.length : Int) != T.letters + 2) = true := by simp; omega
              have X : Hid ((rowOk T.moves.length T.letters x) = false) := Lib.hid (by unfold rowOk; simp [hl])
              clear hl
              go_wp2
              go_quiet (fail)
              go_wp2
              go_ret
              exact ⟨ret_bool (by rw [MM.out, heq'.out]; simp [X.out]), (by repeat (first | exact Below.refl _ _ | exact Since.out (by assumption) | refine Below.alloc ?_ (by first | omega | (simp only [sz_alloc, sz_set, sz_drew, sz_drewN]; omega) | (simp only [sz_alloc, sz_set, sz_drew, sz_drewN] at *; omega)) _ | refine Below.setCell ?_ (by first | omega | (simp only [sz_alloc, sz_set, sz_drew, sz_drewN]; omega) | (simp only [sz_alloc, sz_set, sz_drew, sz_drewN] at *; omega)) _ | refine Below.drew ?_ | refine below_drewN_ ?_ _))⟩
          · go_wp2
            go_ret
            exact ⟨ret_bool (by rw [MM.out, heq.out, List.drop_eq_nil_of_le (by omega)]; simp), hs.out⟩
      · have hC := Bool.not_eq_true _ |>.mp hC
        obtain ⟨ma, mb⟩ := inB_iff.1 hB
        have MM : Hid (T.okB = false) := Lib.hid (by unfold Tn.okB; rw [hA, hB, hC]; simp)
        go_enter Tryd.func67, Tryd.ntmps67
        go_wp2_with (go_at_call 72; refine (l00In_lit _ _ _ _ _ (by assumption)).mono ?_; rintro e w1 ⟨rfl, rfl⟩)
        go_ret
        exact ⟨ret_bool (by rw [MM.out]), (by repeat (first | exact Below.refl _ _ | refine Below.alloc ?_ (by first | omega | (simp only [sz_alloc, sz_set, sz_drew, sz_drewN]; omega) | (simp only [sz_alloc, sz_set, sz_drew, sz_drewN] at *; omega)) _ | refine Below.setCell ?_ (by first | omega | (simp only [sz_alloc, sz_set, sz_drew, sz_drewN]; omega) | (simp only [sz_alloc, sz_set, sz_drew, sz_drewN] at *; omega)) _ | refine Below.drew ?_ | refine below_drewN_ ?_ _))⟩
    · have hB := Bool.not_eq_true _ |>.mp hB
      have MM : Hid (T.okB = false) := Lib.hid (by unfold Tn.okB; rw [hA, hB]; simp)
      go_enter Tryd.func67, Tryd.ntmps67
      go_wp2_with (go_at_call 72; refine (l00In_lit _ _ _ _ _ (by assumption)).mono ?_; rintro e w1 ⟨rfl, rfl⟩)
      go_ret
      exact ⟨ret_bool (by rw [MM.out]), (by repeat (first | exact Below.refl _ _ | refine Below.alloc ?_ (by first | omega | (simp only [sz_alloc, sz_set, sz_drew, sz_drewN]; omega) | (simp only [sz_alloc, sz_set, sz_drew, sz_drewN] at *; omega)) _ | refine Below.setCell ?_ (by first | omega | (simp only [sz_alloc, sz_set, sz_drew, sz_drewN]; omega) | (simp only [sz_alloc, sz_set, sz_drew, sz_drewN] at *; omega)) _ | refine Below.drew ?_ | refine below_drewN_ ?_ _))⟩
  · have hA := Bool.not_eq_true _ |>.mp hA
    have MM : Hid (T.okB = false) := Lib.hid (by unfold Tn.okB; rw [hA]; simp)
    go_enter Tryd.func67, Tryd.ntmps67
    go_wp2_with (go_at_call 72; refine (l00In_lit _ _ _ _ _ (by assumption)).mono ?_; rintro e w1 ⟨rfl, rfl⟩)
    go_ret
    exact ⟨ret_bool (by rw [MM.out]), (by repeat (first | exact Below.refl _ _ | refine Below.alloc ?_ (by first | omega | (simp only [sz_alloc, sz_set, sz_drew, sz_drewN]; omega) | (simp only [sz_alloc, sz_set, sz_drew, sz_drewN] at *; omega)) _ | refine Below.setCell ?_ (by first | omega | (simp only [sz_alloc, sz_set, sz_drew, sz_drewN]; omega) | (simp only [sz_alloc, sz_set, sz_drew, sz_drewN] at *; omega)) _ | refine Below.drew ?_ | refine below_drewN_ ?_ _))⟩


end Go.Proofs.YtelmooaenodfaaaDoor
