/-
  Moves read from a word: by the reference, strictly, and by the program. Conditions: those in each statement.
-/
import Derived.Test.YtelmooaenodfaaaDoorTnLaw
set_option linter.unusedVariables false
set_option linter.unusedSimpArgs false
set_option maxRecDepth 100000
set_option maxHeartbeats 1000000
namespace Go.Proofs.YtelmooaenodfaaaDoor
open Go.RowKit

theorem last_of {x : List UInt8} (h : x ≠ []) : ∃ a b, x = a ++ [b] := ⟨x.dropLast, x.getLast h, (List.dropLast_concat_getLast _).symm⟩
theorem dl_app (a : List UInt8) (b : UInt8) : (a ++ [b]).dropLast = a := by simp
theorem gl_app (a : List UInt8) (b : UInt8) : (a ++ [b]).getLastD 0 = b := by simp [List.getLastD_eq_getLast?]

set_option maxHeartbeats 8000000 in
theorem l02Read_spec (x : List UInt8) (w : World) (hx : x.length ≤ 1048576) :
    Calls Tryd.prog 66 #[.string (str x)] w fun e w' => e = .returned (.tuple #[.agg #[.int .i64 (mvV x).1, .int .i64 (mvV x).2], .bool (mvOkB x)]) ∧ Below w.heap.size w w' := by
  have tl := str_list
  by_cases hy : x = yesT
  · have qy : (x == [121, 101, 115]) = true := lst_eq hy
    have HV : Hid (mvV x = (-1, 0) ∧ mvOkB x = true) := Lib.hid (by subst hy; exact ⟨rfl, rfl⟩)
    rw [HV.out.1, HV.out.2]
    clear hy
    go_enter Tryd.func66, Tryd.ntmps66
    go_wp2
    exact bodyPost_ret (v := .tuple #[.agg #[.int .i64 (-1), .int .i64 (0)], .bool true]) (by simp [results, Tryd.results66, go_sem]) rfl ⟨rfl, (by repeat (first | exact Below.refl _ _ | refine Below.alloc ?_ (by first | omega | (simp only [sz_alloc, sz_set, sz_drew, sz_drewN]; omega) | (simp only [sz_alloc, sz_set, sz_drew, sz_drewN] at *; omega)) _ | refine Below.setCell ?_ (by first | omega | (simp only [sz_alloc, sz_set, sz_drew, sz_drewN]; omega) | (simp only [sz_alloc, sz_set, sz_drew, sz_drewN] at *; omega)) _ | refine Below.drew ?_ | refine below_drewN_ ?_ _))⟩
  have qy : (x == [121, 101, 115]) = false := lst_ne hy
  by_cases hn : x = noT
  · have qn : (x == [110, 111]) = true := lst_eq hn
    have HV : Hid (mvV x = (-2, 0) ∧ mvOkB x = true) := Lib.hid (by subst hn; exact ⟨rfl, rfl⟩)
    rw [HV.out.1, HV.out.2]
    clear hy hn
    go_enter Tryd.func66, Tryd.ntmps66
    go_wp2
    exact bodyPost_ret (v := .tuple #[.agg #[.int .i64 (-2), .int .i64 (0)], .bool true]) (by simp [results, Tryd.results66, go_sem]) rfl ⟨rfl, (by repeat (first | exact Below.refl _ _ | refine Below.alloc ?_ (by first | omega | (simp only [sz_alloc, sz_set, sz_drew, sz_drewN]; omega) | (simp only [sz_alloc, sz_set, sz_drew, sz_drewN] at *; omega)) _ | refine Below.setCell ?_ (by first | omega | (simp only [sz_alloc, sz_set, sz_drew, sz_drewN]; omega) | (simp only [sz_alloc, sz_set, sz_drew, sz_drewN] at *; omega)) _ | refine Below.drew ?_ | refine below_drewN_ ?_ _))⟩
  have qn : (x == [110, 111]) = false := lst_ne hn
  by_cases he : x = []
  · have qe : (x == []) = true := lst_eq he
    have HV : Hid (mvV x = (0, 0) ∧ mvOkB x = false) := Lib.hid (by subst he; exact ⟨rfl, rfl⟩)
    rw [HV.out.1, HV.out.2]
    clear hy hn he
    go_enter Tryd.func66, Tryd.ntmps66
    go_wp2
    exact bodyPost_ret (v := .tuple #[.agg #[.int .i64 (0), .int .i64 (0)], .bool false]) (by simp [results, Tryd.results66, go_sem]) rfl ⟨rfl, (by repeat (first | exact Below.refl _ _ | refine Below.alloc ?_ (by first | omega | (simp only [sz_alloc, sz_set, sz_drew, sz_drewN]; omega) | (simp only [sz_alloc, sz_set, sz_drew, sz_drewN] at *; omega)) _ | refine Below.setCell ?_ (by first | omega | (simp only [sz_alloc, sz_set, sz_drew, sz_drewN]; omega) | (simp only [sz_alloc, sz_set, sz_drew, sz_drewN] at *; omega)) _ | refine Below.drew ?_ | refine below_drewN_ ?_ _))⟩
  have qe : (x == []) = false := lst_ne he
  obtain ⟨a, b, rfl⟩ := last_of he
  have hxl : (a ++ [b]).length = a.length + 1 := by simp
  have hsz : (str (a ++ [b])).size = a.length + 1 := by rw [str_size, hxl]
  have us : ¬ 9223372036854775807 < (str (a ++ [b])).size := by rw [hsz]; omega
  have x2 : ∀ W, (Instr.slice 9 (.string (str (a ++ [b]))) none (some (.int .i64 (a.length : Int))) none).run Tryd.prog W = .ok (.string (str a)) W := fun W => by
    have := sl_to (P := Tryd.prog) Tryd.underlying9 (l := a ++ [b]) (j := a.length) (by omega) W
    rwa [List.take_left] at this
  have x3 : ∀ W, (Instr.index 9 (.string (str (a ++ [b]))) (.int .i64 (a.length : Int))).run Tryd.prog W = .ok (.int .u8 (b.toNat : Int)) W := fun W => idx_str (P := Tryd.prog) Tryd.underlying9 (by simp) W
  obtain ⟨V, hV⟩ : ∃ V, V = numV a := ⟨_, rfl⟩
  obtain ⟨G, hG⟩ : ∃ G, G = (numL a).isSome := ⟨_, rfl⟩
  have HV : Hid (mvV (a ++ [b]) = (V, dirV b) ∧ mvOkB (a ++ [b]) = (G && dirOk b)) := Lib.hid (by
    unfold mvV mvOkB
    rw [if_neg hy, if_neg hn, if_neg he, decide_eq_false hy, decide_eq_false hn, decide_eq_false he, dl_app, gl_app, hV, hG]
    exact ⟨rfl, rfl⟩)
  have HN : Hid (∀ W : World, Calls Tryd.prog 98 #[.string (str a)] W fun e w' => e = .returned (.tuple #[.int .i64 V, .bool G]) ∧ W = w') := Lib.hid fun W => by rw [hV, hG]; exact number_spec a W (by omega)
  clear hy hn he hV hG
  by_cases h60 : b = 60
  · have q60 : ((b.toNat : Int) == 60) = true := u8_eq (c := 60) h60
    have HD : Hid (dirV b = -1 ∧ dirOk b = true) := Lib.hid (by subst h60; exact ⟨by decide, by decide⟩)
    rw [HV.out.1, HV.out.2, HD.out.1, HD.out.2]
    clear h60 
    cases G with
    | true =>
      go_enter Tryd.func66, Tryd.ntmps66
      go_wp2_with fail
      refine (HN.out _).mono ?_
      rintro e _ ⟨rfl, rfl⟩
      go_wp2
      exact bodyPost_ret (v := .tuple #[.agg #[.int .i64 (V), .int .i64 (-1)], .bool true]) (by simp [results, Tryd.results66, go_sem]) rfl ⟨rfl, (by repeat (first | exact Below.refl _ _ | refine Below.alloc ?_ (by first | omega | (simp only [sz_alloc, sz_set, sz_drew, sz_drewN]; omega) | (simp only [sz_alloc, sz_set, sz_drew, sz_drewN] at *; omega)) _ | refine Below.setCell ?_ (by first | omega | (simp only [sz_alloc, sz_set, sz_drew, sz_drewN]; omega) | (simp only [sz_alloc, sz_set, sz_drew, sz_drewN] at *; omega)) _ | refine Below.drew ?_ | refine below_drewN_ ?_ _))⟩
    | false =>
      go_enter Tryd.func66, Tryd.ntmps66
      go_wp2_with fail
      refine (HN.out _).mono ?_
      rintro e _ ⟨rfl, rfl⟩
      go_wp2
      exact bodyPost_ret (v := .tuple #[.agg #[.int .i64 (V), .int .i64 (-1)], .bool false]) (by simp [results, Tryd.results66, go_sem]) rfl ⟨rfl, (by repeat (first | exact Below.refl _ _ | refine Below.alloc ?_ (by first | omega | (simp only [sz_alloc, sz_set, sz_drew, sz_drewN]; omega) | (simp only [sz_alloc, sz_set, sz_drew, sz_drewN] at *; omega)) _ | refine Below.setCell ?_ (by first | omega | (simp only [sz_alloc, sz_set, sz_drew, sz_drewN]; omega) | (simp only [sz_alloc, sz_set, sz_drew, sz_drewN] at *; omega)) _ | refine Below.drew ?_ | refine below_drewN_ ?_ _))⟩
  have q60 : ((b.toNat : Int) == 60) = false := u8_ne (c := 60) h60
  by_cases h62 : b = 62
  · have q62 : ((b.toNat : Int) == 62) = true := u8_eq (c := 62) h62
    have HD : Hid (dirV b = 1 ∧ dirOk b = true) := Lib.hid (by subst h62; exact ⟨by decide, by decide⟩)
    rw [HV.out.1, HV.out.2, HD.out.1, HD.out.2]
    clear h62 h60
    cases G with
    | true =>
      go_enter Tryd.func66, Tryd.ntmps66
      go_wp2_with fail
      refine (HN.out _).mono ?_
      rintro e _ ⟨rfl, rfl⟩
      go_wp2
      exact bodyPost_ret (v := .tuple #[.agg #[.int .i64 (V), .int .i64 (1)], .bool true]) (by simp [results, Tryd.results66, go_sem]) rfl ⟨rfl, (by repeat (first | exact Below.refl _ _ | refine Below.alloc ?_ (by first | omega | (simp only [sz_alloc, sz_set, sz_drew, sz_drewN]; omega) | (simp only [sz_alloc, sz_set, sz_drew, sz_drewN] at *; omega)) _ | refine Below.setCell ?_ (by first | omega | (simp only [sz_alloc, sz_set, sz_drew, sz_drewN]; omega) | (simp only [sz_alloc, sz_set, sz_drew, sz_drewN] at *; omega)) _ | refine Below.drew ?_ | refine below_drewN_ ?_ _))⟩
    | false =>
      go_enter Tryd.func66, Tryd.ntmps66
      go_wp2_with fail
      refine (HN.out _).mono ?_
      rintro e _ ⟨rfl, rfl⟩
      go_wp2
      exact bodyPost_ret (v := .tuple #[.agg #[.int .i64 (V), .int .i64 (1)], .bool false]) (by simp [results, Tryd.results66, go_sem]) rfl ⟨rfl, (by repeat (first | exact Below.refl _ _ | refine Below.alloc ?_ (by first | omega | (simp only [sz_alloc, sz_set, sz_drew, sz_drewN]; omega) | (simp only [sz_alloc, sz_set, sz_drew, sz_drewN] at *; omega)) _ | refine Below.setCell ?_ (by first | omega | (simp only [sz_alloc, sz_set, sz_drew, sz_drewN]; omega) | (simp only [sz_alloc, sz_set, sz_drew, sz_drewN] at *; omega)) _ | refine Below.drew ?_ | refine below_drewN_ ?_ _))⟩
  have q62 : ((b.toNat : Int) == 62) = false := u8_ne (c := 62) h62
  by_cases h61 : b = 61
  · have q61 : ((b.toNat : Int) == 61) = true := u8_eq (c := 61) h61
    have HD : Hid (dirV b = 0 ∧ dirOk b = true) := Lib.hid (by subst h61; exact ⟨by decide, by decide⟩)
    rw [HV.out.1, HV.out.2, HD.out.1, HD.out.2]
    clear h61 h60 h62
    cases G with
    | true =>
      go_enter Tryd.func66, Tryd.ntmps66
      go_wp2_with fail
      refine (HN.out _).mono ?_
      rintro e _ ⟨rfl, rfl⟩
      go_wp2
      exact bodyPost_ret (v := .tuple #[.agg #[.int .i64 (V), .int .i64 (0)], .bool true]) (by simp [results, Tryd.results66, go_sem]) rfl ⟨rfl, (by repeat (first | exact Below.refl _ _ | refine Below.alloc ?_ (by first | omega | (simp only [sz_alloc, sz_set, sz_drew, sz_drewN]; omega) | (simp only [sz_alloc, sz_set, sz_drew, sz_drewN] at *; omega)) _ | refine Below.setCell ?_ (by first | omega | (simp only [sz_alloc, sz_set, sz_drew, sz_drewN]; omega) | (simp only [sz_alloc, sz_set, sz_drew, sz_drewN] at *; omega)) _ | refine Below.drew ?_ | refine below_drewN_ ?_ _))⟩
    | false =>
      go_enter Tryd.func66, Tryd.ntmps66
      go_wp2_with fail
      refine (HN.out _).mono ?_
      rintro e _ ⟨rfl, rfl⟩
      go_wp2
      exact bodyPost_ret (v := .tuple #[.agg #[.int .i64 (V), .int .i64 (0)], .bool false]) (by simp [results, Tryd.results66, go_sem]) rfl ⟨rfl, (by repeat (first | exact Below.refl _ _ | refine Below.alloc ?_ (by first | omega | (simp only [sz_alloc, sz_set, sz_drew, sz_drewN]; omega) | (simp only [sz_alloc, sz_set, sz_drew, sz_drewN] at *; omega)) _ | refine Below.setCell ?_ (by first | omega | (simp only [sz_alloc, sz_set, sz_drew, sz_drewN]; omega) | (simp only [sz_alloc, sz_set, sz_drew, sz_drewN] at *; omega)) _ | refine Below.drew ?_ | refine below_drewN_ ?_ _))⟩
  have q61 : ((b.toNat : Int) == 61) = false := u8_ne (c := 61) h61
  have HD : Hid (dirV b = 0 ∧ dirOk b = false) := Lib.hid (by
    unfold dirV dirOk
    rw [if_neg h60, if_neg h62, decide_eq_false h60, decide_eq_false h62, decide_eq_false h61]
    exact ⟨rfl, rfl⟩)
  rw [HV.out.1, HV.out.2, HD.out.1, HD.out.2, Bool.and_false]
  clear h60 h62 h61
  go_enter Tryd.func66, Tryd.ntmps66
  go_wp2_with fail
  refine (HN.out _).mono ?_
  rintro e _ ⟨rfl, rfl⟩
  go_wp2
  exact bodyPost_ret (v := .tuple #[.agg #[.int .i64 (V), .int .i64 (0)], .bool false]) (by simp [results, Tryd.results66, go_sem]) rfl ⟨rfl, (by repeat (first | exact Below.refl _ _ | refine Below.alloc ?_ (by first | omega | (simp only [sz_alloc, sz_set, sz_drew, sz_drewN]; omega) | (simp only [sz_alloc, sz_set, sz_drew, sz_drewN] at *; omega)) _ | refine Below.setCell ?_ (by first | omega | (simp only [sz_alloc, sz_set, sz_drew, sz_drewN]; omega) | (simp only [sz_alloc, sz_set, sz_drew, sz_drewN] at *; omega)) _ | refine Below.drew ?_ | refine below_drewN_ ?_ _))⟩
end Go.Proofs.YtelmooaenodfaaaDoor
