/-
  Proved here: FnTurnerText returns true. Conditions: none.
-/
import Derived.Test.YtelmooaenodfaaaDoorLaw
import Derived.Test.YtelmooaenodfaaaDoorSrcD
import Derived.Test.YtelmooaenodfaaaDoorTnRd
import Derived.Test.YtelmooaenodfaaaDoorRdTot
import Derived.Test.YtelmooaenodfaaaDoorSameT
import Derived.Test.YtelmooaenodfaaaDoorEnvOf
import Derived.Test.YtelmooaenodfaaaDoorCards
import Derived.Test.YtelmooaenodfaaaDoorTie
import Derived.Lay
import Derived.SevenTiedAt
import Derived.Deep.DeepHandedRow
import Derived.Deep.RegionHeld3
import Derived.Deep.RegionWith
set_option linter.unusedVariables false
set_option linter.unusedSimpArgs false
set_option maxRecDepth 100000
set_option maxHeartbeats 1000000
namespace Go.Proofs.YtelmooaenodfaaaDoor
open Go.RowKit

theorem tn_text_len {T : Tn} (h : T.okB = true) : 1 ≤ T.text.length ∧ T.text.length ≤ 1000 := by
  have OK := Tn.tok_of h
  have h1 := headT_len OK
  have h2 := rowsT_len OK.mv
  have h3 := OK.n12
  unfold Tn.text
  rw [List.length_append]
  refine ⟨?_, by omega⟩
  unfold Tn.headT turnerT
  simp
  omega
theorem tnC_text {T : Tn} (h : T.okB = true) : tnC T.text = T ∧ tnCode T.text = 0 := by
  have hl := (tn_text_len h).2
  unfold tnC tnCode
  rw [if_neg (by omega), if_neg (by omega), tnS_of h]
  exact ⟨rfl, rfl⟩
theorem tn_trunc {T : Tn} (h : T.okB = true) : tnS T.text.dropLast = none := by
  have D := Tn.doc h
  have OK := Tn.tok_of h
  have e : T.text.dropLast = (turnerT ++ numsT [T.letters, T.moves.length, T.start]) ++ joinL 10 (T.moves.map fun r => stateT ++ movesT r) := by
    rw [Tn.text_eq, linesT_join, joinL_app, ← List.append_assoc, show joinL 10 [[]] = [10] from rfl]
    simp
  unfold tnS
  rw [e, split_join D.h10 D.l10]
  obtain ⟨ms, r, hms⟩ : ∃ ms r, T.moves = ms ++ [r] := by
    have hne : T.moves ≠ [] := fun e0 => by have := OK.n1; rw [e0] at this; simp at this
    exact ⟨T.moves.dropLast, T.moves.getLast hne, (List.dropLast_concat_getLast hne).symm⟩
  have hbad : docGood turnerT ((turnerT ++ numsT [T.letters, (T.moves.length : Int), T.start]) :: T.moves.map (fun r => stateT ++ movesT r)) = false := by
    unfold docGood
    have hl : ((turnerT ++ numsT [T.letters, (T.moves.length : Int), T.start]) :: T.moves.map (fun r => stateT ++ movesT r)).getLast? ≠ some [] := by
      rw [hms, List.map_append, List.map_singleton, ← List.cons_append, List.getLast?_append]
      simp [stateT]
    rw [decide_eq_false hl]
    simp
  unfold tnS3
  rw [hbad]
  rfl
theorem tnC_trunc {T : Tn} (h : T.okB = true) : tnC T.text.dropLast = ⟨0, 0, []⟩ ∧ tnCode T.text.dropLast = 5 := by
  have hl := (tn_text_len h).2
  have h2 : T.text.dropLast.length ≤ 1000 := by rw [List.length_dropLast]; omega
  unfold tnC tnCode
  rw [if_neg (by omega), if_neg (by omega), tn_trunc h]
  exact ⟨rfl, rfl⟩
end Go.Proofs.YtelmooaenodfaaaDoor
namespace Go.Proofs.YtelmooaenodfaaaDoor.fnTurnerText
open Go.RowKit Go.ChangeShapes Go.WideShapes Go.Deep Go.Joins Go.ChangeAt

set_option maxHeartbeats 4000000 in
theorem walk (A A' : Option Addr) (c c' : Nat) (code more : List U8) (w : World) (hE : Env w) (r : RdS w w.heap.size A code) (l1 : code.length ≤ 9223372036854775807) (l2 : more.length ≤ 9223372036854775807) :
    Calls Tryd.prog 10 #[.slice A code.length c, .slice A' more.length c'] w fun e w' => e = .returned (.bool true) ∧ Below w.heap.size w w' := by
  have HE := Lib.hid hE
  have HLg := Lib.hid (a2Long_spec A A' code.length c more.length c' w l1 l2)
  clear hE
  by_cases hlong : (decide (3000 < code.length) || decide (3000 < more.length)) = true
  · rw [hlong] at HLg
    clear hlong
    go_enter Tryd.func10, Tryd.ntmps10
    go_wp2_with fail
    refine HLg.out.mono ?_
    rintro e w1 ⟨rfl, rfl⟩
    go_wp2
    go_ret
    exact ⟨rfl, (by repeat (first | exact Below.refl _ _ | refine Below.alloc ?_ (by first | omega | (simp only [sz_alloc, sz_set, sz_drew, sz_drewN]; omega) | (simp only [sz_alloc, sz_set, sz_drew, sz_drewN] at *; omega)) _ | refine Below.setCell ?_ (by first | omega | (simp only [sz_alloc, sz_set, sz_drew, sz_drewN]; omega) | (simp only [sz_alloc, sz_set, sz_drew, sz_drewN] at *; omega)) _ | refine Below.drew ?_ | refine below_drewN_ ?_ _))⟩
  · have hlong := Bool.not_eq_true _ |>.mp hlong
    rw [hlong] at HLg
    have hl : code.length ≤ 3000 := by
      rw [Bool.or_eq_false_iff] at hlong
      have := of_decide_eq_false hlong.1
      omega
    clear hlong
    go_enter Tryd.func10, Tryd.ntmps10
    go_wp2_with fail
    refine HLg.out.mono ?_
    rintro e w0 ⟨rfl, rfl⟩
    go_wp2_with fail
    refine (a2Turner_spec A c code _ (r.up (by repeat (first | exact Below.refl _ _ | refine Below.alloc ?_ (by first | omega | (simp only [sz_alloc, sz_set, sz_drew, sz_drewN]; omega) | (simp only [sz_alloc, sz_set, sz_drew, sz_drewN] at *; omega)) _ | refine Below.setCell ?_ (by first | omega | (simp only [sz_alloc, sz_set, sz_drew, sz_drewN]; omega) | (simp only [sz_alloc, sz_set, sz_drew, sz_drewN] at *; omega)) _ | refine Below.drew ?_ | refine below_drewN_ ?_ _))) hl).mono ?_
    rintro e w1 ⟨T, v, bs, rfl, hT, o1, f1, hb1⟩
    have HBw1 : Since w w1 := ⟨hb1⟩
    have hz1 := hb1.size
    have R1 := o1.fresh f1
    obtain ⟨D, m, b1, rfl, -, rfl⟩ := o1
    have htl := tn_text_len hT
    have htot : T.tot ≤ 1048576 := by
      have h1 := tnI0_tot T.text
      rw [tnI0_text hT] at h1
      omega
    have HTC : Hid (T.textC = T.text) := Lib.hid (by unfold Tn.textC; rw [if_pos hT])
    have hc1 := tnC_text hT
    have hc2 := tnC_trunc hT
    have HT := Lib.hid hT
    obtain ⟨X, hX⟩ : ∃ X, X = T.text := ⟨_, rfl⟩
    rw [← hX] at htl hc1 hc2 HTC
    obtain ⟨n, hn⟩ : ∃ n, X.length = n + 1 := ⟨X.length - 1, by omega⟩
    have hdl : X.dropLast = X.take n := by rw [List.dropLast_eq_take, hn]; rfl
    rw [hdl] at hc2
    have HR1 : Hid (∀ W, Env W → Calls Tryd.prog 22 #[.string (str X)] W (RetTnC T 0 W)) := Lib.hid (fun W hW => by
      have := readTurner_impl X W hW (by omega)
      rwa [hc1.1, hc1.2] at this)
    have HR2 : Hid (∀ W, Env W → Calls Tryd.prog 22 #[.string (str (X.take n))] W (RetTnC ⟨0, 0, []⟩ 5 W)) := Lib.hid (fun W hW => by
      have := readTurner_impl (X.take n) W hW (by rw [List.length_take]; omega)
      rwa [hc2.1, hc2.2] at this)
    have hsz : (str X).size = n + 1 := by rw [str_size, hn]
    have us : ¬ 9223372036854775807 < (str X).size := by rw [hsz]; omega
    have x2 : ∀ W, (Instr.slice 9 (.string (str X)) none (some (.int .i64 (n : Int))) none).run Tryd.prog W = .ok (.string (str (X.take n))) W := fun W => sl_to (P := Tryd.prog) Tryd.underlying9 (by omega) W
    have HN := Lib.hid hn
    have hn1000 : n ≤ 1000 := by omega
    have i1 : ¬ (n : Int) + 1 < 1 := by omega
    have HSM : Hid (T.sameB T = true) := Lib.hid (by unfold Tn.sameB; simp)
    clear hT htl hc1 hc2 hX hn hdl f1 hb1
    have HBX : Since w w1 := HBw1
    go_wp2_with fail
    refine (turnerText_impl _ T _ (R1.up (by repeat (first | exact Below.refl _ _ | refine Below.alloc ?_ (by first | omega | (simp only [sz_alloc, sz_set, sz_drew, sz_drewN]; omega) | (simp only [sz_alloc, sz_set, sz_drew, sz_drewN] at *; omega)) _ | refine Below.setCell ?_ (by first | omega | (simp only [sz_alloc, sz_set, sz_drew, sz_drewN]; omega) | (simp only [sz_alloc, sz_set, sz_drew, sz_drewN] at *; omega)) _ | refine Below.drew ?_ | refine below_drewN_ ?_ _))) htot).mono ?_
    rintro e w2 ⟨rfl, hb2⟩
    rw [HTC.out]
    have HBw2 : Since w w2 := ⟨below_cat (by repeat (first | exact Below.refl _ _ | exact Since.out (by assumption) | refine Below.alloc ?_ (by first | omega | (simp only [sz_alloc, sz_set, sz_drew, sz_drewN]; omega) | (simp only [sz_alloc, sz_set, sz_drew, sz_drewN] at *; omega)) _ | refine Below.setCell ?_ (by first | omega | (simp only [sz_alloc, sz_set, sz_drew, sz_drewN]; omega) | (simp only [sz_alloc, sz_set, sz_drew, sz_drewN] at *; omega)) _ | refine Below.drew ?_ | refine below_drewN_ ?_ _)) hb2 (by first | omega | (simp only [sz_alloc, sz_set, sz_drew, sz_drewN]; omega) | (simp only [sz_alloc, sz_set, sz_drew, sz_drewN] at *; omega))⟩
    have hz2 := hb2.size
    simp only [sz_alloc] at hz2
    have hcw2a := fun o => hb2.cell (p := ⟨w1.heap.size, o, none⟩) (by first | omega | (simp only [sz_alloc, sz_set, sz_drew, sz_drewN]; omega) | (simp only [sz_alloc, sz_set, sz_drew, sz_drewN] at *; omega)); have hfw2a := fun o => hb2.frozen (p := ⟨w1.heap.size, o, none⟩) (by first | omega | (simp only [sz_alloc, sz_set, sz_drew, sz_drewN]; omega) | (simp only [sz_alloc, sz_set, sz_drew, sz_drewN] at *; omega)); have hlw2a : w1.heap.size < _ := Nat.lt_of_lt_of_le (m := _) (by first | omega | (simp only [sz_alloc, sz_set, sz_drew, sz_drewN]; omega) | (simp only [sz_alloc, sz_set, sz_drew, sz_drewN] at *; omega)) hb2.size
    have R2 := (R1.up (w' := w1.alloc (.cells #[.int .i64 T.letters, .int .i64 T.start, .slice D T.moves.length m] 40)) (by repeat (first | exact Below.refl _ _ | refine Below.alloc ?_ (by first | omega | (simp only [sz_alloc, sz_set, sz_drew, sz_drewN]; omega) | (simp only [sz_alloc, sz_set, sz_drew, sz_drewN] at *; omega)) _ | refine Below.setCell ?_ (by first | omega | (simp only [sz_alloc, sz_set, sz_drew, sz_drewN]; omega) | (simp only [sz_alloc, sz_set, sz_drew, sz_drewN] at *; omega)) _ | refine Below.drew ?_ | refine below_drewN_ ?_ _))).up hb2
    clear hb2
    go_wp2_with fail
    refine (HR1.out _ (HE.out.up (by repeat (first | exact Below.refl _ _ | exact Since.out (by assumption) | refine Below.alloc ?_ (by first | omega | (simp only [sz_alloc, sz_set, sz_drew, sz_drewN]; omega) | (simp only [sz_alloc, sz_set, sz_drew, sz_drewN] at *; omega)) _ | refine Below.setCell ?_ (by first | omega | (simp only [sz_alloc, sz_set, sz_drew, sz_drewN]; omega) | (simp only [sz_alloc, sz_set, sz_drew, sz_drewN] at *; omega)) _ | refine Below.drew ?_ | refine below_drewN_ ?_ _)))).mono ?_
    rintro e w3 ⟨v3, bs3, rfl, o3, f3, hb3⟩
    have HBw3 : Since w w3 := ⟨below_cat (by repeat (first | exact Below.refl _ _ | exact Since.out (by assumption) | refine Below.alloc ?_ (by first | omega | (simp only [sz_alloc, sz_set, sz_drew, sz_drewN]; omega) | (simp only [sz_alloc, sz_set, sz_drew, sz_drewN] at *; omega)) _ | refine Below.setCell ?_ (by first | omega | (simp only [sz_alloc, sz_set, sz_drew, sz_drewN]; omega) | (simp only [sz_alloc, sz_set, sz_drew, sz_drewN] at *; omega)) _ | refine Below.drew ?_ | refine below_drewN_ ?_ _)) hb3 (by first | omega | (simp only [sz_alloc, sz_set, sz_drew, sz_drewN]; omega) | (simp only [sz_alloc, sz_set, sz_drew, sz_drewN] at *; omega))⟩
    have hz3 := hb3.size
    have hcw3a := fun o => hb3.cell (p := ⟨w1.heap.size, o, none⟩) (by first | omega | (simp only [sz_alloc, sz_set, sz_drew, sz_drewN]; omega) | (simp only [sz_alloc, sz_set, sz_drew, sz_drewN] at *; omega)); have hfw3a := fun o => hb3.frozen (p := ⟨w1.heap.size, o, none⟩) (by first | omega | (simp only [sz_alloc, sz_set, sz_drew, sz_drewN]; omega) | (simp only [sz_alloc, sz_set, sz_drew, sz_drewN] at *; omega)); have hlw3a : w1.heap.size < _ := Nat.lt_of_lt_of_le (m := _) (by first | omega | (simp only [sz_alloc, sz_set, sz_drew, sz_drewN]; omega) | (simp only [sz_alloc, sz_set, sz_drew, sz_drewN] at *; omega)) hb3.size
    have R3 := R2.up hb3
    have Q3 := o3.fresh f3
    obtain ⟨D3, m3, b3, rfl, -, rfl⟩ := o3
    clear hb3 f3
    go_wp2_with fail
    refine (sameTurner_spec _ _ T T _ (R3.up (by repeat (first | exact Below.refl _ _ | refine Below.alloc ?_ (by first | omega | (simp only [sz_alloc, sz_set, sz_drew, sz_drewN]; omega) | (simp only [sz_alloc, sz_set, sz_drew, sz_drewN] at *; omega)) _ | refine Below.setCell ?_ (by first | omega | (simp only [sz_alloc, sz_set, sz_drew, sz_drewN]; omega) | (simp only [sz_alloc, sz_set, sz_drew, sz_drewN] at *; omega)) _ | refine Below.drew ?_ | refine below_drewN_ ?_ _))) (Q3.up (by repeat (first | exact Below.refl _ _ | refine Below.alloc ?_ (by first | omega | (simp only [sz_alloc, sz_set, sz_drew, sz_drewN]; omega) | (simp only [sz_alloc, sz_set, sz_drew, sz_drewN] at *; omega)) _ | refine Below.setCell ?_ (by first | omega | (simp only [sz_alloc, sz_set, sz_drew, sz_drewN]; omega) | (simp only [sz_alloc, sz_set, sz_drew, sz_drewN] at *; omega)) _ | refine Below.drew ?_ | refine below_drewN_ ?_ _))) (by omega)).mono ?_
    rintro e w4 ⟨rfl, hb4⟩
    rw [HSM.out]
    have HBw4 : Since w w4 := ⟨below_cat (by repeat (first | exact Below.refl _ _ | exact Since.out (by assumption) | refine Below.alloc ?_ (by first | omega | (simp only [sz_alloc, sz_set, sz_drew, sz_drewN]; omega) | (simp only [sz_alloc, sz_set, sz_drew, sz_drewN] at *; omega)) _ | refine Below.setCell ?_ (by first | omega | (simp only [sz_alloc, sz_set, sz_drew, sz_drewN]; omega) | (simp only [sz_alloc, sz_set, sz_drew, sz_drewN] at *; omega)) _ | refine Below.drew ?_ | refine below_drewN_ ?_ _)) hb4 (by first | omega | (simp only [sz_alloc, sz_set, sz_drew, sz_drewN]; omega) | (simp only [sz_alloc, sz_set, sz_drew, sz_drewN] at *; omega))⟩
    have hz4 := hb4.size
    simp only [sz_alloc] at hz4
    have hcw4a := fun o => hb4.cell (p := ⟨w1.heap.size, o, none⟩) (by first | omega | (simp only [sz_alloc, sz_set, sz_drew, sz_drewN]; omega) | (simp only [sz_alloc, sz_set, sz_drew, sz_drewN] at *; omega)); have hfw4a := fun o => hb4.frozen (p := ⟨w1.heap.size, o, none⟩) (by first | omega | (simp only [sz_alloc, sz_set, sz_drew, sz_drewN]; omega) | (simp only [sz_alloc, sz_set, sz_drew, sz_drewN] at *; omega)); have hlw4a : w1.heap.size < _ := Nat.lt_of_lt_of_le (m := _) (by first | omega | (simp only [sz_alloc, sz_set, sz_drew, sz_drewN]; omega) | (simp only [sz_alloc, sz_set, sz_drew, sz_drewN] at *; omega)) hb4.size
    have hcw4b := fun o => hb4.cell (p := ⟨w3.heap.size, o, none⟩) (by first | omega | (simp only [sz_alloc, sz_set, sz_drew, sz_drewN]; omega) | (simp only [sz_alloc, sz_set, sz_drew, sz_drewN] at *; omega)); have hfw4b := fun o => hb4.frozen (p := ⟨w3.heap.size, o, none⟩) (by first | omega | (simp only [sz_alloc, sz_set, sz_drew, sz_drewN]; omega) | (simp only [sz_alloc, sz_set, sz_drew, sz_drewN] at *; omega)); have hlw4b : w3.heap.size < _ := Nat.lt_of_lt_of_le (m := _) (by first | omega | (simp only [sz_alloc, sz_set, sz_drew, sz_drewN]; omega) | (simp only [sz_alloc, sz_set, sz_drew, sz_drewN] at *; omega)) hb4.size
    have Q4 := (Q3.up (w' := w3.alloc (.cells #[.int .i64 T.letters, .int .i64 T.start, .slice D3 T.moves.length m3] 40)) (by repeat (first | exact Below.refl _ _ | refine Below.alloc ?_ (by first | omega | (simp only [sz_alloc, sz_set, sz_drew, sz_drewN]; omega) | (simp only [sz_alloc, sz_set, sz_drew, sz_drewN] at *; omega)) _ | refine Below.setCell ?_ (by first | omega | (simp only [sz_alloc, sz_set, sz_drew, sz_drewN]; omega) | (simp only [sz_alloc, sz_set, sz_drew, sz_drewN] at *; omega)) _ | refine Below.drew ?_ | refine below_drewN_ ?_ _))).up hb4
    clear hb4
    go_wp2_with fail
    refine (validTurner_impl _ T _ (Q4.up (by repeat (first | exact Below.refl _ _ | refine Below.alloc ?_ (by first | omega | (simp only [sz_alloc, sz_set, sz_drew, sz_drewN]; omega) | (simp only [sz_alloc, sz_set, sz_drew, sz_drewN] at *; omega)) _ | refine Below.setCell ?_ (by first | omega | (simp only [sz_alloc, sz_set, sz_drew, sz_drewN]; omega) | (simp only [sz_alloc, sz_set, sz_drew, sz_drewN] at *; omega)) _ | refine Below.drew ?_ | refine below_drewN_ ?_ _))) htot).mono ?_
    rintro e w5 ⟨rfl, hb5⟩
    rw [HT.out]
    have HBw5 : Since w w5 := ⟨below_cat (by repeat (first | exact Below.refl _ _ | exact Since.out (by assumption) | refine Below.alloc ?_ (by first | omega | (simp only [sz_alloc, sz_set, sz_drew, sz_drewN]; omega) | (simp only [sz_alloc, sz_set, sz_drew, sz_drewN] at *; omega)) _ | refine Below.setCell ?_ (by first | omega | (simp only [sz_alloc, sz_set, sz_drew, sz_drewN]; omega) | (simp only [sz_alloc, sz_set, sz_drew, sz_drewN] at *; omega)) _ | refine Below.drew ?_ | refine below_drewN_ ?_ _)) hb5 (by first | omega | (simp only [sz_alloc, sz_set, sz_drew, sz_drewN]; omega) | (simp only [sz_alloc, sz_set, sz_drew, sz_drewN] at *; omega))⟩
    have hz5 := hb5.size
    go_wp2_with fail
    refine (HR2.out _ (HE.out.up (by repeat (first | exact Below.refl _ _ | exact Since.out (by assumption) | refine Below.alloc ?_ (by first | omega | (simp only [sz_alloc, sz_set, sz_drew, sz_drewN]; omega) | (simp only [sz_alloc, sz_set, sz_drew, sz_drewN] at *; omega)) _ | refine Below.setCell ?_ (by first | omega | (simp only [sz_alloc, sz_set, sz_drew, sz_drewN]; omega) | (simp only [sz_alloc, sz_set, sz_drew, sz_drewN] at *; omega)) _ | refine Below.drew ?_ | refine below_drewN_ ?_ _)))).mono ?_
    rintro e w6 ⟨v6, bs6, rfl, o6, f6, hb6⟩
    have HBw6 : Since w w6 := ⟨below_cat (by repeat (first | exact Below.refl _ _ | exact Since.out (by assumption) | refine Below.alloc ?_ (by first | omega | (simp only [sz_alloc, sz_set, sz_drew, sz_drewN]; omega) | (simp only [sz_alloc, sz_set, sz_drew, sz_drewN] at *; omega)) _ | refine Below.setCell ?_ (by first | omega | (simp only [sz_alloc, sz_set, sz_drew, sz_drewN]; omega) | (simp only [sz_alloc, sz_set, sz_drew, sz_drewN] at *; omega)) _ | refine Below.drew ?_ | refine below_drewN_ ?_ _)) hb6 (by first | omega | (simp only [sz_alloc, sz_set, sz_drew, sz_drewN]; omega) | (simp only [sz_alloc, sz_set, sz_drew, sz_drewN] at *; omega))⟩
    have hz6 := hb6.size
    obtain ⟨D6, m6, b6, rfl, -, rfl⟩ := o6
    go_wp2
    go_ret
    exact ⟨rfl, (by repeat (first | exact Below.refl _ _ | exact Since.out (by assumption) | refine Below.alloc ?_ (by first | omega | (simp only [sz_alloc, sz_set, sz_drew, sz_drewN]; omega) | (simp only [sz_alloc, sz_set, sz_drew, sz_drewN] at *; omega)) _ | refine Below.setCell ?_ (by first | omega | (simp only [sz_alloc, sz_set, sz_drew, sz_drewN]; omega) | (simp only [sz_alloc, sz_set, sz_drew, sz_drewN] at *; omega)) _ | refine Below.drew ?_ | refine below_drewN_ ?_ _))⟩


theorem laid_met (os : Os) : laidMet Tryd.prog Rows.fnTurnerTextRow.laid ((World.laidAll Tryd.prog os Rows.fnTurnerTextRow.laid).forCall (fun _ _ => 0) ⟨#[], #[.slice none 0 0, .slice none 0 0], []⟩).memory :=
  laidMet_laidAll _ (by kernel_rfl) (by kernel_rfl)
theorem reads (os : Os) {H : Type} (enc : TypeId × Value → H) : ∃ places, DataW.whole enc Tryd.prog ((World.laidAll Tryd.prog os Rows.fnTurnerTextRow.laid).forCall (fun _ _ => 0) ⟨#[], #[.slice none 0 0, .slice none 0 0], []⟩).memory Tryd.f10.params.toList Rows.fnTurnerTextSpec.vars false #[.slice none 0 0, .slice none 0 0].toList 8 = some ([.nil, .nil], [], places) :=
  ⟨[], by kernel_rfl⟩
set_option maxRecDepth 100000 in
theorem lifted (os : Os) (started : os.Started) (H : Type) (enc : TypeId × Value → H) (F : Stop.Interp) :
    ReturnsInHanded {} Tryd.checked os 10 .any ((OpenSpec.ofChange Rows.fnTurnerTextSpec).preRow enc Tryd.prog Tryd.f10 Rows.fnTurnerTextRow.domain false Rows.fnTurnerTextRow.laid) (((OpenSpec.ofChange Rows.fnTurnerTextSpec).at F).post enc Tryd.prog Tryd.f10 false true false false) := by
  obtain ⟨places, hx⟩ := reads os enc
  refine returnsInHanded_of_row (C := Tryd.checked) (s := OpenSpec.ofChange Rows.fnTurnerTextSpec) own started (by as_aux_lemma => kernel_rfl) Tryd.func10
    (witness_row_at (enc := enc) (C := Tryd.checked) false (World.laidAll Tryd.prog os Rows.fnTurnerTextRow.laid) #[.slice none 0 0, .slice none 0 0] (World.laidAll_os _ _ _) (by as_aux_lemma => kernel_rfl) (by as_aux_lemma => kernel_rfl) (by as_aux_lemma => kernel_rfl)
      (OpenSpec.preRow_of_cond 8 hx (by as_aux_lemma => kernel_rfl) (fun k hk => by cases hk) (by as_aux_lemma => kernel_rfl) (laid_met os))) ?_
  intro W base args ds gs before hval0 hW hcnd _ hsz0 hL hsh _
  have hval : ∀ (j : Nat) t v, Tryd.f10.params[j]? = some t → args[j]? = some v → Value.okWide Tryd.prog W .any base t v := hval0
  have hW' := hW
  obtain ⟨p, q, hA0, hV, rfl, hfz, hnd⟩ := hW
  have hA : DataW.TrodAll enc Tryd.prog W 0 (fun _ => true) true Tryd.f10.params.toList args.toList ds p := hA0
  rw [Tryd.params10] at hA hval
  obtain ⟨v0, vs0, d0, ds0, p0, q0, hargs, rfl, rfl, h0, r0⟩ := trodAll_cons hA
  obtain ⟨v1, vs1, d1, ds1, p1, q1, rfl, rfl, rfl, h1, r1⟩ := trodAll_cons r0
  obtain ⟨rfl, rfl, rfl⟩ := trodAll_nil r1
  obtain rfl : args = #[v0, v1] := by cases args; simp_all
  obtain ⟨rfl, rfl⟩ := trodVars_none hV
  obtain ⟨code, A, c, rfl, l1, R1⟩ := open_u8s (hval 0 66 v0 rfl rfl) h0
  obtain ⟨more, A', c', rfl, l2, R2⟩ := open_u8s (hval 1 66 v1 rfl rfl) h1
  refine (walk A A' c c' code more W (Env_of hsh hL) R1 l1 l2).mono fun e W' ⟨he, hb⟩ => ?_
  subst he
  exact ⟨_, rfl, law_post (s := Rows.fnTurnerTextSpec) hW' rfl (by as_aux_lemma => kernel_rfl) (by as_aux_lemma => kernel_rfl) rfl hb⟩

theorem said : Rows.FnTurnerTextSaid :=
  OpenClaim.holds_of_cond 10 Tryd.f10 rfl rfl rfl rfl rfl rfl rfl ⟨rfl, rfl, rfl, rfl, rfl⟩ rfl rfl rfl rfl rfl (by as_aux_lemma => kernel_rfl) Tryd.func10 (by as_aux_lemma => kernel_rfl)
    (of_decide_eq_true (by as_aux_lemma => kernel_rfl)) (by unfold Func.isWrapper; first | (rw [if_pos (by as_aux_lemma => decide +kernel)]; exact (by as_aux_lemma => kernel_rfl)) | (rw [if_neg (by as_aux_lemma => decide +kernel)]; exact ⟨rfl, rfl⟩))
    (fun os started H enc _ F => by rw [OpenClaim.pre_eq_preRow]; exact lifted os started H enc F)

/-- No parameter wants a stand-in. -/
theorem plain (f : FuncId) (fn : Func) (hf : Tryd.pinned.checked.prog.funcNamed "loop.example/g01134/laws.FnTurnerText" = some f) (hfn : Tryd.pinned.checked.prog.funcs[f]? = some fn) :
    true = Tryd.pinned.checked.prog.looks [] ∧ ∀ (j : Nat) t, fn.params[j]? = some t → Tryd.pinned.checked.prog.wantsStandIn t = false := by
  obtain rfl : f = 10 := Option.some.inj ((show Tryd.prog.funcNamed "loop.example/g01134/laws.FnTurnerText" = some 10 by as_aux_lemma => kernel_rfl).symm.trans hf) |>.symm
  obtain rfl : fn = Tryd.f10 := (Option.some.inj (Tryd.func10.symm.trans hfn)).symm
  refine ⟨by as_aux_lemma => kernel_rfl, fun j t ht => ?_⟩
  rw [Tryd.params10] at ht
  have hm : t ∈ [66, 66] := by simpa using Array.mem_of_getElem? ht
  have hall : ([66, 66].all fun u => !Tryd.prog.wantsStandIn u) = true := by as_aux_lemma => kernel_rfl
  exact (show Tryd.prog.wantsStandIn t = false by simpa using List.all_eq_true.1 hall t hm)

/-- The statement. -/
theorem card : Rows.FnTurnerTextCardSaid :=
  Claim7.holds_tied_plain_at .later [] _ _ _ _ said (fun _ h => by cases h) (by as_aux_lemma => kernel_rfl) (fun _ h => by cases h) fnTurnerText_row_tie rfl ⟨rfl, rfl⟩ (by as_aux_lemma => kernel_rfl) rfl plain (by as_aux_lemma => kernel_rfl)
#print axioms card
end Go.Proofs.YtelmooaenodfaaaDoor.fnTurnerText
