/-
  Moves read from a word: by the reference, strictly, and by the program. Conditions: those in each statement.
-/
import Derived.Test.YtelmooaenodfaaaDoorMvRd
set_option linter.unusedVariables false
set_option linter.unusedSimpArgs false
set_option maxRecDepth 100000
set_option maxHeartbeats 1000000
namespace Go.Proofs.YtelmooaenodfaaaDoor
open Go.RowKit


set_option maxHeartbeats 8000000 in
theorem readMove_impl (x : List UInt8) (w : World) (hE : Env w) (hx : x.length ≤ 1048576) :
    Calls Tryd.prog 68 #[.string (str x)] w fun e w' => e = .returned (.agg #[.int .i64 (mvI x).1, .int .i64 (mvI x).2]) ∧ Below w.heap.size w w' := by
  have tl := str_list
  have HE := Lib.hid hE
  clear hE
  by_cases hy : x = yesT
  · have qy : (x == [121, 101, 115]) = true := lst_eq hy
    have HV : Hid (mvI x = (-1, 0)) := Lib.hid (by subst hy; rfl)
    rw [HV.out]
    clear hy
    go_enter Tryd.func68, Tryd.ntmps68
    go_wp2
    exact bodyPost_ret (v := .agg #[.int .i64 (-1), .int .i64 (0)]) (by simp [results, Tryd.results68, go_sem]) rfl ⟨rfl, (by repeat (first | exact Below.refl _ _ | refine Below.alloc ?_ (by first | omega | (simp only [sz_alloc, sz_set, sz_drew, sz_drewN]; omega) | (simp only [sz_alloc, sz_set, sz_drew, sz_drewN] at *; omega)) _ | refine Below.setCell ?_ (by first | omega | (simp only [sz_alloc, sz_set, sz_drew, sz_drewN]; omega) | (simp only [sz_alloc, sz_set, sz_drew, sz_drewN] at *; omega)) _ | refine Below.drew ?_ | refine below_drewN_ ?_ _))⟩
  have qy : (x == [121, 101, 115]) = false := lst_ne hy
  by_cases hn : x = noT
  · have qn : (x == [110, 111]) = true := lst_eq hn
    have HV : Hid (mvI x = (-2, 0)) := Lib.hid (by subst hn; rfl)
    rw [HV.out]
    clear hy hn
    go_enter Tryd.func68, Tryd.ntmps68
    go_wp2
    exact bodyPost_ret (v := .agg #[.int .i64 (-2), .int .i64 (0)]) (by simp [results, Tryd.results68, go_sem]) rfl ⟨rfl, (by repeat (first | exact Below.refl _ _ | refine Below.alloc ?_ (by first | omega | (simp only [sz_alloc, sz_set, sz_drew, sz_drewN]; omega) | (simp only [sz_alloc, sz_set, sz_drew, sz_drewN] at *; omega)) _ | refine Below.setCell ?_ (by first | omega | (simp only [sz_alloc, sz_set, sz_drew, sz_drewN]; omega) | (simp only [sz_alloc, sz_set, sz_drew, sz_drewN] at *; omega)) _ | refine Below.drew ?_ | refine below_drewN_ ?_ _))⟩
  have qn : (x == [110, 111]) = false := lst_ne hn
  by_cases he : x = []
  · have qe : (x == []) = true := lst_eq he
    have HV : Hid (mvI x = (0, 0)) := Lib.hid (by subst he; rfl)
    rw [HV.out]
    clear hy hn he
    go_enter Tryd.func68, Tryd.ntmps68
    go_wp2
    exact bodyPost_ret (v := .agg #[.int .i64 (0), .int .i64 (0)]) (by simp [results, Tryd.results68, go_sem]) rfl ⟨rfl, (by repeat (first | exact Below.refl _ _ | refine Below.alloc ?_ (by first | omega | (simp only [sz_alloc, sz_set, sz_drew, sz_drewN]; omega) | (simp only [sz_alloc, sz_set, sz_drew, sz_drewN] at *; omega)) _ | refine Below.setCell ?_ (by first | omega | (simp only [sz_alloc, sz_set, sz_drew, sz_drewN]; omega) | (simp only [sz_alloc, sz_set, sz_drew, sz_drewN] at *; omega)) _ | refine Below.drew ?_ | refine below_drewN_ ?_ _))⟩
  have qe : (x == []) = false := lst_ne he
  obtain ⟨a, b, rfl⟩ := last_of he
  have hxl : (a ++ [b]).length = a.length + 1 := by simp
  have hsz : (str (a ++ [b])).size = a.length + 1 := by rw [str_size, hxl]
  have us : ¬ 9223372036854775807 < (str (a ++ [b])).size := by rw [hsz]; omega
  have x2 : ∀ W, (Instr.slice 9 (.string (str (a ++ [b]))) none (some (.int .i64 (a.length : Int))) none).run Tryd.prog W = .ok (.string (str a)) W := fun W => by
    have := sl_to (P := Tryd.prog) Tryd.underlying9 (l := a ++ [b]) (j := a.length) (by omega) W
    rwa [List.take_left] at this
  have x3 : ∀ W, (Instr.slice 9 (.string (str (a ++ [b]))) (some (.int .i64 (a.length : Int))) none none).run Tryd.prog W = .ok (.string (str [b])) W := fun W => by
    have := sl_from (P := Tryd.prog) Tryd.underlying9 (l := a ++ [b]) (i := a.length) (by omega) W
    rwa [List.drop_left] at this
  obtain ⟨V, hV⟩ : ∃ V, V = numI a := ⟨_, rfl⟩
  obtain ⟨J, hJ⟩ : ∃ J, J = Lib.index [60, 61, 62] [b] := ⟨_, rfl⟩
  have hJ0 : -1 ≤ J := hJ ▸ Lib.index_ge _ _
  have hJ1 : J ≤ 3 := hJ ▸ Lib.index_le [60, 61, 62] [b]
  have hJw : IntKind.i64.wrap (J - 1) = J - 1 := by rw [IntKind.wrap_i64]; omega
  have hJw2 : wrap64 (J - 1) = J - 1 := by unfold wrap64; omega
  have HV : Hid (mvI (a ++ [b]) = (V, J - 1)) := Lib.hid (by
    unfold mvI
    rw [if_neg hy, if_neg hn, if_neg he, dl_app, gl_app, hV, hJ])
  have HN := Lib.hid (fun W hW => number_impl a W hW (by omega))
  rw [← hV] at HN
  have HI : Hid (∀ W, Env W → Calls Tryd.prog 119 #[.string ⟨#[60, 61, 62]⟩, .string (str [b])] W fun e w' => e = .returned (.int .i64 J) ∧ w' = W) := Lib.hid (fun W hW => by
    obtain ⟨m, hm⟩ := hW.max
    rw [hJ]
    exact Tryd.strings_Index ⟨#[60, 61, 62]⟩ (str [b]) m W (by decide) hm)
  rw [HV.out]
  clear hy hn he hV hJ
  go_enter Tryd.func68, Tryd.ntmps68
  go_wp2
  go_region_held3 (fun _ => True) (exact trivial)
    (first
      | (go_at_call 57; refine (HN.out _ (HE.out.up (by repeat (first | exact Below.refl _ _ | exact Since.out (by assumption) | refine Below.alloc ?_ (by first | omega | (simp only [sz_alloc, sz_set, sz_drew, sz_drewN]; omega) | (simp only [sz_alloc, sz_set, sz_drew, sz_drewN] at *; omega)) _ | refine Below.setCell ?_ (by first | omega | (simp only [sz_alloc, sz_set, sz_drew, sz_drewN]; omega) | (simp only [sz_alloc, sz_set, sz_drew, sz_drewN] at *; omega)) _ | refine Below.drew ?_ | refine below_drewN_ ?_ _)))).mono ?_; rintro e w4 ⟨rfl, hb4⟩; have HBw4 : Since w w4 := ⟨below_cat (by repeat (first | exact Below.refl _ _ | exact Since.out (by assumption) | refine Below.alloc ?_ (by first | omega | (simp only [sz_alloc, sz_set, sz_drew, sz_drewN]; omega) | (simp only [sz_alloc, sz_set, sz_drew, sz_drewN] at *; omega)) _ | refine Below.setCell ?_ (by first | omega | (simp only [sz_alloc, sz_set, sz_drew, sz_drewN]; omega) | (simp only [sz_alloc, sz_set, sz_drew, sz_drewN] at *; omega)) _ | refine Below.drew ?_ | refine below_drewN_ ?_ _)) hb4 (by first | omega | (simp only [sz_alloc, sz_set, sz_drew, sz_drewN]; omega) | (simp only [sz_alloc, sz_set, sz_drew, sz_drewN] at *; omega))⟩; have hzw4 := hb4.size; (try simp only [sz_alloc, sz_set, sz_drew, sz_drewN] at hzw4); have hcw4k0 := fun o => hb4.cell (p := ⟨w.heap.size, o, none⟩) (by first | omega | (simp only [sz_alloc, sz_set, sz_drew, sz_drewN]; omega) | (simp only [sz_alloc, sz_set, sz_drew, sz_drewN] at *; omega)); have hfw4k0 := fun o => hb4.frozen (p := ⟨w.heap.size, o, none⟩) (by first | omega | (simp only [sz_alloc, sz_set, sz_drew, sz_drewN]; omega) | (simp only [sz_alloc, sz_set, sz_drew, sz_drewN] at *; omega)); have hlw4k0 : w.heap.size < w4.heap.size := (by first | omega | (simp only [sz_alloc, sz_set, sz_drew, sz_drewN]; omega) | (simp only [sz_alloc, sz_set, sz_drew, sz_drewN] at *; omega)))
      | (go_at_call 119; refine (HI.out _ (HE.out.up (by repeat (first | exact Below.refl _ _ | exact Since.out (by assumption) | refine Below.alloc ?_ (by first | omega | (simp only [sz_alloc, sz_set, sz_drew, sz_drewN]; omega) | (simp only [sz_alloc, sz_set, sz_drew, sz_drewN] at *; omega)) _ | refine Below.setCell ?_ (by first | omega | (simp only [sz_alloc, sz_set, sz_drew, sz_drewN]; omega) | (simp only [sz_alloc, sz_set, sz_drew, sz_drewN] at *; omega)) _ | refine Below.drew ?_ | refine below_drewN_ ?_ _)))).mono ?_; rintro e _ ⟨rfl, rfl⟩))
  all_goals
    go_wp2
    exact bodyPost_ret (v := .agg #[.int .i64 (V), .int .i64 ((J - 1))]) (by simp [results, Tryd.results68, go_sem, hcw4k0]) rfl ⟨rfl, (by repeat (first | exact Below.refl _ _ | exact Since.out (by assumption) | refine Below.alloc ?_ (by first | omega | (simp only [sz_alloc, sz_set, sz_drew, sz_drewN]; omega) | (simp only [sz_alloc, sz_set, sz_drew, sz_drewN] at *; omega)) _ | refine Below.setCell ?_ (by first | omega | (simp only [sz_alloc, sz_set, sz_drew, sz_drewN]; omega) | (simp only [sz_alloc, sz_set, sz_drew, sz_drewN] at *; omega)) _ | refine Below.drew ?_ | refine below_drewN_ ?_ _))⟩
end Go.Proofs.YtelmooaenodfaaaDoor
