/-
  The program's ReadTable. Conditions: those in each statement.
-/
import Derived.Test.YtelmooaenodfaaaDoorTabLaw
import Derived.Test.YtelmooaenodfaaaDoorTabRd
set_option linter.unusedVariables false
set_option linter.unusedSimpArgs false
set_option maxRecDepth 100000
set_option maxHeartbeats 1000000
namespace Go.Proofs.YtelmooaenodfaaaDoor
open Go.RowKit

theorem trim_impl (l : List UInt8) (w : World) (hl : l.length ≤ 1048576) : Calls Tryd.prog 48 #[.string (str l), .string ⟨#[10]⟩] w fun e w' => e = .returned (.string (str (Lib.trimSuffix l [10]))) ∧ w' = w :=
  (Tryd.strings_TrimSuffix (str l) ⟨#[10]⟩ w (by rw [str_size]; omega)).mono fun e w' h => h
theorem cut_impl (l : List UInt8) (w : World) (hE : Env w) (hl : l.length ≤ 1048576) : Calls Tryd.prog 47 #[.string (str l), .string ⟨#[10]⟩] w fun e w' => e = .returned (.tuple #[.string (str (Lib.cut l [10]).1), .string (str (Lib.cut l [10]).2.1), .bool (Lib.cut l [10]).2.2]) ∧ Below w.heap.size w w' := by
  obtain ⟨m, hm⟩ := hE.max
  refine (Tryd.strings_Cut (str l) ⟨#[10]⟩ m w (by rw [str_size]; omega) hm).mono ?_
  rintro e w' ⟨he, n, rfl⟩
  exact ⟨he, below_drewN_ (Below.refl _ _) n⟩
theorem cut_len (l : List UInt8) : (Lib.cut l [10]).1.length ≤ l.length ∧ (Lib.cut l [10]).2.1.length ≤ l.length := by
  unfold Lib.cut
  split
  · simp
    omega
  · simp

set_option maxHeartbeats 8000000 in
theorem readTable_impl (l : List UInt8) (w : World) (hE : Env w) (hl : l.length ≤ 1048576) : Calls Tryd.prog 12 #[.string (str l)] w (RetTbC (tabC l) (tabCode l) w) := by
  have hsz := str_size l
  have us : ¬ 9223372036854775807 < (str l).size := by rw [str_size]; omega
  have tl := str_list
  have HE0 := Lib.hid hE
  clear hE
  by_cases h20 : 20000 < l.length
  · have hC : tabC l = ⟨[], []⟩ := by unfold tabC; rw [if_pos h20]
    have hD : tabCode l = 2 := by unfold tabCode; rw [if_pos h20]
    rw [hC, hD]
    have i1 : (20000 : Int) < (l.length : Int) := by omega
    clear hC hD h20
    go_enter Tryd.func12, Tryd.ntmps12
    go_wp2
    exact bodyPost_ret (v := .tuple #[.agg #[.slice none 0 0, .slice none 0 0], .int .i64 2]) (by simp [results, Tryd.results12, go_sem]) rfl (tab_err (by repeat (first | exact Below.refl _ _ | refine Below.alloc ?_ (by first | omega | (simp only [sz_alloc, sz_set, sz_drew, sz_drewN]; omega) | (simp only [sz_alloc, sz_set, sz_drew, sz_drewN] at *; omega)) _ | refine Below.setCell ?_ (by first | omega | (simp only [sz_alloc, sz_set, sz_drew, sz_drewN]; omega) | (simp only [sz_alloc, sz_set, sz_drew, sz_drewN] at *; omega)) _ | refine Below.drew ?_ | refine below_drewN_ ?_ _)))
  · have HC : Hid (tabC l = (tabI l).getD ⟨[], []⟩) := Lib.hid (by unfold tabC; rw [if_neg h20, tab_same])
    have HD : Hid (tabCode l = if (tabI l).isSome = true then 0 else 5) := Lib.hid (by unfold tabCode; rw [if_neg h20, tab_same])
    have i1 : ¬ (20000 : Int) < (l.length : Int) := by omega
    have htl : (Lib.trimSuffix l [10]).length ≤ l.length := Lib.trimSuffix_le l [10]
    have hcl := cut_len (Lib.trimSuffix l [10])
    have HT := Lib.hid (fun W => trim_impl l W hl)
    obtain ⟨tr, htr⟩ : ∃ tr, tr = Lib.trimSuffix l [10] := ⟨_, rfl⟩
    have HI : Hid (tabI0 l = ⟨(splitL 32 (Lib.cut tr [10]).1).tail.map exI, (splitL 32 (Lib.cut tr [10]).2.1).tail.map exI⟩) := Lib.hid (by rw [htr]; rfl)
    rw [← htr] at htl hcl HT
    clear htr
    have HCt := Lib.hid (fun W hW => cut_impl tr W hW (by omega))
    obtain ⟨one, two, b, hcut⟩ : ∃ one two b, Lib.cut tr [10] = (one, two, b) := ⟨_, _, _, rfl⟩
    rw [hcut] at hcl HI HCt
    clear hcut
    obtain ⟨hc1, hc2⟩ := hcl
    simp only at hc1 hc2 HI HCt
    have hl1 := splitL_len 32 one
    have hl2 := splitL_len 32 two
    have HR1 := Lib.hid (fun W hW => readExits_impl one W hW (by omega))
    have HR2 := Lib.hid (fun W hW => readExits_impl two W hW (by omega))
    obtain ⟨T, hT⟩ : ∃ T, T = tabI0 l := ⟨_, rfl⟩
    have hT1 : T.l = (splitL 32 one).tail.map exI := by rw [hT, HI.out]
    have hT2 : T.r = (splitL 32 two).tail.map exI := by rw [hT, HI.out]
    rw [← hT1] at HR1
    rw [← hT2] at HR2
    have htot : T.tot ≤ 1048576 := by unfold Tb.tot; rw [hT1, hT2, List.length_map, List.length_map, List.length_tail, List.length_tail]; omega
    have HTI : Hid (tabI l = if T.okB = true ∧ T.text = l then some T else none) := Lib.hid (by rw [hT]; rfl)
    clear hT hT1 hT2 HI hl1 hl2
    go_enter Tryd.func12, Tryd.ntmps12
    go_wp2_with fail
    refine (HT.out _).mono ?_
    rintro e _ ⟨rfl, rfl⟩
    go_wp2_with fail
    refine (HCt.out _ (HE0.out.up (by repeat (first | exact Below.refl _ _ | refine Below.alloc ?_ (by first | omega | (simp only [sz_alloc, sz_set, sz_drew, sz_drewN]; omega) | (simp only [sz_alloc, sz_set, sz_drew, sz_drewN] at *; omega)) _ | refine Below.setCell ?_ (by first | omega | (simp only [sz_alloc, sz_set, sz_drew, sz_drewN]; omega) | (simp only [sz_alloc, sz_set, sz_drew, sz_drewN] at *; omega)) _ | refine Below.drew ?_ | refine below_drewN_ ?_ _)))).mono ?_
    rintro e w1 ⟨rfl, hb1⟩
    have HBw1 : Since w w1 := ⟨below_cat (by repeat (first | exact Below.refl _ _ | exact Since.out (by assumption) | refine Below.alloc ?_ (by first | omega | (simp only [sz_alloc, sz_set, sz_drew, sz_drewN]; omega) | (simp only [sz_alloc, sz_set, sz_drew, sz_drewN] at *; omega)) _ | refine Below.setCell ?_ (by first | omega | (simp only [sz_alloc, sz_set, sz_drew, sz_drewN]; omega) | (simp only [sz_alloc, sz_set, sz_drew, sz_drewN] at *; omega)) _ | refine Below.drew ?_ | refine below_drewN_ ?_ _)) hb1 (by first | omega | (simp only [sz_alloc, sz_set, sz_drew, sz_drewN]; omega) | (simp only [sz_alloc, sz_set, sz_drew, sz_drewN] at *; omega))⟩; have hzw1 := hb1.size; (try simp only [sz_alloc, sz_set, sz_drew, sz_drewN] at hzw1); have hcw1k0 := fun o => hb1.cell (p := ⟨w.heap.size, o, none⟩) (by first | omega | (simp only [sz_alloc, sz_set, sz_drew, sz_drewN]; omega) | (simp only [sz_alloc, sz_set, sz_drew, sz_drewN] at *; omega)); have hfw1k0 := fun o => hb1.frozen (p := ⟨w.heap.size, o, none⟩) (by first | omega | (simp only [sz_alloc, sz_set, sz_drew, sz_drewN]; omega) | (simp only [sz_alloc, sz_set, sz_drew, sz_drewN] at *; omega)); have hlw1k0 : w.heap.size < w1.heap.size := (by first | omega | (simp only [sz_alloc, sz_set, sz_drew, sz_drewN]; omega) | (simp only [sz_alloc, sz_set, sz_drew, sz_drewN] at *; omega))
    go_wp2_with fail
    refine (HR1.out _ (HE0.out.up (by repeat (first | exact Below.refl _ _ | exact Since.out (by assumption) | refine Below.alloc ?_ (by first | omega | (simp only [sz_alloc, sz_set, sz_drew, sz_drewN]; omega) | (simp only [sz_alloc, sz_set, sz_drew, sz_drewN] at *; omega)) _ | refine Below.setCell ?_ (by first | omega | (simp only [sz_alloc, sz_set, sz_drew, sz_drewN]; omega) | (simp only [sz_alloc, sz_set, sz_drew, sz_drewN] at *; omega)) _ | refine Below.drew ?_ | refine below_drewN_ ?_ _)))).mono ?_
    rintro e w2 ⟨A1, c1, bs1, rfl, o1, f1, hb2⟩
    have HBw2 : Since w w2 := ⟨below_cat (by repeat (first | exact Below.refl _ _ | exact Since.out (by assumption) | refine Below.alloc ?_ (by first | omega | (simp only [sz_alloc, sz_set, sz_drew, sz_drewN]; omega) | (simp only [sz_alloc, sz_set, sz_drew, sz_drewN] at *; omega)) _ | refine Below.setCell ?_ (by first | omega | (simp only [sz_alloc, sz_set, sz_drew, sz_drewN]; omega) | (simp only [sz_alloc, sz_set, sz_drew, sz_drewN] at *; omega)) _ | refine Below.drew ?_ | refine below_drewN_ ?_ _)) hb2 (by first | omega | (simp only [sz_alloc, sz_set, sz_drew, sz_drewN]; omega) | (simp only [sz_alloc, sz_set, sz_drew, sz_drewN] at *; omega))⟩; have hzw2 := hb2.size; (try simp only [sz_alloc, sz_set, sz_drew, sz_drewN] at hzw2); have hcw2k0 := fun o => hb2.cell (p := ⟨w.heap.size, o, none⟩) (by first | omega | (simp only [sz_alloc, sz_set, sz_drew, sz_drewN]; omega) | (simp only [sz_alloc, sz_set, sz_drew, sz_drewN] at *; omega)); have hfw2k0 := fun o => hb2.frozen (p := ⟨w.heap.size, o, none⟩) (by first | omega | (simp only [sz_alloc, sz_set, sz_drew, sz_drewN]; omega) | (simp only [sz_alloc, sz_set, sz_drew, sz_drewN] at *; omega)); have hlw2k0 : w.heap.size < w2.heap.size := (by first | omega | (simp only [sz_alloc, sz_set, sz_drew, sz_drewN]; omega) | (simp only [sz_alloc, sz_set, sz_drew, sz_drewN] at *; omega))
    go_wp2_with fail
    refine (HR2.out _ (HE0.out.up (by repeat (first | exact Below.refl _ _ | exact Since.out (by assumption) | refine Below.alloc ?_ (by first | omega | (simp only [sz_alloc, sz_set, sz_drew, sz_drewN]; omega) | (simp only [sz_alloc, sz_set, sz_drew, sz_drewN] at *; omega)) _ | refine Below.setCell ?_ (by first | omega | (simp only [sz_alloc, sz_set, sz_drew, sz_drewN]; omega) | (simp only [sz_alloc, sz_set, sz_drew, sz_drewN] at *; omega)) _ | refine Below.drew ?_ | refine below_drewN_ ?_ _)))).mono ?_
    rintro e w3 ⟨A2, c2, bs2, rfl, o2, f2, hb3⟩
    have HBw3 : Since w w3 := ⟨below_cat (by repeat (first | exact Below.refl _ _ | exact Since.out (by assumption) | refine Below.alloc ?_ (by first | omega | (simp only [sz_alloc, sz_set, sz_drew, sz_drewN]; omega) | (simp only [sz_alloc, sz_set, sz_drew, sz_drewN] at *; omega)) _ | refine Below.setCell ?_ (by first | omega | (simp only [sz_alloc, sz_set, sz_drew, sz_drewN]; omega) | (simp only [sz_alloc, sz_set, sz_drew, sz_drewN] at *; omega)) _ | refine Below.drew ?_ | refine below_drewN_ ?_ _)) hb3 (by first | omega | (simp only [sz_alloc, sz_set, sz_drew, sz_drewN]; omega) | (simp only [sz_alloc, sz_set, sz_drew, sz_drewN] at *; omega))⟩; have hzw3 := hb3.size; (try simp only [sz_alloc, sz_set, sz_drew, sz_drewN] at hzw3); have hcw3k0 := fun o => hb3.cell (p := ⟨w.heap.size, o, none⟩) (by first | omega | (simp only [sz_alloc, sz_set, sz_drew, sz_drewN]; omega) | (simp only [sz_alloc, sz_set, sz_drew, sz_drewN] at *; omega)); have hfw3k0 := fun o => hb3.frozen (p := ⟨w.heap.size, o, none⟩) (by first | omega | (simp only [sz_alloc, sz_set, sz_drew, sz_drewN]; omega) | (simp only [sz_alloc, sz_set, sz_drew, sz_drewN] at *; omega)); have hlw3k0 : w.heap.size < w3.heap.size := (by first | omega | (simp only [sz_alloc, sz_set, sz_drew, sz_drewN]; omega) | (simp only [sz_alloc, sz_set, sz_drew, sz_drewN] at *; omega))
    have S23 : Since w2 w3 := ⟨hb3⟩
    have S33 : Since w3 w3 := ⟨Below.refl _ _⟩
    have R1 : RdS w2 w2.heap.size A1 T.l := o1.rd fun g hg => (f1.2 g hg).2
    have R2 : RdS w3 w3.heap.size A2 T.r := o2.rd fun g hg => (f2.2 g hg).2
    go_wp2_with fail
    refine (validTable_impl _ T _ ⟨A1, c1, A2, c2, rfl, R1.up (by repeat (first | exact Below.refl _ _ | exact Since.out (by assumption) | refine Below.alloc ?_ (by first | omega | (simp only [sz_alloc, sz_set, sz_drew, sz_drewN]; omega) | (simp only [sz_alloc, sz_set, sz_drew, sz_drewN] at *; omega)) _ | refine Below.setCell ?_ (by first | omega | (simp only [sz_alloc, sz_set, sz_drew, sz_drewN]; omega) | (simp only [sz_alloc, sz_set, sz_drew, sz_drewN] at *; omega)) _ | refine Below.drew ?_ | refine below_drewN_ ?_ _)), R2.up (by repeat (first | exact Below.refl _ _ | exact Since.out (by assumption) | refine Below.alloc ?_ (by first | omega | (simp only [sz_alloc, sz_set, sz_drew, sz_drewN]; omega) | (simp only [sz_alloc, sz_set, sz_drew, sz_drewN] at *; omega)) _ | refine Below.setCell ?_ (by first | omega | (simp only [sz_alloc, sz_set, sz_drew, sz_drewN]; omega) | (simp only [sz_alloc, sz_set, sz_drew, sz_drewN] at *; omega)) _ | refine Below.drew ?_ | refine below_drewN_ ?_ _))⟩ htot).mono ?_
    rintro e w4 ⟨rfl, hb4⟩
    have HBw4 : Since w w4 := ⟨below_cat (by repeat (first | exact Below.refl _ _ | exact Since.out (by assumption) | refine Below.alloc ?_ (by first | omega | (simp only [sz_alloc, sz_set, sz_drew, sz_drewN]; omega) | (simp only [sz_alloc, sz_set, sz_drew, sz_drewN] at *; omega)) _ | refine Below.setCell ?_ (by first | omega | (simp only [sz_alloc, sz_set, sz_drew, sz_drewN]; omega) | (simp only [sz_alloc, sz_set, sz_drew, sz_drewN] at *; omega)) _ | refine Below.drew ?_ | refine below_drewN_ ?_ _)) hb4 (by first | omega | (simp only [sz_alloc, sz_set, sz_drew, sz_drewN]; omega) | (simp only [sz_alloc, sz_set, sz_drew, sz_drewN] at *; omega))⟩; have hzw4 := hb4.size; (try simp only [sz_alloc, sz_set, sz_drew, sz_drewN] at hzw4); have hcw4k0 := fun o => hb4.cell (p := ⟨w.heap.size, o, none⟩) (by first | omega | (simp only [sz_alloc, sz_set, sz_drew, sz_drewN]; omega) | (simp only [sz_alloc, sz_set, sz_drew, sz_drewN] at *; omega)); have hfw4k0 := fun o => hb4.frozen (p := ⟨w.heap.size, o, none⟩) (by first | omega | (simp only [sz_alloc, sz_set, sz_drew, sz_drewN]; omega) | (simp only [sz_alloc, sz_set, sz_drew, sz_drewN] at *; omega)); have hlw4k0 : w.heap.size < w4.heap.size := (by first | omega | (simp only [sz_alloc, sz_set, sz_drew, sz_drewN]; omega) | (simp only [sz_alloc, sz_set, sz_drew, sz_drewN] at *; omega))
    have hcw4a := fun o => hb4.cell (p := ⟨w3.heap.size, o, none⟩) (by first | omega | (simp only [sz_alloc, sz_set, sz_drew, sz_drewN]; omega) | (simp only [sz_alloc, sz_set, sz_drew, sz_drewN] at *; omega)); have hfw4a := fun o => hb4.frozen (p := ⟨w3.heap.size, o, none⟩) (by first | omega | (simp only [sz_alloc, sz_set, sz_drew, sz_drewN]; omega) | (simp only [sz_alloc, sz_set, sz_drew, sz_drewN] at *; omega)); have hlw4a : w3.heap.size < _ := Nat.lt_of_lt_of_le (m := _) (by first | omega | (simp only [sz_alloc, sz_set, sz_drew, sz_drewN]; omega) | (simp only [sz_alloc, sz_set, sz_drew, sz_drewN] at *; omega)) hb4.size
    have S24 : Since w2 w4 := ⟨below_cat (by repeat (first | exact Below.refl _ _ | exact Since.out (by assumption) | refine Below.alloc ?_ (by first | omega | (simp only [sz_alloc, sz_set, sz_drew, sz_drewN]; omega) | (simp only [sz_alloc, sz_set, sz_drew, sz_drewN] at *; omega)) _ | refine Below.setCell ?_ (by first | omega | (simp only [sz_alloc, sz_set, sz_drew, sz_drewN]; omega) | (simp only [sz_alloc, sz_set, sz_drew, sz_drewN] at *; omega)) _ | refine Below.drew ?_ | refine below_drewN_ ?_ _)) hb4 (by first | omega | (simp only [sz_alloc, sz_set, sz_drew, sz_drewN]; omega) | (simp only [sz_alloc, sz_set, sz_drew, sz_drewN] at *; omega))⟩
    have S34 : Since w3 w4 := ⟨below_cat (by repeat (first | exact Below.refl _ _ | exact Since.out (by assumption) | refine Below.alloc ?_ (by first | omega | (simp only [sz_alloc, sz_set, sz_drew, sz_drewN]; omega) | (simp only [sz_alloc, sz_set, sz_drew, sz_drewN] at *; omega)) _ | refine Below.setCell ?_ (by first | omega | (simp only [sz_alloc, sz_set, sz_drew, sz_drewN]; omega) | (simp only [sz_alloc, sz_set, sz_drew, sz_drewN] at *; omega)) _ | refine Below.drew ?_ | refine below_drewN_ ?_ _)) hb4 (by first | omega | (simp only [sz_alloc, sz_set, sz_drew, sz_drewN]; omega) | (simp only [sz_alloc, sz_set, sz_drew, sz_drewN] at *; omega))⟩
    by_cases hok : T.okB = true
    · rw [hok]
      have HOK := Lib.hid hok
      clear hok
      go_wp2_with fail
      refine (tableText_impl _ T _ ⟨A1, c1, A2, c2, rfl, R1.up (by repeat (first | exact Below.refl _ _ | exact Since.out (by assumption) | refine Below.alloc ?_ (by first | omega | (simp only [sz_alloc, sz_set, sz_drew, sz_drewN]; omega) | (simp only [sz_alloc, sz_set, sz_drew, sz_drewN] at *; omega)) _ | refine Below.setCell ?_ (by first | omega | (simp only [sz_alloc, sz_set, sz_drew, sz_drewN]; omega) | (simp only [sz_alloc, sz_set, sz_drew, sz_drewN] at *; omega)) _ | refine Below.drew ?_ | refine below_drewN_ ?_ _)), R2.up (by repeat (first | exact Below.refl _ _ | exact Since.out (by assumption) | refine Below.alloc ?_ (by first | omega | (simp only [sz_alloc, sz_set, sz_drew, sz_drewN]; omega) | (simp only [sz_alloc, sz_set, sz_drew, sz_drewN] at *; omega)) _ | refine Below.setCell ?_ (by first | omega | (simp only [sz_alloc, sz_set, sz_drew, sz_drewN]; omega) | (simp only [sz_alloc, sz_set, sz_drew, sz_drewN] at *; omega)) _ | refine Below.drew ?_ | refine below_drewN_ ?_ _))⟩ htot).mono ?_
      rintro e w5 ⟨rfl, hb5⟩
      have HBw5 : Since w w5 := ⟨below_cat (by repeat (first | exact Below.refl _ _ | exact Since.out (by assumption) | refine Below.alloc ?_ (by first | omega | (simp only [sz_alloc, sz_set, sz_drew, sz_drewN]; omega) | (simp only [sz_alloc, sz_set, sz_drew, sz_drewN] at *; omega)) _ | refine Below.setCell ?_ (by first | omega | (simp only [sz_alloc, sz_set, sz_drew, sz_drewN]; omega) | (simp only [sz_alloc, sz_set, sz_drew, sz_drewN] at *; omega)) _ | refine Below.drew ?_ | refine below_drewN_ ?_ _)) hb5 (by first | omega | (simp only [sz_alloc, sz_set, sz_drew, sz_drewN]; omega) | (simp only [sz_alloc, sz_set, sz_drew, sz_drewN] at *; omega))⟩; have hzw5 := hb5.size; (try simp only [sz_alloc, sz_set, sz_drew, sz_drewN] at hzw5); have hcw5k0 := fun o => hb5.cell (p := ⟨w.heap.size, o, none⟩) (by first | omega | (simp only [sz_alloc, sz_set, sz_drew, sz_drewN]; omega) | (simp only [sz_alloc, sz_set, sz_drew, sz_drewN] at *; omega)); have hfw5k0 := fun o => hb5.frozen (p := ⟨w.heap.size, o, none⟩) (by first | omega | (simp only [sz_alloc, sz_set, sz_drew, sz_drewN]; omega) | (simp only [sz_alloc, sz_set, sz_drew, sz_drewN] at *; omega)); have hlw5k0 : w.heap.size < w5.heap.size := (by first | omega | (simp only [sz_alloc, sz_set, sz_drew, sz_drewN]; omega) | (simp only [sz_alloc, sz_set, sz_drew, sz_drewN] at *; omega))
      have hcw5a := fun o => hb5.cell (p := ⟨w3.heap.size, o, none⟩) (by first | omega | (simp only [sz_alloc, sz_set, sz_drew, sz_drewN]; omega) | (simp only [sz_alloc, sz_set, sz_drew, sz_drewN] at *; omega)); have hfw5a := fun o => hb5.frozen (p := ⟨w3.heap.size, o, none⟩) (by first | omega | (simp only [sz_alloc, sz_set, sz_drew, sz_drewN]; omega) | (simp only [sz_alloc, sz_set, sz_drew, sz_drewN] at *; omega)); have hlw5a : w3.heap.size < _ := Nat.lt_of_lt_of_le (m := _) (by first | omega | (simp only [sz_alloc, sz_set, sz_drew, sz_drewN]; omega) | (simp only [sz_alloc, sz_set, sz_drew, sz_drewN] at *; omega)) hb5.size
      have S25 : Since w2 w5 := ⟨below_cat (by repeat (first | exact Below.refl _ _ | exact Since.out (by assumption) | refine Below.alloc ?_ (by first | omega | (simp only [sz_alloc, sz_set, sz_drew, sz_drewN]; omega) | (simp only [sz_alloc, sz_set, sz_drew, sz_drewN] at *; omega)) _ | refine Below.setCell ?_ (by first | omega | (simp only [sz_alloc, sz_set, sz_drew, sz_drewN]; omega) | (simp only [sz_alloc, sz_set, sz_drew, sz_drewN] at *; omega)) _ | refine Below.drew ?_ | refine below_drewN_ ?_ _)) hb5 (by first | omega | (simp only [sz_alloc, sz_set, sz_drew, sz_drewN]; omega) | (simp only [sz_alloc, sz_set, sz_drew, sz_drewN] at *; omega))⟩
      have S35 : Since w3 w5 := ⟨below_cat (by repeat (first | exact Below.refl _ _ | exact Since.out (by assumption) | refine Below.alloc ?_ (by first | omega | (simp only [sz_alloc, sz_set, sz_drew, sz_drewN]; omega) | (simp only [sz_alloc, sz_set, sz_drew, sz_drewN] at *; omega)) _ | refine Below.setCell ?_ (by first | omega | (simp only [sz_alloc, sz_set, sz_drew, sz_drewN]; omega) | (simp only [sz_alloc, sz_set, sz_drew, sz_drewN] at *; omega)) _ | refine Below.drew ?_ | refine below_drewN_ ?_ _)) hb5 (by first | omega | (simp only [sz_alloc, sz_set, sz_drew, sz_drewN]; omega) | (simp only [sz_alloc, sz_set, sz_drew, sz_drewN] at *; omega))⟩
      have HTX : Hid (T.textC = T.text) := Lib.hid (by unfold Tb.textC; rw [if_pos HOK.out])
      rw [HTX.out]
      obtain ⟨X, hX⟩ : ∃ X, X = T.text := ⟨_, rfl⟩
      rw [← hX]
      by_cases hx : X = l
      · have qx : (X == l) = true := lst_eq hx
        have HE := Lib.hid (show tabC l = T ∧ tabCode l = 0 by
          rw [HC.out, HD.out, HTI.out, if_pos ⟨HOK.out, hX ▸ hx⟩]
          exact ⟨rfl, rfl⟩)
        clear hX hx
        go_wp2
        have q0 : w5.cell? ⟨w.heap.size, 0, none⟩ = some (.slice none 0 0) := by go_simp
        have q1 : w5.cell? ⟨w.heap.size, 1, none⟩ = some (.slice none 0 0) := by go_simp
        rw [HE.out.1, HE.out.2]
        refine bodyPost_ret (v := .tuple #[.agg #[.slice A1 T.l.length c1, .slice A2 T.r.length c2], .int .i64 0]) (by simp [results, Tryd.results12, go_sem, q0, q1]) rfl
          ⟨_, bs1 ++ bs2, rfl, ⟨A1, c1, A2, c2, bs1, bs2, rfl, (o1.below S25.out (fun g hg => (f1.2 g hg).2)).only (bs' := [w.heap.size]) (by repeat (first | with_reducible exact OnlyB.refl _ _ | with_reducible refine OnlyB.setCell ?_ (by simp) _ | with_reducible refine OnlyB.alloc ?_ _ | with_reducible refine OnlyB.drew ?_ | refine OnlyB.trans ?_ (OnlyB.of_below (by assumption) _))) (fun g hg => ?_), (o2.below S35.out (fun g hg => (f2.2 g hg).2)).only (bs' := [w.heap.size]) (by repeat (first | with_reducible exact OnlyB.refl _ _ | with_reducible refine OnlyB.setCell ?_ (by simp) _ | with_reducible refine OnlyB.alloc ?_ _ | with_reducible refine OnlyB.drew ?_ | refine OnlyB.trans ?_ (OnlyB.of_below (by assumption) _))) (fun g hg => ?_), rfl⟩, ((f1.cat f2).low (by first | omega | (simp only [sz_alloc, sz_set, sz_drew, sz_drewN]; omega) | (simp only [sz_alloc, sz_set, sz_drew, sz_drewN] at *; omega))).more (by first | omega | (simp only [sz_alloc, sz_set, sz_drew, sz_drewN]; omega) | (simp only [sz_alloc, sz_set, sz_drew, sz_drewN] at *; omega)), (by repeat (first | exact Below.refl _ _ | exact Since.out (by assumption) | refine Below.alloc ?_ (by first | omega | (simp only [sz_alloc, sz_set, sz_drew, sz_drewN]; omega) | (simp only [sz_alloc, sz_set, sz_drew, sz_drewN] at *; omega)) _ | refine Below.setCell ?_ (by first | omega | (simp only [sz_alloc, sz_set, sz_drew, sz_drewN]; omega) | (simp only [sz_alloc, sz_set, sz_drew, sz_drewN] at *; omega)) _ | refine Below.drew ?_ | refine below_drewN_ ?_ _))⟩
        · have := f1.2 g hg; simp; omega
        · have := f2.2 g hg; simp; omega
      · have qx : (X == l) = false := lst_ne hx
        have HE := Lib.hid (show tabC l = ⟨[], []⟩ ∧ tabCode l = 5 by
          rw [HC.out, HD.out, HTI.out, if_neg (fun h => hx (hX ▸ h.2))]
          exact ⟨rfl, rfl⟩)
        clear hX hx
        go_wp2
        have q0 : w5.cell? ⟨w.heap.size, 0, none⟩ = some (.slice none 0 0) := by go_simp
        have q1 : w5.cell? ⟨w.heap.size, 1, none⟩ = some (.slice none 0 0) := by go_simp
        rw [HE.out.1, HE.out.2]
        exact bodyPost_ret (v := .tuple #[.agg #[.slice none 0 0, .slice none 0 0], .int .i64 5]) (by simp [results, Tryd.results12, go_sem, q0, q1]) rfl (tab_err (by repeat (first | exact Below.refl _ _ | exact Since.out (by assumption) | refine Below.alloc ?_ (by first | omega | (simp only [sz_alloc, sz_set, sz_drew, sz_drewN]; omega) | (simp only [sz_alloc, sz_set, sz_drew, sz_drewN] at *; omega)) _ | refine Below.setCell ?_ (by first | omega | (simp only [sz_alloc, sz_set, sz_drew, sz_drewN]; omega) | (simp only [sz_alloc, sz_set, sz_drew, sz_drewN] at *; omega)) _ | refine Below.drew ?_ | refine below_drewN_ ?_ _)))
    · have hok := Bool.not_eq_true _ |>.mp hok
      have HE := Lib.hid (show tabC l = ⟨[], []⟩ ∧ tabCode l = 5 by
        rw [HC.out, HD.out, HTI.out, if_neg (fun h => by rw [hok] at h; cases h.1)]
        exact ⟨rfl, rfl⟩)
      rw [hok]
      clear hok
      go_wp2
      have q0 : w4.cell? ⟨w.heap.size, 0, none⟩ = some (.slice none 0 0) := by go_simp
      have q1 : w4.cell? ⟨w.heap.size, 1, none⟩ = some (.slice none 0 0) := by go_simp
      rw [HE.out.1, HE.out.2]
      exact bodyPost_ret (v := .tuple #[.agg #[.slice none 0 0, .slice none 0 0], .int .i64 5]) (by simp [results, Tryd.results12, go_sem, q0, q1]) rfl (tab_err (by repeat (first | exact Below.refl _ _ | exact Since.out (by assumption) | refine Below.alloc ?_ (by first | omega | (simp only [sz_alloc, sz_set, sz_drew, sz_drewN]; omega) | (simp only [sz_alloc, sz_set, sz_drew, sz_drewN] at *; omega)) _ | refine Below.setCell ?_ (by first | omega | (simp only [sz_alloc, sz_set, sz_drew, sz_drewN]; omega) | (simp only [sz_alloc, sz_set, sz_drew, sz_drewN] at *; omega)) _ | refine Below.drew ?_ | refine below_drewN_ ?_ _)))
end Go.Proofs.YtelmooaenodfaaaDoor
