/-
  Proved here: FnExactModTurner returns true. Conditions: none.
-/
import Derived.Test.YtepjgaakihhngaaLawTn
import Derived.Test.YtepjgaakihhngaaModI
import Derived.Test.YtepjgaakihhngaaLawInts
import Derived.Deep.RegionHeld3
import Derived.Deep.RegionWith
set_option linter.unusedVariables false
set_option linter.unusedSimpArgs false
set_option maxRecDepth 100000
set_option maxHeartbeats 1000000
namespace Go.Proofs.Ytepjgaakihhngaa.fnExactModTurner
open Go.RowKit Go.ChangeShapes Go.WideShapes Go.Deep Go.Joins Go.ChangeAt

set_option maxHeartbeats 8000000 in
theorem walk (L : Int) (A : Option Addr) (c : Nat) (ms : List Int) (w : World) (r1 : RdS w w.heap.size A ms) (l1 : ms.length ≤ 9223372036854775807) :
    Calls Try.prog 5 #[.int .i64 L, .slice A ms.length c] w fun e w' => e = .returned (.bool true) ∧ Below w.heap.size w w' := by
  go_enter Try.func5, Try.ntmps5
  by_cases hmsn : 1048576 < ms.length
  · have hms2 : (1048576 : Int) < (ms.length : Int) := by omega
    go_wp2
    go_ret
    exact ⟨rfl, (by repeat (first | exact Below.refl _ _ | refine Below.alloc ?_ (by first | omega | (simp only [sz_alloc, sz_set, sz_drew, sz_drewN]; omega) | (simp only [sz_alloc, sz_set, sz_drew, sz_drewN] at *; omega)) _ | refine Below.setCell ?_ (by first | omega | (simp only [sz_alloc, sz_set, sz_drew, sz_drewN]; omega) | (simp only [sz_alloc, sz_set, sz_drew, sz_drewN] at *; omega)) _ | refine Below.drew ?_ | refine below_drewN_ ?_ _))⟩
  have hms : ms.length ≤ 1048576 := by omega
  clear hmsn
  have hms2 : (ms.length : Int) ≤ 1048576 := by omega
  have n1 : Cod.tot ms ≤ 1048576 := by rw [totInt64S]; exact hms
  have cb1 : cntS ms ≤ 1048576 := by rw [cntSInt64S]; exact hms
  have htot : (modC L ms).tot ≤ 1048576 := modC_tot L ms
  have hcnt := (modC L ms).cnt_le
  have C1 := fun A c w h => modTurner_spec A c L ms w h hms
  have C2 := fun A c w h => modTurner_impl A c L ms w h hms
  generalize modC L ms = R at htot hcnt C1 C2
  generalize modCode L ms = code at C1 C2
  have D1 := Lib.hid C1
  have D2 := Lib.hid C2
  clear C1 C2
  have ht := Lib.hid htot
  have hc := Lib.hid hcnt
  clear htot hcnt
  go_wp2_with fail
  refine (utoInt64S A ms c _ (r1.up (by repeat (first | exact Below.refl _ _ | exact Since.out (by assumption) | refine Below.alloc ?_ (by first | omega | (simp only [sz_alloc, sz_set, sz_drew, sz_drewN]; omega) | (simp only [sz_alloc, sz_set, sz_drew, sz_drewN] at *; omega)) _ | refine Below.setCell ?_ (by first | omega | (simp only [sz_alloc, sz_set, sz_drew, sz_drewN]; omega) | (simp only [sz_alloc, sz_set, sz_drew, sz_drewN] at *; omega)) _ | refine Below.drew ?_ | refine below_drewN_ ?_ _))) n1).mono ?_
  rintro e w1 ⟨gA1, gc1, bs1, rfl, o1, f1, hb1⟩
  have HBw1 : Since w w1 := ⟨below_cat (by repeat (first | exact Below.refl _ _ | exact Since.out (by assumption) | refine Below.alloc ?_ (by first | omega | (simp only [sz_alloc, sz_set, sz_drew, sz_drewN]; omega) | (simp only [sz_alloc, sz_set, sz_drew, sz_drewN] at *; omega)) _ | refine Below.setCell ?_ (by first | omega | (simp only [sz_alloc, sz_set, sz_drew, sz_drewN]; omega) | (simp only [sz_alloc, sz_set, sz_drew, sz_drewN] at *; omega)) _ | refine Below.drew ?_ | refine below_drewN_ ?_ _)) hb1 (by first | omega | (simp only [sz_alloc, sz_set, sz_drew, sz_drewN]; omega) | (simp only [sz_alloc, sz_set, sz_drew, sz_drewN] at *; omega))⟩
  have hz1 := hb1.size
  (try simp only [sz_alloc, sz_set, sz_drew, sz_drewN] at hz1)
  go_wp2_with fail
  refine (D1.out gA1 gc1 _ (o1.rd fun g hg => (f1.2 g hg).2)).mono ?_
  rintro e w2 ⟨v2, bs2, rfl, o2, f2, hb2⟩
  have HBw2 : Since w w2 := ⟨below_cat (by repeat (first | exact Below.refl _ _ | exact Since.out (by assumption) | refine Below.alloc ?_ (by first | omega | (simp only [sz_alloc, sz_set, sz_drew, sz_drewN]; omega) | (simp only [sz_alloc, sz_set, sz_drew, sz_drewN] at *; omega)) _ | refine Below.setCell ?_ (by first | omega | (simp only [sz_alloc, sz_set, sz_drew, sz_drewN]; omega) | (simp only [sz_alloc, sz_set, sz_drew, sz_drewN] at *; omega)) _ | refine Below.drew ?_ | refine below_drewN_ ?_ _)) hb2 (by first | omega | (simp only [sz_alloc, sz_set, sz_drew, sz_drewN]; omega) | (simp only [sz_alloc, sz_set, sz_drew, sz_drewN] at *; omega))⟩
  have hz2 := hb2.size
  (try simp only [sz_alloc, sz_set, sz_drew, sz_drewN] at hz2)
  clear HBw1
  have R0 := o2.fresh f2
  obtain ⟨zA1, zc1, zb0, rfl, zq0, rfl⟩ := o2
  have hW0 : w.heap.size ≤ w2.heap.size := HBw2.out.size
  have S2 : Since w2 w2 := ⟨Below.refl _ _⟩
  go_wp2_with fail
  refine (utoInt64S A ms c _ (r1.up (by repeat (first | exact Below.refl _ _ | exact Since.out (by assumption) | refine Below.alloc ?_ (by first | omega | (simp only [sz_alloc, sz_set, sz_drew, sz_drewN]; omega) | (simp only [sz_alloc, sz_set, sz_drew, sz_drewN] at *; omega)) _ | refine Below.setCell ?_ (by first | omega | (simp only [sz_alloc, sz_set, sz_drew, sz_drewN]; omega) | (simp only [sz_alloc, sz_set, sz_drew, sz_drewN] at *; omega)) _ | refine Below.drew ?_ | refine below_drewN_ ?_ _))) n1).mono ?_
  rintro e w3 ⟨gA3, gc3, bs3, rfl, o3, f3, hb3⟩
  have HBw3 : Since w w3 := ⟨below_cat (by repeat (first | exact Below.refl _ _ | exact Since.out (by assumption) | refine Below.alloc ?_ (by first | omega | (simp only [sz_alloc, sz_set, sz_drew, sz_drewN]; omega) | (simp only [sz_alloc, sz_set, sz_drew, sz_drewN] at *; omega)) _ | refine Below.setCell ?_ (by first | omega | (simp only [sz_alloc, sz_set, sz_drew, sz_drewN]; omega) | (simp only [sz_alloc, sz_set, sz_drew, sz_drewN] at *; omega)) _ | refine Below.drew ?_ | refine below_drewN_ ?_ _)) hb3 (by first | omega | (simp only [sz_alloc, sz_set, sz_drew, sz_drewN]; omega) | (simp only [sz_alloc, sz_set, sz_drew, sz_drewN] at *; omega))⟩
  have hz3 := hb3.size
  (try simp only [sz_alloc, sz_set, sz_drew, sz_drewN] at hz3)
  have l3_0 : w2.heap.size < w3.heap.size := (by first | omega | (simp only [sz_alloc, sz_set, sz_drew, sz_drewN]; omega) | (simp only [sz_alloc, sz_set, sz_drew, sz_drewN] at *; omega))
  have c3_0_0 : w3.cell? ⟨w2.heap.size, 0, none⟩ = some (.int .i64 R.letters) := (hb3.cell (p := ⟨w2.heap.size, 0, none⟩) (by first | omega | (simp only [sz_alloc, sz_set, sz_drew, sz_drewN]; omega) | (simp only [sz_alloc, sz_set, sz_drew, sz_drewN] at *; omega))).trans (by go_simp)
  have c3_0_1 : w3.cell? ⟨w2.heap.size, 1, none⟩ = some (.int .i64 R.start) := (hb3.cell (p := ⟨w2.heap.size, 1, none⟩) (by first | omega | (simp only [sz_alloc, sz_set, sz_drew, sz_drewN]; omega) | (simp only [sz_alloc, sz_set, sz_drew, sz_drewN] at *; omega))).trans (by go_simp)
  have c3_0_2 : w3.cell? ⟨w2.heap.size, 2, none⟩ = some (.slice zA1 R.moves.length zc1) := (hb3.cell (p := ⟨w2.heap.size, 2, none⟩) (by first | omega | (simp only [sz_alloc, sz_set, sz_drew, sz_drewN]; omega) | (simp only [sz_alloc, sz_set, sz_drew, sz_drewN] at *; omega))).trans (by go_simp)
  have S3 : Since w2 w3 := ⟨below_cat (by repeat (first | exact Below.refl _ _ | exact Since.out (by assumption) | refine Below.alloc ?_ (by first | omega | (simp only [sz_alloc, sz_set, sz_drew, sz_drewN]; omega) | (simp only [sz_alloc, sz_set, sz_drew, sz_drewN] at *; omega)) _ | refine Below.setCell ?_ (by first | omega | (simp only [sz_alloc, sz_set, sz_drew, sz_drewN]; omega) | (simp only [sz_alloc, sz_set, sz_drew, sz_drewN] at *; omega)) _ | refine Below.drew ?_ | refine below_drewN_ ?_ _)) hb3 (by first | omega | (simp only [sz_alloc, sz_set, sz_drew, sz_drewN]; omega) | (simp only [sz_alloc, sz_set, sz_drew, sz_drewN] at *; omega))⟩
  clear S2 HBw2
  have X0 := o3
  have RX0 := o3.rd fun g hg => (f3.2 g hg).2
  have F0 := f3
  (try simp only [sz_alloc, sz_set, sz_drew, sz_drewN] at F0)
  go_wp2_with fail
  refine (D2.out gA3 gc3 _ RX0).mono ?_
  rintro e w4 ⟨v4, bs4, rfl, o4, f4, hb4⟩
  have HBw4 : Since w w4 := ⟨below_cat (by repeat (first | exact Below.refl _ _ | exact Since.out (by assumption) | refine Below.alloc ?_ (by first | omega | (simp only [sz_alloc, sz_set, sz_drew, sz_drewN]; omega) | (simp only [sz_alloc, sz_set, sz_drew, sz_drewN] at *; omega)) _ | refine Below.setCell ?_ (by first | omega | (simp only [sz_alloc, sz_set, sz_drew, sz_drewN]; omega) | (simp only [sz_alloc, sz_set, sz_drew, sz_drewN] at *; omega)) _ | refine Below.drew ?_ | refine below_drewN_ ?_ _)) hb4 (by first | omega | (simp only [sz_alloc, sz_set, sz_drew, sz_drewN]; omega) | (simp only [sz_alloc, sz_set, sz_drew, sz_drewN] at *; omega))⟩
  have hz4 := hb4.size
  (try simp only [sz_alloc, sz_set, sz_drew, sz_drewN] at hz4)
  have l4_0 : w2.heap.size < w4.heap.size := (by first | omega | (simp only [sz_alloc, sz_set, sz_drew, sz_drewN]; omega) | (simp only [sz_alloc, sz_set, sz_drew, sz_drewN] at *; omega))
  have c4_0_0 : w4.cell? ⟨w2.heap.size, 0, none⟩ = some (.int .i64 R.letters) := (hb4.cell (p := ⟨w2.heap.size, 0, none⟩) (by first | omega | (simp only [sz_alloc, sz_set, sz_drew, sz_drewN]; omega) | (simp only [sz_alloc, sz_set, sz_drew, sz_drewN] at *; omega))).trans (by go_simp)
  have c4_0_1 : w4.cell? ⟨w2.heap.size, 1, none⟩ = some (.int .i64 R.start) := (hb4.cell (p := ⟨w2.heap.size, 1, none⟩) (by first | omega | (simp only [sz_alloc, sz_set, sz_drew, sz_drewN]; omega) | (simp only [sz_alloc, sz_set, sz_drew, sz_drewN] at *; omega))).trans (by go_simp)
  have c4_0_2 : w4.cell? ⟨w2.heap.size, 2, none⟩ = some (.slice zA1 R.moves.length zc1) := (hb4.cell (p := ⟨w2.heap.size, 2, none⟩) (by first | omega | (simp only [sz_alloc, sz_set, sz_drew, sz_drewN]; omega) | (simp only [sz_alloc, sz_set, sz_drew, sz_drewN] at *; omega))).trans (by go_simp)
  have S4 : Since w2 w4 := ⟨below_cat (by repeat (first | exact Below.refl _ _ | exact Since.out (by assumption) | refine Below.alloc ?_ (by first | omega | (simp only [sz_alloc, sz_set, sz_drew, sz_drewN]; omega) | (simp only [sz_alloc, sz_set, sz_drew, sz_drewN] at *; omega)) _ | refine Below.setCell ?_ (by first | omega | (simp only [sz_alloc, sz_set, sz_drew, sz_drewN]; omega) | (simp only [sz_alloc, sz_set, sz_drew, sz_drewN] at *; omega)) _ | refine Below.drew ?_ | refine below_drewN_ ?_ _)) hb4 (by first | omega | (simp only [sz_alloc, sz_set, sz_drew, sz_drewN]; omega) | (simp only [sz_alloc, sz_set, sz_drew, sz_drewN] at *; omega))⟩
  clear S3 c3_0_2 c3_0_1 c3_0_0 l3_0 HBw3
  have G := o4
  have RG := o4.fresh f4
  have FG := f4
  (try simp only [sz_alloc, sz_set, sz_drew, sz_drewN] at FG)
  obtain ⟨yA1, yc1, yb0, rfl, yq0, rfl⟩ := o4
  have X0 := X0.below hb4 (fun g hg => (F0.2 g hg).2)
  have RX0 := RX0.up hb4
  have SG4 : Since w4 w4 := ⟨Below.refl _ _⟩
  go_wp2_with fail
  refine (eqTurner _ _ R _ (RG.up (by repeat (first | exact Below.refl _ _ | refine Below.alloc ?_ (by first | omega | (simp only [sz_alloc, sz_set, sz_drew, sz_drewN]; omega) | (simp only [sz_alloc, sz_set, sz_drew, sz_drewN] at *; omega)) _ | refine Below.setCell ?_ (by first | omega | (simp only [sz_alloc, sz_set, sz_drew, sz_drewN]; omega) | (simp only [sz_alloc, sz_set, sz_drew, sz_drewN] at *; omega)) _ | refine Below.drew ?_ | refine below_drewN_ ?_ _))) ((R0.up S4.out).up (by repeat (first | exact Below.refl _ _ | refine Below.alloc ?_ (by first | omega | (simp only [sz_alloc, sz_set, sz_drew, sz_drewN]; omega) | (simp only [sz_alloc, sz_set, sz_drew, sz_drewN] at *; omega)) _ | refine Below.setCell ?_ (by first | omega | (simp only [sz_alloc, sz_set, sz_drew, sz_drewN]; omega) | (simp only [sz_alloc, sz_set, sz_drew, sz_drewN] at *; omega)) _ | refine Below.drew ?_ | refine below_drewN_ ?_ _))) (by have := ht.out; omega)).mono ?_
  rintro e w5 ⟨rfl, hb5⟩
  have HBw5 : Since w w5 := ⟨below_cat (by repeat (first | exact Below.refl _ _ | exact Since.out (by assumption) | refine Below.alloc ?_ (by first | omega | (simp only [sz_alloc, sz_set, sz_drew, sz_drewN]; omega) | (simp only [sz_alloc, sz_set, sz_drew, sz_drewN] at *; omega)) _ | refine Below.setCell ?_ (by first | omega | (simp only [sz_alloc, sz_set, sz_drew, sz_drewN]; omega) | (simp only [sz_alloc, sz_set, sz_drew, sz_drewN] at *; omega)) _ | refine Below.drew ?_ | refine below_drewN_ ?_ _)) hb5 (by first | omega | (simp only [sz_alloc, sz_set, sz_drew, sz_drewN]; omega) | (simp only [sz_alloc, sz_set, sz_drew, sz_drewN] at *; omega))⟩
  have hz5 := hb5.size
  (try simp only [sz_alloc, sz_set, sz_drew, sz_drewN] at hz5)
  have l5_0 : w2.heap.size < w5.heap.size := (by first | omega | (simp only [sz_alloc, sz_set, sz_drew, sz_drewN]; omega) | (simp only [sz_alloc, sz_set, sz_drew, sz_drewN] at *; omega))
  have c5_0_0 : w5.cell? ⟨w2.heap.size, 0, none⟩ = some (.int .i64 R.letters) := (hb5.cell (p := ⟨w2.heap.size, 0, none⟩) (by first | omega | (simp only [sz_alloc, sz_set, sz_drew, sz_drewN]; omega) | (simp only [sz_alloc, sz_set, sz_drew, sz_drewN] at *; omega))).trans (by go_simp)
  have c5_0_1 : w5.cell? ⟨w2.heap.size, 1, none⟩ = some (.int .i64 R.start) := (hb5.cell (p := ⟨w2.heap.size, 1, none⟩) (by first | omega | (simp only [sz_alloc, sz_set, sz_drew, sz_drewN]; omega) | (simp only [sz_alloc, sz_set, sz_drew, sz_drewN] at *; omega))).trans (by go_simp)
  have c5_0_2 : w5.cell? ⟨w2.heap.size, 2, none⟩ = some (.slice zA1 R.moves.length zc1) := (hb5.cell (p := ⟨w2.heap.size, 2, none⟩) (by first | omega | (simp only [sz_alloc, sz_set, sz_drew, sz_drewN]; omega) | (simp only [sz_alloc, sz_set, sz_drew, sz_drewN] at *; omega))).trans (by go_simp)
  have l5_1 : w4.heap.size < w5.heap.size := (by first | omega | (simp only [sz_alloc, sz_set, sz_drew, sz_drewN]; omega) | (simp only [sz_alloc, sz_set, sz_drew, sz_drewN] at *; omega))
  have c5_1_0 : w5.cell? ⟨w4.heap.size, 0, none⟩ = some (.int .i64 R.letters) := (hb5.cell (p := ⟨w4.heap.size, 0, none⟩) (by first | omega | (simp only [sz_alloc, sz_set, sz_drew, sz_drewN]; omega) | (simp only [sz_alloc, sz_set, sz_drew, sz_drewN] at *; omega))).trans (by go_simp)
  have c5_1_1 : w5.cell? ⟨w4.heap.size, 1, none⟩ = some (.int .i64 R.start) := (hb5.cell (p := ⟨w4.heap.size, 1, none⟩) (by first | omega | (simp only [sz_alloc, sz_set, sz_drew, sz_drewN]; omega) | (simp only [sz_alloc, sz_set, sz_drew, sz_drewN] at *; omega))).trans (by go_simp)
  have c5_1_2 : w5.cell? ⟨w4.heap.size, 2, none⟩ = some (.slice yA1 R.moves.length yc1) := (hb5.cell (p := ⟨w4.heap.size, 2, none⟩) (by first | omega | (simp only [sz_alloc, sz_set, sz_drew, sz_drewN]; omega) | (simp only [sz_alloc, sz_set, sz_drew, sz_drewN] at *; omega))).trans (by go_simp)
  have S5 : Since w2 w5 := ⟨below_cat (by repeat (first | exact Below.refl _ _ | exact Since.out (by assumption) | refine Below.alloc ?_ (by first | omega | (simp only [sz_alloc, sz_set, sz_drew, sz_drewN]; omega) | (simp only [sz_alloc, sz_set, sz_drew, sz_drewN] at *; omega)) _ | refine Below.setCell ?_ (by first | omega | (simp only [sz_alloc, sz_set, sz_drew, sz_drewN]; omega) | (simp only [sz_alloc, sz_set, sz_drew, sz_drewN] at *; omega)) _ | refine Below.drew ?_ | refine below_drewN_ ?_ _)) hb5 (by first | omega | (simp only [sz_alloc, sz_set, sz_drew, sz_drewN]; omega) | (simp only [sz_alloc, sz_set, sz_drew, sz_drewN] at *; omega))⟩
  have SG5 : Since w4 w5 := ⟨below_cat (by repeat (first | exact Below.refl _ _ | exact Since.out (by assumption) | refine Below.alloc ?_ (by first | omega | (simp only [sz_alloc, sz_set, sz_drew, sz_drewN]; omega) | (simp only [sz_alloc, sz_set, sz_drew, sz_drewN] at *; omega)) _ | refine Below.setCell ?_ (by first | omega | (simp only [sz_alloc, sz_set, sz_drew, sz_drewN]; omega) | (simp only [sz_alloc, sz_set, sz_drew, sz_drewN] at *; omega)) _ | refine Below.drew ?_ | refine below_drewN_ ?_ _)) hb5 (by first | omega | (simp only [sz_alloc, sz_set, sz_drew, sz_drewN]; omega) | (simp only [sz_alloc, sz_set, sz_drew, sz_drewN] at *; omega))⟩
  clear SG4 S4 c4_0_2 c4_0_1 c4_0_0 l4_0 HBw4
  go_wp2_with fail
  refine (utoInt64S A ms c _ (r1.up (by repeat (first | exact Below.refl _ _ | exact Since.out (by assumption) | refine Below.alloc ?_ (by first | omega | (simp only [sz_alloc, sz_set, sz_drew, sz_drewN]; omega) | (simp only [sz_alloc, sz_set, sz_drew, sz_drewN] at *; omega)) _ | refine Below.setCell ?_ (by first | omega | (simp only [sz_alloc, sz_set, sz_drew, sz_drewN]; omega) | (simp only [sz_alloc, sz_set, sz_drew, sz_drewN] at *; omega)) _ | refine Below.drew ?_ | refine below_drewN_ ?_ _))) n1).mono ?_
  rintro e w6 ⟨gA6, gc6, bs6, rfl, o6, f6, hb6⟩
  have HBw6 : Since w w6 := ⟨below_cat (by repeat (first | exact Below.refl _ _ | exact Since.out (by assumption) | refine Below.alloc ?_ (by first | omega | (simp only [sz_alloc, sz_set, sz_drew, sz_drewN]; omega) | (simp only [sz_alloc, sz_set, sz_drew, sz_drewN] at *; omega)) _ | refine Below.setCell ?_ (by first | omega | (simp only [sz_alloc, sz_set, sz_drew, sz_drewN]; omega) | (simp only [sz_alloc, sz_set, sz_drew, sz_drewN] at *; omega)) _ | refine Below.drew ?_ | refine below_drewN_ ?_ _)) hb6 (by first | omega | (simp only [sz_alloc, sz_set, sz_drew, sz_drewN]; omega) | (simp only [sz_alloc, sz_set, sz_drew, sz_drewN] at *; omega))⟩
  have hz6 := hb6.size
  (try simp only [sz_alloc, sz_set, sz_drew, sz_drewN] at hz6)
  have l6_0 : w2.heap.size < w6.heap.size := (by first | omega | (simp only [sz_alloc, sz_set, sz_drew, sz_drewN]; omega) | (simp only [sz_alloc, sz_set, sz_drew, sz_drewN] at *; omega))
  have c6_0_0 : w6.cell? ⟨w2.heap.size, 0, none⟩ = some (.int .i64 R.letters) := (hb6.cell (p := ⟨w2.heap.size, 0, none⟩) (by first | omega | (simp only [sz_alloc, sz_set, sz_drew, sz_drewN]; omega) | (simp only [sz_alloc, sz_set, sz_drew, sz_drewN] at *; omega))).trans (by go_simp)
  have c6_0_1 : w6.cell? ⟨w2.heap.size, 1, none⟩ = some (.int .i64 R.start) := (hb6.cell (p := ⟨w2.heap.size, 1, none⟩) (by first | omega | (simp only [sz_alloc, sz_set, sz_drew, sz_drewN]; omega) | (simp only [sz_alloc, sz_set, sz_drew, sz_drewN] at *; omega))).trans (by go_simp)
  have c6_0_2 : w6.cell? ⟨w2.heap.size, 2, none⟩ = some (.slice zA1 R.moves.length zc1) := (hb6.cell (p := ⟨w2.heap.size, 2, none⟩) (by first | omega | (simp only [sz_alloc, sz_set, sz_drew, sz_drewN]; omega) | (simp only [sz_alloc, sz_set, sz_drew, sz_drewN] at *; omega))).trans (by go_simp)
  have l6_1 : w4.heap.size < w6.heap.size := (by first | omega | (simp only [sz_alloc, sz_set, sz_drew, sz_drewN]; omega) | (simp only [sz_alloc, sz_set, sz_drew, sz_drewN] at *; omega))
  have c6_1_0 : w6.cell? ⟨w4.heap.size, 0, none⟩ = some (.int .i64 R.letters) := (hb6.cell (p := ⟨w4.heap.size, 0, none⟩) (by first | omega | (simp only [sz_alloc, sz_set, sz_drew, sz_drewN]; omega) | (simp only [sz_alloc, sz_set, sz_drew, sz_drewN] at *; omega))).trans (by go_simp)
  have c6_1_1 : w6.cell? ⟨w4.heap.size, 1, none⟩ = some (.int .i64 R.start) := (hb6.cell (p := ⟨w4.heap.size, 1, none⟩) (by first | omega | (simp only [sz_alloc, sz_set, sz_drew, sz_drewN]; omega) | (simp only [sz_alloc, sz_set, sz_drew, sz_drewN] at *; omega))).trans (by go_simp)
  have c6_1_2 : w6.cell? ⟨w4.heap.size, 2, none⟩ = some (.slice yA1 R.moves.length yc1) := (hb6.cell (p := ⟨w4.heap.size, 2, none⟩) (by first | omega | (simp only [sz_alloc, sz_set, sz_drew, sz_drewN]; omega) | (simp only [sz_alloc, sz_set, sz_drew, sz_drewN] at *; omega))).trans (by go_simp)
  have S6 : Since w2 w6 := ⟨below_cat (by repeat (first | exact Below.refl _ _ | exact Since.out (by assumption) | refine Below.alloc ?_ (by first | omega | (simp only [sz_alloc, sz_set, sz_drew, sz_drewN]; omega) | (simp only [sz_alloc, sz_set, sz_drew, sz_drewN] at *; omega)) _ | refine Below.setCell ?_ (by first | omega | (simp only [sz_alloc, sz_set, sz_drew, sz_drewN]; omega) | (simp only [sz_alloc, sz_set, sz_drew, sz_drewN] at *; omega)) _ | refine Below.drew ?_ | refine below_drewN_ ?_ _)) hb6 (by first | omega | (simp only [sz_alloc, sz_set, sz_drew, sz_drewN]; omega) | (simp only [sz_alloc, sz_set, sz_drew, sz_drewN] at *; omega))⟩
  have SG6 : Since w4 w6 := ⟨below_cat (by repeat (first | exact Below.refl _ _ | exact Since.out (by assumption) | refine Below.alloc ?_ (by first | omega | (simp only [sz_alloc, sz_set, sz_drew, sz_drewN]; omega) | (simp only [sz_alloc, sz_set, sz_drew, sz_drewN] at *; omega)) _ | refine Below.setCell ?_ (by first | omega | (simp only [sz_alloc, sz_set, sz_drew, sz_drewN]; omega) | (simp only [sz_alloc, sz_set, sz_drew, sz_drewN] at *; omega)) _ | refine Below.drew ?_ | refine below_drewN_ ?_ _)) hb6 (by first | omega | (simp only [sz_alloc, sz_set, sz_drew, sz_drewN]; omega) | (simp only [sz_alloc, sz_set, sz_drew, sz_drewN] at *; omega))⟩
  clear SG5 S5 c5_1_2 c5_1_1 c5_1_0 l5_1 c5_0_2 c5_0_1 c5_0_0 l5_0 HBw5
  have RY0 := (RX0.up (below_cat (B := w4.heap.size) (SG6.out) (Below.refl _ _) (by first | omega | (simp only [sz_alloc, sz_set, sz_drew, sz_drewN]; omega) | (simp only [sz_alloc, sz_set, sz_drew, sz_drewN] at *; omega))))
  go_wp2_with fail
  refine (eqInt64S gA3 gA6 ms gc3 gc6 _ RY0 (o6.rd fun g hg => (f6.2 g hg).2) (by omega)).mono ?_
  rintro e w7 ⟨rfl, hb7⟩
  have HBw7 : Since w w7 := ⟨below_cat (by repeat (first | exact Below.refl _ _ | exact Since.out (by assumption) | refine Below.alloc ?_ (by first | omega | (simp only [sz_alloc, sz_set, sz_drew, sz_drewN]; omega) | (simp only [sz_alloc, sz_set, sz_drew, sz_drewN] at *; omega)) _ | refine Below.setCell ?_ (by first | omega | (simp only [sz_alloc, sz_set, sz_drew, sz_drewN]; omega) | (simp only [sz_alloc, sz_set, sz_drew, sz_drewN] at *; omega)) _ | refine Below.drew ?_ | refine below_drewN_ ?_ _)) hb7 (by first | omega | (simp only [sz_alloc, sz_set, sz_drew, sz_drewN]; omega) | (simp only [sz_alloc, sz_set, sz_drew, sz_drewN] at *; omega))⟩
  have hz7 := hb7.size
  (try simp only [sz_alloc, sz_set, sz_drew, sz_drewN] at hz7)
  have l7_0 : w2.heap.size < w7.heap.size := (by first | omega | (simp only [sz_alloc, sz_set, sz_drew, sz_drewN]; omega) | (simp only [sz_alloc, sz_set, sz_drew, sz_drewN] at *; omega))
  have c7_0_0 : w7.cell? ⟨w2.heap.size, 0, none⟩ = some (.int .i64 R.letters) := (hb7.cell (p := ⟨w2.heap.size, 0, none⟩) (by first | omega | (simp only [sz_alloc, sz_set, sz_drew, sz_drewN]; omega) | (simp only [sz_alloc, sz_set, sz_drew, sz_drewN] at *; omega))).trans (by go_simp)
  have c7_0_1 : w7.cell? ⟨w2.heap.size, 1, none⟩ = some (.int .i64 R.start) := (hb7.cell (p := ⟨w2.heap.size, 1, none⟩) (by first | omega | (simp only [sz_alloc, sz_set, sz_drew, sz_drewN]; omega) | (simp only [sz_alloc, sz_set, sz_drew, sz_drewN] at *; omega))).trans (by go_simp)
  have c7_0_2 : w7.cell? ⟨w2.heap.size, 2, none⟩ = some (.slice zA1 R.moves.length zc1) := (hb7.cell (p := ⟨w2.heap.size, 2, none⟩) (by first | omega | (simp only [sz_alloc, sz_set, sz_drew, sz_drewN]; omega) | (simp only [sz_alloc, sz_set, sz_drew, sz_drewN] at *; omega))).trans (by go_simp)
  have l7_1 : w4.heap.size < w7.heap.size := (by first | omega | (simp only [sz_alloc, sz_set, sz_drew, sz_drewN]; omega) | (simp only [sz_alloc, sz_set, sz_drew, sz_drewN] at *; omega))
  have c7_1_0 : w7.cell? ⟨w4.heap.size, 0, none⟩ = some (.int .i64 R.letters) := (hb7.cell (p := ⟨w4.heap.size, 0, none⟩) (by first | omega | (simp only [sz_alloc, sz_set, sz_drew, sz_drewN]; omega) | (simp only [sz_alloc, sz_set, sz_drew, sz_drewN] at *; omega))).trans (by go_simp)
  have c7_1_1 : w7.cell? ⟨w4.heap.size, 1, none⟩ = some (.int .i64 R.start) := (hb7.cell (p := ⟨w4.heap.size, 1, none⟩) (by first | omega | (simp only [sz_alloc, sz_set, sz_drew, sz_drewN]; omega) | (simp only [sz_alloc, sz_set, sz_drew, sz_drewN] at *; omega))).trans (by go_simp)
  have c7_1_2 : w7.cell? ⟨w4.heap.size, 2, none⟩ = some (.slice yA1 R.moves.length yc1) := (hb7.cell (p := ⟨w4.heap.size, 2, none⟩) (by first | omega | (simp only [sz_alloc, sz_set, sz_drew, sz_drewN]; omega) | (simp only [sz_alloc, sz_set, sz_drew, sz_drewN] at *; omega))).trans (by go_simp)
  have S7 : Since w2 w7 := ⟨below_cat (by repeat (first | exact Below.refl _ _ | exact Since.out (by assumption) | refine Below.alloc ?_ (by first | omega | (simp only [sz_alloc, sz_set, sz_drew, sz_drewN]; omega) | (simp only [sz_alloc, sz_set, sz_drew, sz_drewN] at *; omega)) _ | refine Below.setCell ?_ (by first | omega | (simp only [sz_alloc, sz_set, sz_drew, sz_drewN]; omega) | (simp only [sz_alloc, sz_set, sz_drew, sz_drewN] at *; omega)) _ | refine Below.drew ?_ | refine below_drewN_ ?_ _)) hb7 (by first | omega | (simp only [sz_alloc, sz_set, sz_drew, sz_drewN]; omega) | (simp only [sz_alloc, sz_set, sz_drew, sz_drewN] at *; omega))⟩
  have SG7 : Since w4 w7 := ⟨below_cat (by repeat (first | exact Below.refl _ _ | exact Since.out (by assumption) | refine Below.alloc ?_ (by first | omega | (simp only [sz_alloc, sz_set, sz_drew, sz_drewN]; omega) | (simp only [sz_alloc, sz_set, sz_drew, sz_drewN] at *; omega)) _ | refine Below.setCell ?_ (by first | omega | (simp only [sz_alloc, sz_set, sz_drew, sz_drewN]; omega) | (simp only [sz_alloc, sz_set, sz_drew, sz_drewN] at *; omega)) _ | refine Below.drew ?_ | refine below_drewN_ ?_ _)) hb7 (by first | omega | (simp only [sz_alloc, sz_set, sz_drew, sz_drewN]; omega) | (simp only [sz_alloc, sz_set, sz_drew, sz_drewN] at *; omega))⟩
  clear SG6 S6 c6_1_2 c6_1_1 c6_1_0 l6_1 c6_0_2 c6_0_1 c6_0_0 l6_0 HBw6
  have G := G.below SG7.out (fun g hg => (FG.2 g hg).2)
  have X0 := X0.keep (fun g hg => SG7.out.block g (by have := F0.2 g hg; omega))
  go_wp2_with fail
  refine (umarkInt64S gA3 ms gc3 1 _ _ X0 F0.1 (fun g hg => by have := F0.2 g hg; omega) (by omega) n1).mono ?_
  rintro e w8 ⟨rfl, o8, h8⟩
  have hz8 := h8.size
  (try simp only [sz_alloc, sz_set, sz_drew, sz_drewN] at hz8)
  have hb8 := h8.below (B := w2.heap.size) (fun g hg => by have := F0.2 g hg; omega) (by first | omega | (simp only [sz_alloc, sz_set, sz_drew, sz_drewN]; omega) | (simp only [sz_alloc, sz_set, sz_drew, sz_drewN] at *; omega))
  have S8 : Since w2 w8 := ⟨S7.out.trans hb8⟩
  have HBw8 : Since w w8 := ⟨HBw7.out.trans (hb8.mono hW0)⟩
  have l8_0 : w2.heap.size < w8.heap.size := (by first | omega | (simp only [sz_alloc, sz_set, sz_drew, sz_drewN]; omega) | (simp only [sz_alloc, sz_set, sz_drew, sz_drewN] at *; omega))
  have c8_0_0 : w8.cell? ⟨w2.heap.size, 0, none⟩ = some (.int .i64 R.letters) := (World.cell?_of_block (a := ⟨w2.heap.size, 0, none⟩) (h8.block (w2.heap.size) (by first | omega | (simp only [sz_alloc, sz_set, sz_drew, sz_drewN]; omega) | (simp only [sz_alloc, sz_set, sz_drew, sz_drewN] at *; omega)) (fun hm => by have := F0.2 _ hm; omega))).trans (by go_simp)
  have c8_0_1 : w8.cell? ⟨w2.heap.size, 1, none⟩ = some (.int .i64 R.start) := (World.cell?_of_block (a := ⟨w2.heap.size, 1, none⟩) (h8.block (w2.heap.size) (by first | omega | (simp only [sz_alloc, sz_set, sz_drew, sz_drewN]; omega) | (simp only [sz_alloc, sz_set, sz_drew, sz_drewN] at *; omega)) (fun hm => by have := F0.2 _ hm; omega))).trans (by go_simp)
  have c8_0_2 : w8.cell? ⟨w2.heap.size, 2, none⟩ = some (.slice zA1 R.moves.length zc1) := (World.cell?_of_block (a := ⟨w2.heap.size, 2, none⟩) (h8.block (w2.heap.size) (by first | omega | (simp only [sz_alloc, sz_set, sz_drew, sz_drewN]; omega) | (simp only [sz_alloc, sz_set, sz_drew, sz_drewN] at *; omega)) (fun hm => by have := F0.2 _ hm; omega))).trans (by go_simp)
  have l8_1 : w4.heap.size < w8.heap.size := (by first | omega | (simp only [sz_alloc, sz_set, sz_drew, sz_drewN]; omega) | (simp only [sz_alloc, sz_set, sz_drew, sz_drewN] at *; omega))
  have c8_1_0 : w8.cell? ⟨w4.heap.size, 0, none⟩ = some (.int .i64 R.letters) := (World.cell?_of_block (a := ⟨w4.heap.size, 0, none⟩) (h8.block (w4.heap.size) (by first | omega | (simp only [sz_alloc, sz_set, sz_drew, sz_drewN]; omega) | (simp only [sz_alloc, sz_set, sz_drew, sz_drewN] at *; omega)) (fun hm => by have := F0.2 _ hm; omega))).trans (by go_simp)
  have c8_1_1 : w8.cell? ⟨w4.heap.size, 1, none⟩ = some (.int .i64 R.start) := (World.cell?_of_block (a := ⟨w4.heap.size, 1, none⟩) (h8.block (w4.heap.size) (by first | omega | (simp only [sz_alloc, sz_set, sz_drew, sz_drewN]; omega) | (simp only [sz_alloc, sz_set, sz_drew, sz_drewN] at *; omega)) (fun hm => by have := F0.2 _ hm; omega))).trans (by go_simp)
  have c8_1_2 : w8.cell? ⟨w4.heap.size, 2, none⟩ = some (.slice yA1 R.moves.length yc1) := (World.cell?_of_block (a := ⟨w4.heap.size, 2, none⟩) (h8.block (w4.heap.size) (by first | omega | (simp only [sz_alloc, sz_set, sz_drew, sz_drewN]; omega) | (simp only [sz_alloc, sz_set, sz_drew, sz_drewN] at *; omega)) (fun hm => by have := F0.2 _ hm; omega))).trans (by go_simp)
  clear SG7 S7 c7_1_2 c7_1_1 c7_1_0 l7_1 c7_0_2 c7_0_1 c7_0_0 l7_0 HBw7
  have G := G.keep (fun g hg => h8.block g (by have := FG.2 g hg; omega) (fun hm => by have := F0.2 _ hm; have := FG.2 g hg; omega))
  have RG := G.rd (B := w8.heap.size) (fun g hg => by have := FG.2 g hg; omega)
  go_wp2_with fail
  refine (eqTurner _ _ R _ RG ((R0.up S8.out).up (by repeat (first | exact Below.refl _ _ | refine Below.alloc ?_ (by first | omega | (simp only [sz_alloc, sz_set, sz_drew, sz_drewN]; omega) | (simp only [sz_alloc, sz_set, sz_drew, sz_drewN] at *; omega)) _ | refine Below.setCell ?_ (by first | omega | (simp only [sz_alloc, sz_set, sz_drew, sz_drewN]; omega) | (simp only [sz_alloc, sz_set, sz_drew, sz_drewN] at *; omega)) _ | refine Below.drew ?_ | refine below_drewN_ ?_ _))) (by have := ht.out; omega)).mono ?_
  rintro e w9 ⟨rfl, hb9⟩
  have HBw9 : Since w w9 := ⟨below_cat (by repeat (first | exact Below.refl _ _ | exact Since.out (by assumption) | refine Below.alloc ?_ (by first | omega | (simp only [sz_alloc, sz_set, sz_drew, sz_drewN]; omega) | (simp only [sz_alloc, sz_set, sz_drew, sz_drewN] at *; omega)) _ | refine Below.setCell ?_ (by first | omega | (simp only [sz_alloc, sz_set, sz_drew, sz_drewN]; omega) | (simp only [sz_alloc, sz_set, sz_drew, sz_drewN] at *; omega)) _ | refine Below.drew ?_ | refine below_drewN_ ?_ _)) hb9 (by first | omega | (simp only [sz_alloc, sz_set, sz_drew, sz_drewN]; omega) | (simp only [sz_alloc, sz_set, sz_drew, sz_drewN] at *; omega))⟩
  have hz9 := hb9.size
  (try simp only [sz_alloc, sz_set, sz_drew, sz_drewN] at hz9)
  have l9_0 : w2.heap.size < w9.heap.size := (by first | omega | (simp only [sz_alloc, sz_set, sz_drew, sz_drewN]; omega) | (simp only [sz_alloc, sz_set, sz_drew, sz_drewN] at *; omega))
  have c9_0_0 : w9.cell? ⟨w2.heap.size, 0, none⟩ = some (.int .i64 R.letters) := (hb9.cell (p := ⟨w2.heap.size, 0, none⟩) (by first | omega | (simp only [sz_alloc, sz_set, sz_drew, sz_drewN]; omega) | (simp only [sz_alloc, sz_set, sz_drew, sz_drewN] at *; omega))).trans (by go_simp)
  have c9_0_1 : w9.cell? ⟨w2.heap.size, 1, none⟩ = some (.int .i64 R.start) := (hb9.cell (p := ⟨w2.heap.size, 1, none⟩) (by first | omega | (simp only [sz_alloc, sz_set, sz_drew, sz_drewN]; omega) | (simp only [sz_alloc, sz_set, sz_drew, sz_drewN] at *; omega))).trans (by go_simp)
  have c9_0_2 : w9.cell? ⟨w2.heap.size, 2, none⟩ = some (.slice zA1 R.moves.length zc1) := (hb9.cell (p := ⟨w2.heap.size, 2, none⟩) (by first | omega | (simp only [sz_alloc, sz_set, sz_drew, sz_drewN]; omega) | (simp only [sz_alloc, sz_set, sz_drew, sz_drewN] at *; omega))).trans (by go_simp)
  have l9_1 : w4.heap.size < w9.heap.size := (by first | omega | (simp only [sz_alloc, sz_set, sz_drew, sz_drewN]; omega) | (simp only [sz_alloc, sz_set, sz_drew, sz_drewN] at *; omega))
  have c9_1_0 : w9.cell? ⟨w4.heap.size, 0, none⟩ = some (.int .i64 R.letters) := (hb9.cell (p := ⟨w4.heap.size, 0, none⟩) (by first | omega | (simp only [sz_alloc, sz_set, sz_drew, sz_drewN]; omega) | (simp only [sz_alloc, sz_set, sz_drew, sz_drewN] at *; omega))).trans (by go_simp)
  have c9_1_1 : w9.cell? ⟨w4.heap.size, 1, none⟩ = some (.int .i64 R.start) := (hb9.cell (p := ⟨w4.heap.size, 1, none⟩) (by first | omega | (simp only [sz_alloc, sz_set, sz_drew, sz_drewN]; omega) | (simp only [sz_alloc, sz_set, sz_drew, sz_drewN] at *; omega))).trans (by go_simp)
  have c9_1_2 : w9.cell? ⟨w4.heap.size, 2, none⟩ = some (.slice yA1 R.moves.length yc1) := (hb9.cell (p := ⟨w4.heap.size, 2, none⟩) (by first | omega | (simp only [sz_alloc, sz_set, sz_drew, sz_drewN]; omega) | (simp only [sz_alloc, sz_set, sz_drew, sz_drewN] at *; omega))).trans (by go_simp)
  have S9 : Since w2 w9 := ⟨below_cat (by repeat (first | exact Below.refl _ _ | exact Since.out (by assumption) | refine Below.alloc ?_ (by first | omega | (simp only [sz_alloc, sz_set, sz_drew, sz_drewN]; omega) | (simp only [sz_alloc, sz_set, sz_drew, sz_drewN] at *; omega)) _ | refine Below.setCell ?_ (by first | omega | (simp only [sz_alloc, sz_set, sz_drew, sz_drewN]; omega) | (simp only [sz_alloc, sz_set, sz_drew, sz_drewN] at *; omega)) _ | refine Below.drew ?_ | refine below_drewN_ ?_ _)) hb9 (by first | omega | (simp only [sz_alloc, sz_set, sz_drew, sz_drewN]; omega) | (simp only [sz_alloc, sz_set, sz_drew, sz_drewN] at *; omega))⟩
  clear c8_1_2 c8_1_1 c8_1_0 l8_1 c8_0_2 c8_0_1 c8_0_0 l8_0 HBw8 S8
  have G := G.below hb9 (fun g hg => by have := FG.2 g hg; omega)
  go_wp2_with fail
  refine (markTurner _ R 1 _ _ G FG.1 (fun g hg => by have := FG.2 g hg; omega) (by have := ht.out; have := hc.out; omega) ht.out).mono ?_
  rintro e w10 ⟨rfl, o10, h10⟩
  have hz10 := h10.size
  (try simp only [sz_alloc, sz_set, sz_drew, sz_drewN] at hz10)
  have hb10 := h10.below (B := w2.heap.size) (fun g hg => by have := FG.2 g hg; omega) (by first | omega | (simp only [sz_alloc, sz_set, sz_drew, sz_drewN]; omega) | (simp only [sz_alloc, sz_set, sz_drew, sz_drewN] at *; omega))
  have S10 : Since w2 w10 := ⟨S9.out.trans hb10⟩
  have HBw10 : Since w w10 := ⟨HBw9.out.trans (hb10.mono hW0)⟩
  have l10_0 : w2.heap.size < w10.heap.size := (by first | omega | (simp only [sz_alloc, sz_set, sz_drew, sz_drewN]; omega) | (simp only [sz_alloc, sz_set, sz_drew, sz_drewN] at *; omega))
  have c10_0_0 : w10.cell? ⟨w2.heap.size, 0, none⟩ = some (.int .i64 R.letters) := (World.cell?_of_block (a := ⟨w2.heap.size, 0, none⟩) (h10.block (w2.heap.size) (by first | omega | (simp only [sz_alloc, sz_set, sz_drew, sz_drewN]; omega) | (simp only [sz_alloc, sz_set, sz_drew, sz_drewN] at *; omega)) (fun hm => by have := FG.2 _ hm; omega))).trans (by go_simp)
  have c10_0_1 : w10.cell? ⟨w2.heap.size, 1, none⟩ = some (.int .i64 R.start) := (World.cell?_of_block (a := ⟨w2.heap.size, 1, none⟩) (h10.block (w2.heap.size) (by first | omega | (simp only [sz_alloc, sz_set, sz_drew, sz_drewN]; omega) | (simp only [sz_alloc, sz_set, sz_drew, sz_drewN] at *; omega)) (fun hm => by have := FG.2 _ hm; omega))).trans (by go_simp)
  have c10_0_2 : w10.cell? ⟨w2.heap.size, 2, none⟩ = some (.slice zA1 R.moves.length zc1) := (World.cell?_of_block (a := ⟨w2.heap.size, 2, none⟩) (h10.block (w2.heap.size) (by first | omega | (simp only [sz_alloc, sz_set, sz_drew, sz_drewN]; omega) | (simp only [sz_alloc, sz_set, sz_drew, sz_drewN] at *; omega)) (fun hm => by have := FG.2 _ hm; omega))).trans (by go_simp)
  have l10_1 : w4.heap.size < w10.heap.size := (by first | omega | (simp only [sz_alloc, sz_set, sz_drew, sz_drewN]; omega) | (simp only [sz_alloc, sz_set, sz_drew, sz_drewN] at *; omega))
  have c10_1_0 : w10.cell? ⟨w4.heap.size, 0, none⟩ = some (.int .i64 R.letters) := (World.cell?_of_block (a := ⟨w4.heap.size, 0, none⟩) (h10.block (w4.heap.size) (by first | omega | (simp only [sz_alloc, sz_set, sz_drew, sz_drewN]; omega) | (simp only [sz_alloc, sz_set, sz_drew, sz_drewN] at *; omega)) (fun hm => by have := FG.2 _ hm; omega))).trans (by go_simp)
  have c10_1_1 : w10.cell? ⟨w4.heap.size, 1, none⟩ = some (.int .i64 R.start) := (World.cell?_of_block (a := ⟨w4.heap.size, 1, none⟩) (h10.block (w4.heap.size) (by first | omega | (simp only [sz_alloc, sz_set, sz_drew, sz_drewN]; omega) | (simp only [sz_alloc, sz_set, sz_drew, sz_drewN] at *; omega)) (fun hm => by have := FG.2 _ hm; omega))).trans (by go_simp)
  have c10_1_2 : w10.cell? ⟨w4.heap.size, 2, none⟩ = some (.slice yA1 R.moves.length yc1) := (World.cell?_of_block (a := ⟨w4.heap.size, 2, none⟩) (h10.block (w4.heap.size) (by first | omega | (simp only [sz_alloc, sz_set, sz_drew, sz_drewN]; omega) | (simp only [sz_alloc, sz_set, sz_drew, sz_drewN] at *; omega)) (fun hm => by have := FG.2 _ hm; omega))).trans (by go_simp)
  clear S9 c9_1_2 c9_1_1 c9_1_0 l9_1 c9_0_2 c9_0_1 c9_0_0 l9_0 HBw9
  have RM : RdTn w10 w10.heap.size _ (R.mark 1) := o10.rd (fun g hg => by have := FG.2 g hg; omega)
  go_wp2_with fail
  refine (heldTurner _ R 1 _ RM (by have := ht.out; have := hc.out; omega) ht.out).mono ?_
  rintro e w11 ⟨rfl, hb11⟩
  have HBw11 : Since w w11 := ⟨below_cat (by repeat (first | exact Below.refl _ _ | exact Since.out (by assumption) | refine Below.alloc ?_ (by first | omega | (simp only [sz_alloc, sz_set, sz_drew, sz_drewN]; omega) | (simp only [sz_alloc, sz_set, sz_drew, sz_drewN] at *; omega)) _ | refine Below.setCell ?_ (by first | omega | (simp only [sz_alloc, sz_set, sz_drew, sz_drewN]; omega) | (simp only [sz_alloc, sz_set, sz_drew, sz_drewN] at *; omega)) _ | refine Below.drew ?_ | refine below_drewN_ ?_ _)) hb11 (by first | omega | (simp only [sz_alloc, sz_set, sz_drew, sz_drewN]; omega) | (simp only [sz_alloc, sz_set, sz_drew, sz_drewN] at *; omega))⟩
  have hz11 := hb11.size
  (try simp only [sz_alloc, sz_set, sz_drew, sz_drewN] at hz11)
  have l11_0 : w2.heap.size < w11.heap.size := (by first | omega | (simp only [sz_alloc, sz_set, sz_drew, sz_drewN]; omega) | (simp only [sz_alloc, sz_set, sz_drew, sz_drewN] at *; omega))
  have c11_0_0 : w11.cell? ⟨w2.heap.size, 0, none⟩ = some (.int .i64 R.letters) := (hb11.cell (p := ⟨w2.heap.size, 0, none⟩) (by first | omega | (simp only [sz_alloc, sz_set, sz_drew, sz_drewN]; omega) | (simp only [sz_alloc, sz_set, sz_drew, sz_drewN] at *; omega))).trans (by go_simp)
  have c11_0_1 : w11.cell? ⟨w2.heap.size, 1, none⟩ = some (.int .i64 R.start) := (hb11.cell (p := ⟨w2.heap.size, 1, none⟩) (by first | omega | (simp only [sz_alloc, sz_set, sz_drew, sz_drewN]; omega) | (simp only [sz_alloc, sz_set, sz_drew, sz_drewN] at *; omega))).trans (by go_simp)
  have c11_0_2 : w11.cell? ⟨w2.heap.size, 2, none⟩ = some (.slice zA1 R.moves.length zc1) := (hb11.cell (p := ⟨w2.heap.size, 2, none⟩) (by first | omega | (simp only [sz_alloc, sz_set, sz_drew, sz_drewN]; omega) | (simp only [sz_alloc, sz_set, sz_drew, sz_drewN] at *; omega))).trans (by go_simp)
  have l11_1 : w4.heap.size < w11.heap.size := (by first | omega | (simp only [sz_alloc, sz_set, sz_drew, sz_drewN]; omega) | (simp only [sz_alloc, sz_set, sz_drew, sz_drewN] at *; omega))
  have c11_1_0 : w11.cell? ⟨w4.heap.size, 0, none⟩ = some (.int .i64 R.letters) := (hb11.cell (p := ⟨w4.heap.size, 0, none⟩) (by first | omega | (simp only [sz_alloc, sz_set, sz_drew, sz_drewN]; omega) | (simp only [sz_alloc, sz_set, sz_drew, sz_drewN] at *; omega))).trans (by go_simp)
  have c11_1_1 : w11.cell? ⟨w4.heap.size, 1, none⟩ = some (.int .i64 R.start) := (hb11.cell (p := ⟨w4.heap.size, 1, none⟩) (by first | omega | (simp only [sz_alloc, sz_set, sz_drew, sz_drewN]; omega) | (simp only [sz_alloc, sz_set, sz_drew, sz_drewN] at *; omega))).trans (by go_simp)
  have c11_1_2 : w11.cell? ⟨w4.heap.size, 2, none⟩ = some (.slice yA1 R.moves.length yc1) := (hb11.cell (p := ⟨w4.heap.size, 2, none⟩) (by first | omega | (simp only [sz_alloc, sz_set, sz_drew, sz_drewN]; omega) | (simp only [sz_alloc, sz_set, sz_drew, sz_drewN] at *; omega))).trans (by go_simp)
  have S11 : Since w2 w11 := ⟨below_cat (by repeat (first | exact Below.refl _ _ | exact Since.out (by assumption) | refine Below.alloc ?_ (by first | omega | (simp only [sz_alloc, sz_set, sz_drew, sz_drewN]; omega) | (simp only [sz_alloc, sz_set, sz_drew, sz_drewN] at *; omega)) _ | refine Below.setCell ?_ (by first | omega | (simp only [sz_alloc, sz_set, sz_drew, sz_drewN]; omega) | (simp only [sz_alloc, sz_set, sz_drew, sz_drewN] at *; omega)) _ | refine Below.drew ?_ | refine below_drewN_ ?_ _)) hb11 (by first | omega | (simp only [sz_alloc, sz_set, sz_drew, sz_drewN]; omega) | (simp only [sz_alloc, sz_set, sz_drew, sz_drewN] at *; omega))⟩
  clear c10_1_2 c10_1_1 c10_1_0 l10_1 c10_0_2 c10_0_1 c10_0_0 l10_0 HBw10 S10
  have RM := RM.up hb11
  have SM11 : Since w11 w11 := ⟨Below.refl _ _⟩
  go_wp2_with fail
  refine (utoInt64S A ms c _ (r1.up (by repeat (first | exact Below.refl _ _ | exact Since.out (by assumption) | refine Below.alloc ?_ (by first | omega | (simp only [sz_alloc, sz_set, sz_drew, sz_drewN]; omega) | (simp only [sz_alloc, sz_set, sz_drew, sz_drewN] at *; omega)) _ | refine Below.setCell ?_ (by first | omega | (simp only [sz_alloc, sz_set, sz_drew, sz_drewN]; omega) | (simp only [sz_alloc, sz_set, sz_drew, sz_drewN] at *; omega)) _ | refine Below.drew ?_ | refine below_drewN_ ?_ _))) n1).mono ?_
  rintro e w12 ⟨gA12, gc12, bs12, rfl, o12, f12, hb12⟩
  have HBw12 : Since w w12 := ⟨below_cat (by repeat (first | exact Below.refl _ _ | exact Since.out (by assumption) | refine Below.alloc ?_ (by first | omega | (simp only [sz_alloc, sz_set, sz_drew, sz_drewN]; omega) | (simp only [sz_alloc, sz_set, sz_drew, sz_drewN] at *; omega)) _ | refine Below.setCell ?_ (by first | omega | (simp only [sz_alloc, sz_set, sz_drew, sz_drewN]; omega) | (simp only [sz_alloc, sz_set, sz_drew, sz_drewN] at *; omega)) _ | refine Below.drew ?_ | refine below_drewN_ ?_ _)) hb12 (by first | omega | (simp only [sz_alloc, sz_set, sz_drew, sz_drewN]; omega) | (simp only [sz_alloc, sz_set, sz_drew, sz_drewN] at *; omega))⟩
  have hz12 := hb12.size
  (try simp only [sz_alloc, sz_set, sz_drew, sz_drewN] at hz12)
  have l12_0 : w2.heap.size < w12.heap.size := (by first | omega | (simp only [sz_alloc, sz_set, sz_drew, sz_drewN]; omega) | (simp only [sz_alloc, sz_set, sz_drew, sz_drewN] at *; omega))
  have c12_0_0 : w12.cell? ⟨w2.heap.size, 0, none⟩ = some (.int .i64 R.letters) := (hb12.cell (p := ⟨w2.heap.size, 0, none⟩) (by first | omega | (simp only [sz_alloc, sz_set, sz_drew, sz_drewN]; omega) | (simp only [sz_alloc, sz_set, sz_drew, sz_drewN] at *; omega))).trans (by go_simp)
  have c12_0_1 : w12.cell? ⟨w2.heap.size, 1, none⟩ = some (.int .i64 R.start) := (hb12.cell (p := ⟨w2.heap.size, 1, none⟩) (by first | omega | (simp only [sz_alloc, sz_set, sz_drew, sz_drewN]; omega) | (simp only [sz_alloc, sz_set, sz_drew, sz_drewN] at *; omega))).trans (by go_simp)
  have c12_0_2 : w12.cell? ⟨w2.heap.size, 2, none⟩ = some (.slice zA1 R.moves.length zc1) := (hb12.cell (p := ⟨w2.heap.size, 2, none⟩) (by first | omega | (simp only [sz_alloc, sz_set, sz_drew, sz_drewN]; omega) | (simp only [sz_alloc, sz_set, sz_drew, sz_drewN] at *; omega))).trans (by go_simp)
  have l12_1 : w4.heap.size < w12.heap.size := (by first | omega | (simp only [sz_alloc, sz_set, sz_drew, sz_drewN]; omega) | (simp only [sz_alloc, sz_set, sz_drew, sz_drewN] at *; omega))
  have c12_1_0 : w12.cell? ⟨w4.heap.size, 0, none⟩ = some (.int .i64 R.letters) := (hb12.cell (p := ⟨w4.heap.size, 0, none⟩) (by first | omega | (simp only [sz_alloc, sz_set, sz_drew, sz_drewN]; omega) | (simp only [sz_alloc, sz_set, sz_drew, sz_drewN] at *; omega))).trans (by go_simp)
  have c12_1_1 : w12.cell? ⟨w4.heap.size, 1, none⟩ = some (.int .i64 R.start) := (hb12.cell (p := ⟨w4.heap.size, 1, none⟩) (by first | omega | (simp only [sz_alloc, sz_set, sz_drew, sz_drewN]; omega) | (simp only [sz_alloc, sz_set, sz_drew, sz_drewN] at *; omega))).trans (by go_simp)
  have c12_1_2 : w12.cell? ⟨w4.heap.size, 2, none⟩ = some (.slice yA1 R.moves.length yc1) := (hb12.cell (p := ⟨w4.heap.size, 2, none⟩) (by first | omega | (simp only [sz_alloc, sz_set, sz_drew, sz_drewN]; omega) | (simp only [sz_alloc, sz_set, sz_drew, sz_drewN] at *; omega))).trans (by go_simp)
  have S12 : Since w2 w12 := ⟨below_cat (by repeat (first | exact Below.refl _ _ | exact Since.out (by assumption) | refine Below.alloc ?_ (by first | omega | (simp only [sz_alloc, sz_set, sz_drew, sz_drewN]; omega) | (simp only [sz_alloc, sz_set, sz_drew, sz_drewN] at *; omega)) _ | refine Below.setCell ?_ (by first | omega | (simp only [sz_alloc, sz_set, sz_drew, sz_drewN]; omega) | (simp only [sz_alloc, sz_set, sz_drew, sz_drewN] at *; omega)) _ | refine Below.drew ?_ | refine below_drewN_ ?_ _)) hb12 (by first | omega | (simp only [sz_alloc, sz_set, sz_drew, sz_drewN]; omega) | (simp only [sz_alloc, sz_set, sz_drew, sz_drewN] at *; omega))⟩
  have SM12 : Since w11 w12 := ⟨below_cat (by repeat (first | exact Below.refl _ _ | exact Since.out (by assumption) | refine Below.alloc ?_ (by first | omega | (simp only [sz_alloc, sz_set, sz_drew, sz_drewN]; omega) | (simp only [sz_alloc, sz_set, sz_drew, sz_drewN] at *; omega)) _ | refine Below.setCell ?_ (by first | omega | (simp only [sz_alloc, sz_set, sz_drew, sz_drewN]; omega) | (simp only [sz_alloc, sz_set, sz_drew, sz_drewN] at *; omega)) _ | refine Below.drew ?_ | refine below_drewN_ ?_ _)) hb12 (by first | omega | (simp only [sz_alloc, sz_set, sz_drew, sz_drewN]; omega) | (simp only [sz_alloc, sz_set, sz_drew, sz_drewN] at *; omega))⟩
  clear SM11 S11 c11_1_2 c11_1_1 c11_1_0 l11_1 c11_0_2 c11_0_1 c11_0_0 l11_0 HBw11
  go_wp2_with fail
  refine (D2.out gA12 gc12 _ (o12.rd fun g hg => (f12.2 g hg).2)).mono ?_
  rintro e w13 ⟨v13, bs13, rfl, o13, f13, hb13⟩
  have HBw13 : Since w w13 := ⟨below_cat (by repeat (first | exact Below.refl _ _ | exact Since.out (by assumption) | refine Below.alloc ?_ (by first | omega | (simp only [sz_alloc, sz_set, sz_drew, sz_drewN]; omega) | (simp only [sz_alloc, sz_set, sz_drew, sz_drewN] at *; omega)) _ | refine Below.setCell ?_ (by first | omega | (simp only [sz_alloc, sz_set, sz_drew, sz_drewN]; omega) | (simp only [sz_alloc, sz_set, sz_drew, sz_drewN] at *; omega)) _ | refine Below.drew ?_ | refine below_drewN_ ?_ _)) hb13 (by first | omega | (simp only [sz_alloc, sz_set, sz_drew, sz_drewN]; omega) | (simp only [sz_alloc, sz_set, sz_drew, sz_drewN] at *; omega))⟩
  have hz13 := hb13.size
  (try simp only [sz_alloc, sz_set, sz_drew, sz_drewN] at hz13)
  have l13_0 : w2.heap.size < w13.heap.size := (by first | omega | (simp only [sz_alloc, sz_set, sz_drew, sz_drewN]; omega) | (simp only [sz_alloc, sz_set, sz_drew, sz_drewN] at *; omega))
  have c13_0_0 : w13.cell? ⟨w2.heap.size, 0, none⟩ = some (.int .i64 R.letters) := (hb13.cell (p := ⟨w2.heap.size, 0, none⟩) (by first | omega | (simp only [sz_alloc, sz_set, sz_drew, sz_drewN]; omega) | (simp only [sz_alloc, sz_set, sz_drew, sz_drewN] at *; omega))).trans (by go_simp)
  have c13_0_1 : w13.cell? ⟨w2.heap.size, 1, none⟩ = some (.int .i64 R.start) := (hb13.cell (p := ⟨w2.heap.size, 1, none⟩) (by first | omega | (simp only [sz_alloc, sz_set, sz_drew, sz_drewN]; omega) | (simp only [sz_alloc, sz_set, sz_drew, sz_drewN] at *; omega))).trans (by go_simp)
  have c13_0_2 : w13.cell? ⟨w2.heap.size, 2, none⟩ = some (.slice zA1 R.moves.length zc1) := (hb13.cell (p := ⟨w2.heap.size, 2, none⟩) (by first | omega | (simp only [sz_alloc, sz_set, sz_drew, sz_drewN]; omega) | (simp only [sz_alloc, sz_set, sz_drew, sz_drewN] at *; omega))).trans (by go_simp)
  have l13_1 : w4.heap.size < w13.heap.size := (by first | omega | (simp only [sz_alloc, sz_set, sz_drew, sz_drewN]; omega) | (simp only [sz_alloc, sz_set, sz_drew, sz_drewN] at *; omega))
  have c13_1_0 : w13.cell? ⟨w4.heap.size, 0, none⟩ = some (.int .i64 R.letters) := (hb13.cell (p := ⟨w4.heap.size, 0, none⟩) (by first | omega | (simp only [sz_alloc, sz_set, sz_drew, sz_drewN]; omega) | (simp only [sz_alloc, sz_set, sz_drew, sz_drewN] at *; omega))).trans (by go_simp)
  have c13_1_1 : w13.cell? ⟨w4.heap.size, 1, none⟩ = some (.int .i64 R.start) := (hb13.cell (p := ⟨w4.heap.size, 1, none⟩) (by first | omega | (simp only [sz_alloc, sz_set, sz_drew, sz_drewN]; omega) | (simp only [sz_alloc, sz_set, sz_drew, sz_drewN] at *; omega))).trans (by go_simp)
  have c13_1_2 : w13.cell? ⟨w4.heap.size, 2, none⟩ = some (.slice yA1 R.moves.length yc1) := (hb13.cell (p := ⟨w4.heap.size, 2, none⟩) (by first | omega | (simp only [sz_alloc, sz_set, sz_drew, sz_drewN]; omega) | (simp only [sz_alloc, sz_set, sz_drew, sz_drewN] at *; omega))).trans (by go_simp)
  have S13 : Since w2 w13 := ⟨below_cat (by repeat (first | exact Below.refl _ _ | exact Since.out (by assumption) | refine Below.alloc ?_ (by first | omega | (simp only [sz_alloc, sz_set, sz_drew, sz_drewN]; omega) | (simp only [sz_alloc, sz_set, sz_drew, sz_drewN] at *; omega)) _ | refine Below.setCell ?_ (by first | omega | (simp only [sz_alloc, sz_set, sz_drew, sz_drewN]; omega) | (simp only [sz_alloc, sz_set, sz_drew, sz_drewN] at *; omega)) _ | refine Below.drew ?_ | refine below_drewN_ ?_ _)) hb13 (by first | omega | (simp only [sz_alloc, sz_set, sz_drew, sz_drewN]; omega) | (simp only [sz_alloc, sz_set, sz_drew, sz_drewN] at *; omega))⟩
  have SM13 : Since w11 w13 := ⟨below_cat (by repeat (first | exact Below.refl _ _ | exact Since.out (by assumption) | refine Below.alloc ?_ (by first | omega | (simp only [sz_alloc, sz_set, sz_drew, sz_drewN]; omega) | (simp only [sz_alloc, sz_set, sz_drew, sz_drewN] at *; omega)) _ | refine Below.setCell ?_ (by first | omega | (simp only [sz_alloc, sz_set, sz_drew, sz_drewN]; omega) | (simp only [sz_alloc, sz_set, sz_drew, sz_drewN] at *; omega)) _ | refine Below.drew ?_ | refine below_drewN_ ?_ _)) hb13 (by first | omega | (simp only [sz_alloc, sz_set, sz_drew, sz_drewN]; omega) | (simp only [sz_alloc, sz_set, sz_drew, sz_drewN] at *; omega))⟩
  clear SM12 S12 c12_1_2 c12_1_1 c12_1_0 l12_1 c12_0_2 c12_0_1 c12_0_0 l12_0 HBw12
  have RH := o13.fresh f13
  obtain ⟨uA1, uc1, ub0, rfl, uq0, rfl⟩ := o13
  go_wp2_with fail
  refine (eqTurner _ _ R _ (RH.up (by repeat (first | exact Below.refl _ _ | refine Below.alloc ?_ (by first | omega | (simp only [sz_alloc, sz_set, sz_drew, sz_drewN]; omega) | (simp only [sz_alloc, sz_set, sz_drew, sz_drewN] at *; omega)) _ | refine Below.setCell ?_ (by first | omega | (simp only [sz_alloc, sz_set, sz_drew, sz_drewN]; omega) | (simp only [sz_alloc, sz_set, sz_drew, sz_drewN] at *; omega)) _ | refine Below.drew ?_ | refine below_drewN_ ?_ _))) ((R0.up S13.out).up (by repeat (first | exact Below.refl _ _ | refine Below.alloc ?_ (by first | omega | (simp only [sz_alloc, sz_set, sz_drew, sz_drewN]; omega) | (simp only [sz_alloc, sz_set, sz_drew, sz_drewN] at *; omega)) _ | refine Below.setCell ?_ (by first | omega | (simp only [sz_alloc, sz_set, sz_drew, sz_drewN]; omega) | (simp only [sz_alloc, sz_set, sz_drew, sz_drewN] at *; omega)) _ | refine Below.drew ?_ | refine below_drewN_ ?_ _))) (by have := ht.out; omega)).mono ?_
  rintro e w14 ⟨rfl, hb14⟩
  have HBw14 : Since w w14 := ⟨below_cat (by repeat (first | exact Below.refl _ _ | exact Since.out (by assumption) | refine Below.alloc ?_ (by first | omega | (simp only [sz_alloc, sz_set, sz_drew, sz_drewN]; omega) | (simp only [sz_alloc, sz_set, sz_drew, sz_drewN] at *; omega)) _ | refine Below.setCell ?_ (by first | omega | (simp only [sz_alloc, sz_set, sz_drew, sz_drewN]; omega) | (simp only [sz_alloc, sz_set, sz_drew, sz_drewN] at *; omega)) _ | refine Below.drew ?_ | refine below_drewN_ ?_ _)) hb14 (by first | omega | (simp only [sz_alloc, sz_set, sz_drew, sz_drewN]; omega) | (simp only [sz_alloc, sz_set, sz_drew, sz_drewN] at *; omega))⟩
  have hz14 := hb14.size
  (try simp only [sz_alloc, sz_set, sz_drew, sz_drewN] at hz14)
  have l14_0 : w2.heap.size < w14.heap.size := (by first | omega | (simp only [sz_alloc, sz_set, sz_drew, sz_drewN]; omega) | (simp only [sz_alloc, sz_set, sz_drew, sz_drewN] at *; omega))
  have c14_0_0 : w14.cell? ⟨w2.heap.size, 0, none⟩ = some (.int .i64 R.letters) := (hb14.cell (p := ⟨w2.heap.size, 0, none⟩) (by first | omega | (simp only [sz_alloc, sz_set, sz_drew, sz_drewN]; omega) | (simp only [sz_alloc, sz_set, sz_drew, sz_drewN] at *; omega))).trans (by go_simp)
  have c14_0_1 : w14.cell? ⟨w2.heap.size, 1, none⟩ = some (.int .i64 R.start) := (hb14.cell (p := ⟨w2.heap.size, 1, none⟩) (by first | omega | (simp only [sz_alloc, sz_set, sz_drew, sz_drewN]; omega) | (simp only [sz_alloc, sz_set, sz_drew, sz_drewN] at *; omega))).trans (by go_simp)
  have c14_0_2 : w14.cell? ⟨w2.heap.size, 2, none⟩ = some (.slice zA1 R.moves.length zc1) := (hb14.cell (p := ⟨w2.heap.size, 2, none⟩) (by first | omega | (simp only [sz_alloc, sz_set, sz_drew, sz_drewN]; omega) | (simp only [sz_alloc, sz_set, sz_drew, sz_drewN] at *; omega))).trans (by go_simp)
  have l14_1 : w4.heap.size < w14.heap.size := (by first | omega | (simp only [sz_alloc, sz_set, sz_drew, sz_drewN]; omega) | (simp only [sz_alloc, sz_set, sz_drew, sz_drewN] at *; omega))
  have c14_1_0 : w14.cell? ⟨w4.heap.size, 0, none⟩ = some (.int .i64 R.letters) := (hb14.cell (p := ⟨w4.heap.size, 0, none⟩) (by first | omega | (simp only [sz_alloc, sz_set, sz_drew, sz_drewN]; omega) | (simp only [sz_alloc, sz_set, sz_drew, sz_drewN] at *; omega))).trans (by go_simp)
  have c14_1_1 : w14.cell? ⟨w4.heap.size, 1, none⟩ = some (.int .i64 R.start) := (hb14.cell (p := ⟨w4.heap.size, 1, none⟩) (by first | omega | (simp only [sz_alloc, sz_set, sz_drew, sz_drewN]; omega) | (simp only [sz_alloc, sz_set, sz_drew, sz_drewN] at *; omega))).trans (by go_simp)
  have c14_1_2 : w14.cell? ⟨w4.heap.size, 2, none⟩ = some (.slice yA1 R.moves.length yc1) := (hb14.cell (p := ⟨w4.heap.size, 2, none⟩) (by first | omega | (simp only [sz_alloc, sz_set, sz_drew, sz_drewN]; omega) | (simp only [sz_alloc, sz_set, sz_drew, sz_drewN] at *; omega))).trans (by go_simp)
  have l14_2 : w13.heap.size < w14.heap.size := (by first | omega | (simp only [sz_alloc, sz_set, sz_drew, sz_drewN]; omega) | (simp only [sz_alloc, sz_set, sz_drew, sz_drewN] at *; omega))
  have c14_2_0 : w14.cell? ⟨w13.heap.size, 0, none⟩ = some (.int .i64 R.letters) := (hb14.cell (p := ⟨w13.heap.size, 0, none⟩) (by first | omega | (simp only [sz_alloc, sz_set, sz_drew, sz_drewN]; omega) | (simp only [sz_alloc, sz_set, sz_drew, sz_drewN] at *; omega))).trans (by go_simp)
  have c14_2_1 : w14.cell? ⟨w13.heap.size, 1, none⟩ = some (.int .i64 R.start) := (hb14.cell (p := ⟨w13.heap.size, 1, none⟩) (by first | omega | (simp only [sz_alloc, sz_set, sz_drew, sz_drewN]; omega) | (simp only [sz_alloc, sz_set, sz_drew, sz_drewN] at *; omega))).trans (by go_simp)
  have c14_2_2 : w14.cell? ⟨w13.heap.size, 2, none⟩ = some (.slice uA1 R.moves.length uc1) := (hb14.cell (p := ⟨w13.heap.size, 2, none⟩) (by first | omega | (simp only [sz_alloc, sz_set, sz_drew, sz_drewN]; omega) | (simp only [sz_alloc, sz_set, sz_drew, sz_drewN] at *; omega))).trans (by go_simp)
  have S14 : Since w2 w14 := ⟨below_cat (by repeat (first | exact Below.refl _ _ | exact Since.out (by assumption) | refine Below.alloc ?_ (by first | omega | (simp only [sz_alloc, sz_set, sz_drew, sz_drewN]; omega) | (simp only [sz_alloc, sz_set, sz_drew, sz_drewN] at *; omega)) _ | refine Below.setCell ?_ (by first | omega | (simp only [sz_alloc, sz_set, sz_drew, sz_drewN]; omega) | (simp only [sz_alloc, sz_set, sz_drew, sz_drewN] at *; omega)) _ | refine Below.drew ?_ | refine below_drewN_ ?_ _)) hb14 (by first | omega | (simp only [sz_alloc, sz_set, sz_drew, sz_drewN]; omega) | (simp only [sz_alloc, sz_set, sz_drew, sz_drewN] at *; omega))⟩
  have SM14 : Since w11 w14 := ⟨below_cat (by repeat (first | exact Below.refl _ _ | exact Since.out (by assumption) | refine Below.alloc ?_ (by first | omega | (simp only [sz_alloc, sz_set, sz_drew, sz_drewN]; omega) | (simp only [sz_alloc, sz_set, sz_drew, sz_drewN] at *; omega)) _ | refine Below.setCell ?_ (by first | omega | (simp only [sz_alloc, sz_set, sz_drew, sz_drewN]; omega) | (simp only [sz_alloc, sz_set, sz_drew, sz_drewN] at *; omega)) _ | refine Below.drew ?_ | refine below_drewN_ ?_ _)) hb14 (by first | omega | (simp only [sz_alloc, sz_set, sz_drew, sz_drewN]; omega) | (simp only [sz_alloc, sz_set, sz_drew, sz_drewN] at *; omega))⟩
  clear SM13 S13 c13_1_2 c13_1_1 c13_1_0 l13_1 c13_0_2 c13_0_1 c13_0_0 l13_0 HBw13
  go_wp2_with fail
  refine (heldTurner _ R 1 _ (RM.up SM14.out) (by have := ht.out; have := hc.out; omega) ht.out).mono ?_
  rintro e w15 ⟨rfl, hb15⟩
  have HBw15 : Since w w15 := ⟨below_cat (by repeat (first | exact Below.refl _ _ | exact Since.out (by assumption) | refine Below.alloc ?_ (by first | omega | (simp only [sz_alloc, sz_set, sz_drew, sz_drewN]; omega) | (simp only [sz_alloc, sz_set, sz_drew, sz_drewN] at *; omega)) _ | refine Below.setCell ?_ (by first | omega | (simp only [sz_alloc, sz_set, sz_drew, sz_drewN]; omega) | (simp only [sz_alloc, sz_set, sz_drew, sz_drewN] at *; omega)) _ | refine Below.drew ?_ | refine below_drewN_ ?_ _)) hb15 (by first | omega | (simp only [sz_alloc, sz_set, sz_drew, sz_drewN]; omega) | (simp only [sz_alloc, sz_set, sz_drew, sz_drewN] at *; omega))⟩
  have hz15 := hb15.size
  (try simp only [sz_alloc, sz_set, sz_drew, sz_drewN] at hz15)
  have l15_0 : w2.heap.size < w15.heap.size := (by first | omega | (simp only [sz_alloc, sz_set, sz_drew, sz_drewN]; omega) | (simp only [sz_alloc, sz_set, sz_drew, sz_drewN] at *; omega))
  have c15_0_0 : w15.cell? ⟨w2.heap.size, 0, none⟩ = some (.int .i64 R.letters) := (hb15.cell (p := ⟨w2.heap.size, 0, none⟩) (by first | omega | (simp only [sz_alloc, sz_set, sz_drew, sz_drewN]; omega) | (simp only [sz_alloc, sz_set, sz_drew, sz_drewN] at *; omega))).trans (by go_simp)
  have c15_0_1 : w15.cell? ⟨w2.heap.size, 1, none⟩ = some (.int .i64 R.start) := (hb15.cell (p := ⟨w2.heap.size, 1, none⟩) (by first | omega | (simp only [sz_alloc, sz_set, sz_drew, sz_drewN]; omega) | (simp only [sz_alloc, sz_set, sz_drew, sz_drewN] at *; omega))).trans (by go_simp)
  have c15_0_2 : w15.cell? ⟨w2.heap.size, 2, none⟩ = some (.slice zA1 R.moves.length zc1) := (hb15.cell (p := ⟨w2.heap.size, 2, none⟩) (by first | omega | (simp only [sz_alloc, sz_set, sz_drew, sz_drewN]; omega) | (simp only [sz_alloc, sz_set, sz_drew, sz_drewN] at *; omega))).trans (by go_simp)
  have l15_1 : w4.heap.size < w15.heap.size := (by first | omega | (simp only [sz_alloc, sz_set, sz_drew, sz_drewN]; omega) | (simp only [sz_alloc, sz_set, sz_drew, sz_drewN] at *; omega))
  have c15_1_0 : w15.cell? ⟨w4.heap.size, 0, none⟩ = some (.int .i64 R.letters) := (hb15.cell (p := ⟨w4.heap.size, 0, none⟩) (by first | omega | (simp only [sz_alloc, sz_set, sz_drew, sz_drewN]; omega) | (simp only [sz_alloc, sz_set, sz_drew, sz_drewN] at *; omega))).trans (by go_simp)
  have c15_1_1 : w15.cell? ⟨w4.heap.size, 1, none⟩ = some (.int .i64 R.start) := (hb15.cell (p := ⟨w4.heap.size, 1, none⟩) (by first | omega | (simp only [sz_alloc, sz_set, sz_drew, sz_drewN]; omega) | (simp only [sz_alloc, sz_set, sz_drew, sz_drewN] at *; omega))).trans (by go_simp)
  have c15_1_2 : w15.cell? ⟨w4.heap.size, 2, none⟩ = some (.slice yA1 R.moves.length yc1) := (hb15.cell (p := ⟨w4.heap.size, 2, none⟩) (by first | omega | (simp only [sz_alloc, sz_set, sz_drew, sz_drewN]; omega) | (simp only [sz_alloc, sz_set, sz_drew, sz_drewN] at *; omega))).trans (by go_simp)
  have l15_2 : w13.heap.size < w15.heap.size := (by first | omega | (simp only [sz_alloc, sz_set, sz_drew, sz_drewN]; omega) | (simp only [sz_alloc, sz_set, sz_drew, sz_drewN] at *; omega))
  have c15_2_0 : w15.cell? ⟨w13.heap.size, 0, none⟩ = some (.int .i64 R.letters) := (hb15.cell (p := ⟨w13.heap.size, 0, none⟩) (by first | omega | (simp only [sz_alloc, sz_set, sz_drew, sz_drewN]; omega) | (simp only [sz_alloc, sz_set, sz_drew, sz_drewN] at *; omega))).trans (by go_simp)
  have c15_2_1 : w15.cell? ⟨w13.heap.size, 1, none⟩ = some (.int .i64 R.start) := (hb15.cell (p := ⟨w13.heap.size, 1, none⟩) (by first | omega | (simp only [sz_alloc, sz_set, sz_drew, sz_drewN]; omega) | (simp only [sz_alloc, sz_set, sz_drew, sz_drewN] at *; omega))).trans (by go_simp)
  have c15_2_2 : w15.cell? ⟨w13.heap.size, 2, none⟩ = some (.slice uA1 R.moves.length uc1) := (hb15.cell (p := ⟨w13.heap.size, 2, none⟩) (by first | omega | (simp only [sz_alloc, sz_set, sz_drew, sz_drewN]; omega) | (simp only [sz_alloc, sz_set, sz_drew, sz_drewN] at *; omega))).trans (by go_simp)
  clear SM14 S14 c14_2_2 c14_2_1 c14_2_0 l14_2 c14_1_2 c14_1_1 c14_1_0 l14_1 c14_0_2 c14_0_1 c14_0_0 l14_0 HBw14
  go_wp2
  go_ret
  exact ⟨rfl, HBw15.out⟩


set_option maxRecDepth 100000 in
theorem lifted (os : Os) (started : os.Started) (H : Type) (enc : TypeId × Value → H) :
    ReturnsInHanded {} Try.checked os 5 .any (Rows.fnExactModTurnerSpec.pre6 enc Try.prog Try.f5 Rows.fnExactModTurnerRow.domain false) (Rows.fnExactModTurnerSpec.post enc Try.prog Try.f5 false true false false) := by
  refine returnsInHanded_of_change (C := Try.checked) own started (by as_aux_lemma => kernel_rfl) Try.func5
    (ChangeSpec.witness6 (enc := enc) (C := Try.checked) false ⟨#[], #[.int .i64 0, .slice none 0 0], []⟩ 8 (by as_aux_lemma => kernel_rfl) (by as_aux_lemma => kernel_rfl) (by as_aux_lemma => kernel_rfl) (by as_aux_lemma => kernel_rfl)) ?_
  intro W base args ds gs before hval0 hW hcnd _
  have hval : ∀ (j : Nat) t v, Try.f5.params[j]? = some t → args[j]? = some v → Value.okWide Try.prog W .any base t v := hval0
  have hW' := hW
  obtain ⟨p, q, hA0, hV, rfl, hfz, hnd⟩ := hW
  have hA : DataW.TrodAll enc Try.prog W 0 (fun _ => true) true Try.f5.params.toList args.toList ds p := hA0
  rw [Try.params5] at hA hval
  obtain ⟨v0, vs0, d0, ds0, p0, q0, hargs, rfl, rfl, h0, r0⟩ := trodAll_cons hA
  obtain ⟨v1, vs1, d1, ds1, p1, q1, rfl, rfl, rfl, h1, r1⟩ := trodAll_cons r0
  obtain ⟨rfl, rfl, rfl⟩ := trodAll_nil r1
  obtain rfl : args = #[v0, v1] := by cases args; simp_all
  obtain ⟨rfl, rfl⟩ := trodVars_none hV
  obtain ⟨L, rfl, rfl, rfl, wn⟩ := open_int Try.underlying2 (hval 0 2 v0 rfl rfl) h0
  obtain ⟨ms, A, c, rfl, l1, R1⟩ := open_ints (hval 1 26 v1 rfl rfl) h1
  refine (walk L A c ms W R1 l1).mono fun e W' ⟨he, hb⟩ => ?_
  subst he
  exact ⟨_, rfl, law_post hW' rfl (by as_aux_lemma => kernel_rfl) (by as_aux_lemma => kernel_rfl) rfl hb⟩

theorem over : Rows.fnExactModTurnerRow.holds Try.pinned (OpenSpec.ofChange Rows.fnExactModTurnerSpec) :=
  OpenClaim.holds_of_wide 5 Try.f5 rfl rfl rfl rfl rfl rfl rfl ⟨rfl, rfl, rfl, rfl, rfl⟩ rfl rfl rfl rfl rfl (by as_aux_lemma => kernel_rfl) Try.func5 (by as_aux_lemma => kernel_rfl)
    (of_decide_eq_true (by as_aux_lemma => kernel_rfl)) (by unfold Func.isWrapper; first | (rw [if_pos (by as_aux_lemma => decide +kernel)]; exact (by as_aux_lemma => kernel_rfl)) | (rw [if_neg (by as_aux_lemma => decide +kernel)]; exact ⟨rfl, rfl⟩))
    (fun os started H enc _ => lifted os started H enc)

/-- The statement. -/
theorem proved : Rows.FnExactModTurnerSaid :=
  over
#print axioms proved
end Go.Proofs.Ytepjgaakihhngaa.fnExactModTurner
