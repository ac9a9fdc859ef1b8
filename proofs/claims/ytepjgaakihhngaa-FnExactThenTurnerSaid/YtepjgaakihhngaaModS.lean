/-
  Contracts of the reference's ModTurner and of both tests of a made turner. Conditions: those in each statement.
-/
import Derived.Test.YtepjgaakihhngaaModLaw
import Derived.Test.YtepjgaakihhngaaCat2
import Derived.Deep.RegionHeld3
set_option linter.unusedVariables false
set_option linter.unusedSimpArgs false
set_option maxRecDepth 100000
set_option maxHeartbeats 1000000
namespace Go.Proofs.Ytepjgaakihhngaa
open Go.RowKit

/-- The reference's ModTurner, all bounds kept. -/
theorem l02Told_no (A : Option Addr) (c : Nat) (T : Tn) (w : World) (r1 : RdS w w.heap.size A T.moves) (hn : T.tot ≤ 1048576) (hok : T.okB = false) :
    Calls Try.prog 79 #[.agg #[.int .i64 T.letters, .int .i64 T.start, .slice A T.moves.length c]] w fun e w' => e = .returned (.tuple #[.agg #[.int .i64 0, .int .i64 0, .slice none 0 0], .int .i64 3]) ∧ Below w.heap.size w w' := by
  have HO := Lib.hid hok
  clear hok
  go_enter Try.func79, Try.ntmps79
  go_wp2_with fail
  refine (l02Ok w.heap.size A c T _ (by go_simp) (by go_simp) (by go_simp) (by first | omega | (simp only [sz_alloc, sz_set, sz_drew, sz_drewN]; omega) | (simp only [sz_alloc, sz_set, sz_drew, sz_drewN] at *; omega)) (r1.up (by repeat (first | exact Below.refl _ _ | refine Below.alloc ?_ (by first | omega | (simp only [sz_alloc, sz_set, sz_drew, sz_drewN]; omega) | (simp only [sz_alloc, sz_set, sz_drew, sz_drewN] at *; omega)) _ | refine Below.setCell ?_ (by first | omega | (simp only [sz_alloc, sz_set, sz_drew, sz_drewN]; omega) | (simp only [sz_alloc, sz_set, sz_drew, sz_drewN] at *; omega)) _ | refine Below.drew ?_ | refine below_drewN_ ?_ _))) hn).mono ?_
  rintro e w1 ⟨rfl, hb1⟩
  rw [HO.out]
  have HBw1 : Since w w1 := ⟨below_cat (by repeat (first | exact Below.refl _ _ | exact Since.out (by assumption) | refine Below.alloc ?_ (by first | omega | (simp only [sz_alloc, sz_set, sz_drew, sz_drewN]; omega) | (simp only [sz_alloc, sz_set, sz_drew, sz_drewN] at *; omega)) _ | refine Below.setCell ?_ (by first | omega | (simp only [sz_alloc, sz_set, sz_drew, sz_drewN]; omega) | (simp only [sz_alloc, sz_set, sz_drew, sz_drewN] at *; omega)) _ | refine Below.drew ?_ | refine below_drewN_ ?_ _)) hb1 (by first | omega | (simp only [sz_alloc, sz_set, sz_drew, sz_drewN]; omega) | (simp only [sz_alloc, sz_set, sz_drew, sz_drewN] at *; omega))⟩; have hzw1 := hb1.size; (try simp only [sz_alloc, sz_set, sz_drew, sz_drewN] at hzw1); have hcw1k0 := fun o => hb1.cell (p := ⟨w.heap.size, o, none⟩) (by first | omega | (simp only [sz_alloc, sz_set, sz_drew, sz_drewN]; omega) | (simp only [sz_alloc, sz_set, sz_drew, sz_drewN] at *; omega)); have hfw1k0 := fun o => hb1.frozen (p := ⟨w.heap.size, o, none⟩) (by first | omega | (simp only [sz_alloc, sz_set, sz_drew, sz_drewN]; omega) | (simp only [sz_alloc, sz_set, sz_drew, sz_drewN] at *; omega)); have hlw1k0 : w.heap.size < w1.heap.size := (by first | omega | (simp only [sz_alloc, sz_set, sz_drew, sz_drewN]; omega) | (simp only [sz_alloc, sz_set, sz_drew, sz_drewN] at *; omega)); have hcw1k1 := fun o => hb1.cell (p := ⟨w.heap.size + 1, o, none⟩) (by first | omega | (simp only [sz_alloc, sz_set, sz_drew, sz_drewN]; omega) | (simp only [sz_alloc, sz_set, sz_drew, sz_drewN] at *; omega)); have hfw1k1 := fun o => hb1.frozen (p := ⟨w.heap.size + 1, o, none⟩) (by first | omega | (simp only [sz_alloc, sz_set, sz_drew, sz_drewN]; omega) | (simp only [sz_alloc, sz_set, sz_drew, sz_drewN] at *; omega)); have hlw1k1 : w.heap.size + 1 < w1.heap.size := (by first | omega | (simp only [sz_alloc, sz_set, sz_drew, sz_drewN]; omega) | (simp only [sz_alloc, sz_set, sz_drew, sz_drewN] at *; omega))
  go_wp2
  exact bodyPost_ret (v := .tuple #[.agg #[.int .i64 0, .int .i64 0, .slice none 0 0], .int .i64 3]) (by simp [results, Try.results79, go_sem, hcw1k1]) rfl ⟨rfl, (by repeat (first | exact Below.refl _ _ | exact Since.out (by assumption) | refine Below.alloc ?_ (by first | omega | (simp only [sz_alloc, sz_set, sz_drew, sz_drewN]; omega) | (simp only [sz_alloc, sz_set, sz_drew, sz_drewN] at *; omega)) _ | refine Below.setCell ?_ (by first | omega | (simp only [sz_alloc, sz_set, sz_drew, sz_drewN]; omega) | (simp only [sz_alloc, sz_set, sz_drew, sz_drewN] at *; omega)) _ | refine Below.drew ?_ | refine below_drewN_ ?_ _))⟩
theorem l02Told_yes (A : Option Addr) (c : Nat) (T : Tn) (w : World) (r1 : RdS w w.heap.size A T.moves) (hn : T.tot ≤ 1048576) (hok : T.okB = true) :
    Calls Try.prog 79 #[.agg #[.int .i64 T.letters, .int .i64 T.start, .slice A T.moves.length c]] w fun e w' => e = .returned (.tuple #[.agg #[.int .i64 T.letters, .int .i64 T.start, .slice A T.moves.length c], .int .i64 0]) ∧ Below w.heap.size w w' := by
  have HO := Lib.hid hok
  clear hok
  go_enter Try.func79, Try.ntmps79
  go_wp2_with fail
  refine (l02Ok w.heap.size A c T _ (by go_simp) (by go_simp) (by go_simp) (by first | omega | (simp only [sz_alloc, sz_set, sz_drew, sz_drewN]; omega) | (simp only [sz_alloc, sz_set, sz_drew, sz_drewN] at *; omega)) (r1.up (by repeat (first | exact Below.refl _ _ | refine Below.alloc ?_ (by first | omega | (simp only [sz_alloc, sz_set, sz_drew, sz_drewN]; omega) | (simp only [sz_alloc, sz_set, sz_drew, sz_drewN] at *; omega)) _ | refine Below.setCell ?_ (by first | omega | (simp only [sz_alloc, sz_set, sz_drew, sz_drewN]; omega) | (simp only [sz_alloc, sz_set, sz_drew, sz_drewN] at *; omega)) _ | refine Below.drew ?_ | refine below_drewN_ ?_ _))) hn).mono ?_
  rintro e w1 ⟨rfl, hb1⟩
  rw [HO.out]
  have HBw1 : Since w w1 := ⟨below_cat (by repeat (first | exact Below.refl _ _ | exact Since.out (by assumption) | refine Below.alloc ?_ (by first | omega | (simp only [sz_alloc, sz_set, sz_drew, sz_drewN]; omega) | (simp only [sz_alloc, sz_set, sz_drew, sz_drewN] at *; omega)) _ | refine Below.setCell ?_ (by first | omega | (simp only [sz_alloc, sz_set, sz_drew, sz_drewN]; omega) | (simp only [sz_alloc, sz_set, sz_drew, sz_drewN] at *; omega)) _ | refine Below.drew ?_ | refine below_drewN_ ?_ _)) hb1 (by first | omega | (simp only [sz_alloc, sz_set, sz_drew, sz_drewN]; omega) | (simp only [sz_alloc, sz_set, sz_drew, sz_drewN] at *; omega))⟩; have hzw1 := hb1.size; (try simp only [sz_alloc, sz_set, sz_drew, sz_drewN] at hzw1); have hcw1k0 := fun o => hb1.cell (p := ⟨w.heap.size, o, none⟩) (by first | omega | (simp only [sz_alloc, sz_set, sz_drew, sz_drewN]; omega) | (simp only [sz_alloc, sz_set, sz_drew, sz_drewN] at *; omega)); have hfw1k0 := fun o => hb1.frozen (p := ⟨w.heap.size, o, none⟩) (by first | omega | (simp only [sz_alloc, sz_set, sz_drew, sz_drewN]; omega) | (simp only [sz_alloc, sz_set, sz_drew, sz_drewN] at *; omega)); have hlw1k0 : w.heap.size < w1.heap.size := (by first | omega | (simp only [sz_alloc, sz_set, sz_drew, sz_drewN]; omega) | (simp only [sz_alloc, sz_set, sz_drew, sz_drewN] at *; omega)); have hcw1k1 := fun o => hb1.cell (p := ⟨w.heap.size + 1, o, none⟩) (by first | omega | (simp only [sz_alloc, sz_set, sz_drew, sz_drewN]; omega) | (simp only [sz_alloc, sz_set, sz_drew, sz_drewN] at *; omega)); have hfw1k1 := fun o => hb1.frozen (p := ⟨w.heap.size + 1, o, none⟩) (by first | omega | (simp only [sz_alloc, sz_set, sz_drew, sz_drewN]; omega) | (simp only [sz_alloc, sz_set, sz_drew, sz_drewN] at *; omega)); have hlw1k1 : w.heap.size + 1 < w1.heap.size := (by first | omega | (simp only [sz_alloc, sz_set, sz_drew, sz_drewN]; omega) | (simp only [sz_alloc, sz_set, sz_drew, sz_drewN] at *; omega))
  go_wp2
  exact bodyPost_ret (v := .tuple #[.agg #[.int .i64 T.letters, .int .i64 T.start, .slice A T.moves.length c], .int .i64 0]) (by simp [results, Try.results79, go_sem, hcw1k1]) rfl ⟨rfl, (by repeat (first | exact Below.refl _ _ | exact Since.out (by assumption) | refine Below.alloc ?_ (by first | omega | (simp only [sz_alloc, sz_set, sz_drew, sz_drewN]; omega) | (simp only [sz_alloc, sz_set, sz_drew, sz_drewN] at *; omega)) _ | refine Below.setCell ?_ (by first | omega | (simp only [sz_alloc, sz_set, sz_drew, sz_drewN]; omega) | (simp only [sz_alloc, sz_set, sz_drew, sz_drewN] at *; omega)) _ | refine Below.drew ?_ | refine below_drewN_ ?_ _))⟩
theorem turnerOr_no (A : Option Addr) (c : Nat) (T : Tn) (w : World) (r1 : RdS w w.heap.size A T.moves) (hn : T.tot ≤ 1048576) (hok : T.okB = false) :
    Calls Try.prog 84 #[.agg #[.int .i64 T.letters, .int .i64 T.start, .slice A T.moves.length c]] w fun e w' => e = .returned (.tuple #[.agg #[.int .i64 0, .int .i64 0, .slice none 0 0], .int .i64 3]) ∧ Below w.heap.size w w' := by
  have HO := Lib.hid hok
  clear hok
  go_enter Try.func84, Try.ntmps84
  go_wp2_with fail
  refine (validTurner_impl _ T _ ⟨A, c, rfl, r1.up (by repeat (first | exact Below.refl _ _ | refine Below.alloc ?_ (by first | omega | (simp only [sz_alloc, sz_set, sz_drew, sz_drewN]; omega) | (simp only [sz_alloc, sz_set, sz_drew, sz_drewN] at *; omega)) _ | refine Below.setCell ?_ (by first | omega | (simp only [sz_alloc, sz_set, sz_drew, sz_drewN]; omega) | (simp only [sz_alloc, sz_set, sz_drew, sz_drewN] at *; omega)) _ | refine Below.drew ?_ | refine below_drewN_ ?_ _))⟩ hn).mono ?_
  rintro e w1 ⟨rfl, hb1⟩
  rw [HO.out]
  have HBw1 : Since w w1 := ⟨below_cat (by repeat (first | exact Below.refl _ _ | exact Since.out (by assumption) | refine Below.alloc ?_ (by first | omega | (simp only [sz_alloc, sz_set, sz_drew, sz_drewN]; omega) | (simp only [sz_alloc, sz_set, sz_drew, sz_drewN] at *; omega)) _ | refine Below.setCell ?_ (by first | omega | (simp only [sz_alloc, sz_set, sz_drew, sz_drewN]; omega) | (simp only [sz_alloc, sz_set, sz_drew, sz_drewN] at *; omega)) _ | refine Below.drew ?_ | refine below_drewN_ ?_ _)) hb1 (by first | omega | (simp only [sz_alloc, sz_set, sz_drew, sz_drewN]; omega) | (simp only [sz_alloc, sz_set, sz_drew, sz_drewN] at *; omega))⟩; have hzw1 := hb1.size; (try simp only [sz_alloc, sz_set, sz_drew, sz_drewN] at hzw1); have hcw1k0 := fun o => hb1.cell (p := ⟨w.heap.size, o, none⟩) (by first | omega | (simp only [sz_alloc, sz_set, sz_drew, sz_drewN]; omega) | (simp only [sz_alloc, sz_set, sz_drew, sz_drewN] at *; omega)); have hfw1k0 := fun o => hb1.frozen (p := ⟨w.heap.size, o, none⟩) (by first | omega | (simp only [sz_alloc, sz_set, sz_drew, sz_drewN]; omega) | (simp only [sz_alloc, sz_set, sz_drew, sz_drewN] at *; omega)); have hlw1k0 : w.heap.size < w1.heap.size := (by first | omega | (simp only [sz_alloc, sz_set, sz_drew, sz_drewN]; omega) | (simp only [sz_alloc, sz_set, sz_drew, sz_drewN] at *; omega)); have hcw1k1 := fun o => hb1.cell (p := ⟨w.heap.size + 1, o, none⟩) (by first | omega | (simp only [sz_alloc, sz_set, sz_drew, sz_drewN]; omega) | (simp only [sz_alloc, sz_set, sz_drew, sz_drewN] at *; omega)); have hfw1k1 := fun o => hb1.frozen (p := ⟨w.heap.size + 1, o, none⟩) (by first | omega | (simp only [sz_alloc, sz_set, sz_drew, sz_drewN]; omega) | (simp only [sz_alloc, sz_set, sz_drew, sz_drewN] at *; omega)); have hlw1k1 : w.heap.size + 1 < w1.heap.size := (by first | omega | (simp only [sz_alloc, sz_set, sz_drew, sz_drewN]; omega) | (simp only [sz_alloc, sz_set, sz_drew, sz_drewN] at *; omega))
  go_wp2
  exact bodyPost_ret (v := .tuple #[.agg #[.int .i64 0, .int .i64 0, .slice none 0 0], .int .i64 3]) (by simp [results, Try.results84, go_sem, hcw1k1]) rfl ⟨rfl, (by repeat (first | exact Below.refl _ _ | exact Since.out (by assumption) | refine Below.alloc ?_ (by first | omega | (simp only [sz_alloc, sz_set, sz_drew, sz_drewN]; omega) | (simp only [sz_alloc, sz_set, sz_drew, sz_drewN] at *; omega)) _ | refine Below.setCell ?_ (by first | omega | (simp only [sz_alloc, sz_set, sz_drew, sz_drewN]; omega) | (simp only [sz_alloc, sz_set, sz_drew, sz_drewN] at *; omega)) _ | refine Below.drew ?_ | refine below_drewN_ ?_ _))⟩
theorem turnerOr_yes (A : Option Addr) (c : Nat) (T : Tn) (w : World) (r1 : RdS w w.heap.size A T.moves) (hn : T.tot ≤ 1048576) (hok : T.okB = true) :
    Calls Try.prog 84 #[.agg #[.int .i64 T.letters, .int .i64 T.start, .slice A T.moves.length c]] w fun e w' => e = .returned (.tuple #[.agg #[.int .i64 T.letters, .int .i64 T.start, .slice A T.moves.length c], .int .i64 0]) ∧ Below w.heap.size w w' := by
  have HO := Lib.hid hok
  clear hok
  go_enter Try.func84, Try.ntmps84
  go_wp2_with fail
  refine (validTurner_impl _ T _ ⟨A, c, rfl, r1.up (by repeat (first | exact Below.refl _ _ | refine Below.alloc ?_ (by first | omega | (simp only [sz_alloc, sz_set, sz_drew, sz_drewN]; omega) | (simp only [sz_alloc, sz_set, sz_drew, sz_drewN] at *; omega)) _ | refine Below.setCell ?_ (by first | omega | (simp only [sz_alloc, sz_set, sz_drew, sz_drewN]; omega) | (simp only [sz_alloc, sz_set, sz_drew, sz_drewN] at *; omega)) _ | refine Below.drew ?_ | refine below_drewN_ ?_ _))⟩ hn).mono ?_
  rintro e w1 ⟨rfl, hb1⟩
  rw [HO.out]
  have HBw1 : Since w w1 := ⟨below_cat (by repeat (first | exact Below.refl _ _ | exact Since.out (by assumption) | refine Below.alloc ?_ (by first | omega | (simp only [sz_alloc, sz_set, sz_drew, sz_drewN]; omega) | (simp only [sz_alloc, sz_set, sz_drew, sz_drewN] at *; omega)) _ | refine Below.setCell ?_ (by first | omega | (simp only [sz_alloc, sz_set, sz_drew, sz_drewN]; omega) | (simp only [sz_alloc, sz_set, sz_drew, sz_drewN] at *; omega)) _ | refine Below.drew ?_ | refine below_drewN_ ?_ _)) hb1 (by first | omega | (simp only [sz_alloc, sz_set, sz_drew, sz_drewN]; omega) | (simp only [sz_alloc, sz_set, sz_drew, sz_drewN] at *; omega))⟩; have hzw1 := hb1.size; (try simp only [sz_alloc, sz_set, sz_drew, sz_drewN] at hzw1); have hcw1k0 := fun o => hb1.cell (p := ⟨w.heap.size, o, none⟩) (by first | omega | (simp only [sz_alloc, sz_set, sz_drew, sz_drewN]; omega) | (simp only [sz_alloc, sz_set, sz_drew, sz_drewN] at *; omega)); have hfw1k0 := fun o => hb1.frozen (p := ⟨w.heap.size, o, none⟩) (by first | omega | (simp only [sz_alloc, sz_set, sz_drew, sz_drewN]; omega) | (simp only [sz_alloc, sz_set, sz_drew, sz_drewN] at *; omega)); have hlw1k0 : w.heap.size < w1.heap.size := (by first | omega | (simp only [sz_alloc, sz_set, sz_drew, sz_drewN]; omega) | (simp only [sz_alloc, sz_set, sz_drew, sz_drewN] at *; omega)); have hcw1k1 := fun o => hb1.cell (p := ⟨w.heap.size + 1, o, none⟩) (by first | omega | (simp only [sz_alloc, sz_set, sz_drew, sz_drewN]; omega) | (simp only [sz_alloc, sz_set, sz_drew, sz_drewN] at *; omega)); have hfw1k1 := fun o => hb1.frozen (p := ⟨w.heap.size + 1, o, none⟩) (by first | omega | (simp only [sz_alloc, sz_set, sz_drew, sz_drewN]; omega) | (simp only [sz_alloc, sz_set, sz_drew, sz_drewN] at *; omega)); have hlw1k1 : w.heap.size + 1 < w1.heap.size := (by first | omega | (simp only [sz_alloc, sz_set, sz_drew, sz_drewN]; omega) | (simp only [sz_alloc, sz_set, sz_drew, sz_drewN] at *; omega))
  go_wp2
  exact bodyPost_ret (v := .tuple #[.agg #[.int .i64 T.letters, .int .i64 T.start, .slice A T.moves.length c], .int .i64 0]) (by simp [results, Try.results84, go_sem, hcw1k1]) rfl ⟨rfl, (by repeat (first | exact Below.refl _ _ | exact Since.out (by assumption) | refine Below.alloc ?_ (by first | omega | (simp only [sz_alloc, sz_set, sz_drew, sz_drewN]; omega) | (simp only [sz_alloc, sz_set, sz_drew, sz_drewN] at *; omega)) _ | refine Below.setCell ?_ (by first | omega | (simp only [sz_alloc, sz_set, sz_drew, sz_drewN]; omega) | (simp only [sz_alloc, sz_set, sz_drew, sz_drewN] at *; omega)) _ | refine Below.drew ?_ | refine below_drewN_ ?_ _))⟩

set_option maxHeartbeats 8000000 in
theorem modTurner_spec (A : Option Addr) (c : Nat) (L : Int) (ms : List Int) (w : World) (r1 : RdS w w.heap.size A ms) (hn : ms.length ≤ 1048576) :
    Calls Try.prog 29 #[.int .i64 L, .slice A ms.length c] w (RetTnC (modC L ms) (modCode L ms) w) := by
  by_cases hL : inB L 1 3 = true
  · by_cases h0 : ms.length = 0
    · have hC : Hid (modC L ms = nilTn ∧ modCode L ms = 2) := Lib.hid (by
        have : modIn L ms = false := by unfold modIn; rw [List.length_eq_zero_iff.1 h0]; simp
        unfold modC modCode; rw [this]; simp)
      rw [hC.out.1, hC.out.2]
      have hm : ((ms.length : Int) == 0) = true := by simp [h0]
      clear h0
      go_enter Try.func29, Try.ntmps29
      go_wp2_with (go_at_call 78; refine (l00In_lit true _ _ _ _ hL).mono ?_; rintro e w1 ⟨rfl, rfl⟩)
      exact bodyPost_ret (v := .tuple #[.agg #[.int .i64 0, .int .i64 0, .slice none 0 0], .int .i64 2]) (by simp [results, Try.results29, go_sem, ]) rfl
        ⟨_, [], rfl, ⟨none, 0, [], rfl, .inl ⟨rfl, rfl⟩, rfl⟩, ⟨List.nodup_nil, fun g hg => by simp at hg⟩, (by repeat (first | exact Below.refl _ _ | exact Since.out (by assumption) | refine Below.alloc ?_ (by first | omega | (simp only [sz_alloc, sz_set, sz_drew, sz_drewN]; omega) | (simp only [sz_alloc, sz_set, sz_drew, sz_drewN] at *; omega)) _ | refine Below.setCell ?_ (by first | omega | (simp only [sz_alloc, sz_set, sz_drew, sz_drewN]; omega) | (simp only [sz_alloc, sz_set, sz_drew, sz_drewN] at *; omega)) _ | refine Below.drew ?_ | refine below_drewN_ ?_ _))⟩

    · obtain ⟨l1, l3⟩ := inB_iff.1 hL
      obtain ⟨l, rfl⟩ := Int.eq_ofNat_of_zero_le (show 0 ≤ L by omega)
      obtain ⟨x0, hx0⟩ := get_some (xs := ms) (k := 0) (by omega)
      obtain ⟨ba, oa, rfl, hba, -⟩ := r1.int hx0
      have hm : ((ms.length : Int) == 0) = false := beq_false_of_ne (by omega)
      have HL := Lib.hid hL
      have HN0 := Lib.hid h0
      clear h0 hx0 x0 hL
      go_enter Try.func29, Try.ntmps29
      go_wp2_with (go_at_call 78; refine (l00In_lit true _ _ _ _ HL.out).mono ?_; rintro e w1 ⟨rfl, rfl⟩)
      go_loop [6] (fun i => ∃ k : Nat, k ≤ ms.length ∧ i = .int .i64 k ∧ Hid (∀ (j : Nat) (x : Int), j < k → ms[j]? = some x → 1 ≤ x)) (fun i => ms.length - (intOf i).toNat)
      case atStart => exact ⟨0, Nat.zero_le _, rfl, Lib.hid (fun j x hj _ => absurd hj (Nat.not_lt_zero _))⟩
      case round =>
        obtain ⟨k, hk, rfl, hall⟩ := hrel
        by_cases hlt : k < ms.length
        · obtain ⟨x, hx⟩ := get_some hlt
          obtain ⟨_, _, ⟨⟩, _, cx⟩ := (r1.up (w' := w.alloc (.cells #[.int .i64 0, .int .i64 0, .slice none 0 0] 34)) (by repeat (first | exact Below.refl _ _ | refine Below.alloc ?_ (by first | omega | (simp only [sz_alloc, sz_set, sz_drew, sz_drewN]; omega) | (simp only [sz_alloc, sz_set, sz_drew, sz_drewN] at *; omega)) _ | refine Below.setCell ?_ (by first | omega | (simp only [sz_alloc, sz_set, sz_drew, sz_drewN]; omega) | (simp only [sz_alloc, sz_set, sz_drew, sz_drewN] at *; omega)) _ | refine Below.drew ?_ | refine below_drewN_ ?_ _))).int hx
          have i1 : (0 : Int) ≤ (k : Int) := by omega
          have i2 : (k : Int) < (ms.length : Int) := by omega
          have HX := Lib.hid hx
          clear hx
          by_cases hx1 : x < 1
          · have hC : Hid (modC l ms = nilTn ∧ modCode l ms = 2) := Lib.hid (by
              have : modIn l ms = false := by
                unfold modIn
                have : (ms.all fun m => decide (1 ≤ m)) = false := by
                  rw [List.all_eq_false]
                  exact ⟨x, List.mem_of_getElem? HX.out, by simp; omega⟩
                rw [this]; simp
              unfold modC modCode; rw [this]; simp)
            rw [hC.out.1, hC.out.2]
            go_wp2
            exact bodyPost_ret (v := .tuple #[.agg #[.int .i64 0, .int .i64 0, .slice none 0 0], .int .i64 2]) (by simp [results, Try.results29, go_sem, ]) rfl
              ⟨_, [], rfl, ⟨none, 0, [], rfl, .inl ⟨rfl, rfl⟩, rfl⟩, ⟨List.nodup_nil, fun g hg => by simp at hg⟩, (by repeat (first | exact Below.refl _ _ | exact Since.out (by assumption) | refine Below.alloc ?_ (by first | omega | (simp only [sz_alloc, sz_set, sz_drew, sz_drewN]; omega) | (simp only [sz_alloc, sz_set, sz_drew, sz_drewN] at *; omega)) _ | refine Below.setCell ?_ (by first | omega | (simp only [sz_alloc, sz_set, sz_drew, sz_drewN]; omega) | (simp only [sz_alloc, sz_set, sz_drew, sz_drewN] at *; omega)) _ | refine Below.drew ?_ | refine below_drewN_ ?_ _))⟩

          · go_wp2
            go_round
            case rel => exact ⟨k + 1, by omega, by go_num, Lib.hid (fun j y hj hy => by
              rcases Nat.lt_or_eq_of_le (Nat.le_of_lt_succ hj) with h | rfl
              · exact hall.out j y h hy
              · rw [HX.out] at hy; injection hy with hy; omega)⟩
            case measure => simp [intOf]; omega
        · obtain rfl : k = ms.length := by omega
          have HALL : Hid (∀ x ∈ ms, 1 ≤ x) := Lib.hid (fun x hx => by
            obtain ⟨j, hj⟩ := List.getElem?_of_mem hx
            exact hall.out j x (List.getElem?_eq_some_iff.1 hj).1 hj)
          have HIN : Hid (modIn l ms = true) := Lib.hid (by
            unfold modIn
            rw [HL.out]
            have : ms.isEmpty = false := by cases ms with | nil => exact absurd rfl HN0.out | cons => rfl
            rw [this]
            simpa using HALL.out)
          clear hall
          go_wp2
          go_loop [7, 8] (fun lv i => ∃ (k f : Nat), k ≤ ms.length ∧ lv = .int .i64 (12 - (f : Int)) ∧ i = .int .i64 k ∧ f ≤ 12 ∧ Hid (f = fromAt ms k)) (fun _ i => ms.length - (intOf i).toNat)
          case atStart => exact ⟨0, 0, Nat.zero_le _, rfl, rfl, by omega, Lib.hid rfl⟩
          case round =>
            obtain ⟨k, f, hk, rfl, rfl, hf12, hf⟩ := hrel
            by_cases hlt : k < ms.length
            · obtain ⟨x, hx⟩ := get_some hlt
              obtain ⟨_, _, ⟨⟩, _, cx⟩ := (r1.up (w' := w.alloc (.cells #[.int .i64 0, .int .i64 0, .slice none 0 0] 34)) (by repeat (first | exact Below.refl _ _ | refine Below.alloc ?_ (by first | omega | (simp only [sz_alloc, sz_set, sz_drew, sz_drewN]; omega) | (simp only [sz_alloc, sz_set, sz_drew, sz_drewN] at *; omega)) _ | refine Below.setCell ?_ (by first | omega | (simp only [sz_alloc, sz_set, sz_drew, sz_drewN]; omega) | (simp only [sz_alloc, sz_set, sz_drew, sz_drewN] at *; omega)) _ | refine Below.drew ?_ | refine below_drewN_ ?_ _))).int hx
              have i1 : (0 : Int) ≤ (k : Int) := by omega
              have i2 : (k : Int) < (ms.length : Int) := by omega
              have hx1 := HALL.out x (List.mem_of_getElem? hx)
              have HM : Hid (fromAt ms (k + 1) = f + x.toNat) := Lib.hid (by unfold fromAt; rw [modAt_of hx, hf.out])
              clear hx
              by_cases hg : x > 12 - (f : Int)
              · have hC : Hid (modC l ms = nilTn ∧ modCode l ms = 3) := Lib.hid (by
                  have : ¬ fromAt ms ms.length ≤ 12 := by
                    have h1 := fromAt_le (ms := ms) (i := k + 1) (n := ms.length) (by omega)
                    have h2 := HM.out
                    omega
                  unfold modC modCode; rw [HIN.out]; simp [this])
                rw [hC.out.1, hC.out.2]
                go_wp2
                exact bodyPost_ret (v := .tuple #[.agg #[.int .i64 0, .int .i64 0, .slice none 0 0], .int .i64 3]) (by simp [results, Try.results29, go_sem, ]) rfl
                  ⟨_, [], rfl, ⟨none, 0, [], rfl, .inl ⟨rfl, rfl⟩, rfl⟩, ⟨List.nodup_nil, fun g hg => by simp at hg⟩, (by repeat (first | exact Below.refl _ _ | exact Since.out (by assumption) | refine Below.alloc ?_ (by first | omega | (simp only [sz_alloc, sz_set, sz_drew, sz_drewN]; omega) | (simp only [sz_alloc, sz_set, sz_drew, sz_drewN] at *; omega)) _ | refine Below.setCell ?_ (by first | omega | (simp only [sz_alloc, sz_set, sz_drew, sz_drewN]; omega) | (simp only [sz_alloc, sz_set, sz_drew, sz_drewN] at *; omega)) _ | refine Below.drew ?_ | refine below_drewN_ ?_ _))⟩

              · have f1 : (f : Int) ≤ 12 := by omega
                have f2 : x ≤ 12 - (f : Int) := by omega
                go_wp2
                go_round
                case rel => exact ⟨k + 1, f + x.toNat, by omega, by rw [show (12 : Int) - (f : Int) - x = 12 - ((f + x.toNat : Nat) : Int) by omega], by go_num, by omega, Lib.hid HM.out.symm⟩
                case measure => simp [intOf]; omega
            · obtain rfl : k = ms.length := by omega
              have HF12 : Hid (fromAt ms ms.length ≤ 12) := Lib.hid (by rw [← hf.out]; exact hf12)
              have HNN : Hid (ms.length ≤ 12) := Lib.hid (by have := fromAt_ge HALL.out ms.length (Nat.le_refl _); have := HF12.out; omega)
              clear hf hf12
              go_wp2
              go_loopw [10, 11, 12] (fun fv dv i wr => ∃ (k f : Nat) (A3 : Option Addr) (c3 : Nat) (bs : List Nat), k ≤ ms.length ∧ fv = .int .i64 f ∧ dv = .int .i64 (dirB (evB k)) ∧ i = .int .i64 k ∧ Hid (f = fromAt ms k) ∧ Hid (Acc wr (w.heap.size + 2) 92 A3 f c3 (modRows l ms k) bs ∧ wr.heap[w.heap.size + 1]? = some (.cells #[.int .i64 l, .int .i64 0, .slice A3 f c3] 34 (0, 0)) ∧ wr.heap[w.heap.size]? = some (.cells #[.int .i64 0, .int .i64 0, .slice none 0 0] 34 (0, 0))) ∧ Since w wr) (fun _ _ i _ => ms.length - (intOf i).toNat)
              case atStart => exact ⟨0, 0, none, 0, [], Nat.zero_le _, rfl, rfl, rfl, Lib.hid rfl, Lib.hid ⟨Acc.nil_ _ _ _, new_block (by simp), alloc_block (new_block rfl) (by simp)⟩, ⟨(by repeat (first | exact Below.refl _ _ | refine Below.alloc ?_ (by first | omega | (simp only [sz_alloc, sz_set, sz_drew, sz_drewN]; omega) | (simp only [sz_alloc, sz_set, sz_drew, sz_drewN] at *; omega)) _ | refine Below.setCell ?_ (by first | omega | (simp only [sz_alloc, sz_set, sz_drew, sz_drewN]; omega) | (simp only [sz_alloc, sz_set, sz_drew, sz_drewN] at *; omega)) _ | refine Below.drew ?_ | refine below_drewN_ ?_ _))⟩⟩
              case round =>
                obtain ⟨k, f, A3, c3, bs, hk, rfl, rfl, rfl, hf, HD, hsc⟩ := hrel
                obtain ⟨wc, rfl⟩ : ∃ x, x = wr := ⟨_, rfl⟩
                by_cases hlt : k < ms.length
                · obtain ⟨x, hx⟩ := get_some hlt
                  have hx1 := HALL.out x (List.mem_of_getElem? hx)
                  obtain ⟨m, rfl⟩ := Int.eq_ofNat_of_zero_le (show 0 ≤ x by omega)
                  have HFM : Hid (fromAt ms k = f ∧ modAt ms k = m) := Lib.hid ⟨hf.out.symm, by rw [modAt_of hx]; rfl⟩
                  have hfm : f + m ≤ 12 := by
                    have h1 := fromAt_le (ms := ms) (i := k + 1) (n := ms.length) (by omega)
                    have h2 := HF12.out
                    have h3 : fromAt ms (k + 1) = fromAt ms k + modAt ms k := rfl
                    rw [HFM.out.1, HFM.out.2] at h3
                    omega
                  have HX0 := Lib.hid hx
                  have i1 : (0 : Int) ≤ (k : Int) := by omega
                  have i2 : (k : Int) < (ms.length : Int) := by omega
                  have hm1 : 1 ≤ m := by omega
                  clear hx hf
                  cases hb : evB k with
                  | true =>
                    have HRB : Hid (evB k = true) := Lib.hid hb
                    clear hb
                    simp only [dirB]
                    go_wp2
                    go_loopw [13] (fun rv wr => ∃ (r : Nat) (A3 : Option Addr) (c3 : Nat) (bs : List Nat), r ≤ m ∧ rv = .int .i64 r ∧ Hid (Acc wr (w.heap.size + 2) 92 A3 (f + r) c3 (modRows l ms k ++ modBlk l ms k r) bs ∧ wr.heap[w.heap.size + 1]? = some (.cells #[.int .i64 l, .int .i64 0, .slice A3 (f + r) c3] 34 (0, 0)) ∧ wr.heap[w.heap.size]? = some (.cells #[.int .i64 0, .int .i64 0, .slice none 0 0] 34 (0, 0))) ∧ Since w wr) (fun i _ => m - (intOf i).toNat)
                    case atStart => exact ⟨0, A3, c3, bs, Nat.zero_le _, rfl, Lib.hid ⟨by simpa [modBlk] using HD.out.1, HD.out.2.1, HD.out.2.2⟩, hsc⟩
                    case round =>
                      obtain ⟨r, A3, c3, bs3, hr, rfl, HD, hsd⟩ := hrel
                      obtain ⟨wd, rfl⟩ : ∃ x, x = wr := ⟨_, rfl⟩
                      have hzd := hsd.out.size
                      have hzd2 : w.heap.size + 2 ≤ wd.heap.size := by have := (Array.getElem?_eq_some_iff.1 HD.out.2.1).1; omega
                      obtain ⟨_, _, ⟨⟩, _, cxd⟩ := (r1.up hsd.out).int HX0.out
                      by_cases hrm : r < m
                      · have s1 : (0 : Int) ≤ (r : Int) := by omega
                        have s2 : (r : Int) < (m : Int) := by omega
                        go_wp2
                        go_loopw [14, 15] (fun row av wr => ∃ (a : Nat) (A' : Option Addr) (c' : Nat), a ≤ l ∧ av = .int .i64 a ∧ row = .slice A' a c' ∧ Hid (Acc wr wd.heap.size 94 A' a c' (List.replicate a (modStep f m r true)) []) ∧ Since wd wr) (fun _ i _ => l - (intOf i).toNat)
                        case atStart => exact ⟨0, _, _, Nat.zero_le _, rfl, rfl, Lib.hid (Acc.empty_ (new_block rfl) (Nat.le_refl _)), ⟨(by repeat (first | exact Below.refl _ _ | refine Below.alloc ?_ (by first | omega | (simp only [sz_alloc, sz_set, sz_drew, sz_drewN]; omega) | (simp only [sz_alloc, sz_set, sz_drew, sz_drewN] at *; omega)) _ | refine Below.setCell ?_ (by first | omega | (simp only [sz_alloc, sz_set, sz_drew, sz_drewN]; omega) | (simp only [sz_alloc, sz_set, sz_drew, sz_drewN] at *; omega)) _ | refine Below.drew ?_ | refine below_drewN_ ?_ _))⟩⟩
                        case round =>
                          obtain ⟨a, A', c', hal, rfl, rfl, HW, hse⟩ := hrel
                          have hze := hse.out.size
                          have SE : Since w wr := ⟨below_cat hsd.out hse.out hsd.out.size⟩
                          obtain ⟨_, _, ⟨⟩, _, cxe⟩ := (r1.up SE.out).int HX0.out
                          by_cases hla : a < l
                          · have a1 : (0 : Int) ≤ (a : Int) := by omega
                            have a2 : (a : Int) < (l : Int) := by omega
                            have HWS : Hid (wrap64 ((f : Int) + ((r : Int) + 1) % (m : Int)) = ((f + (r + 1) % m : Nat) : Int)) := Lib.hid (by
                              have h1 : ((r : Int) + 1) % (m : Int) = (((r + 1) % m : Nat) : Int) := rfl
                              have h2 : (r + 1) % m < m := Nat.mod_lt _ (by omega)
                              rw [h1]; unfold wrap64; omega)
                            go_wp2_with (at_builtin; refine wpList_push (α := Int × Int) _ rfl (.tmp 80) (.tmp 92) 92 rfl wd.heap.size 94 (.agg #[.int .i64 0, .int .i64 0]) 16 Try.underlying92 infoMove rfl A' a c' _ [] rfl (HW.out.below (C := wr.heap.size) (by repeat (first | exact Below.refl _ _ | refine Below.alloc ?_ (by first | omega | (simp only [sz_alloc, sz_set, sz_drew, sz_drewN]; omega) | (simp only [sz_alloc, sz_set, sz_drew, sz_drewN] at *; omega)) _ | refine Below.setCell ?_ (by first | omega | (simp only [sz_alloc, sz_set, sz_drew, sz_drewN]; omega) | (simp only [sz_alloc, sz_set, sz_drew, sz_drewN] at *; omega)) _ | refine Below.drew ?_ | refine below_drewN_ ?_ _)) (Nat.le_refl _)) wr.heap.size 1 rfl (modStep f m r true) [.int .i64 (wrap64 ((f : Int) + ((r : Int) + 1) % (m : Int))), .int .i64 1] [] (by rw [HWS.out]; exact ⟨rfl, rfl⟩) (new_cells (by first | rfl | simp [sz_set])) (fun u hu => by (simp at hu; rcases hu with rfl | rfl <;> rfl)) ⟨List.nodup_nil, fun g hg => by simp at hg⟩ (fun g hg => by simp at hg) (by omega) (by omega) (by first | omega | (simp only [sz_alloc, sz_set, sz_drew, sz_drewN]; omega) | (simp only [sz_alloc, sz_set, sz_drew, sz_drewN] at *; omega)) ?_
                                         intro D1 d1 w5 hacc hgr hnew
                                         have HS5 : Since wd w5 := ⟨Acc.since (HW.out.below (C := wr.heap.size) (by repeat (first | exact Below.refl _ _ | refine Below.alloc ?_ (by first | omega | (simp only [sz_alloc, sz_set, sz_drew, sz_drewN]; omega) | (simp only [sz_alloc, sz_set, sz_drew, sz_drewN] at *; omega)) _ | refine Below.setCell ?_ (by first | omega | (simp only [sz_alloc, sz_set, sz_drew, sz_drewN]; omega) | (simp only [sz_alloc, sz_set, sz_drew, sz_drewN] at *; omega)) _ | refine Below.drew ?_ | refine below_drewN_ ?_ _)) (Nat.le_refl _)) hgr (below_cat hse.out (by repeat (first | exact Below.refl _ _ | refine Below.alloc ?_ (by first | omega | (simp only [sz_alloc, sz_set, sz_drew, sz_drewN]; omega) | (simp only [sz_alloc, sz_set, sz_drew, sz_drewN] at *; omega)) _ | refine Below.setCell ?_ (by first | omega | (simp only [sz_alloc, sz_set, sz_drew, sz_drewN]; omega) | (simp only [sz_alloc, sz_set, sz_drew, sz_drewN] at *; omega)) _ | refine Below.drew ?_ | refine below_drewN_ ?_ _)) hse.out.size) (Nat.le_refl _) (by first | omega | (simp only [sz_alloc, sz_set, sz_drew, sz_drewN]; omega) | (simp only [sz_alloc, sz_set, sz_drew, sz_drewN] at *; omega))⟩
                                         have HA := Lib.hid hacc
                                         clear hacc hgr hnew)
                            go_roundw
                            case rel => exact ⟨a + 1, D1, d1, by omega, by go_num, rfl, Lib.hid (by rw [List.replicate_succ']; exact HA.out), HS5⟩
                            case measure => simp [intOf]; omega
                          · obtain rfl : l = a := by omega
                            have l9 : l ≤ 3 := by omega
                            by_cases hr0 : r = 0
                            · subst hr0
                              by_cases hlast : k + 1 = ms.length
                              · have HLB : Hid (decide (k + 1 = ms.length) = true) := Lib.hid (decide_eq_true hlast)
                                have q1 : ((k : Int) + 1 == (ms.length : Int)) = true := by simp; omega
                                clear hlast
                                have HE : Hid (modEnd f m 0 true true = ((-1), 0)) := Lib.hid (by unfold modEnd; simp [dirB])
                                have HON : Hid (modOn f 0 true = ((f : Int), 1)) := Lib.hid (by unfold modOn; simp [dirB])
                                go_wp2_with (first
                                  | (at_builtin; refine wpList_cat (α := Int × Int) _ rfl (.tmp 123) (.tmp 126) 92 rfl wd.heap.size 94 (.agg #[.int .i64 0, .int .i64 0]) 16 Try.underlying92 infoMove rfl A' l c' _ [] rfl (HW.out.below (C := wr.heap.size) (by repeat (first | exact Below.refl _ _ | refine Below.alloc ?_ (by first | omega | (simp only [sz_alloc, sz_set, sz_drew, sz_drewN]; omega) | (simp only [sz_alloc, sz_set, sz_drew, sz_drewN] at *; omega)) _ | refine Below.setCell ?_ (by first | omega | (simp only [sz_alloc, sz_set, sz_drew, sz_drewN]; omega) | (simp only [sz_alloc, sz_set, sz_drew, sz_drewN] at *; omega)) _ | refine Below.drew ?_ | refine below_drewN_ ?_ _)) (Nat.le_refl _)) ⟨wr.heap.size + 1 + 1, 0, none⟩ 2 2 (by first | rfl | simp [Act.eval]) ([modOn f 0 true, modEnd f m 0 true true]) rfl [.int .i64 (f : Int), .int .i64 1, .int .i64 (-1), .int .i64 0] (fun _ => Els_pairs.2 ⟨by rw [HE.out, HON.out]; rfl, rfl⟩) (fun j u hu => by (rw [add_lit, Nat.zero_add]; exact new_cells (by first | rfl | simp) j u hu)) (fun u hu => by (simp at hu; rcases hu with rfl | rfl | rfl | rfl <;> rfl)) (by omega) (by omega) (by omega) (by first | omega | (simp only [sz_alloc, sz_set, sz_drew, sz_drewN]; omega) | (simp only [sz_alloc, sz_set, sz_drew, sz_drewN] at *; omega)) ?_
                                     intro D d w6 hacc hgr hnew
                                     have HS6 : Since wd w6 := ⟨Acc.since (HW.out.below (C := wr.heap.size) (by repeat (first | exact Below.refl _ _ | refine Below.alloc ?_ (by first | omega | (simp only [sz_alloc, sz_set, sz_drew, sz_drewN]; omega) | (simp only [sz_alloc, sz_set, sz_drew, sz_drewN] at *; omega)) _ | refine Below.setCell ?_ (by first | omega | (simp only [sz_alloc, sz_set, sz_drew, sz_drewN]; omega) | (simp only [sz_alloc, sz_set, sz_drew, sz_drewN] at *; omega)) _ | refine Below.drew ?_ | refine below_drewN_ ?_ _)) (Nat.le_refl _)) hgr (below_cat hse.out (by repeat (first | exact Below.refl _ _ | refine Below.alloc ?_ (by first | omega | (simp only [sz_alloc, sz_set, sz_drew, sz_drewN]; omega) | (simp only [sz_alloc, sz_set, sz_drew, sz_drewN] at *; omega)) _ | refine Below.setCell ?_ (by first | omega | (simp only [sz_alloc, sz_set, sz_drew, sz_drewN]; omega) | (simp only [sz_alloc, sz_set, sz_drew, sz_drewN] at *; omega)) _ | refine Below.drew ?_ | refine below_drewN_ ?_ _)) hse.out.size) (Nat.le_refl _) (by first | omega | (simp only [sz_alloc, sz_set, sz_drew, sz_drewN]; omega) | (simp only [sz_alloc, sz_set, sz_drew, sz_drewN] at *; omega))⟩
                                     have HA6 : Hid (Acc w6 wd.heap.size 94 D (l + 2) d (modRow l f m 0 true true) []) := Lib.hid hacc
                                     have hzz := HS6.out.size
                                     have QO := Lib.hid ((HS6.out.block _ (by omega)).trans HD.out.2.1)
                                     have QR := Lib.hid ((HS6.out.block _ (by omega)).trans HD.out.2.2)
                                     have k6 : w6.cell? ⟨w.heap.size + 1, 2, none⟩ = some (.slice A3 (f + 0) c3) := cell_of_row w6 _ 2 _ _ (0, 0) QO.out
                                     have HX : Hid (Acc (w6.alloc (.cells #[.slice D (l + 2) d] 92)) (w.heap.size + 2) 92 A3 (f + 0) c3 (modRows l ms k ++ modBlk l ms k 0) bs3) := Lib.hid (HD.out.1.below (C := wd.heap.size) (by repeat (first | exact Below.refl _ _ | exact Since.out (by assumption) | refine Below.alloc ?_ (by first | omega | (simp only [sz_alloc, sz_set, sz_drew, sz_drewN]; omega) | (simp only [sz_alloc, sz_set, sz_drew, sz_drewN] at *; omega)) _ | refine Below.setCell ?_ (by first | omega | (simp only [sz_alloc, sz_set, sz_drew, sz_drewN]; omega) | (simp only [sz_alloc, sz_set, sz_drew, sz_drewN] at *; omega)) _ | refine Below.drew ?_ | refine below_drewN_ ?_ _)) (Nat.le_refl _))
                                     clear hacc hgr hnew)
                                  | (at_builtin; obtain ⟨b2, hy, hf⟩ := (HA6.out.alloc (.cells #[.slice D (l + 2) d] 92)).row (by omega)
                                     refine wpList_push (α := List (Int × Int)) _ rfl (.tmp 134) (.tmp 136) 32 rfl (w.heap.size + 2) 92 (.slice none 0 0) 24 Try.underlying32 infoMoveSS rfl A3 (f + 0) c3 _ bs3 rfl HX.out w6.heap.size 1 rfl (modRow l f m 0 true true) [.slice D (l + 2) d] b2 hy (new_cells (by first | rfl | simp [sz_set])) (fun u hu => by (simp at hu; subst hu; rfl)) ⟨hf.1, fun g hg => ⟨by have := (hf.2 g hg).1; omega, (hf.2 g hg).2⟩⟩ (HD.out.1.apart hf (Nat.le_refl _)) (by omega) (by omega) (by first | omega | (simp only [sz_alloc, sz_set, sz_drew, sz_drewN]; omega) | (simp only [sz_alloc, sz_set, sz_drew, sz_drewN] at *; omega)) ?_
                                     intro D3 d3 w9 hacc hgr hnew
                                     have hB1 := Lib.hid (HX.out.box hgr (alloc_block QO.out (by first | omega | (simp only [sz_alloc, sz_set, sz_drew, sz_drewN]; omega) | (simp only [sz_alloc, sz_set, sz_drew, sz_drewN] at *; omega))) (by omega))
                                     have hB2 := Lib.hid (HX.out.box hgr (alloc_block QR.out (by first | omega | (simp only [sz_alloc, sz_set, sz_drew, sz_drewN]; omega) | (simp only [sz_alloc, sz_set, sz_drew, sz_drewN] at *; omega))) (by omega))
                                     have f3 : w9.frozen? ⟨w.heap.size + 1, 2, none⟩ = false := blk_free hB1.out
                                     have k9 : w9.cell? ⟨w.heap.size + 1, 2, none⟩ = some (.slice A3 (f + 0) c3) := cell_of_row w9 _ 2 _ _ (0, 0) hB1.out
                                     have HS9 : Since w w9 := ⟨Acc.since HX.out hgr (below_cat hsd.out (below_cat HS6.out (by repeat (first | exact Below.refl _ _ | refine Below.alloc ?_ (by first | omega | (simp only [sz_alloc, sz_set, sz_drew, sz_drewN]; omega) | (simp only [sz_alloc, sz_set, sz_drew, sz_drewN] at *; omega)) _ | refine Below.setCell ?_ (by first | omega | (simp only [sz_alloc, sz_set, sz_drew, sz_drewN]; omega) | (simp only [sz_alloc, sz_set, sz_drew, sz_drewN] at *; omega)) _ | refine Below.drew ?_ | refine below_drewN_ ?_ _)) HS6.out.size) hsd.out.size) (by omega) (by first | omega | (simp only [sz_alloc, sz_set, sz_drew, sz_drewN]; omega) | (simp only [sz_alloc, sz_set, sz_drew, sz_drewN] at *; omega))⟩
                                     have HA := Lib.hid hacc
                                     clear hacc hgr hnew hy hf))
                                go_roundw
                                case rel =>
                                  refine ⟨0 + 1, D3, d3, bs3 ++ b2, by omega, by go_num, Lib.hid ⟨?_, blk_set (i := 2) hB1.out _, blk_far hB2.out (by simp) _⟩, ⟨HS9.out.setCell (by simp) _⟩⟩
                                  rw [modBlk_snoc, ← List.append_assoc, HFM.out.1, HFM.out.2, HRB.out, HLB.out]
                                  exact HA.out.setCell (fun a ha e => by have := (HA.out.lt a ha).1; simp only at e; omega) (fun hm => by have := (HA.out.fresh.2 _ hm).1; simp only at this; omega) _
                                case measure => simp [intOf]; omega

                              · have HLB : Hid (decide (k + 1 = ms.length) = false) := Lib.hid (decide_eq_false hlast)
                                have q1 : ((k : Int) + 1 == (ms.length : Int)) = false := beq_false_of_ne (by omega)
                                clear hlast
                                have HE : Hid (modEnd f m 0 true false = (((f : Int) + (m : Int)), (-1))) := Lib.hid (by unfold modEnd; simp [dirB])
                                have HON : Hid (modOn f 0 true = ((f : Int), 1)) := Lib.hid (by unfold modOn; simp [dirB])
                                go_wp2_with (first
                                  | (at_builtin; refine wpList_cat (α := Int × Int) _ rfl (.tmp 123) (.tmp 126) 92 rfl wd.heap.size 94 (.agg #[.int .i64 0, .int .i64 0]) 16 Try.underlying92 infoMove rfl A' l c' _ [] rfl (HW.out.below (C := wr.heap.size) (by repeat (first | exact Below.refl _ _ | refine Below.alloc ?_ (by first | omega | (simp only [sz_alloc, sz_set, sz_drew, sz_drewN]; omega) | (simp only [sz_alloc, sz_set, sz_drew, sz_drewN] at *; omega)) _ | refine Below.setCell ?_ (by first | omega | (simp only [sz_alloc, sz_set, sz_drew, sz_drewN]; omega) | (simp only [sz_alloc, sz_set, sz_drew, sz_drewN] at *; omega)) _ | refine Below.drew ?_ | refine below_drewN_ ?_ _)) (Nat.le_refl _)) ⟨wr.heap.size + 1 + 1, 0, none⟩ 2 2 (by first | rfl | simp [Act.eval]) ([modOn f 0 true, modEnd f m 0 true false]) rfl [.int .i64 (f : Int), .int .i64 1, .int .i64 ((f : Int) + (m : Int)), .int .i64 (-1)] (fun _ => Els_pairs.2 ⟨by rw [HE.out, HON.out]; rfl, rfl⟩) (fun j u hu => by (rw [add_lit, Nat.zero_add]; exact new_cells (by first | rfl | simp) j u hu)) (fun u hu => by (simp at hu; rcases hu with rfl | rfl | rfl | rfl <;> rfl)) (by omega) (by omega) (by omega) (by first | omega | (simp only [sz_alloc, sz_set, sz_drew, sz_drewN]; omega) | (simp only [sz_alloc, sz_set, sz_drew, sz_drewN] at *; omega)) ?_
                                     intro D d w6 hacc hgr hnew
                                     have HS6 : Since wd w6 := ⟨Acc.since (HW.out.below (C := wr.heap.size) (by repeat (first | exact Below.refl _ _ | refine Below.alloc ?_ (by first | omega | (simp only [sz_alloc, sz_set, sz_drew, sz_drewN]; omega) | (simp only [sz_alloc, sz_set, sz_drew, sz_drewN] at *; omega)) _ | refine Below.setCell ?_ (by first | omega | (simp only [sz_alloc, sz_set, sz_drew, sz_drewN]; omega) | (simp only [sz_alloc, sz_set, sz_drew, sz_drewN] at *; omega)) _ | refine Below.drew ?_ | refine below_drewN_ ?_ _)) (Nat.le_refl _)) hgr (below_cat hse.out (by repeat (first | exact Below.refl _ _ | refine Below.alloc ?_ (by first | omega | (simp only [sz_alloc, sz_set, sz_drew, sz_drewN]; omega) | (simp only [sz_alloc, sz_set, sz_drew, sz_drewN] at *; omega)) _ | refine Below.setCell ?_ (by first | omega | (simp only [sz_alloc, sz_set, sz_drew, sz_drewN]; omega) | (simp only [sz_alloc, sz_set, sz_drew, sz_drewN] at *; omega)) _ | refine Below.drew ?_ | refine below_drewN_ ?_ _)) hse.out.size) (Nat.le_refl _) (by first | omega | (simp only [sz_alloc, sz_set, sz_drew, sz_drewN]; omega) | (simp only [sz_alloc, sz_set, sz_drew, sz_drewN] at *; omega))⟩
                                     have HA6 : Hid (Acc w6 wd.heap.size 94 D (l + 2) d (modRow l f m 0 true false) []) := Lib.hid hacc
                                     have hzz := HS6.out.size
                                     have QO := Lib.hid ((HS6.out.block _ (by omega)).trans HD.out.2.1)
                                     have QR := Lib.hid ((HS6.out.block _ (by omega)).trans HD.out.2.2)
                                     have k6 : w6.cell? ⟨w.heap.size + 1, 2, none⟩ = some (.slice A3 (f + 0) c3) := cell_of_row w6 _ 2 _ _ (0, 0) QO.out
                                     have HX : Hid (Acc (w6.alloc (.cells #[.slice D (l + 2) d] 92)) (w.heap.size + 2) 92 A3 (f + 0) c3 (modRows l ms k ++ modBlk l ms k 0) bs3) := Lib.hid (HD.out.1.below (C := wd.heap.size) (by repeat (first | exact Below.refl _ _ | exact Since.out (by assumption) | refine Below.alloc ?_ (by first | omega | (simp only [sz_alloc, sz_set, sz_drew, sz_drewN]; omega) | (simp only [sz_alloc, sz_set, sz_drew, sz_drewN] at *; omega)) _ | refine Below.setCell ?_ (by first | omega | (simp only [sz_alloc, sz_set, sz_drew, sz_drewN]; omega) | (simp only [sz_alloc, sz_set, sz_drew, sz_drewN] at *; omega)) _ | refine Below.drew ?_ | refine below_drewN_ ?_ _)) (Nat.le_refl _))
                                     clear hacc hgr hnew)
                                  | (at_builtin; obtain ⟨b2, hy, hf⟩ := (HA6.out.alloc (.cells #[.slice D (l + 2) d] 92)).row (by omega)
                                     refine wpList_push (α := List (Int × Int)) _ rfl (.tmp 134) (.tmp 136) 32 rfl (w.heap.size + 2) 92 (.slice none 0 0) 24 Try.underlying32 infoMoveSS rfl A3 (f + 0) c3 _ bs3 rfl HX.out w6.heap.size 1 rfl (modRow l f m 0 true false) [.slice D (l + 2) d] b2 hy (new_cells (by first | rfl | simp [sz_set])) (fun u hu => by (simp at hu; subst hu; rfl)) ⟨hf.1, fun g hg => ⟨by have := (hf.2 g hg).1; omega, (hf.2 g hg).2⟩⟩ (HD.out.1.apart hf (Nat.le_refl _)) (by omega) (by omega) (by first | omega | (simp only [sz_alloc, sz_set, sz_drew, sz_drewN]; omega) | (simp only [sz_alloc, sz_set, sz_drew, sz_drewN] at *; omega)) ?_
                                     intro D3 d3 w9 hacc hgr hnew
                                     have hB1 := Lib.hid (HX.out.box hgr (alloc_block QO.out (by first | omega | (simp only [sz_alloc, sz_set, sz_drew, sz_drewN]; omega) | (simp only [sz_alloc, sz_set, sz_drew, sz_drewN] at *; omega))) (by omega))
                                     have hB2 := Lib.hid (HX.out.box hgr (alloc_block QR.out (by first | omega | (simp only [sz_alloc, sz_set, sz_drew, sz_drewN]; omega) | (simp only [sz_alloc, sz_set, sz_drew, sz_drewN] at *; omega))) (by omega))
                                     have f3 : w9.frozen? ⟨w.heap.size + 1, 2, none⟩ = false := blk_free hB1.out
                                     have k9 : w9.cell? ⟨w.heap.size + 1, 2, none⟩ = some (.slice A3 (f + 0) c3) := cell_of_row w9 _ 2 _ _ (0, 0) hB1.out
                                     have HS9 : Since w w9 := ⟨Acc.since HX.out hgr (below_cat hsd.out (below_cat HS6.out (by repeat (first | exact Below.refl _ _ | refine Below.alloc ?_ (by first | omega | (simp only [sz_alloc, sz_set, sz_drew, sz_drewN]; omega) | (simp only [sz_alloc, sz_set, sz_drew, sz_drewN] at *; omega)) _ | refine Below.setCell ?_ (by first | omega | (simp only [sz_alloc, sz_set, sz_drew, sz_drewN]; omega) | (simp only [sz_alloc, sz_set, sz_drew, sz_drewN] at *; omega)) _ | refine Below.drew ?_ | refine below_drewN_ ?_ _)) HS6.out.size) hsd.out.size) (by omega) (by first | omega | (simp only [sz_alloc, sz_set, sz_drew, sz_drewN]; omega) | (simp only [sz_alloc, sz_set, sz_drew, sz_drewN] at *; omega))⟩
                                     have HA := Lib.hid hacc
                                     clear hacc hgr hnew hy hf))
                                go_roundw
                                case rel =>
                                  refine ⟨0 + 1, D3, d3, bs3 ++ b2, by omega, by go_num, Lib.hid ⟨?_, blk_set (i := 2) hB1.out _, blk_far hB2.out (by simp) _⟩, ⟨HS9.out.setCell (by simp) _⟩⟩
                                  rw [modBlk_snoc, ← List.append_assoc, HFM.out.1, HFM.out.2, HRB.out, HLB.out]
                                  exact HA.out.setCell (fun a ha e => by have := (HA.out.lt a ha).1; simp only at e; omega) (fun hm => by have := (HA.out.fresh.2 _ hm).1; simp only at this; omega) _
                                case measure => simp [intOf]; omega

                            · have HR0 := Lib.hid hr0
                              have q1 : ((r : Int) == 0) = false := beq_false_of_ne (by omega)
                              clear hr0
                              have HE : Hid (modEnd f m r true (decide (k + 1 = ms.length)) = ((-2), 0)) := Lib.hid (by unfold modEnd; simp [dirB, HR0.out])
                              have HON : Hid (modOn f r true = (((f : Int) + (r : Int)), 1)) := Lib.hid (by unfold modOn; simp [dirB])
                              go_wp2_with (first
                                | (at_builtin; refine wpList_cat (α := Int × Int) _ rfl (.tmp 123) (.tmp 126) 92 rfl wd.heap.size 94 (.agg #[.int .i64 0, .int .i64 0]) 16 Try.underlying92 infoMove rfl A' l c' _ [] rfl (HW.out.below (C := wr.heap.size) (by repeat (first | exact Below.refl _ _ | refine Below.alloc ?_ (by first | omega | (simp only [sz_alloc, sz_set, sz_drew, sz_drewN]; omega) | (simp only [sz_alloc, sz_set, sz_drew, sz_drewN] at *; omega)) _ | refine Below.setCell ?_ (by first | omega | (simp only [sz_alloc, sz_set, sz_drew, sz_drewN]; omega) | (simp only [sz_alloc, sz_set, sz_drew, sz_drewN] at *; omega)) _ | refine Below.drew ?_ | refine below_drewN_ ?_ _)) (Nat.le_refl _)) ⟨wr.heap.size + 1 + 1, 0, none⟩ 2 2 (by first | rfl | simp [Act.eval]) ([modOn f r true, modEnd f m r true (decide (k + 1 = ms.length))]) rfl [.int .i64 ((f : Int) + (r : Int)), .int .i64 1, .int .i64 (-2), .int .i64 0] (fun _ => Els_pairs.2 ⟨by rw [HE.out, HON.out]; rfl, rfl⟩) (fun j u hu => by (rw [add_lit, Nat.zero_add]; exact new_cells (by first | rfl | simp) j u hu)) (fun u hu => by (simp at hu; rcases hu with rfl | rfl | rfl | rfl <;> rfl)) (by omega) (by omega) (by omega) (by first | omega | (simp only [sz_alloc, sz_set, sz_drew, sz_drewN]; omega) | (simp only [sz_alloc, sz_set, sz_drew, sz_drewN] at *; omega)) ?_
                                   intro D d w6 hacc hgr hnew
                                   have HS6 : Since wd w6 := ⟨Acc.since (HW.out.below (C := wr.heap.size) (by repeat (first | exact Below.refl _ _ | refine Below.alloc ?_ (by first | omega | (simp only [sz_alloc, sz_set, sz_drew, sz_drewN]; omega) | (simp only [sz_alloc, sz_set, sz_drew, sz_drewN] at *; omega)) _ | refine Below.setCell ?_ (by first | omega | (simp only [sz_alloc, sz_set, sz_drew, sz_drewN]; omega) | (simp only [sz_alloc, sz_set, sz_drew, sz_drewN] at *; omega)) _ | refine Below.drew ?_ | refine below_drewN_ ?_ _)) (Nat.le_refl _)) hgr (below_cat hse.out (by repeat (first | exact Below.refl _ _ | refine Below.alloc ?_ (by first | omega | (simp only [sz_alloc, sz_set, sz_drew, sz_drewN]; omega) | (simp only [sz_alloc, sz_set, sz_drew, sz_drewN] at *; omega)) _ | refine Below.setCell ?_ (by first | omega | (simp only [sz_alloc, sz_set, sz_drew, sz_drewN]; omega) | (simp only [sz_alloc, sz_set, sz_drew, sz_drewN] at *; omega)) _ | refine Below.drew ?_ | refine below_drewN_ ?_ _)) hse.out.size) (Nat.le_refl _) (by first | omega | (simp only [sz_alloc, sz_set, sz_drew, sz_drewN]; omega) | (simp only [sz_alloc, sz_set, sz_drew, sz_drewN] at *; omega))⟩
                                   have HA6 : Hid (Acc w6 wd.heap.size 94 D (l + 2) d (modRow l f m r true (decide (k + 1 = ms.length))) []) := Lib.hid hacc
                                   have hzz := HS6.out.size
                                   have QO := Lib.hid ((HS6.out.block _ (by omega)).trans HD.out.2.1)
                                   have QR := Lib.hid ((HS6.out.block _ (by omega)).trans HD.out.2.2)
                                   have k6 : w6.cell? ⟨w.heap.size + 1, 2, none⟩ = some (.slice A3 (f + r) c3) := cell_of_row w6 _ 2 _ _ (0, 0) QO.out
                                   have HX : Hid (Acc (w6.alloc (.cells #[.slice D (l + 2) d] 92)) (w.heap.size + 2) 92 A3 (f + r) c3 (modRows l ms k ++ modBlk l ms k r) bs3) := Lib.hid (HD.out.1.below (C := wd.heap.size) (by repeat (first | exact Below.refl _ _ | exact Since.out (by assumption) | refine Below.alloc ?_ (by first | omega | (simp only [sz_alloc, sz_set, sz_drew, sz_drewN]; omega) | (simp only [sz_alloc, sz_set, sz_drew, sz_drewN] at *; omega)) _ | refine Below.setCell ?_ (by first | omega | (simp only [sz_alloc, sz_set, sz_drew, sz_drewN]; omega) | (simp only [sz_alloc, sz_set, sz_drew, sz_drewN] at *; omega)) _ | refine Below.drew ?_ | refine below_drewN_ ?_ _)) (Nat.le_refl _))
                                   clear hacc hgr hnew)
                                | (at_builtin; obtain ⟨b2, hy, hf⟩ := (HA6.out.alloc (.cells #[.slice D (l + 2) d] 92)).row (by omega)
                                   refine wpList_push (α := List (Int × Int)) _ rfl (.tmp 134) (.tmp 136) 32 rfl (w.heap.size + 2) 92 (.slice none 0 0) 24 Try.underlying32 infoMoveSS rfl A3 (f + r) c3 _ bs3 rfl HX.out w6.heap.size 1 rfl (modRow l f m r true (decide (k + 1 = ms.length))) [.slice D (l + 2) d] b2 hy (new_cells (by first | rfl | simp [sz_set])) (fun u hu => by (simp at hu; subst hu; rfl)) ⟨hf.1, fun g hg => ⟨by have := (hf.2 g hg).1; omega, (hf.2 g hg).2⟩⟩ (HD.out.1.apart hf (Nat.le_refl _)) (by omega) (by omega) (by first | omega | (simp only [sz_alloc, sz_set, sz_drew, sz_drewN]; omega) | (simp only [sz_alloc, sz_set, sz_drew, sz_drewN] at *; omega)) ?_
                                   intro D3 d3 w9 hacc hgr hnew
                                   have hB1 := Lib.hid (HX.out.box hgr (alloc_block QO.out (by first | omega | (simp only [sz_alloc, sz_set, sz_drew, sz_drewN]; omega) | (simp only [sz_alloc, sz_set, sz_drew, sz_drewN] at *; omega))) (by omega))
                                   have hB2 := Lib.hid (HX.out.box hgr (alloc_block QR.out (by first | omega | (simp only [sz_alloc, sz_set, sz_drew, sz_drewN]; omega) | (simp only [sz_alloc, sz_set, sz_drew, sz_drewN] at *; omega))) (by omega))
                                   have f3 : w9.frozen? ⟨w.heap.size + 1, 2, none⟩ = false := blk_free hB1.out
                                   have k9 : w9.cell? ⟨w.heap.size + 1, 2, none⟩ = some (.slice A3 (f + r) c3) := cell_of_row w9 _ 2 _ _ (0, 0) hB1.out
                                   have HS9 : Since w w9 := ⟨Acc.since HX.out hgr (below_cat hsd.out (below_cat HS6.out (by repeat (first | exact Below.refl _ _ | refine Below.alloc ?_ (by first | omega | (simp only [sz_alloc, sz_set, sz_drew, sz_drewN]; omega) | (simp only [sz_alloc, sz_set, sz_drew, sz_drewN] at *; omega)) _ | refine Below.setCell ?_ (by first | omega | (simp only [sz_alloc, sz_set, sz_drew, sz_drewN]; omega) | (simp only [sz_alloc, sz_set, sz_drew, sz_drewN] at *; omega)) _ | refine Below.drew ?_ | refine below_drewN_ ?_ _)) HS6.out.size) hsd.out.size) (by omega) (by first | omega | (simp only [sz_alloc, sz_set, sz_drew, sz_drewN]; omega) | (simp only [sz_alloc, sz_set, sz_drew, sz_drewN] at *; omega))⟩
                                   have HA := Lib.hid hacc
                                   clear hacc hgr hnew hy hf))
                              go_roundw
                              case rel =>
                                refine ⟨r + 1, D3, d3, bs3 ++ b2, by omega, by go_num, Lib.hid ⟨?_, blk_set (i := 2) hB1.out _, blk_far hB2.out (by simp) _⟩, ⟨HS9.out.setCell (by simp) _⟩⟩
                                rw [modBlk_snoc, ← List.append_assoc, HFM.out.1, HFM.out.2, HRB.out]
                                exact HA.out.setCell (fun a ha e => by have := (HA.out.lt a ha).1; simp only at e; omega) (fun hm => by have := (HA.out.fresh.2 _ hm).1; simp only at this; omega) _
                              case measure => simp [intOf]; omega

                      · obtain rfl : m = r := by omega
                        have HBN : Hid (modRows l ms (k + 1) = modRows l ms k ++ modBlk l ms k m) := Lib.hid (by rw [← HFM.out.2]; rfl)
                        have HFN : Hid (f + m = fromAt ms (k + 1)) := Lib.hid (by rw [← HFM.out.1, ← HFM.out.2]; rfl)
                        go_wp2
                        go_roundw
                        case rel => exact ⟨k + 1, f + m, A3, c3, bs3, by omega, by go_num, by rw [evB_succ, HRB.out]; rfl, by go_num, HFN, Lib.hid ⟨by rw [HBN.out]; exact HD.out.1, HD.out.2⟩, hsd⟩
                        case measure => simp [intOf]; omega

                  | false =>
                    have HRB : Hid (evB k = false) := Lib.hid hb
                    clear hb
                    simp only [dirB]
                    go_wp2
                    go_loopw [13] (fun rv wr => ∃ (r : Nat) (A3 : Option Addr) (c3 : Nat) (bs : List Nat), r ≤ m ∧ rv = .int .i64 r ∧ Hid (Acc wr (w.heap.size + 2) 92 A3 (f + r) c3 (modRows l ms k ++ modBlk l ms k r) bs ∧ wr.heap[w.heap.size + 1]? = some (.cells #[.int .i64 l, .int .i64 0, .slice A3 (f + r) c3] 34 (0, 0)) ∧ wr.heap[w.heap.size]? = some (.cells #[.int .i64 0, .int .i64 0, .slice none 0 0] 34 (0, 0))) ∧ Since w wr) (fun i _ => m - (intOf i).toNat)
                    case atStart => exact ⟨0, A3, c3, bs, Nat.zero_le _, rfl, Lib.hid ⟨by simpa [modBlk] using HD.out.1, HD.out.2.1, HD.out.2.2⟩, hsc⟩
                    case round =>
                      obtain ⟨r, A3, c3, bs3, hr, rfl, HD, hsd⟩ := hrel
                      obtain ⟨wd, rfl⟩ : ∃ x, x = wr := ⟨_, rfl⟩
                      have hzd := hsd.out.size
                      have hzd2 : w.heap.size + 2 ≤ wd.heap.size := by have := (Array.getElem?_eq_some_iff.1 HD.out.2.1).1; omega
                      obtain ⟨_, _, ⟨⟩, _, cxd⟩ := (r1.up hsd.out).int HX0.out
                      by_cases hrm : r < m
                      · have s1 : (0 : Int) ≤ (r : Int) := by omega
                        have s2 : (r : Int) < (m : Int) := by omega
                        go_wp2
                        go_loopw [14, 15] (fun row av wr => ∃ (a : Nat) (A' : Option Addr) (c' : Nat), a ≤ l ∧ av = .int .i64 a ∧ row = .slice A' a c' ∧ Hid (Acc wr wd.heap.size 94 A' a c' (List.replicate a (modStep f m r false)) []) ∧ Since wd wr) (fun _ i _ => l - (intOf i).toNat)
                        case atStart => exact ⟨0, _, _, Nat.zero_le _, rfl, rfl, Lib.hid (Acc.empty_ (new_block rfl) (Nat.le_refl _)), ⟨(by repeat (first | exact Below.refl _ _ | refine Below.alloc ?_ (by first | omega | (simp only [sz_alloc, sz_set, sz_drew, sz_drewN]; omega) | (simp only [sz_alloc, sz_set, sz_drew, sz_drewN] at *; omega)) _ | refine Below.setCell ?_ (by first | omega | (simp only [sz_alloc, sz_set, sz_drew, sz_drewN]; omega) | (simp only [sz_alloc, sz_set, sz_drew, sz_drewN] at *; omega)) _ | refine Below.drew ?_ | refine below_drewN_ ?_ _))⟩⟩
                        case round =>
                          obtain ⟨a, A', c', hal, rfl, rfl, HW, hse⟩ := hrel
                          have hze := hse.out.size
                          have SE : Since w wr := ⟨below_cat hsd.out hse.out hsd.out.size⟩
                          obtain ⟨_, _, ⟨⟩, _, cxe⟩ := (r1.up SE.out).int HX0.out
                          by_cases hla : a < l
                          · have a1 : (0 : Int) ≤ (a : Int) := by omega
                            have a2 : (a : Int) < (l : Int) := by omega
                            have HWS : Hid (wrap64 ((f : Int) + ((r : Int) + 1) % (m : Int)) = ((f + (r + 1) % m : Nat) : Int)) := Lib.hid (by
                              have h1 : ((r : Int) + 1) % (m : Int) = (((r + 1) % m : Nat) : Int) := rfl
                              have h2 : (r + 1) % m < m := Nat.mod_lt _ (by omega)
                              rw [h1]; unfold wrap64; omega)
                            go_wp2_with (at_builtin; refine wpList_push (α := Int × Int) _ rfl (.tmp 80) (.tmp 92) 92 rfl wd.heap.size 94 (.agg #[.int .i64 0, .int .i64 0]) 16 Try.underlying92 infoMove rfl A' a c' _ [] rfl (HW.out.below (C := wr.heap.size) (by repeat (first | exact Below.refl _ _ | refine Below.alloc ?_ (by first | omega | (simp only [sz_alloc, sz_set, sz_drew, sz_drewN]; omega) | (simp only [sz_alloc, sz_set, sz_drew, sz_drewN] at *; omega)) _ | refine Below.setCell ?_ (by first | omega | (simp only [sz_alloc, sz_set, sz_drew, sz_drewN]; omega) | (simp only [sz_alloc, sz_set, sz_drew, sz_drewN] at *; omega)) _ | refine Below.drew ?_ | refine below_drewN_ ?_ _)) (Nat.le_refl _)) wr.heap.size 1 rfl (modStep f m r false) [.int .i64 (wrap64 ((f : Int) + ((r : Int) + 1) % (m : Int))), .int .i64 (-1)] [] (by rw [HWS.out]; exact ⟨rfl, rfl⟩) (new_cells (by first | rfl | simp [sz_set])) (fun u hu => by (simp at hu; rcases hu with rfl | rfl <;> rfl)) ⟨List.nodup_nil, fun g hg => by simp at hg⟩ (fun g hg => by simp at hg) (by omega) (by omega) (by first | omega | (simp only [sz_alloc, sz_set, sz_drew, sz_drewN]; omega) | (simp only [sz_alloc, sz_set, sz_drew, sz_drewN] at *; omega)) ?_
                                         intro D1 d1 w5 hacc hgr hnew
                                         have HS5 : Since wd w5 := ⟨Acc.since (HW.out.below (C := wr.heap.size) (by repeat (first | exact Below.refl _ _ | refine Below.alloc ?_ (by first | omega | (simp only [sz_alloc, sz_set, sz_drew, sz_drewN]; omega) | (simp only [sz_alloc, sz_set, sz_drew, sz_drewN] at *; omega)) _ | refine Below.setCell ?_ (by first | omega | (simp only [sz_alloc, sz_set, sz_drew, sz_drewN]; omega) | (simp only [sz_alloc, sz_set, sz_drew, sz_drewN] at *; omega)) _ | refine Below.drew ?_ | refine below_drewN_ ?_ _)) (Nat.le_refl _)) hgr (below_cat hse.out (by repeat (first | exact Below.refl _ _ | refine Below.alloc ?_ (by first | omega | (simp only [sz_alloc, sz_set, sz_drew, sz_drewN]; omega) | (simp only [sz_alloc, sz_set, sz_drew, sz_drewN] at *; omega)) _ | refine Below.setCell ?_ (by first | omega | (simp only [sz_alloc, sz_set, sz_drew, sz_drewN]; omega) | (simp only [sz_alloc, sz_set, sz_drew, sz_drewN] at *; omega)) _ | refine Below.drew ?_ | refine below_drewN_ ?_ _)) hse.out.size) (Nat.le_refl _) (by first | omega | (simp only [sz_alloc, sz_set, sz_drew, sz_drewN]; omega) | (simp only [sz_alloc, sz_set, sz_drew, sz_drewN] at *; omega))⟩
                                         have HA := Lib.hid hacc
                                         clear hacc hgr hnew)
                            go_roundw
                            case rel => exact ⟨a + 1, D1, d1, by omega, by go_num, rfl, Lib.hid (by rw [List.replicate_succ']; exact HA.out), HS5⟩
                            case measure => simp [intOf]; omega
                          · obtain rfl : l = a := by omega
                            have l9 : l ≤ 3 := by omega
                            by_cases hr0 : r = 0
                            · subst hr0
                              by_cases hlast : k + 1 = ms.length
                              · have HLB : Hid (decide (k + 1 = ms.length) = true) := Lib.hid (decide_eq_true hlast)
                                have q1 : ((k : Int) + 1 == (ms.length : Int)) = true := by simp; omega
                                clear hlast
                                have HE : Hid (modEnd f m 0 false true = ((-1), 0)) := Lib.hid (by unfold modEnd; simp [dirB])
                                have HON : Hid (modOn f 0 false = ((f : Int), (-1))) := Lib.hid (by unfold modOn; simp [dirB])
                                go_wp2_with (first
                                  | (at_builtin; refine wpList_cat (α := Int × Int) _ rfl (.tmp 128) (.tmp 131) 92 rfl wd.heap.size 94 (.agg #[.int .i64 0, .int .i64 0]) 16 Try.underlying92 infoMove rfl A' l c' _ [] rfl (HW.out.below (C := wr.heap.size) (by repeat (first | exact Below.refl _ _ | refine Below.alloc ?_ (by first | omega | (simp only [sz_alloc, sz_set, sz_drew, sz_drewN]; omega) | (simp only [sz_alloc, sz_set, sz_drew, sz_drewN] at *; omega)) _ | refine Below.setCell ?_ (by first | omega | (simp only [sz_alloc, sz_set, sz_drew, sz_drewN]; omega) | (simp only [sz_alloc, sz_set, sz_drew, sz_drewN] at *; omega)) _ | refine Below.drew ?_ | refine below_drewN_ ?_ _)) (Nat.le_refl _)) ⟨wr.heap.size + 1 + 1, 0, none⟩ 2 2 (by first | rfl | simp [Act.eval]) ([modEnd f m 0 false true, modOn f 0 false]) rfl [.int .i64 (-1), .int .i64 0, .int .i64 (f : Int), .int .i64 (-1)] (fun _ => Els_pairs.2 ⟨by rw [HE.out, HON.out]; rfl, rfl⟩) (fun j u hu => by (rw [add_lit, Nat.zero_add]; exact new_cells (by first | rfl | simp) j u hu)) (fun u hu => by (simp at hu; rcases hu with rfl | rfl | rfl | rfl <;> rfl)) (by omega) (by omega) (by omega) (by first | omega | (simp only [sz_alloc, sz_set, sz_drew, sz_drewN]; omega) | (simp only [sz_alloc, sz_set, sz_drew, sz_drewN] at *; omega)) ?_
                                     intro D d w6 hacc hgr hnew
                                     have HS6 : Since wd w6 := ⟨Acc.since (HW.out.below (C := wr.heap.size) (by repeat (first | exact Below.refl _ _ | refine Below.alloc ?_ (by first | omega | (simp only [sz_alloc, sz_set, sz_drew, sz_drewN]; omega) | (simp only [sz_alloc, sz_set, sz_drew, sz_drewN] at *; omega)) _ | refine Below.setCell ?_ (by first | omega | (simp only [sz_alloc, sz_set, sz_drew, sz_drewN]; omega) | (simp only [sz_alloc, sz_set, sz_drew, sz_drewN] at *; omega)) _ | refine Below.drew ?_ | refine below_drewN_ ?_ _)) (Nat.le_refl _)) hgr (below_cat hse.out (by repeat (first | exact Below.refl _ _ | refine Below.alloc ?_ (by first | omega | (simp only [sz_alloc, sz_set, sz_drew, sz_drewN]; omega) | (simp only [sz_alloc, sz_set, sz_drew, sz_drewN] at *; omega)) _ | refine Below.setCell ?_ (by first | omega | (simp only [sz_alloc, sz_set, sz_drew, sz_drewN]; omega) | (simp only [sz_alloc, sz_set, sz_drew, sz_drewN] at *; omega)) _ | refine Below.drew ?_ | refine below_drewN_ ?_ _)) hse.out.size) (Nat.le_refl _) (by first | omega | (simp only [sz_alloc, sz_set, sz_drew, sz_drewN]; omega) | (simp only [sz_alloc, sz_set, sz_drew, sz_drewN] at *; omega))⟩
                                     have HA6 : Hid (Acc w6 wd.heap.size 94 D (l + 2) d (modRow l f m 0 false true) []) := Lib.hid hacc
                                     have hzz := HS6.out.size
                                     have QO := Lib.hid ((HS6.out.block _ (by omega)).trans HD.out.2.1)
                                     have QR := Lib.hid ((HS6.out.block _ (by omega)).trans HD.out.2.2)
                                     have k6 : w6.cell? ⟨w.heap.size + 1, 2, none⟩ = some (.slice A3 (f + 0) c3) := cell_of_row w6 _ 2 _ _ (0, 0) QO.out
                                     have HX : Hid (Acc (w6.alloc (.cells #[.slice D (l + 2) d] 92)) (w.heap.size + 2) 92 A3 (f + 0) c3 (modRows l ms k ++ modBlk l ms k 0) bs3) := Lib.hid (HD.out.1.below (C := wd.heap.size) (by repeat (first | exact Below.refl _ _ | exact Since.out (by assumption) | refine Below.alloc ?_ (by first | omega | (simp only [sz_alloc, sz_set, sz_drew, sz_drewN]; omega) | (simp only [sz_alloc, sz_set, sz_drew, sz_drewN] at *; omega)) _ | refine Below.setCell ?_ (by first | omega | (simp only [sz_alloc, sz_set, sz_drew, sz_drewN]; omega) | (simp only [sz_alloc, sz_set, sz_drew, sz_drewN] at *; omega)) _ | refine Below.drew ?_ | refine below_drewN_ ?_ _)) (Nat.le_refl _))
                                     clear hacc hgr hnew)
                                  | (at_builtin; obtain ⟨b2, hy, hf⟩ := (HA6.out.alloc (.cells #[.slice D (l + 2) d] 92)).row (by omega)
                                     refine wpList_push (α := List (Int × Int)) _ rfl (.tmp 134) (.tmp 136) 32 rfl (w.heap.size + 2) 92 (.slice none 0 0) 24 Try.underlying32 infoMoveSS rfl A3 (f + 0) c3 _ bs3 rfl HX.out w6.heap.size 1 rfl (modRow l f m 0 false true) [.slice D (l + 2) d] b2 hy (new_cells (by first | rfl | simp [sz_set])) (fun u hu => by (simp at hu; subst hu; rfl)) ⟨hf.1, fun g hg => ⟨by have := (hf.2 g hg).1; omega, (hf.2 g hg).2⟩⟩ (HD.out.1.apart hf (Nat.le_refl _)) (by omega) (by omega) (by first | omega | (simp only [sz_alloc, sz_set, sz_drew, sz_drewN]; omega) | (simp only [sz_alloc, sz_set, sz_drew, sz_drewN] at *; omega)) ?_
                                     intro D3 d3 w9 hacc hgr hnew
                                     have hB1 := Lib.hid (HX.out.box hgr (alloc_block QO.out (by first | omega | (simp only [sz_alloc, sz_set, sz_drew, sz_drewN]; omega) | (simp only [sz_alloc, sz_set, sz_drew, sz_drewN] at *; omega))) (by omega))
                                     have hB2 := Lib.hid (HX.out.box hgr (alloc_block QR.out (by first | omega | (simp only [sz_alloc, sz_set, sz_drew, sz_drewN]; omega) | (simp only [sz_alloc, sz_set, sz_drew, sz_drewN] at *; omega))) (by omega))
                                     have f3 : w9.frozen? ⟨w.heap.size + 1, 2, none⟩ = false := blk_free hB1.out
                                     have k9 : w9.cell? ⟨w.heap.size + 1, 2, none⟩ = some (.slice A3 (f + 0) c3) := cell_of_row w9 _ 2 _ _ (0, 0) hB1.out
                                     have HS9 : Since w w9 := ⟨Acc.since HX.out hgr (below_cat hsd.out (below_cat HS6.out (by repeat (first | exact Below.refl _ _ | refine Below.alloc ?_ (by first | omega | (simp only [sz_alloc, sz_set, sz_drew, sz_drewN]; omega) | (simp only [sz_alloc, sz_set, sz_drew, sz_drewN] at *; omega)) _ | refine Below.setCell ?_ (by first | omega | (simp only [sz_alloc, sz_set, sz_drew, sz_drewN]; omega) | (simp only [sz_alloc, sz_set, sz_drew, sz_drewN] at *; omega)) _ | refine Below.drew ?_ | refine below_drewN_ ?_ _)) HS6.out.size) hsd.out.size) (by omega) (by first | omega | (simp only [sz_alloc, sz_set, sz_drew, sz_drewN]; omega) | (simp only [sz_alloc, sz_set, sz_drew, sz_drewN] at *; omega))⟩
                                     have HA := Lib.hid hacc
                                     clear hacc hgr hnew hy hf))
                                go_roundw
                                case rel =>
                                  refine ⟨0 + 1, D3, d3, bs3 ++ b2, by omega, by go_num, Lib.hid ⟨?_, blk_set (i := 2) hB1.out _, blk_far hB2.out (by simp) _⟩, ⟨HS9.out.setCell (by simp) _⟩⟩
                                  rw [modBlk_snoc, ← List.append_assoc, HFM.out.1, HFM.out.2, HRB.out, HLB.out]
                                  exact HA.out.setCell (fun a ha e => by have := (HA.out.lt a ha).1; simp only at e; omega) (fun hm => by have := (HA.out.fresh.2 _ hm).1; simp only at this; omega) _
                                case measure => simp [intOf]; omega

                              · have HLB : Hid (decide (k + 1 = ms.length) = false) := Lib.hid (decide_eq_false hlast)
                                have q1 : ((k : Int) + 1 == (ms.length : Int)) = false := beq_false_of_ne (by omega)
                                clear hlast
                                have HE : Hid (modEnd f m 0 false false = (((f : Int) + (m : Int)), 1)) := Lib.hid (by unfold modEnd; simp [dirB])
                                have HON : Hid (modOn f 0 false = ((f : Int), (-1))) := Lib.hid (by unfold modOn; simp [dirB])
                                go_wp2_with (first
                                  | (at_builtin; refine wpList_cat (α := Int × Int) _ rfl (.tmp 128) (.tmp 131) 92 rfl wd.heap.size 94 (.agg #[.int .i64 0, .int .i64 0]) 16 Try.underlying92 infoMove rfl A' l c' _ [] rfl (HW.out.below (C := wr.heap.size) (by repeat (first | exact Below.refl _ _ | refine Below.alloc ?_ (by first | omega | (simp only [sz_alloc, sz_set, sz_drew, sz_drewN]; omega) | (simp only [sz_alloc, sz_set, sz_drew, sz_drewN] at *; omega)) _ | refine Below.setCell ?_ (by first | omega | (simp only [sz_alloc, sz_set, sz_drew, sz_drewN]; omega) | (simp only [sz_alloc, sz_set, sz_drew, sz_drewN] at *; omega)) _ | refine Below.drew ?_ | refine below_drewN_ ?_ _)) (Nat.le_refl _)) ⟨wr.heap.size + 1 + 1, 0, none⟩ 2 2 (by first | rfl | simp [Act.eval]) ([modEnd f m 0 false false, modOn f 0 false]) rfl [.int .i64 ((f : Int) + (m : Int)), .int .i64 1, .int .i64 (f : Int), .int .i64 (-1)] (fun _ => Els_pairs.2 ⟨by rw [HE.out, HON.out]; rfl, rfl⟩) (fun j u hu => by (rw [add_lit, Nat.zero_add]; exact new_cells (by first | rfl | simp) j u hu)) (fun u hu => by (simp at hu; rcases hu with rfl | rfl | rfl | rfl <;> rfl)) (by omega) (by omega) (by omega) (by first | omega | (simp only [sz_alloc, sz_set, sz_drew, sz_drewN]; omega) | (simp only [sz_alloc, sz_set, sz_drew, sz_drewN] at *; omega)) ?_
                                     intro D d w6 hacc hgr hnew
                                     have HS6 : Since wd w6 := ⟨Acc.since (HW.out.below (C := wr.heap.size) (by repeat (first | exact Below.refl _ _ | refine Below.alloc ?_ (by first | omega | (simp only [sz_alloc, sz_set, sz_drew, sz_drewN]; omega) | (simp only [sz_alloc, sz_set, sz_drew, sz_drewN] at *; omega)) _ | refine Below.setCell ?_ (by first | omega | (simp only [sz_alloc, sz_set, sz_drew, sz_drewN]; omega) | (simp only [sz_alloc, sz_set, sz_drew, sz_drewN] at *; omega)) _ | refine Below.drew ?_ | refine below_drewN_ ?_ _)) (Nat.le_refl _)) hgr (below_cat hse.out (by repeat (first | exact Below.refl _ _ | refine Below.alloc ?_ (by first | omega | (simp only [sz_alloc, sz_set, sz_drew, sz_drewN]; omega) | (simp only [sz_alloc, sz_set, sz_drew, sz_drewN] at *; omega)) _ | refine Below.setCell ?_ (by first | omega | (simp only [sz_alloc, sz_set, sz_drew, sz_drewN]; omega) | (simp only [sz_alloc, sz_set, sz_drew, sz_drewN] at *; omega)) _ | refine Below.drew ?_ | refine below_drewN_ ?_ _)) hse.out.size) (Nat.le_refl _) (by first | omega | (simp only [sz_alloc, sz_set, sz_drew, sz_drewN]; omega) | (simp only [sz_alloc, sz_set, sz_drew, sz_drewN] at *; omega))⟩
                                     have HA6 : Hid (Acc w6 wd.heap.size 94 D (l + 2) d (modRow l f m 0 false false) []) := Lib.hid hacc
                                     have hzz := HS6.out.size
                                     have QO := Lib.hid ((HS6.out.block _ (by omega)).trans HD.out.2.1)
                                     have QR := Lib.hid ((HS6.out.block _ (by omega)).trans HD.out.2.2)
                                     have k6 : w6.cell? ⟨w.heap.size + 1, 2, none⟩ = some (.slice A3 (f + 0) c3) := cell_of_row w6 _ 2 _ _ (0, 0) QO.out
                                     have HX : Hid (Acc (w6.alloc (.cells #[.slice D (l + 2) d] 92)) (w.heap.size + 2) 92 A3 (f + 0) c3 (modRows l ms k ++ modBlk l ms k 0) bs3) := Lib.hid (HD.out.1.below (C := wd.heap.size) (by repeat (first | exact Below.refl _ _ | exact Since.out (by assumption) | refine Below.alloc ?_ (by first | omega | (simp only [sz_alloc, sz_set, sz_drew, sz_drewN]; omega) | (simp only [sz_alloc, sz_set, sz_drew, sz_drewN] at *; omega)) _ | refine Below.setCell ?_ (by first | omega | (simp only [sz_alloc, sz_set, sz_drew, sz_drewN]; omega) | (simp only [sz_alloc, sz_set, sz_drew, sz_drewN] at *; omega)) _ | refine Below.drew ?_ | refine below_drewN_ ?_ _)) (Nat.le_refl _))
                                     clear hacc hgr hnew)
                                  | (at_builtin; obtain ⟨b2, hy, hf⟩ := (HA6.out.alloc (.cells #[.slice D (l + 2) d] 92)).row (by omega)
                                     refine wpList_push (α := List (Int × Int)) _ rfl (.tmp 134) (.tmp 136) 32 rfl (w.heap.size + 2) 92 (.slice none 0 0) 24 Try.underlying32 infoMoveSS rfl A3 (f + 0) c3 _ bs3 rfl HX.out w6.heap.size 1 rfl (modRow l f m 0 false false) [.slice D (l + 2) d] b2 hy (new_cells (by first | rfl | simp [sz_set])) (fun u hu => by (simp at hu; subst hu; rfl)) ⟨hf.1, fun g hg => ⟨by have := (hf.2 g hg).1; omega, (hf.2 g hg).2⟩⟩ (HD.out.1.apart hf (Nat.le_refl _)) (by omega) (by omega) (by first | omega | (simp only [sz_alloc, sz_set, sz_drew, sz_drewN]; omega) | (simp only [sz_alloc, sz_set, sz_drew, sz_drewN] at *; omega)) ?_
                                     intro D3 d3 w9 hacc hgr hnew
                                     have hB1 := Lib.hid (HX.out.box hgr (alloc_block QO.out (by first | omega | (simp only [sz_alloc, sz_set, sz_drew, sz_drewN]; omega) | (simp only [sz_alloc, sz_set, sz_drew, sz_drewN] at *; omega))) (by omega))
                                     have hB2 := Lib.hid (HX.out.box hgr (alloc_block QR.out (by first | omega | (simp only [sz_alloc, sz_set, sz_drew, sz_drewN]; omega) | (simp only [sz_alloc, sz_set, sz_drew, sz_drewN] at *; omega))) (by omega))
                                     have f3 : w9.frozen? ⟨w.heap.size + 1, 2, none⟩ = false := blk_free hB1.out
                                     have k9 : w9.cell? ⟨w.heap.size + 1, 2, none⟩ = some (.slice A3 (f + 0) c3) := cell_of_row w9 _ 2 _ _ (0, 0) hB1.out
                                     have HS9 : Since w w9 := ⟨Acc.since HX.out hgr (below_cat hsd.out (below_cat HS6.out (by repeat (first | exact Below.refl _ _ | refine Below.alloc ?_ (by first | omega | (simp only [sz_alloc, sz_set, sz_drew, sz_drewN]; omega) | (simp only [sz_alloc, sz_set, sz_drew, sz_drewN] at *; omega)) _ | refine Below.setCell ?_ (by first | omega | (simp only [sz_alloc, sz_set, sz_drew, sz_drewN]; omega) | (simp only [sz_alloc, sz_set, sz_drew, sz_drewN] at *; omega)) _ | refine Below.drew ?_ | refine below_drewN_ ?_ _)) HS6.out.size) hsd.out.size) (by omega) (by first | omega | (simp only [sz_alloc, sz_set, sz_drew, sz_drewN]; omega) | (simp only [sz_alloc, sz_set, sz_drew, sz_drewN] at *; omega))⟩
                                     have HA := Lib.hid hacc
                                     clear hacc hgr hnew hy hf))
                                go_roundw
                                case rel =>
                                  refine ⟨0 + 1, D3, d3, bs3 ++ b2, by omega, by go_num, Lib.hid ⟨?_, blk_set (i := 2) hB1.out _, blk_far hB2.out (by simp) _⟩, ⟨HS9.out.setCell (by simp) _⟩⟩
                                  rw [modBlk_snoc, ← List.append_assoc, HFM.out.1, HFM.out.2, HRB.out, HLB.out]
                                  exact HA.out.setCell (fun a ha e => by have := (HA.out.lt a ha).1; simp only at e; omega) (fun hm => by have := (HA.out.fresh.2 _ hm).1; simp only at this; omega) _
                                case measure => simp [intOf]; omega

                            · have HR0 := Lib.hid hr0
                              have q1 : ((r : Int) == 0) = false := beq_false_of_ne (by omega)
                              clear hr0
                              have HE : Hid (modEnd f m r false (decide (k + 1 = ms.length)) = ((-2), 0)) := Lib.hid (by unfold modEnd; simp [dirB, HR0.out])
                              have HON : Hid (modOn f r false = (((f : Int) + (r : Int)), (-1))) := Lib.hid (by unfold modOn; simp [dirB])
                              go_wp2_with (first
                                | (at_builtin; refine wpList_cat (α := Int × Int) _ rfl (.tmp 128) (.tmp 131) 92 rfl wd.heap.size 94 (.agg #[.int .i64 0, .int .i64 0]) 16 Try.underlying92 infoMove rfl A' l c' _ [] rfl (HW.out.below (C := wr.heap.size) (by repeat (first | exact Below.refl _ _ | refine Below.alloc ?_ (by first | omega | (simp only [sz_alloc, sz_set, sz_drew, sz_drewN]; omega) | (simp only [sz_alloc, sz_set, sz_drew, sz_drewN] at *; omega)) _ | refine Below.setCell ?_ (by first | omega | (simp only [sz_alloc, sz_set, sz_drew, sz_drewN]; omega) | (simp only [sz_alloc, sz_set, sz_drew, sz_drewN] at *; omega)) _ | refine Below.drew ?_ | refine below_drewN_ ?_ _)) (Nat.le_refl _)) ⟨wr.heap.size + 1 + 1, 0, none⟩ 2 2 (by first | rfl | simp [Act.eval]) ([modEnd f m r false (decide (k + 1 = ms.length)), modOn f r false]) rfl [.int .i64 (-2), .int .i64 0, .int .i64 ((f : Int) + (r : Int)), .int .i64 (-1)] (fun _ => Els_pairs.2 ⟨by rw [HE.out, HON.out]; rfl, rfl⟩) (fun j u hu => by (rw [add_lit, Nat.zero_add]; exact new_cells (by first | rfl | simp) j u hu)) (fun u hu => by (simp at hu; rcases hu with rfl | rfl | rfl | rfl <;> rfl)) (by omega) (by omega) (by omega) (by first | omega | (simp only [sz_alloc, sz_set, sz_drew, sz_drewN]; omega) | (simp only [sz_alloc, sz_set, sz_drew, sz_drewN] at *; omega)) ?_
                                   intro D d w6 hacc hgr hnew
                                   have HS6 : Since wd w6 := ⟨Acc.since (HW.out.below (C := wr.heap.size) (by repeat (first | exact Below.refl _ _ | refine Below.alloc ?_ (by first | omega | (simp only [sz_alloc, sz_set, sz_drew, sz_drewN]; omega) | (simp only [sz_alloc, sz_set, sz_drew, sz_drewN] at *; omega)) _ | refine Below.setCell ?_ (by first | omega | (simp only [sz_alloc, sz_set, sz_drew, sz_drewN]; omega) | (simp only [sz_alloc, sz_set, sz_drew, sz_drewN] at *; omega)) _ | refine Below.drew ?_ | refine below_drewN_ ?_ _)) (Nat.le_refl _)) hgr (below_cat hse.out (by repeat (first | exact Below.refl _ _ | refine Below.alloc ?_ (by first | omega | (simp only [sz_alloc, sz_set, sz_drew, sz_drewN]; omega) | (simp only [sz_alloc, sz_set, sz_drew, sz_drewN] at *; omega)) _ | refine Below.setCell ?_ (by first | omega | (simp only [sz_alloc, sz_set, sz_drew, sz_drewN]; omega) | (simp only [sz_alloc, sz_set, sz_drew, sz_drewN] at *; omega)) _ | refine Below.drew ?_ | refine below_drewN_ ?_ _)) hse.out.size) (Nat.le_refl _) (by first | omega | (simp only [sz_alloc, sz_set, sz_drew, sz_drewN]; omega) | (simp only [sz_alloc, sz_set, sz_drew, sz_drewN] at *; omega))⟩
                                   have HA6 : Hid (Acc w6 wd.heap.size 94 D (l + 2) d (modRow l f m r false (decide (k + 1 = ms.length))) []) := Lib.hid hacc
                                   have hzz := HS6.out.size
                                   have QO := Lib.hid ((HS6.out.block _ (by omega)).trans HD.out.2.1)
                                   have QR := Lib.hid ((HS6.out.block _ (by omega)).trans HD.out.2.2)
                                   have k6 : w6.cell? ⟨w.heap.size + 1, 2, none⟩ = some (.slice A3 (f + r) c3) := cell_of_row w6 _ 2 _ _ (0, 0) QO.out
                                   have HX : Hid (Acc (w6.alloc (.cells #[.slice D (l + 2) d] 92)) (w.heap.size + 2) 92 A3 (f + r) c3 (modRows l ms k ++ modBlk l ms k r) bs3) := Lib.hid (HD.out.1.below (C := wd.heap.size) (by repeat (first | exact Below.refl _ _ | exact Since.out (by assumption) | refine Below.alloc ?_ (by first | omega | (simp only [sz_alloc, sz_set, sz_drew, sz_drewN]; omega) | (simp only [sz_alloc, sz_set, sz_drew, sz_drewN] at *; omega)) _ | refine Below.setCell ?_ (by first | omega | (simp only [sz_alloc, sz_set, sz_drew, sz_drewN]; omega) | (simp only [sz_alloc, sz_set, sz_drew, sz_drewN] at *; omega)) _ | refine Below.drew ?_ | refine below_drewN_ ?_ _)) (Nat.le_refl _))
                                   clear hacc hgr hnew)
                                | (at_builtin; obtain ⟨b2, hy, hf⟩ := (HA6.out.alloc (.cells #[.slice D (l + 2) d] 92)).row (by omega)
                                   refine wpList_push (α := List (Int × Int)) _ rfl (.tmp 134) (.tmp 136) 32 rfl (w.heap.size + 2) 92 (.slice none 0 0) 24 Try.underlying32 infoMoveSS rfl A3 (f + r) c3 _ bs3 rfl HX.out w6.heap.size 1 rfl (modRow l f m r false (decide (k + 1 = ms.length))) [.slice D (l + 2) d] b2 hy (new_cells (by first | rfl | simp [sz_set])) (fun u hu => by (simp at hu; subst hu; rfl)) ⟨hf.1, fun g hg => ⟨by have := (hf.2 g hg).1; omega, (hf.2 g hg).2⟩⟩ (HD.out.1.apart hf (Nat.le_refl _)) (by omega) (by omega) (by first | omega | (simp only [sz_alloc, sz_set, sz_drew, sz_drewN]; omega) | (simp only [sz_alloc, sz_set, sz_drew, sz_drewN] at *; omega)) ?_
                                   intro D3 d3 w9 hacc hgr hnew
                                   have hB1 := Lib.hid (HX.out.box hgr (alloc_block QO.out (by first | omega | (simp only [sz_alloc, sz_set, sz_drew, sz_drewN]; omega) | (simp only [sz_alloc, sz_set, sz_drew, sz_drewN] at *; omega))) (by omega))
                                   have hB2 := Lib.hid (HX.out.box hgr (alloc_block QR.out (by first | omega | (simp only [sz_alloc, sz_set, sz_drew, sz_drewN]; omega) | (simp only [sz_alloc, sz_set, sz_drew, sz_drewN] at *; omega))) (by omega))
                                   have f3 : w9.frozen? ⟨w.heap.size + 1, 2, none⟩ = false := blk_free hB1.out
                                   have k9 : w9.cell? ⟨w.heap.size + 1, 2, none⟩ = some (.slice A3 (f + r) c3) := cell_of_row w9 _ 2 _ _ (0, 0) hB1.out
                                   have HS9 : Since w w9 := ⟨Acc.since HX.out hgr (below_cat hsd.out (below_cat HS6.out (by repeat (first | exact Below.refl _ _ | refine Below.alloc ?_ (by first | omega | (simp only [sz_alloc, sz_set, sz_drew, sz_drewN]; omega) | (simp only [sz_alloc, sz_set, sz_drew, sz_drewN] at *; omega)) _ | refine Below.setCell ?_ (by first | omega | (simp only [sz_alloc, sz_set, sz_drew, sz_drewN]; omega) | (simp only [sz_alloc, sz_set, sz_drew, sz_drewN] at *; omega)) _ | refine Below.drew ?_ | refine below_drewN_ ?_ _)) HS6.out.size) hsd.out.size) (by omega) (by first | omega | (simp only [sz_alloc, sz_set, sz_drew, sz_drewN]; omega) | (simp only [sz_alloc, sz_set, sz_drew, sz_drewN] at *; omega))⟩
                                   have HA := Lib.hid hacc
                                   clear hacc hgr hnew hy hf))
                              go_roundw
                              case rel =>
                                refine ⟨r + 1, D3, d3, bs3 ++ b2, by omega, by go_num, Lib.hid ⟨?_, blk_set (i := 2) hB1.out _, blk_far hB2.out (by simp) _⟩, ⟨HS9.out.setCell (by simp) _⟩⟩
                                rw [modBlk_snoc, ← List.append_assoc, HFM.out.1, HFM.out.2, HRB.out]
                                exact HA.out.setCell (fun a ha e => by have := (HA.out.lt a ha).1; simp only at e; omega) (fun hm => by have := (HA.out.fresh.2 _ hm).1; simp only at this; omega) _
                              case measure => simp [intOf]; omega

                      · obtain rfl : m = r := by omega
                        have HBN : Hid (modRows l ms (k + 1) = modRows l ms k ++ modBlk l ms k m) := Lib.hid (by rw [← HFM.out.2]; rfl)
                        have HFN : Hid (f + m = fromAt ms (k + 1)) := Lib.hid (by rw [← HFM.out.1, ← HFM.out.2]; rfl)
                        go_wp2
                        go_roundw
                        case rel => exact ⟨k + 1, f + m, A3, c3, bs3, by omega, by go_num, by rw [evB_succ, HRB.out]; rfl, by go_num, HFN, Lib.hid ⟨by rw [HBN.out]; exact HD.out.1, HD.out.2⟩, hsd⟩
                        case measure => simp [intOf]; omega

                · obtain rfl : k = ms.length := by omega
                  obtain rfl : f = (modT l ms).moves.length := by rw [hf.out]; exact (modRows_len l ms ms.length).symm
                  have u0 : wc.cell? ⟨w.heap.size + 1, 0, none⟩ = some (.int .i64 l) := cell_of_row wc _ 0 _ _ (0, 0) HD.out.2.1
                  have u1 : wc.cell? ⟨w.heap.size + 1, 1, none⟩ = some (.int .i64 0) := cell_of_row wc _ 1 _ _ (0, 0) HD.out.2.1
                  have u2 : wc.cell? ⟨w.heap.size + 1, 2, none⟩ = some (.slice A3 (modT l ms).moves.length c3) := cell_of_row wc _ 2 _ _ (0, 0) HD.out.2.1
                  have v0 : wc.cell? ⟨w.heap.size, 0, none⟩ = some (.int .i64 0) := cell_of_row wc _ 0 _ _ (0, 0) HD.out.2.2
                  have v1 : wc.cell? ⟨w.heap.size, 1, none⟩ = some (.int .i64 0) := cell_of_row wc _ 1 _ _ (0, 0) HD.out.2.2
                  have v2 : wc.cell? ⟨w.heap.size, 2, none⟩ = some (.slice none 0 0) := cell_of_row wc _ 2 _ _ (0, 0) HD.out.2.2
                  have x0 : wc.frozen? ⟨w.heap.size, 0, none⟩ = false := blk_free HD.out.2.2
                  have x1 : wc.frozen? ⟨w.heap.size, 1, none⟩ = false := blk_free HD.out.2.2
                  have x2 : wc.frozen? ⟨w.heap.size, 2, none⟩ = false := blk_free HD.out.2.2
                  have hzc : w.heap.size + 1 < wc.heap.size := (Array.getElem?_eq_some_iff.1 HD.out.2.1).1
                  obtain ⟨bm, om, fm, _⟩ := HD.out.1.own
                  have RM : RdS wc wc.heap.size A3 (modT l ms).moves := om.rd (fun g hg => (fm.2 g hg).2)
                  have HT : Hid ((modT l ms).tot ≤ 1048576) := Lib.hid (modT_tot (by omega) (by have := HF12.out; omega))
                  have HM := Lib.hid (And.intro om fm)
                  clear om fm hf
                  by_cases hok : (modT l ms).okB = true
                  · have hC : Hid (modC l ms = modT l ms ∧ modCode l ms = 0) := Lib.hid (by unfold modC modCode orNil; rw [HIN.out, Int.toNat_natCast]; simp [HF12.out, hok])
                    have HOK := Lib.hid hok
                    clear hok
                    go_wp2_with fail
                    refine (l02Told_yes A3 c3 (modT l ms) _ (RM.up (by repeat (first | exact Below.refl _ _ | refine Below.alloc ?_ (by first | omega | (simp only [sz_alloc, sz_set, sz_drew, sz_drewN]; omega) | (simp only [sz_alloc, sz_set, sz_drew, sz_drewN] at *; omega)) _ | refine Below.setCell ?_ (by first | omega | (simp only [sz_alloc, sz_set, sz_drew, sz_drewN]; omega) | (simp only [sz_alloc, sz_set, sz_drew, sz_drewN] at *; omega)) _ | refine Below.drew ?_ | refine below_drewN_ ?_ _))) HT.out HOK.out).mono ?_
                    rintro e w3 ⟨rfl, hb3⟩
                    have HBw3 : Since w w3 := ⟨below_cat (by repeat (first | exact Below.refl _ _ | exact Since.out (by assumption) | refine Below.alloc ?_ (by first | omega | (simp only [sz_alloc, sz_set, sz_drew, sz_drewN]; omega) | (simp only [sz_alloc, sz_set, sz_drew, sz_drewN] at *; omega)) _ | refine Below.setCell ?_ (by first | omega | (simp only [sz_alloc, sz_set, sz_drew, sz_drewN]; omega) | (simp only [sz_alloc, sz_set, sz_drew, sz_drewN] at *; omega)) _ | refine Below.drew ?_ | refine below_drewN_ ?_ _)) hb3 (by first | omega | (simp only [sz_alloc, sz_set, sz_drew, sz_drewN]; omega) | (simp only [sz_alloc, sz_set, sz_drew, sz_drewN] at *; omega))⟩; have hzw3 := hb3.size; (try simp only [sz_alloc, sz_set, sz_drew, sz_drewN] at hzw3); have hcw3k0 := fun o => hb3.cell (p := ⟨w.heap.size, o, none⟩) (by first | omega | (simp only [sz_alloc, sz_set, sz_drew, sz_drewN]; omega) | (simp only [sz_alloc, sz_set, sz_drew, sz_drewN] at *; omega)); have hfw3k0 := fun o => hb3.frozen (p := ⟨w.heap.size, o, none⟩) (by first | omega | (simp only [sz_alloc, sz_set, sz_drew, sz_drewN]; omega) | (simp only [sz_alloc, sz_set, sz_drew, sz_drewN] at *; omega)); have hlw3k0 : w.heap.size < w3.heap.size := (by first | omega | (simp only [sz_alloc, sz_set, sz_drew, sz_drewN]; omega) | (simp only [sz_alloc, sz_set, sz_drew, sz_drewN] at *; omega))
                    go_wp2
                    refine bodyPost_ret (v := .tuple #[.agg #[.int .i64 l, .int .i64 0, .slice A3 (modT l ms).moves.length c3], .int .i64 0]) (by simp [results, Try.results29, go_sem, hcw3k0, v0, v1, v2, modT]) rfl
                      (by rw [hC.out.1, hC.out.2]; exact ⟨_, bm, rfl, ⟨A3, c3, bm, rfl, (HM.out.1.below hb3 (fun g hg => (HM.out.2.2 g hg).2)).only (bs' := [w.heap.size]) (by repeat (first | with_reducible exact OnlyB.refl _ _ | with_reducible refine OnlyB.setCell ?_ (by simp) _ | with_reducible refine OnlyB.alloc ?_ _ | with_reducible refine OnlyB.drew ?_ | refine OnlyB.trans ?_ (OnlyB.of_below (by assumption) _))) (fun g hg => by have := HM.out.2.2 g hg; simp; omega), rfl⟩, ⟨HM.out.2.1, fun g hg => by have := HM.out.2.2 g hg; simp only [sz_set]; omega⟩, (by repeat (first | exact Below.refl _ _ | exact Since.out (by assumption) | refine Below.alloc ?_ (by first | omega | (simp only [sz_alloc, sz_set, sz_drew, sz_drewN]; omega) | (simp only [sz_alloc, sz_set, sz_drew, sz_drewN] at *; omega)) _ | refine Below.setCell ?_ (by first | omega | (simp only [sz_alloc, sz_set, sz_drew, sz_drewN]; omega) | (simp only [sz_alloc, sz_set, sz_drew, sz_drewN] at *; omega)) _ | refine Below.drew ?_ | refine below_drewN_ ?_ _))⟩)
                  · have hok := Bool.not_eq_true _ |>.mp hok
                    have hC : Hid (modC l ms = nilTn ∧ modCode l ms = 3) := Lib.hid (by unfold modC modCode orNil; rw [HIN.out, Int.toNat_natCast]; simp [HF12.out, hok])
                    have HOK := Lib.hid hok
                    clear hok
                    go_wp2_with fail
                    refine (l02Told_no A3 c3 (modT l ms) _ (RM.up (by repeat (first | exact Below.refl _ _ | refine Below.alloc ?_ (by first | omega | (simp only [sz_alloc, sz_set, sz_drew, sz_drewN]; omega) | (simp only [sz_alloc, sz_set, sz_drew, sz_drewN] at *; omega)) _ | refine Below.setCell ?_ (by first | omega | (simp only [sz_alloc, sz_set, sz_drew, sz_drewN]; omega) | (simp only [sz_alloc, sz_set, sz_drew, sz_drewN] at *; omega)) _ | refine Below.drew ?_ | refine below_drewN_ ?_ _))) HT.out HOK.out).mono ?_
                    rintro e w3 ⟨rfl, hb3⟩
                    have HBw3 : Since w w3 := ⟨below_cat (by repeat (first | exact Below.refl _ _ | exact Since.out (by assumption) | refine Below.alloc ?_ (by first | omega | (simp only [sz_alloc, sz_set, sz_drew, sz_drewN]; omega) | (simp only [sz_alloc, sz_set, sz_drew, sz_drewN] at *; omega)) _ | refine Below.setCell ?_ (by first | omega | (simp only [sz_alloc, sz_set, sz_drew, sz_drewN]; omega) | (simp only [sz_alloc, sz_set, sz_drew, sz_drewN] at *; omega)) _ | refine Below.drew ?_ | refine below_drewN_ ?_ _)) hb3 (by first | omega | (simp only [sz_alloc, sz_set, sz_drew, sz_drewN]; omega) | (simp only [sz_alloc, sz_set, sz_drew, sz_drewN] at *; omega))⟩; have hzw3 := hb3.size; (try simp only [sz_alloc, sz_set, sz_drew, sz_drewN] at hzw3); have hcw3k0 := fun o => hb3.cell (p := ⟨w.heap.size, o, none⟩) (by first | omega | (simp only [sz_alloc, sz_set, sz_drew, sz_drewN]; omega) | (simp only [sz_alloc, sz_set, sz_drew, sz_drewN] at *; omega)); have hfw3k0 := fun o => hb3.frozen (p := ⟨w.heap.size, o, none⟩) (by first | omega | (simp only [sz_alloc, sz_set, sz_drew, sz_drewN]; omega) | (simp only [sz_alloc, sz_set, sz_drew, sz_drewN] at *; omega)); have hlw3k0 : w.heap.size < w3.heap.size := (by first | omega | (simp only [sz_alloc, sz_set, sz_drew, sz_drewN]; omega) | (simp only [sz_alloc, sz_set, sz_drew, sz_drewN] at *; omega))
                    go_wp2
                    exact bodyPost_ret (v := .tuple #[.agg #[.int .i64 0, .int .i64 0, .slice none 0 0], .int .i64 3]) (by simp [results, Try.results29, go_sem, hcw3k0, v0, v1, v2]) rfl
                      (by rw [hC.out.1, hC.out.2]; exact ⟨_, [], rfl, ⟨none, 0, [], rfl, .inl ⟨rfl, rfl⟩, rfl⟩, ⟨List.nodup_nil, fun g hg => by simp at hg⟩, (by repeat (first | exact Below.refl _ _ | exact Since.out (by assumption) | refine Below.alloc ?_ (by first | omega | (simp only [sz_alloc, sz_set, sz_drew, sz_drewN]; omega) | (simp only [sz_alloc, sz_set, sz_drew, sz_drewN] at *; omega)) _ | refine Below.setCell ?_ (by first | omega | (simp only [sz_alloc, sz_set, sz_drew, sz_drewN]; omega) | (simp only [sz_alloc, sz_set, sz_drew, sz_drewN] at *; omega)) _ | refine Below.drew ?_ | refine below_drewN_ ?_ _))⟩)

  · have hL := Bool.not_eq_true _ |>.mp hL
    have hC : Hid (modC L ms = nilTn ∧ modCode L ms = 2) := Lib.hid (by
      have : modIn L ms = false := by unfold modIn; rw [hL]; simp
      unfold modC modCode; rw [this]; simp)
    rw [hC.out.1, hC.out.2]
    go_enter Try.func29, Try.ntmps29
    go_wp2_with (go_at_call 78; refine (l00In_lit false _ _ _ _ hL).mono ?_; rintro e w1 ⟨rfl, rfl⟩)
    exact bodyPost_ret (v := .tuple #[.agg #[.int .i64 0, .int .i64 0, .slice none 0 0], .int .i64 2]) (by simp [results, Try.results29, go_sem, ]) rfl
      ⟨_, [], rfl, ⟨none, 0, [], rfl, .inl ⟨rfl, rfl⟩, rfl⟩, ⟨List.nodup_nil, fun g hg => by simp at hg⟩, (by repeat (first | exact Below.refl _ _ | exact Since.out (by assumption) | refine Below.alloc ?_ (by first | omega | (simp only [sz_alloc, sz_set, sz_drew, sz_drewN]; omega) | (simp only [sz_alloc, sz_set, sz_drew, sz_drewN] at *; omega)) _ | refine Below.setCell ?_ (by first | omega | (simp only [sz_alloc, sz_set, sz_drew, sz_drewN]; omega) | (simp only [sz_alloc, sz_set, sz_drew, sz_drewN] at *; omega)) _ | refine Below.drew ?_ | refine below_drewN_ ?_ _))⟩

end Go.Proofs.Ytepjgaakihhngaa
