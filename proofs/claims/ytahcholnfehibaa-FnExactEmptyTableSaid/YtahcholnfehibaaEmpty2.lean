/-
  Contracts of the program's and the reference's EmptyTable. Conditions: those in each statement.
-/
import Derived.Test.YtahcholnfehibaaEmpty
import Derived.Test.YtahcholnfehibaaBase
set_option linter.unusedVariables false
set_option linter.unusedSimpArgs false
set_option maxRecDepth 100000
namespace Go.Proofs.Ytahcholnfehibaa
open Go.RowKit

/-- It returns the table T and a code, the table in new memory. -/
def RetTbC (T : Tb) (code : Int) (w : World) (e : Ending) (w' : World) : Prop := ∃ v bs, e = .returned (.tuple #[v, .int .i64 code]) ∧ OwnTb w' v T bs ∧ Fresh w.heap.size w' bs ∧ Below w.heap.size w w'

theorem emptyTable_spec (n : Int) (w : World) : Calls Try.prog 12 #[.int .i64 n] w (RetTbC (if 1 ≤ n ∧ n ≤ 12 then emptyT n.toNat else ⟨[], []⟩) (if 1 ≤ n ∧ n ≤ 12 then 0 else 2) w) := by
  by_cases h : 1 ≤ n ∧ n ≤ 12
  · rw [if_pos h, if_pos h]
    obtain ⟨h1, h2⟩ := h
    obtain ⟨k, rfl⟩ := Int.eq_ofNat_of_zero_le (show 0 ≤ n by omega)
    rw [Int.toNat_natCast]
    go_enter Try.func12, Try.ntmps12
    go_wp2_with fail
    refine (l00In_yes k 1 12 _ h1 h2).mono ?_
    rintro e w1 ⟨rfl, rfl⟩
    go_wp2_with fail
    refine (l03Empty k _ (by omega)).mono ?_
    rintro e w2 ⟨v, bs, rfl, ho, hf, hb⟩
    have HBw2 : Since w w2 := ⟨below_cat (by repeat (first | exact Below.refl _ _ | exact Since.out (by assumption) | refine Below.alloc ?_ (by first | omega | (simp only [sz_alloc, sz_set, sz_drew, sz_drewN]; omega) | (simp only [sz_alloc, sz_set, sz_drew, sz_drewN] at *; omega)) _ | refine Below.setCell ?_ (by first | omega | (simp only [sz_alloc, sz_set, sz_drew, sz_drewN]; omega) | (simp only [sz_alloc, sz_set, sz_drew, sz_drewN] at *; omega)) _ | refine Below.drew ?_ | refine below_drewN_ ?_ _)) hb (by first | omega | (simp only [sz_alloc, sz_set, sz_drew, sz_drewN]; omega) | (simp only [sz_alloc, sz_set, sz_drew, sz_drewN] at *; omega))⟩; have hzw2 := hb.size; (try simp only [sz_alloc, sz_set, sz_drew, sz_drewN] at hzw2); have hcw2k0 := fun o => hb.cell (p := ⟨w.heap.size, o, none⟩) (by first | omega | (simp only [sz_alloc, sz_set, sz_drew, sz_drewN]; omega) | (simp only [sz_alloc, sz_set, sz_drew, sz_drewN] at *; omega)); have hfw2k0 := fun o => hb.frozen (p := ⟨w.heap.size, o, none⟩) (by first | omega | (simp only [sz_alloc, sz_set, sz_drew, sz_drewN]; omega) | (simp only [sz_alloc, sz_set, sz_drew, sz_drewN] at *; omega)); have hlw2k0 : w.heap.size < w2.heap.size := (by first | omega | (simp only [sz_alloc, sz_set, sz_drew, sz_drewN]; omega) | (simp only [sz_alloc, sz_set, sz_drew, sz_drewN] at *; omega))
    simp only [sz_alloc] at hf
    obtain ⟨A, c, A', c', b, b', rfl, o1, o2, rfl⟩ := ho
    go_wp2
    refine bodyPost_ret (v := .tuple #[.agg #[.slice A (emptyT k).l.length c, .slice A' (emptyT k).r.length c'], .int .i64 0]) (by simp [results, Try.results12, go_sem, hcw2k0]) rfl
      ⟨_, b ++ b', rfl, ⟨A, c, A', c', b, b', rfl, o1.only (bs' := [w.heap.size]) (by repeat (first | exact OnlyB.refl _ _ | refine OnlyB.setCell ?_ (by simp) _ | refine OnlyB.alloc ?_ _ | refine OnlyB.drew ?_ | refine OnlyB.trans ?_ (OnlyB.of_below (by assumption) _))) (fun g hg => ?_), o2.only (bs' := [w.heap.size]) (by repeat (first | exact OnlyB.refl _ _ | refine OnlyB.setCell ?_ (by simp) _ | refine OnlyB.alloc ?_ _ | refine OnlyB.drew ?_ | refine OnlyB.trans ?_ (OnlyB.of_below (by assumption) _))) (fun g hg => ?_), rfl⟩, ⟨hf.1, fun g hg => ?_⟩, (by repeat (first | exact Below.refl _ _ | exact Since.out (by assumption) | refine Below.alloc ?_ (by first | omega | (simp only [sz_alloc, sz_set, sz_drew, sz_drewN]; omega) | (simp only [sz_alloc, sz_set, sz_drew, sz_drewN] at *; omega)) _ | refine Below.setCell ?_ (by first | omega | (simp only [sz_alloc, sz_set, sz_drew, sz_drewN]; omega) | (simp only [sz_alloc, sz_set, sz_drew, sz_drewN] at *; omega)) _ | refine Below.drew ?_ | refine below_drewN_ ?_ _))⟩
    · have := hf.2 g (List.mem_append_left _ hg); simp; omega
    · have := hf.2 g (List.mem_append_right _ hg); simp; omega
    · have := hf.2 g hg; simp only [sz_set]; omega
  · rw [if_neg h, if_neg h]
    go_enter Try.func12, Try.ntmps12
    go_wp2_with fail
    refine (l00In_no n 1 12 _ h).mono ?_
    rintro e w1 ⟨rfl, rfl⟩
    go_wp2
    exact bodyPost_ret (v := .tuple #[.agg #[.slice none 0 0, .slice none 0 0], .int .i64 2]) (by simp [results, Try.results12, go_sem]) rfl
      ⟨_, [], rfl, ⟨none, 0, none, 0, [], [], rfl, .inl ⟨rfl, rfl⟩, .inl ⟨rfl, rfl⟩, rfl⟩, ⟨List.nodup_nil, fun g hg => by simp at hg⟩, (by repeat (first | exact Below.refl _ _ | exact Since.out (by assumption) | refine Below.alloc ?_ (by first | omega | (simp only [sz_alloc, sz_set, sz_drew, sz_drewN]; omega) | (simp only [sz_alloc, sz_set, sz_drew, sz_drewN] at *; omega)) _ | refine Below.setCell ?_ (by first | omega | (simp only [sz_alloc, sz_set, sz_drew, sz_drewN]; omega) | (simp only [sz_alloc, sz_set, sz_drew, sz_drewN] at *; omega)) _ | refine Below.drew ?_ | refine below_drewN_ ?_ _))⟩

theorem emptyTable_impl (n : Int) (w : World) : Calls Try.prog 13 #[.int .i64 n] w (RetTbC (if 1 ≤ n ∧ n ≤ 12 then emptyT n.toNat else ⟨[], []⟩) (if 1 ≤ n ∧ n ≤ 12 then 0 else 2) w) := by
  by_cases h : 1 ≤ n ∧ n ≤ 12
  · rw [if_pos h, if_pos h]
    obtain ⟨h1, h2⟩ := h
    obtain ⟨k, rfl⟩ := Int.eq_ofNat_of_zero_le (show 0 ≤ n by omega)
    rw [Int.toNat_natCast]
    go_enter Try.func13, Try.ntmps13
    go_wp2_with fail
    refine (within_yes k 1 12 _ h1 h2).mono ?_
    rintro e w1 ⟨rfl, rfl⟩
    go_wp2_with fail
    refine (emptyTable k _ (by omega)).mono ?_
    rintro e w2 ⟨v, bs, rfl, ho, hf, hb⟩
    have HBw2 : Since w w2 := ⟨below_cat (by repeat (first | exact Below.refl _ _ | exact Since.out (by assumption) | refine Below.alloc ?_ (by first | omega | (simp only [sz_alloc, sz_set, sz_drew, sz_drewN]; omega) | (simp only [sz_alloc, sz_set, sz_drew, sz_drewN] at *; omega)) _ | refine Below.setCell ?_ (by first | omega | (simp only [sz_alloc, sz_set, sz_drew, sz_drewN]; omega) | (simp only [sz_alloc, sz_set, sz_drew, sz_drewN] at *; omega)) _ | refine Below.drew ?_ | refine below_drewN_ ?_ _)) hb (by first | omega | (simp only [sz_alloc, sz_set, sz_drew, sz_drewN]; omega) | (simp only [sz_alloc, sz_set, sz_drew, sz_drewN] at *; omega))⟩; have hzw2 := hb.size; (try simp only [sz_alloc, sz_set, sz_drew, sz_drewN] at hzw2); have hcw2k0 := fun o => hb.cell (p := ⟨w.heap.size, o, none⟩) (by first | omega | (simp only [sz_alloc, sz_set, sz_drew, sz_drewN]; omega) | (simp only [sz_alloc, sz_set, sz_drew, sz_drewN] at *; omega)); have hfw2k0 := fun o => hb.frozen (p := ⟨w.heap.size, o, none⟩) (by first | omega | (simp only [sz_alloc, sz_set, sz_drew, sz_drewN]; omega) | (simp only [sz_alloc, sz_set, sz_drew, sz_drewN] at *; omega)); have hlw2k0 : w.heap.size < w2.heap.size := (by first | omega | (simp only [sz_alloc, sz_set, sz_drew, sz_drewN]; omega) | (simp only [sz_alloc, sz_set, sz_drew, sz_drewN] at *; omega))
    simp only [sz_alloc] at hf
    obtain ⟨A, c, A', c', b, b', rfl, o1, o2, rfl⟩ := ho
    go_wp2
    refine bodyPost_ret (v := .tuple #[.agg #[.slice A (emptyT k).l.length c, .slice A' (emptyT k).r.length c'], .int .i64 0]) (by simp [results, Try.results13, go_sem, hcw2k0]) rfl
      ⟨_, b ++ b', rfl, ⟨A, c, A', c', b, b', rfl, o1.only (bs' := [w.heap.size]) (by repeat (first | exact OnlyB.refl _ _ | refine OnlyB.setCell ?_ (by simp) _ | refine OnlyB.alloc ?_ _ | refine OnlyB.drew ?_ | refine OnlyB.trans ?_ (OnlyB.of_below (by assumption) _))) (fun g hg => ?_), o2.only (bs' := [w.heap.size]) (by repeat (first | exact OnlyB.refl _ _ | refine OnlyB.setCell ?_ (by simp) _ | refine OnlyB.alloc ?_ _ | refine OnlyB.drew ?_ | refine OnlyB.trans ?_ (OnlyB.of_below (by assumption) _))) (fun g hg => ?_), rfl⟩, ⟨hf.1, fun g hg => ?_⟩, (by repeat (first | exact Below.refl _ _ | exact Since.out (by assumption) | refine Below.alloc ?_ (by first | omega | (simp only [sz_alloc, sz_set, sz_drew, sz_drewN]; omega) | (simp only [sz_alloc, sz_set, sz_drew, sz_drewN] at *; omega)) _ | refine Below.setCell ?_ (by first | omega | (simp only [sz_alloc, sz_set, sz_drew, sz_drewN]; omega) | (simp only [sz_alloc, sz_set, sz_drew, sz_drewN] at *; omega)) _ | refine Below.drew ?_ | refine below_drewN_ ?_ _))⟩
    · have := hf.2 g (List.mem_append_left _ hg); simp; omega
    · have := hf.2 g (List.mem_append_right _ hg); simp; omega
    · have := hf.2 g hg; simp only [sz_set]; omega
  · rw [if_neg h, if_neg h]
    go_enter Try.func13, Try.ntmps13
    go_wp2_with fail
    refine (within_no n 1 12 _ h).mono ?_
    rintro e w1 ⟨rfl, rfl⟩
    go_wp2
    exact bodyPost_ret (v := .tuple #[.agg #[.slice none 0 0, .slice none 0 0], .int .i64 2]) (by simp [results, Try.results13, go_sem]) rfl
      ⟨_, [], rfl, ⟨none, 0, none, 0, [], [], rfl, .inl ⟨rfl, rfl⟩, .inl ⟨rfl, rfl⟩, rfl⟩, ⟨List.nodup_nil, fun g hg => by simp at hg⟩, (by repeat (first | exact Below.refl _ _ | exact Since.out (by assumption) | refine Below.alloc ?_ (by first | omega | (simp only [sz_alloc, sz_set, sz_drew, sz_drewN]; omega) | (simp only [sz_alloc, sz_set, sz_drew, sz_drewN] at *; omega)) _ | refine Below.setCell ?_ (by first | omega | (simp only [sz_alloc, sz_set, sz_drew, sz_drewN]; omega) | (simp only [sz_alloc, sz_set, sz_drew, sz_drewN] at *; omega)) _ | refine Below.drew ?_ | refine below_drewN_ ?_ _))⟩
end Go.Proofs.Ytahcholnfehibaa
