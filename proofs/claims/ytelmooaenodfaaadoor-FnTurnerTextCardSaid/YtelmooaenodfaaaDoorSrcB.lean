/-
  Numbers drawn from the source. Conditions: those in each statement.
-/
import Derived.Test.YtelmooaenodfaaaDoorSrcA
set_option linter.unusedVariables false
set_option linter.unusedSimpArgs false
set_option maxRecDepth 100000
set_option maxHeartbeats 1000000
namespace Go.Proofs.YtelmooaenodfaaaDoor
open Go.RowKit

set_option maxHeartbeats 2000000 in
theorem pick_spec (S M m : Nat) (w : World) (h : Src w S M) (hM : M ≤ 1000000) (hm : 1 ≤ m) (hm2 : m ≤ 200) :
    Calls Tryd.prog 93 #[.pointer (some ⟨S, 0, none⟩), .int .i64 (m : Int)] w fun e w' => ∃ v : Nat, e = .returned (.int .i64 (v : Int)) ∧ v < m ∧ Src w' S (M + 1) ∧ OnlyB [S] w w' := by
  have HS := Lib.hid h
  by_cases h1 : m = 1
  · subst h1
    clear h
    go_enter Tryd.func93, Tryd.ntmps93
    go_wp2
    go_ret
    exact ⟨0, rfl, by omega, HS.out.more (by omega), OnlyB.refl _ _⟩
  · have i1 : ¬ (m : Int) ≤ 1 := by omega
    have i2 : ¬ (200 : Int) < (m : Int) := by omega
    have hne : ¬ (m : Int) = 0 := by omega
    have HN := Lib.hid (fun W hW => next_spec S M W hW hM)
    clear h h1
    go_enter Tryd.func93, Tryd.ntmps93
    go_wp2_with fail
    refine (HN.out _ HS.out).mono ?_
    rintro e w1 ⟨v, rfl, hv, hs1, ho1⟩
    obtain ⟨r, hrd⟩ : ∃ r, r = v % m := ⟨_, rfl⟩
    have hrm : r < m := hrd ▸ Nat.mod_lt _ (by omega)
    have hr : (v : Int) % (m : Int) = (r : Int) := by rw [hrd]; rfl
    have hr2 : Int.tmod (v : Int) (m : Int) = (r : Int) := by rw [Int.tmod_eq_emod_of_nonneg (by omega)]; exact hr
    have hw : IntKind.i64.wrap (r : Int) = (r : Int) := by rw [IntKind.wrap_i64]; omega
    have hw2 : wrap64 (r : Int) = (r : Int) := by unfold wrap64; omega
    have HS1 := Lib.hid hs1
    have HO1 := Lib.hid ho1
    clear hs1 ho1 hrd
    go_wp2
    go_ret
    exact ⟨r, rfl, hrm, HS1.out, HO1.out⟩
theorem one_spec (S M m : Nat) (w : World) (h : Src w S M) (hM : M ≤ 1000000) (hm : 1 ≤ m) (hm2 : m ≤ 200) :
    Calls Tryd.prog 131 #[.pointer (some ⟨S, 0, none⟩), .int .i64 (m : Int)] w fun e w' => ∃ b : Bool, e = .returned (.bool b) ∧ Src w' S (M + 1) ∧ OnlyB [S] w w' := by
  have HN := Lib.hid (pick_spec S M m w h hM hm hm2)
  clear h
  go_enter Tryd.func131, Tryd.ntmps131
  go_wp2_with fail
  refine HN.out.mono ?_
  rintro e w1 ⟨v, rfl, hv, hs1, ho1⟩
  have HS1 := Lib.hid hs1
  have HO1 := Lib.hid ho1
  clear hs1 ho1
  go_wp2
  go_ret
  exact ⟨_, rfl, HS1.out, HO1.out⟩
theorem among_spec (S M : Nat) (A : Option Addr) (c : Nat) (xs : List Int) (w : World) (h : Src w S M) (hM : M ≤ 1000000) (r : RdS w w.heap.size A xs) (hA : ∀ a, A = some a → a.block ≠ S) (h1 : 1 ≤ xs.length) (h2 : xs.length ≤ 200) :
    Calls Tryd.prog 130 #[.pointer (some ⟨S, 0, none⟩), .slice A xs.length c] w fun e w' => ∃ y ∈ xs, e = .returned (.int .i64 y) ∧ Src w' S (M + 1) ∧ OnlyB [S] w w' := by
  have HN := Lib.hid (pick_spec S M xs.length w h hM h1 h2)
  clear h
  go_enter Tryd.func130, Tryd.ntmps130
  go_wp2_with fail
  refine HN.out.mono ?_
  rintro e w1 ⟨v, rfl, hv, hs1, ho1⟩
  obtain ⟨y, hy⟩ := get_some hv
  obtain ⟨b, o, rfl, hb, cy⟩ := r.int hy
  have hbS := hA _ rfl
  have cy1 : w1.cell? ⟨b, o + v, none⟩ = some (.int .i64 y) := (World.cell?_of_block (a := ⟨b, o + v, none⟩) (ho1.block b hb (by simpa using hbS))).trans cy
  have hmem := List.mem_of_getElem? hy
  have i1 : (0 : Int) ≤ (v : Int) := by omega
  have i2 : (v : Int) < (xs.length : Int) := by omega
  have hz := ho1.size
  have hb1 : b < w1.heap.size := by omega
  have HS1 := Lib.hid hs1
  have HO1 := Lib.hid ho1
  clear hs1 ho1 hy hA
  go_wp2
  go_ret
  exact ⟨y, hmem, rfl, HS1.out, HO1.out⟩
end Go.Proofs.YtelmooaenodfaaaDoor
