/-
  Where all of a list of pairs lies; slices.Clone of lists of pairs. Conditions: those in each statement.
-/
import Derived.Test.YtepjgaakihhngaaCat
import Derived.Test.YtepjgaakihhngaaPExit
import Derived.Test.YtepjgaakihhngaaPMove
import Derived.StillTailTactics
import Derived.Lib.SliceRun
import Derived.Deep.RegionWith
set_option linter.unusedVariables false
set_option linter.unusedSimpArgs false
set_option maxRecDepth 100000
set_option maxHeartbeats 1000000
namespace Go.Proofs.Ytepjgaakihhngaa
open Go.RowKit

theorem flat_get : ∀ {xs : List (Int × Int)} {j : Nat} {u : Value}, (xs.flatMap encP)[j]? = some u → ∃ x, xs[j / 2]? = some x ∧ (encP x)[j % 2]? = some u
  | [], j, u, h => by simp at h
  | x :: xs, 0, u, h => ⟨x, by simp, by simpa [encP] using h⟩
  | x :: xs, 1, u, h => ⟨x, by simp, by simpa [encP] using h⟩
  | x :: xs, j + 2, u, h => by
    have h' : (xs.flatMap encP)[j]? = some u := by simpa [encP] using h
    obtain ⟨y, h1, h2⟩ := flat_get h'
    exact ⟨y, by rw [show (j + 2) / 2 = j / 2 + 1 by omega]; simpa using h1, by rw [show (j + 2) % 2 = j % 2 by omega]; exact h2⟩
theorem RdS.pairs {w : World} {B : Nat} {A : Option Addr} {xs : List (Int × Int)} (h : RdS w B A xs) (hn : 0 < xs.length) : ∃ b o, A = some ⟨b, o, none⟩ ∧ b < B ∧ ∀ j u, (xs.flatMap encP)[j]? = some u → w.cell? ((⟨b, o, none⟩ : Addr).add j) = some u := by
  obtain ⟨x0, hx0⟩ := get_some hn
  obtain ⟨b, o, e, hb, _⟩ := h.pair hx0
  refine ⟨b, o, e, hb, fun j u hu => ?_⟩
  obtain ⟨x, hx, hx'⟩ := flat_get hu
  obtain ⟨b', o', e', _, hc1, hc2⟩ := h.pair hx
  rw [e] at e'
  injection e' with e'
  injection e' with e1 e2
  subst e1; subst e2
  rw [add_lit]
  rcases (show j % 2 = 0 ∨ j % 2 = 1 by omega) with h0 | h0
  · rw [h0] at hx'
    simp [encP] at hx'
    rw [← hx', show o + j = o + j / 2 * 2 by omega]
    exact hc1
  · rw [h0] at hx'
    simp [encP] at hx'
    rw [← hx', show o + j = o + j / 2 * 2 + 1 by omega]
    exact hc2
theorem flat_one {xs : List (Int × Int)} : ∀ u ∈ xs.flatMap encP, u.oneCell' = true := fun u hu => by
  obtain ⟨x, _, hx⟩ := List.mem_flatMap.1 hu
  simp [encP] at hx
  rcases hx with rfl | rfl <;> rfl

/-- slices.Clone of a list of exits that is not empty. -/
theorem cloneExits (A : Option Addr) (xs : List (Int × Int)) (c : Nat) (w : World) (r : RdS w w.heap.size A xs) (hn : 0 < xs.length) (hl : xs.length ≤ 1048576) :
    Calls Try.prog 151 #[.slice A xs.length c] w (RetOwn xs w) := by
  obtain ⟨b, o, rfl, hb, hc⟩ := r.pairs hn
  have HC := Lib.hid hc
  clear hc
  have q : ∀ (w : World) (a : Option Addr) (n c n' c' : Nat), (binOp .eql 77 (.slice a n c) (.slice none n' c')).run Try.prog w = .ok (.bool a.isNone) w := fun w a n c n' c' => Go.Lib.run_eql_slice_nil w _ _ a n c n' c' Try.underlying77
  go_enter Try.func151, Try.ntmps151
  go_wp2_with (at_builtin; refine wpList_cat (α := Int × Int) _ rfl (.tmp 5) (.tmp 6) 77 rfl w.heap.size 141 (.agg #[.int .i64 0, .int .i64 0]) 16 Try.underlying77 infoExit rfl (some ⟨w.heap.size, 0, none⟩) 0 0 ([] : List (Int × Int)) [] rfl (Acc.empty_ (new_block rfl) (Nat.le_refl _)) ⟨b, o, none⟩ xs.length c rfl xs rfl (xs.flatMap encP) (fun _ => Els_pairs.2 ⟨rfl, rfl⟩) (fun j u hu => by have h := HC.out j u hu; rw [add_lit] at h ⊢; exact (Below.cell ((Below.refl _ w).alloc (Nat.le_refl _) _) (p := ⟨b, o + j, none⟩) hb).trans h) flat_one (by omega) (by omega) (by omega) (by first | omega | (simp only [sz_alloc, sz_set, sz_drew, sz_drewN]; omega) | (simp only [sz_alloc, sz_set, sz_drew, sz_drewN] at *; omega)) ?_
               intro D d w1 hacc hgr hnew
               have HS : Since w w1 := ⟨Below.grown (by repeat (first | exact Below.refl _ _ | refine Below.alloc ?_ (by first | omega | (simp only [sz_alloc, sz_set, sz_drew, sz_drewN]; omega) | (simp only [sz_alloc, sz_set, sz_drew, sz_drewN] at *; omega)) _ | refine Below.setCell ?_ (by first | omega | (simp only [sz_alloc, sz_set, sz_drew, sz_drewN]; omega) | (simp only [sz_alloc, sz_set, sz_drew, sz_drewN] at *; omega)) _ | refine Below.drew ?_ | refine below_drewN_ ?_ _)) hgr (by first | omega | (simp only [sz_alloc, sz_set, sz_drew, sz_drewN]; omega) | (simp only [sz_alloc, sz_set, sz_drew, sz_drewN] at *; omega)) (fun g hg => by simp at hg; omega)⟩
               have HA := Lib.hid hacc
               clear hacc hgr hnew)
  go_ret
  have hA := HA.out
  rw [List.nil_append, Nat.zero_add] at hA
  obtain ⟨b2, o2, f2, _⟩ := hA.own
  exact ⟨D, d, b2, rfl, o2, f2, HS.out⟩
end Go.Proofs.Ytepjgaakihhngaa
