/-
  slices.Reverse of bytes. Conditions: those in the statement.
-/
import Derived.Test.YtpknkaidmefenaaFstMem
import Derived.Test.YtpknkaidmefenaaTail3
import Derived.BigQuiet
import Derived.Laws.OwnMore
set_option linter.unusedVariables false
set_option linter.unusedSimpArgs false
set_option maxRecDepth 100000
set_option maxHeartbeats 1000000
namespace Go.Proofs.Ytpknkaidmefenaa
open Go.RowKit

/-- Block g holds letters. -/
def ByBlk (w : World) (g : Nat) (t : TypeId) (n : Nat) (f : Nat → Nat) : Prop := ∃ cur : Array Value, w.heap[g]? = some (.cells cur t (0, 0)) ∧ ∀ j, j < n → cur[j]? = some (.int .u8 (97 + (f j : Int)))
section
variable {w w' : World} {g n i j : Nat} {t : TypeId} {f : Nat → Nat}
theorem ByBlk.cell (h : ByBlk w g t n f) (hj : j < n) : w.cell? ⟨g, j, none⟩ = some (.int .u8 (97 + (f j : Int))) := by
  obtain ⟨cur, h1, h2⟩ := h
  rw [cell_of_row w g j cur t (0, 0) h1]
  exact h2 j hj
theorem ByBlk.free (h : ByBlk w g t n f) : w.frozen? ⟨g, j, none⟩ = false := by
  obtain ⟨cur, h1, _⟩ := h
  exact blk_free h1
theorem ByBlk.lt (h : ByBlk w g t n f) : g < w.heap.size := by
  obtain ⟨cur, h1, _⟩ := h
  exact (Array.getElem?_eq_some_iff.1 h1).1
theorem ByBlk.keep (h : ByBlk w g t n f) (hk : w'.heap[g]? = w.heap[g]?) : ByBlk w' g t n f := by
  obtain ⟨cur, h1, h2⟩ := h
  exact ⟨cur, hk.trans h1, h2⟩
theorem ByBlk.congr {f' : Nat → Nat} (h : ByBlk w g t n f) (e : ∀ j, j < n → f j = f' j) : ByBlk w g t n f' := by
  obtain ⟨cur, h1, h2⟩ := h
  exact ⟨cur, h1, fun j hj => by rw [h2 j hj, e j hj]⟩
theorem ByBlk.swap (h : ByBlk w g t n f) (hi : i < n) (hj : j < n) : ByBlk ((w.setCell ⟨g, i, none⟩ (.int .u8 (97 + (f j : Int)))).setCell ⟨g, j, none⟩ (.int .u8 (97 + (f i : Int)))) g t n (fun k => if k = j then f i else if k = i then f j else f k) := by
  obtain ⟨cur, h1, h2⟩ := h
  refine ⟨_, blk_set (blk_set h1 _) _, fun k hk => ?_⟩
  have hlen : ∀ k, k < n → k < cur.size := fun k hk => (Array.getElem?_eq_some_iff.1 (h2 k hk)).1
  by_cases hkj : k = j
  · subst hkj
    simp [hlen k hk]
  · rw [Array.getElem?_setIfInBounds_ne (Ne.symm hkj)]
    by_cases hki : k = i
    · subst hki
      simp [hlen k hk, hkj]
    · rw [Array.getElem?_setIfInBounds_ne (Ne.symm hki), h2 k hk]
      simp [hkj, hki]
end
/-- k pairs are turned. -/
def revF (n k : Nat) (f : Nat → Nat) (j : Nat) : Nat := if j < k ∨ n ≤ j + k then f (n - 1 - j) else f j

theorem reverse_impl (g n c : Nat) (f : Nat → Nat) (w : World) (hn : n ≤ 100000) (h : ByBlk w g 5 n f) :
    Calls Try.prog 75 #[.slice (some ⟨g, 0, none⟩) n c] w fun e w' => e = .returned (.tuple #[]) ∧ OnlyB [g] w w' ∧ ByBlk w' g 5 n (fun j => f (n - 1 - j)) := by
  go_enter Try.func75, Try.ntmps75
  go_wp2
  go_loopw [2, 3] (fun iv jv wr => ∃ k : Nat, k ≤ n ∧ 2 * k ≤ n + 1 ∧ iv = .int .i64 (k : Int) ∧ jv = .int .i64 ((n : Int) - 1 - (k : Int)) ∧ Hid (ByBlk wr g 5 n (revF n k f)) ∧ Hid (OnlyB [g] w wr)) (fun iv _ _ => n - (intOf iv).toNat)
  case atStart => exact ⟨0, Nat.zero_le _, by omega, rfl, by go_num, Lib.hid (h.congr fun j hj => by unfold revF; rw [if_neg (by omega)]), Lib.hid (OnlyB.refl _ _)⟩
  case round =>
    obtain ⟨k, hk, hk2, rfl, rfl, H, HO⟩ := hrel
    obtain ⟨w1, rfl⟩ : ∃ w1, w1 = wr := ⟨_, rfl⟩
    by_cases hlt : 2 * k + 1 < n
    · obtain ⟨j, hj⟩ : ∃ j, j = n - 1 - k := ⟨_, rfl⟩
      have hji : (n : Int) - 1 - (k : Int) = (j : Int) := by omega
      rw [hji]
      have ci := H.out.cell (j := k) (by omega)
      have cj := H.out.cell (j := j) (by omega)
      have fi := H.out.free (j := k)
      have fj := H.out.free (j := j)
      have i0 : (k : Int) < (j : Int) := by omega
      have i1 : (0 : Int) ≤ (k : Int) := by omega
      have i2 : (0 : Int) ≤ (j : Int) := by omega
      have i3 : (k : Int) < (n : Int) := by omega
      have i4 : (j : Int) < (n : Int) := by omega
      have hg := H.out.lt
      obtain ⟨p, hp⟩ : ∃ p, p = revF n k f k := ⟨_, rfl⟩
      obtain ⟨q, hq⟩ : ∃ q, q = revF n k f j := ⟨_, rfl⟩
      rw [← hp] at ci
      rw [← hq] at cj
      have HS : Hid (∀ W : World, W.heap[g]? = w1.heap[g]? → ByBlk ((W.setCell ⟨g, k, none⟩ (.int .u8 (97 + (q : Int)))).setCell ⟨g, j, none⟩ (.int .u8 (97 + (p : Int)))) g 5 n (revF n (k + 1) f)) := Lib.hid fun W hW => by
        rw [hp, hq]
        refine ((H.out.keep hW).swap (i := k) (j := j) (by omega) (by omega)).congr fun l hl => ?_
        unfold revF
        by_cases h1 : l = j
        · subst h1
          rw [if_pos rfl, if_neg (by omega), if_pos (by omega), show n - 1 - l = k by omega]
        · rw [if_neg h1]
          by_cases h2 : l = k
          · subst h2
            rw [if_pos rfl, if_neg (by omega), if_pos (by omega), show n - 1 - l = j by omega]
          · rw [if_neg h2]
            by_cases h3 : l < k ∨ n ≤ l + k
            · rw [if_pos h3, if_pos (by omega)]
            · rw [if_neg h3, if_neg (by omega)]
      have hkj : k ≠ j := by omega
      clear hp hq hj
      go_wp2
      refine Held.begin (fun _ => True) 16 (by kernel_rfl) trivial (fun hHeld => ?_); (first | (refine Held.take3 (i := 2) (v := undef) (by (simp only [List.getElem?_toArray, List.getElem?_cons_succ, List.getElem?_cons_zero]); exact rfl) (by decide) (by kernel_rfl) (by kernel_rfl) (by kernel_rfl) (by kernel_rfl) (by exact fun _ _ _ h => h) (by exact Or.inr ⟨by rfl, rfl⟩) (by assumption) ?_) | (refine Held.take3 (i := 2) (v := ?_) (by (simp only [List.getElem?_toArray, List.getElem?_cons_succ, List.getElem?_cons_zero]); exact rfl) (by decide) (by kernel_rfl) (by kernel_rfl) (by kernel_rfl) (by kernel_rfl) (by exact fun _ _ _ h => h) (by refine Or.inl ⟨by rfl, ?_⟩; intro wS hSw; (try dsimp only at hSw); go_simp; (try with_reducible rfl)) (by assumption) ?_)); (try simp only [Act.put, List.setIfInBounds_toArray, List.set_cons_zero, List.set_cons_succ]); (first | (refine Held.take3 (i := 3) (v := undef) (by (simp only [List.getElem?_toArray, List.getElem?_cons_succ, List.getElem?_cons_zero]); exact rfl) (by decide) (by kernel_rfl) (by kernel_rfl) (by kernel_rfl) (by kernel_rfl) (by exact fun _ _ _ h => h) (by exact Or.inr ⟨by rfl, rfl⟩) (by assumption) ?_) | (refine Held.take3 (i := 3) (v := ?_) (by (simp only [List.getElem?_toArray, List.getElem?_cons_succ, List.getElem?_cons_zero]); exact rfl) (by decide) (by kernel_rfl) (by kernel_rfl) (by kernel_rfl) (by kernel_rfl) (by exact fun _ _ _ h => h) (by refine Or.inl ⟨by rfl, ?_⟩; intro wS hSw; (try dsimp only at hSw); go_simp; (try with_reducible rfl)) (by assumption) ?_)); (try simp only [Act.put, List.setIfInBounds_toArray, List.set_cons_zero, List.set_cons_succ]); refine Held.also (S := (fun w' => w'.cell? ⟨g, k, none⟩ = some (.int .u8 (97 + (p : Int))) ∧ w'.cell? ⟨g, j, none⟩ = some (.int .u8 (97 + (q : Int))))) (n := 12) ?_; refine Held.with_ (S := (fun w' => w'.cell? ⟨g, k, none⟩ = some (.int .u8 (97 + (p : Int))) ∧ w'.cell? ⟨g, j, none⟩ = some (.int .u8 (97 + (q : Int))))) (by (try dsimp only); (first | (go_keep; done) | (and_intros <;> go_simp))) (fun hHeld => ?_); (first | (refine Held.take3 (i := 0) (v := undef) (by (simp only [List.getElem?_toArray, List.getElem?_cons_succ, List.getElem?_cons_zero]); exact rfl) (by decide) (by kernel_rfl) (by kernel_rfl) (by kernel_rfl) (by kernel_rfl) (by exact fun _ _ _ h => h) (by exact Or.inr ⟨by rfl, rfl⟩) (by assumption) ?_) | (refine Held.take3 (i := 0) (v := ?_) (by (simp only [List.getElem?_toArray, List.getElem?_cons_succ, List.getElem?_cons_zero]); exact rfl) (by decide) (by kernel_rfl) (by kernel_rfl) (by kernel_rfl) (by kernel_rfl) (by exact fun _ _ _ h => h) (by refine Or.inl ⟨by rfl, ?_⟩; intro wS hSw; (try dsimp only at hSw); go_simp; (try with_reducible rfl)) (by assumption) ?_)); (try simp only [Act.put, List.setIfInBounds_toArray, List.set_cons_zero, List.set_cons_succ]); (first | (refine Held.take3 (i := 1) (v := undef) (by (simp only [List.getElem?_toArray, List.getElem?_cons_succ, List.getElem?_cons_zero]); exact rfl) (by decide) (by kernel_rfl) (by kernel_rfl) (by kernel_rfl) (by kernel_rfl) (by exact fun _ _ _ h => h) (by exact Or.inr ⟨by rfl, rfl⟩) (by assumption) ?_) | (refine Held.take3 (i := 1) (v := ?_) (by (simp only [List.getElem?_toArray, List.getElem?_cons_succ, List.getElem?_cons_zero]); exact rfl) (by decide) (by kernel_rfl) (by kernel_rfl) (by kernel_rfl) (by kernel_rfl) (by exact fun _ _ _ h => h) (by refine Or.inl ⟨by rfl, ?_⟩; intro wS hSw; (try dsimp only at hSw); go_simp; (try with_reducible rfl)) (by assumption) ?_)); (try simp only [Act.put, List.setIfInBounds_toArray, List.set_cons_zero, List.set_cons_succ]); (first | (refine Held.take3 (i := 4) (v := undef) (by (simp only [List.getElem?_toArray, List.getElem?_cons_succ, List.getElem?_cons_zero]); exact rfl) (by decide) (by kernel_rfl) (by kernel_rfl) (by kernel_rfl) (by kernel_rfl) (by exact fun _ _ _ h => h) (by exact Or.inr ⟨by rfl, rfl⟩) (by assumption) ?_) | (refine Held.take3 (i := 4) (v := ?_) (by (simp only [List.getElem?_toArray, List.getElem?_cons_succ, List.getElem?_cons_zero]); exact rfl) (by decide) (by kernel_rfl) (by kernel_rfl) (by kernel_rfl) (by kernel_rfl) (by exact fun _ _ _ h => h) (by refine Or.inl ⟨by rfl, ?_⟩; intro wS hSw; (try dsimp only at hSw); go_simp; (try with_reducible rfl)) (by assumption) ?_)); (try simp only [Act.put, List.setIfInBounds_toArray, List.set_cons_zero, List.set_cons_succ]); (first | (refine Held.take3 (i := 5) (v := undef) (by (simp only [List.getElem?_toArray, List.getElem?_cons_succ, List.getElem?_cons_zero]); exact rfl) (by decide) (by kernel_rfl) (by kernel_rfl) (by kernel_rfl) (by kernel_rfl) (by exact fun _ _ _ h => h) (by exact Or.inr ⟨by rfl, rfl⟩) (by assumption) ?_) | (refine Held.take3 (i := 5) (v := ?_) (by (simp only [List.getElem?_toArray, List.getElem?_cons_succ, List.getElem?_cons_zero]); exact rfl) (by decide) (by kernel_rfl) (by kernel_rfl) (by kernel_rfl) (by kernel_rfl) (by exact fun _ _ _ h => h) (by refine Or.inl ⟨by rfl, ?_⟩; intro wS hSw; (try dsimp only at hSw); go_simp; (try with_reducible rfl)) (by assumption) ?_)); (try simp only [Act.put, List.setIfInBounds_toArray, List.set_cons_zero, List.set_cons_succ]); (first | (refine Held.take3 (i := 6) (v := undef) (by (simp only [List.getElem?_toArray, List.getElem?_cons_succ, List.getElem?_cons_zero]); exact rfl) (by decide) (by kernel_rfl) (by kernel_rfl) (by kernel_rfl) (by kernel_rfl) (by exact fun _ _ _ h => h) (by exact Or.inr ⟨by rfl, rfl⟩) (by assumption) ?_) | (refine Held.take3 (i := 6) (v := ?_) (by (simp only [List.getElem?_toArray, List.getElem?_cons_succ, List.getElem?_cons_zero]); exact rfl) (by decide) (by kernel_rfl) (by kernel_rfl) (by kernel_rfl) (by kernel_rfl) (by exact fun _ _ _ h => h) (by refine Or.inl ⟨by rfl, ?_⟩; intro wS hSw; (try dsimp only at hSw); go_simp; (try with_reducible rfl)) (by assumption) ?_)); (try simp only [Act.put, List.setIfInBounds_toArray, List.set_cons_zero, List.set_cons_succ]); (first | (refine Held.take3 (i := 7) (v := undef) (by (simp only [List.getElem?_toArray, List.getElem?_cons_succ, List.getElem?_cons_zero]); exact rfl) (by decide) (by kernel_rfl) (by kernel_rfl) (by kernel_rfl) (by kernel_rfl) (by exact fun _ _ _ h => h) (by exact Or.inr ⟨by rfl, rfl⟩) (by assumption) ?_) | (refine Held.take3 (i := 7) (v := ?_) (by (simp only [List.getElem?_toArray, List.getElem?_cons_succ, List.getElem?_cons_zero]); exact rfl) (by decide) (by kernel_rfl) (by kernel_rfl) (by kernel_rfl) (by kernel_rfl) (by exact fun _ _ _ h => h) (by refine Or.inl ⟨by rfl, ?_⟩; intro wS hSw; (try dsimp only at hSw); go_simp; (try with_reducible rfl)) (by assumption) ?_)); (try simp only [Act.put, List.setIfInBounds_toArray, List.set_cons_zero, List.set_cons_succ]); (first | (refine Held.take3 (i := 8) (v := undef) (by (simp only [List.getElem?_toArray, List.getElem?_cons_succ, List.getElem?_cons_zero]); exact rfl) (by decide) (by kernel_rfl) (by kernel_rfl) (by kernel_rfl) (by kernel_rfl) (by exact fun _ _ _ h => h) (by exact Or.inr ⟨by rfl, rfl⟩) (by assumption) ?_) | (refine Held.take3 (i := 8) (v := ?_) (by (simp only [List.getElem?_toArray, List.getElem?_cons_succ, List.getElem?_cons_zero]); exact rfl) (by decide) (by kernel_rfl) (by kernel_rfl) (by kernel_rfl) (by kernel_rfl) (by exact fun _ _ _ h => h) (by refine Or.inl ⟨by rfl, ?_⟩; intro wS hSw; (try dsimp only at hSw); go_simp; (try with_reducible rfl)) (by assumption) ?_)); (try simp only [Act.put, List.setIfInBounds_toArray, List.set_cons_zero, List.set_cons_succ]); (first | (refine Held.take3 (i := 9) (v := undef) (by (simp only [List.getElem?_toArray, List.getElem?_cons_succ, List.getElem?_cons_zero]); exact rfl) (by decide) (by kernel_rfl) (by kernel_rfl) (by kernel_rfl) (by kernel_rfl) (by exact fun _ _ _ h => h) (by exact Or.inr ⟨by rfl, rfl⟩) (by assumption) ?_) | (refine Held.take3 (i := 9) (v := ?_) (by (simp only [List.getElem?_toArray, List.getElem?_cons_succ, List.getElem?_cons_zero]); exact rfl) (by decide) (by kernel_rfl) (by kernel_rfl) (by kernel_rfl) (by kernel_rfl) (by exact fun _ _ _ h => h) (by refine Or.inl ⟨by rfl, ?_⟩; intro wS hSw; (try dsimp only at hSw); go_simp; (try with_reducible rfl)) (by assumption) ?_)); (try simp only [Act.put, List.setIfInBounds_toArray, List.set_cons_zero, List.set_cons_succ]); (first | (refine Held.take3 (i := 10) (v := undef) (by (simp only [List.getElem?_toArray, List.getElem?_cons_succ, List.getElem?_cons_zero]); exact rfl) (by decide) (by kernel_rfl) (by kernel_rfl) (by kernel_rfl) (by kernel_rfl) (by exact fun _ _ _ h => h) (by exact Or.inr ⟨by rfl, rfl⟩) (by assumption) ?_) | (refine Held.take3 (i := 10) (v := ?_) (by (simp only [List.getElem?_toArray, List.getElem?_cons_succ, List.getElem?_cons_zero]); exact rfl) (by decide) (by kernel_rfl) (by kernel_rfl) (by kernel_rfl) (by kernel_rfl) (by exact fun _ _ _ h => h) (by refine Or.inl ⟨by rfl, ?_⟩; intro wS hSw; (try dsimp only at hSw); go_simp; (try with_reducible rfl)) (by assumption) ?_)); (try simp only [Act.put, List.setIfInBounds_toArray, List.set_cons_zero, List.set_cons_succ]); (first | (refine Held.take3 (i := 11) (v := undef) (by (simp only [List.getElem?_toArray, List.getElem?_cons_succ, List.getElem?_cons_zero]); exact rfl) (by decide) (by kernel_rfl) (by kernel_rfl) (by kernel_rfl) (by kernel_rfl) (by exact fun _ _ _ h => h) (by exact Or.inr ⟨by rfl, rfl⟩) (by assumption) ?_) | (refine Held.take3 (i := 11) (v := ?_) (by (simp only [List.getElem?_toArray, List.getElem?_cons_succ, List.getElem?_cons_zero]); exact rfl) (by decide) (by kernel_rfl) (by kernel_rfl) (by kernel_rfl) (by kernel_rfl) (by exact fun _ _ _ h => h) (by refine Or.inl ⟨by rfl, ?_⟩; intro wS hSw; (try dsimp only at hSw); go_simp; (try with_reducible rfl)) (by assumption) ?_)); (try simp only [Act.put, List.setIfInBounds_toArray, List.set_cons_zero, List.set_cons_succ]); refine Held.last (i := 12) (by (simp only [List.getElem?_toArray, List.getElem?_cons_succ, List.getElem?_cons_zero]); exact rfl) (by decide) (by kernel_rfl) (fun K hK => ?_); go_simp; refine hK.out _ _ ?_; clear hK K; (try simp only [Act.put, List.setIfInBounds_toArray, List.set_cons_zero, List.set_cons_succ]); refine Held.last (i := 13) (by (simp only [List.getElem?_toArray, List.getElem?_cons_succ, List.getElem?_cons_zero]); exact rfl) (by decide) (by kernel_rfl) (fun K hK => ?_); go_simp; refine hK.out _ _ ?_; clear hK K; (try simp only [Act.put, List.setIfInBounds_toArray, List.set_cons_zero, List.set_cons_succ]); refine Held.last (i := 14) (by (simp only [List.getElem?_toArray, List.getElem?_cons_succ, List.getElem?_cons_zero]); exact rfl) (by decide) (by kernel_rfl) (fun K hK => ?_); go_simp; refine hK.out _ _ ?_; clear hK K; (try simp only [Act.put, List.setIfInBounds_toArray, List.set_cons_zero, List.set_cons_succ]); refine Held.last (i := 15) (by (simp only [List.getElem?_toArray, List.getElem?_cons_succ, List.getElem?_cons_zero]); exact rfl) (by decide) (by kernel_rfl) (fun K hK => ?_); go_simp; refine hK.out _ _ ?_; clear hK K; (try simp only [Act.put, List.setIfInBounds_toArray, List.set_cons_zero, List.set_cons_succ]); refine Held.done (by kernel_rfl) ?_ _
      go_wp2
      go_roundw
      case rel => exact ⟨k + 1, by omega, by omega, by go_num, by go_num, Lib.hid (HS.out _ rfl), Lib.hid (((HO.out.setCell (by simp) _).setCell (by simp) _).drew)⟩
      case measure => (simp [intOf]; try omega)
    · have i0 : ¬ (k : Int) < (n : Int) - 1 - (k : Int) := by omega
      go_wp2
      go_end0
      exact ⟨rfl, HO.out, H.out.congr fun j hj => by
        unfold revF
        by_cases hc : j < k ∨ n ≤ j + k
        · rw [if_pos hc]
        · rw [if_neg hc, show n - 1 - j = j by omega]⟩
end Go.Proofs.Ytpknkaidmefenaa
