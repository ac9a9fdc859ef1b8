/-
  A block of pairs that is known whole; contract of slices.Repeat of one move. Conditions: those in each statement.
-/
import Derived.Test.YtepjgaakihhngaaCat2
import Derived.Test.YtepjgaakihhngaaCopy2
import Derived.Test.YtepjgaakihhngaaTail
import Derived.Test.YtepjgaakihhngaaInts
import Derived.Deep.RegionHeld3
set_option linter.unusedVariables false
set_option linter.unusedSimpArgs false
set_option maxRecDepth 100000
set_option maxHeartbeats 1000000
namespace Go.Proofs.Ytepjgaakihhngaa
open Go.RowKit

/-- Block g holds the pairs xs. -/
def Pairs (w : World) (g : Nat) (t : TypeId) (xs : List (Int × Int)) : Prop := w.heap[g]? = some (.cells (xs.flatMap encP).toArray t (0, 0))
section
variable {w w' : World} {g k : Nat} {t : TypeId} {xs : List (Int × Int)}
theorem flat_at : ∀ {xs : List (Int × Int)} {k : Nat} {x : Int × Int}, xs[k]? = some x → (xs.flatMap encP)[k * 2]? = some (.int .i64 x.1) ∧ (xs.flatMap encP)[k * 2 + 1]? = some (.int .i64 x.2)
  | [], _, _, h => by simp at h
  | y :: ys, 0, x, h => by simp at h; subst h; simp [encP]
  | y :: ys, k + 1, x, h => by
    have := flat_at (xs := ys) (k := k) (by simpa using h)
    rw [show (k + 1) * 2 = k * 2 + 2 by omega]
    simpa [encP] using this
theorem flat_set : ∀ {xs : List (Int × Int)} {k : Nat} (a b : Int), k < xs.length → ((xs.flatMap encP).set (k * 2) (.int .i64 a)).set (k * 2 + 1) (.int .i64 b) = (xs.set k (a, b)).flatMap encP
  | [], _, _, _, h => by simp at h
  | y :: ys, 0, a, b, _ => by simp [encP]
  | y :: ys, k + 1, a, b, h => by
    have := flat_set (xs := ys) (k := k) a b (by simpa using h)
    rw [show (k + 1) * 2 = k * 2 + 2 by omega]
    simp only [List.flatMap_cons, encP, List.cons_append, List.nil_append, List.set_cons_succ, ← this]
theorem Pairs.cell (h : Pairs w g t xs) {x : Int × Int} (hx : xs[k]? = some x) : w.cell? ⟨g, k * 2, none⟩ = some (.int .i64 x.1) ∧ w.cell? ⟨g, k * 2 + 1, none⟩ = some (.int .i64 x.2) := by
  rw [cell_of_row w g _ _ t (0, 0) h, cell_of_row w g _ _ t (0, 0) h]
  have := flat_at hx
  simpa using this
theorem Pairs.free (h : Pairs w g t xs) : w.frozen? ⟨g, k, none⟩ = false := blk_free h
theorem Pairs.lt (h : Pairs w g t xs) : g < w.heap.size := (Array.getElem?_eq_some_iff.1 h).1
theorem Pairs.set (h : Pairs w g t xs) (hk : k < xs.length) (a b : Int) : Pairs ((w.setCell ⟨g, k * 2, none⟩ (.int .i64 a)).setCell ⟨g, k * 2 + 1, none⟩ (.int .i64 b)) g t (xs.set k (a, b)) := by
  have h1 := blk_set (i := k * 2 + 1) (blk_set (i := k * 2) h (.int .i64 a)) (.int .i64 b)
  unfold Pairs
  rw [h1, List.setIfInBounds_toArray, List.setIfInBounds_toArray, flat_set a b hk]
theorem Pairs.keep (h : Pairs w g t xs) (hk : w'.heap[g]? = w.heap[g]?) : Pairs w' g t xs := hk.trans h
theorem Pairs.far (h : Pairs w g t xs) {p : Addr} (hp : g ≠ p.block) (u : Value) : Pairs (w.setCell p u) g t xs := blk_far h hp u
theorem Pairs.own (h : Pairs w g t xs) : OwnS w (some ⟨g, 0, none⟩) xs [g] := by
  refine OwnS.of (m := xs.length * 2) h ?_
  have : (xs.flatMap encP).toArray.toList.take (xs.length * 2) = xs.flatMap encP := List.take_of_length_le (by rw [encP_length]; exact Nat.le_refl _)
  rw [this]
  exact Els_pairs.2 ⟨rfl, rfl⟩
end

/-- the first k of n are x -/
def rpt (n k : Nat) (x : Int × Int) : List (Int × Int) := List.replicate k x ++ List.replicate (n - k) (0, 0)
theorem rpt_len {n k : Nat} (x : Int × Int) (h : k ≤ n) : (rpt n k x).length = n := by simp [rpt]; omega
theorem rpt_end (n : Nat) (x : Int × Int) : rpt n n x = List.replicate n x := by simp [rpt]
theorem rpt_copy {n k m : Nat} (x : Int × Int) (h : k + m ≤ n) : ((rpt n k x).flatMap encP).take (k * 2) ++ (List.replicate m x).flatMap encP ++ ((rpt n k x).flatMap encP).drop (k * 2 + ((List.replicate m x).flatMap encP).length) = (rpt n (k + m) x).flatMap encP := by
  have l1 : ((List.replicate k x).flatMap encP).length = k * 2 := by rw [encP_length]; simp
  have l2 : ((List.replicate m x).flatMap encP).length = m * 2 := by rw [encP_length]; simp
  have l3 : ((List.replicate m ((0, 0) : Int × Int)).flatMap encP).length = m * 2 := by rw [encP_length]; simp
  have e : List.replicate (n - k) ((0, 0) : Int × Int) = List.replicate m (0, 0) ++ List.replicate (n - (k + m)) (0, 0) := by rw [List.replicate_append_replicate]; congr 1; omega
  unfold rpt
  rw [e, List.flatMap_append, List.flatMap_append, List.flatMap_append, ← List.replicate_append_replicate, List.flatMap_append, List.take_left' l1, l2, Nat.add_comm (k * 2), ← List.drop_drop, List.drop_drop, Nat.add_comm (m * 2), ← List.drop_drop, List.drop_left' l1, List.drop_left' l3]
theorem rpt_src {n k m : Nat} (x : Int × Int) (h : m ≤ k) {j : Nat} {v : Value} (hj : ((List.replicate m x).flatMap encP)[j]? = some v) : ((rpt n k x).flatMap encP)[j]? = some v := by
  have e : List.replicate k x = List.replicate m x ++ List.replicate (k - m) x := by rw [List.replicate_append_replicate]; congr 1; omega
  have hl := (List.getElem?_eq_some_iff.1 hj).1
  unfold rpt
  rw [e, List.append_assoc, List.flatMap_append, List.getElem?_append_left hl]
  exact hj
theorem made_pairs (n : Nat) (h : n = 3 ∨ n = 4 ∨ n = 5) : madeCells (Value.agg #[.int .i64 0, .int .i64 0]).cells (n * 2) = ((rpt n 0 (0, 0)).flatMap encP).toArray := by
  rcases h with rfl | rfl | rfl <;> kernel_rfl

theorem sizeMove2 : (Try.prog.info? 94).map (·.size) = some 2 := by kernel_rfl
theorem bitsMul (n : Int) (w : World) (h : n = 3 ∨ n = 4 ∨ n = 5) : Calls Try.prog 132 #[.int .u64 1, .int .u64 n] w fun e w' => e = .returned (.tuple #[.int .u64 0, .int .u64 n]) ∧ w = w' := by
  rcases h with rfl | rfl | rfl <;>
  · go_enter Try.func132, Try.ntmps132
    go_wp2
    go_ret2
    refine ⟨?_, rfl⟩
    kernel_rfl

set_option maxHeartbeats 4000000 in
theorem repMoves (g o : Nat) (x : Int × Int) (n : Nat) (w : World) (h0 : w.cell? ⟨g, o, none⟩ = some (.int .i64 x.1)) (h1 : w.cell? ⟨g, o + 1, none⟩ = some (.int .i64 x.2)) (hg : g < w.heap.size) (hn : n = 3 ∨ n = 4 ∨ n = 5) :
    Calls Try.prog 83 #[.slice (some ⟨g, o, none⟩) 1 1, .int .i64 n] w fun e w' => ∃ R, e = .returned (.slice (some ⟨R, 0, none⟩) n n) ∧ Pairs w' R 94 (List.replicate n x) ∧ w.heap.size ≤ R ∧ Below w.heap.size w w' := by
  have hmk : ∀ W : World, (Instr.makeSlice 92 (.int .i64 n) (.int .i64 n)).run Try.prog W = .ok (.slice (some ⟨W.heap.size, 0, none⟩) n n) (W.alloc (.cells ((rpt n 0 x).flatMap encP).toArray 94)) := fun W => by
    have h := make_full (P := Try.prog) 92 94 _ _ _ _ Try.underlying92 infoMove rfl n (by omega) (by omega) W
    rw [made_pairs n hn, show rpt n 0 (0, 0) = rpt n 0 x by simp [rpt]] at h
    exact h
  have HN := Lib.hid hn
  have n1 : (3 : Int) ≤ (n : Int) := by omega
  have n2 : (n : Int) ≤ 5 := by omega
  clear hn
  go_enter Try.func83, Try.ntmps83
  go_wp2_with (first
    | (go_at_call 132; refine (bitsMul n _ (by have := HN.out; omega)).mono ?_; rintro e w1 ⟨rfl, rfl⟩)
    | (refine wpList_copy_sz (o := ⟨some 33, _, _, _, _, _⟩) rfl (.tmp 31) (.tmp 32) 92 92 rfl 94 2 Try.underlying92 sizeMove2 w.heap.size 0 n n ⟨g, o, none⟩ 1 1 rfl rfl ((rpt n 0 x).flatMap encP) 94 (new_block rfl) 1 [.int .i64 x.1, .int .i64 x.2] (Nat.min_eq_left (by omega)).symm rfl ?_ ?_ (fun v hv => by (simp at hv; rcases hv with rfl | rfl <;> rfl)) w.heap.size w (by repeat (first | exact Below.refl _ _ | refine Below.alloc ?_ (by first | omega | (simp only [sz_alloc, sz_set, sz_drew, sz_drewN]; omega) | (simp only [sz_alloc, sz_set, sz_drew, sz_drewN] at *; omega)) _ | refine Below.setCell ?_ (by first | omega | (simp only [sz_alloc, sz_set, sz_drew, sz_drewN]; omega) | (simp only [sz_alloc, sz_set, sz_drew, sz_drewN] at *; omega)) _ | refine Below.drew ?_ | refine below_drewN_ ?_ _)) (Nat.le_refl _) ?_
       · intro j v hj
         rw [add_lit]
         match j, hj with
         | 0, hj => (simp at hj; subst hj; exact (Below.cell (B := w.heap.size) (by repeat (first | exact Below.refl _ _ | refine Below.alloc ?_ (by first | omega | (simp only [sz_alloc, sz_set, sz_drew, sz_drewN]; omega) | (simp only [sz_alloc, sz_set, sz_drew, sz_drewN] at *; omega)) _ | refine Below.setCell ?_ (by first | omega | (simp only [sz_alloc, sz_set, sz_drew, sz_drewN]; omega) | (simp only [sz_alloc, sz_set, sz_drew, sz_drewN] at *; omega)) _ | refine Below.drew ?_ | refine below_drewN_ ?_ _)) (p := ⟨g, o, none⟩) hg).trans h0)
         | 1, hj => (simp at hj; subst hj; exact (Below.cell (B := w.heap.size) (by repeat (first | exact Below.refl _ _ | refine Below.alloc ?_ (by first | omega | (simp only [sz_alloc, sz_set, sz_drew, sz_drewN]; omega) | (simp only [sz_alloc, sz_set, sz_drew, sz_drewN] at *; omega)) _ | refine Below.setCell ?_ (by first | omega | (simp only [sz_alloc, sz_set, sz_drew, sz_drewN]; omega) | (simp only [sz_alloc, sz_set, sz_drew, sz_drewN] at *; omega)) _ | refine Below.drew ?_ | refine below_drewN_ ?_ _)) (p := ⟨g, o + 1, none⟩) hg).trans h1)
         | j + 2, hj => simp at hj
       · (rw [encP_length, rpt_len x (by omega)]; simp; omega)
       intro w1 hG hB hz1
       have HP : Hid (Pairs w1 w.heap.size 94 (rpt n 1 x)) := Lib.hid (by
         have := hG.out
         unfold Pairs
         rw [← rpt_copy (k := 0) (m := 1) x (by omega)]
         exact this)
       have HS : Since w w1 := ⟨hB⟩
       clear hG hB))
  go_loopw [8] (fun i wr => ∃ k : Nat, 1 ≤ k ∧ k ≤ n ∧ i = .int .i64 k ∧ Hid (Pairs wr w.heap.size 94 (rpt n k x)) ∧ Since w wr) (fun i _ => n - (intOf i).toNat)
  case atStart => exact ⟨1, Nat.le_refl _, by omega, rfl, HP, HS⟩
  case round =>
    obtain ⟨k, hk1, hkn, rfl, H, hs⟩ := hrel
    by_cases hlt : k < n
    · have i1 : (0 : Int) ≤ (k : Int) := by omega
      have i2 : (k : Int) < (n : Int) := by omega
      have i3 : (k : Int) ≤ (n : Int) := by omega
      obtain ⟨m, hm⟩ : ∃ m, m = Nat.min k (n - k) := ⟨_, rfl⟩
      have hm1 : m ≤ k := by rw [hm]; exact Nat.min_le_left _ _
      have hm2 : m ≤ n - k := by rw [hm]; exact Nat.min_le_right _ _
      have hm3 : 1 ≤ m := by rw [hm]; exact Nat.le_min.2 ⟨hk1, by omega⟩
      have hnk : ¬ n = k := by omega
      have j1 : (k : Int) + (m : Int) ≤ 5 := by omega
      have j2 : (0 : Int) ≤ (m : Int) := by omega
      have HM := Lib.hid hm
      have HWK : Hid (IntKind.i64.wrap ((k : Int) + (m : Int)) = ((k + m : Nat) : Int)) := Lib.hid (by
        have e : (k : Int) + (m : Int) = ((k + m : Nat) : Int) := by omega
        rw [e]
        rcases (show k + m = 2 ∨ k + m = 3 ∨ k + m = 4 ∨ k + m = 5 by omega) with h | h | h | h <;> rw [h] <;> rfl)
      clear hm
      go_wp2
      refine Held.begin (fun w' => True) 10 (by kernel_rfl) (by (try dsimp only); (try trivial)) (fun hHeld => ?_); (first | (refine Held.take (i := 0) (v := undef) (by (simp only [List.getElem?_toArray, List.getElem?_cons_succ, List.getElem?_cons_zero]); exact rfl) (by decide) (by kernel_rfl) (by kernel_rfl) (by kernel_rfl) (by kernel_rfl) (by exact fun _ _ _ h => h) (by exact Or.inr ⟨by rfl, rfl⟩) (by assumption) ?_) | (refine Held.take (i := 0) (v := ?_) (by (simp only [List.getElem?_toArray, List.getElem?_cons_succ, List.getElem?_cons_zero]); exact rfl) (by decide) (by kernel_rfl) (by kernel_rfl) (by kernel_rfl) (by kernel_rfl) (by exact fun _ _ _ h => h) (by refine Or.inl ⟨by rfl, ?_⟩; intro wS hSw; (try dsimp only at hSw); go_simp; (try with_reducible rfl)) (by assumption) ?_)); (try simp only [Act.put, List.setIfInBounds_toArray, List.set_cons_zero, List.set_cons_succ]); (first | (refine Held.take (i := 1) (v := undef) (by (simp only [List.getElem?_toArray, List.getElem?_cons_succ, List.getElem?_cons_zero]); exact rfl) (by decide) (by kernel_rfl) (by kernel_rfl) (by kernel_rfl) (by kernel_rfl) (by exact fun _ _ _ h => h) (by exact Or.inr ⟨by rfl, rfl⟩) (by assumption) ?_) | (refine Held.take (i := 1) (v := ?_) (by (simp only [List.getElem?_toArray, List.getElem?_cons_succ, List.getElem?_cons_zero]); exact rfl) (by decide) (by kernel_rfl) (by kernel_rfl) (by kernel_rfl) (by kernel_rfl) (by exact fun _ _ _ h => h) (by refine Or.inl ⟨by rfl, ?_⟩; intro wS hSw; (try dsimp only at hSw); go_simp; (try with_reducible rfl)) (by assumption) ?_)); (try simp only [Act.put, List.setIfInBounds_toArray, List.set_cons_zero, List.set_cons_succ]); (first | (refine Held.take (i := 2) (v := undef) (by (simp only [List.getElem?_toArray, List.getElem?_cons_succ, List.getElem?_cons_zero]); exact rfl) (by decide) (by kernel_rfl) (by kernel_rfl) (by kernel_rfl) (by kernel_rfl) (by exact fun _ _ _ h => h) (by exact Or.inr ⟨by rfl, rfl⟩) (by assumption) ?_) | (refine Held.take (i := 2) (v := ?_) (by (simp only [List.getElem?_toArray, List.getElem?_cons_succ, List.getElem?_cons_zero]); exact rfl) (by decide) (by kernel_rfl) (by kernel_rfl) (by kernel_rfl) (by kernel_rfl) (by exact fun _ _ _ h => h) (by refine Or.inl ⟨by rfl, ?_⟩; intro wS hSw; (try dsimp only at hSw); go_simp; (try with_reducible rfl)) (by assumption) ?_)); (try simp only [Act.put, List.setIfInBounds_toArray, List.set_cons_zero, List.set_cons_succ]); (first | (refine Held.take (i := 3) (v := undef) (by (simp only [List.getElem?_toArray, List.getElem?_cons_succ, List.getElem?_cons_zero]); exact rfl) (by decide) (by kernel_rfl) (by kernel_rfl) (by kernel_rfl) (by kernel_rfl) (by exact fun _ _ _ h => h) (by exact Or.inr ⟨by rfl, rfl⟩) (by assumption) ?_) | (refine Held.take (i := 3) (v := ?_) (by (simp only [List.getElem?_toArray, List.getElem?_cons_succ, List.getElem?_cons_zero]); exact rfl) (by decide) (by kernel_rfl) (by kernel_rfl) (by kernel_rfl) (by kernel_rfl) (by exact fun _ _ _ h => h) (by refine Or.inl ⟨by rfl, ?_⟩; intro wS hSw; (try dsimp only at hSw); go_simp; (try with_reducible rfl)) (by assumption) ?_)); (try simp only [Act.put, List.setIfInBounds_toArray, List.set_cons_zero, List.set_cons_succ]); (first | (refine Held.take (i := 4) (v := undef) (by (simp only [List.getElem?_toArray, List.getElem?_cons_succ, List.getElem?_cons_zero]); exact rfl) (by decide) (by kernel_rfl) (by kernel_rfl) (by kernel_rfl) (by kernel_rfl) (by exact fun _ _ _ h => h) (by exact Or.inr ⟨by rfl, rfl⟩) (by assumption) ?_) | (refine Held.take (i := 4) (v := ?_) (by (simp only [List.getElem?_toArray, List.getElem?_cons_succ, List.getElem?_cons_zero]); exact rfl) (by decide) (by kernel_rfl) (by kernel_rfl) (by kernel_rfl) (by kernel_rfl) (by exact fun _ _ _ h => h) (by refine Or.inl ⟨by rfl, ?_⟩; intro wS hSw; (try dsimp only at hSw); go_simp; (try with_reducible rfl)) (by assumption) ?_)); (try simp only [Act.put, List.setIfInBounds_toArray, List.set_cons_zero, List.set_cons_succ]); (first | (refine Held.take (i := 5) (v := undef) (by (simp only [List.getElem?_toArray, List.getElem?_cons_succ, List.getElem?_cons_zero]); exact rfl) (by decide) (by kernel_rfl) (by kernel_rfl) (by kernel_rfl) (by kernel_rfl) (by exact fun _ _ _ h => h) (by exact Or.inr ⟨by rfl, rfl⟩) (by assumption) ?_) | (refine Held.take (i := 5) (v := ?_) (by (simp only [List.getElem?_toArray, List.getElem?_cons_succ, List.getElem?_cons_zero]); exact rfl) (by decide) (by kernel_rfl) (by kernel_rfl) (by kernel_rfl) (by kernel_rfl) (by exact fun _ _ _ h => h) (by refine Or.inl ⟨by rfl, ?_⟩; intro wS hSw; (try dsimp only at hSw); go_simp; (try with_reducible rfl)) (by assumption) ?_)); (try simp only [Act.put, List.setIfInBounds_toArray, List.set_cons_zero, List.set_cons_succ]); (first | (refine Held.take (i := 6) (v := undef) (by (simp only [List.getElem?_toArray, List.getElem?_cons_succ, List.getElem?_cons_zero]); exact rfl) (by decide) (by kernel_rfl) (by kernel_rfl) (by kernel_rfl) (by kernel_rfl) (by exact fun _ _ _ h => h) (by exact Or.inr ⟨by rfl, rfl⟩) (by assumption) ?_) | (refine Held.take (i := 6) (v := ?_) (by (simp only [List.getElem?_toArray, List.getElem?_cons_succ, List.getElem?_cons_zero]); exact rfl) (by decide) (by kernel_rfl) (by kernel_rfl) (by kernel_rfl) (by kernel_rfl) (by exact fun _ _ _ h => h) (by refine Or.inl ⟨by rfl, ?_⟩; intro wS hSw; (try dsimp only at hSw); go_simp; (try with_reducible rfl)) (by assumption) ?_)); (try simp only [Act.put, List.setIfInBounds_toArray, List.set_cons_zero, List.set_cons_succ]); refine Held.one (i := 7) (by (simp only [List.getElem?_toArray, List.getElem?_cons_succ, List.getElem?_cons_zero]); exact rfl) (by kernel_rfl) (fun K hK => ?_); (refine step_copy_sz rfl (.tmp 41) (.tmp 44) 92 92 rfl 94 2 Try.underlying92 sizeMove2 w.heap.size (k * 2) (n - k) (n - k) ⟨w.heap.size, 0, none⟩ k n (by simp [Act.eval, hnk]) rfl ((rpt n k x).flatMap encP) 94 H.out m ((List.replicate m x).flatMap encP) HM.out (by rw [encP_length]; simp) (fun j v hj => by (rw [add_lit, cell_of_row wr.drew w.heap.size (0 + j) _ 94 (0, 0) H.out]; simpa using rpt_src (n := n) x hm1 hj)) (by rw [encP_length, encP_length, rpt_len x (by omega)]; simp; omega) flat_one w.heap.size wr (by exact (Below.refl _ _).drew) (Nat.le_refl _) ?_; intro w2 hG hB hz2; have HP2 : Hid (Pairs w2 w.heap.size 94 (rpt n (k + m) x)) := Lib.hid (by (unfold Pairs; rw [← rpt_copy x (by omega)]; exact hG.out)); have HS2 : Since w w2 := ⟨hs.out.trans hB⟩; clear hG hB); refine hK.out _ _ (by (try dsimp only); (try trivial)) (fun hHeld => ?_); clear hK K; (try simp only [Act.put, List.setIfInBounds_toArray, List.set_cons_zero, List.set_cons_succ]); refine Held.one (i := 8) (by (simp only [List.getElem?_toArray, List.getElem?_cons_succ, List.getElem?_cons_zero]); exact rfl) (by kernel_rfl) (fun K hK => ?_); go_simp; refine hK.out _ _ (by (try dsimp only); (try trivial)) (fun hHeld => ?_); clear hK K; (try simp only [Act.put, List.setIfInBounds_toArray, List.set_cons_zero, List.set_cons_succ]); refine Held.one (i := 9) (by (simp only [List.getElem?_toArray, List.getElem?_cons_succ, List.getElem?_cons_zero]); exact rfl) (by kernel_rfl) (fun K hK => ?_); go_simp; refine hK.out _ _ (by (try dsimp only); (try trivial)) (fun hHeld => ?_); clear hK K; (try simp only [Act.put, List.setIfInBounds_toArray, List.set_cons_zero, List.set_cons_succ]); refine Held.done (by kernel_rfl) ?_ _
      go_wp2
      go_roundw
      case rel => exact ⟨k + m, by omega, by omega, by rw [HWK.out], HP2, HS2⟩
      case measure => simp only [intOf, HWK.out]; simp; omega
    · obtain rfl : k = n := by omega
      go_wp2
      go_ret
      refine ⟨w.heap.size, rfl, ?_, Nat.le_refl _, hs.out⟩
      rw [← rpt_end]
      exact H.out
end Go.Proofs.Ytepjgaakihhngaa
