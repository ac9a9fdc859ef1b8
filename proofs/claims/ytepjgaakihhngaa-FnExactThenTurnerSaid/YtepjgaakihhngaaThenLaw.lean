/-
  One turner behind another, as lists. No program in sight. Conditions: none.
-/
import Derived.Test.YtepjgaakihhngaaMarkLaw
import Derived.Test.YtepjgaakihhngaaModLaw
import Derived.Test.YtepjgaakihhngaaNestLaw
set_option linter.unusedVariables false
set_option linter.unusedSimpArgs false
set_option maxRecDepth 100000
set_option maxHeartbeats 1000000
namespace Go.Proofs.Ytepjgaakihhngaa
open Go.RowKit

def raiseM (by_ : Nat) (m : Int × Int) : Int × Int := if 0 ≤ m.1 then (m.1 + (by_ : Int), m.2) else m
def chgM (home m : Int × Int) : Int × Int := if m.1 = -1 then home else m
def thenCell (home begin_ : Int × Int) (l c : Nat) (m : Int × Int) : Int × Int := if m.1 = -1 then (if c = l then begin_ else home) else m
def prow (f : Nat → Nat → Int × Int) (n w : Nat) : List (List (Int × Int)) := (List.range n).map fun t => (List.range w).map (f t)
theorem prow_len (f : Nat → Nat → Int × Int) (n w : Nat) : (prow f n w).length = n := by simp [prow]
theorem prow_get {f : Nat → Nat → Int × Int} {n w t : Nat} (h : t < n) : (prow f n w)[t]? = some ((List.range w).map (f t)) := by simp [prow, h]
theorem row_get {f : Nat → Int × Int} {w c : Nat} (h : c < w) : ((List.range w).map f)[c]? = some (f c) := by simp [h]
theorem prow_congr {f f' : Nat → Nat → Int × Int} {n w : Nat} (h : ∀ t c, t < n → c < w → f t c = f' t c) : prow f n w = prow f' n w := by
  unfold prow
  exact List.map_congr_left fun t ht => List.map_congr_left fun c hc => h t c (List.mem_range.1 ht) (List.mem_range.1 hc)
theorem prow_set {f f' : Nat → Nat → Int × Int} {n w t c : Nat} {v : Int × Int} (hv : v = f' t c) (h : ∀ t' c', t' < n → c' < w → ¬ (t' = t ∧ c' = c) → f' t' c' = f t' c') : (prow f n w).set t (((List.range w).map (f t)).set c v) = prow f' n w := by
  subst hv
  unfold prow
  by_cases ht : t < n
  · have e : (((List.range w).map (f t)).set c (f' t c)) = (List.range w).map (f' t) := range_set (f t) (f' t) w c fun j hj hne => h t j ht hj (fun e => hne e.2)
    rw [e]
    refine range_set (fun t => (List.range w).map (f t)) (fun t => (List.range w).map (f' t)) n t fun j hj hne => ?_
    exact List.map_congr_left fun c' hc' => h j c' hj (List.mem_range.1 hc') (fun e => hne e.1)
  · rw [List.set_eq_of_length_le (by simp; omega)]
    refine List.map_congr_left fun t' ht' => List.map_congr_left fun c' hc' => ?_
    have := List.mem_range.1 ht'
    rw [h t' c' this (List.mem_range.1 hc') (fun e => by omega)]
theorem prow_self {xs : List (List (Int × Int))} {w : Nat} (h : ∀ r ∈ xs, r.length = w) : prow (mvAt xs) xs.length w = xs := by
  refine List.ext_getElem? fun t => ?_
  by_cases ht : t < xs.length
  · obtain ⟨r, hr⟩ := get_some ht
    rw [prow_get ht, hr]
    congr 1
    refine List.ext_getElem? fun c => ?_
    have hl := h r (List.mem_of_getElem? hr)
    by_cases hc : c < w
    · obtain ⟨m, hm⟩ := get_some (xs := r) (k := c) (by omega)
      rw [row_get hc, hm, mvAt_of hr hm]
    · rw [List.getElem?_eq_none (by simp; omega), List.getElem?_eq_none (by omega)]
  · rw [List.getElem?_eq_none (by rw [prow_len]; omega), List.getElem?_eq_none (by omega)]
/-- the reference's rows, when all before cell (s, k) have been done -/
def thenP (home begin_ : Int × Int) (l : Nat) (xs : List (List (Int × Int))) (s k t c : Nat) : Int × Int := if t < s ∨ (t = s ∧ c < k) then thenCell home begin_ l c (mvAt xs t c) else mvAt xs t c
theorem thenP_0 (home begin_ : Int × Int) (l : Nat) (xs : List (List (Int × Int))) (t c : Nat) : thenP home begin_ l xs 0 0 t c = mvAt xs t c := by simp [thenP]
theorem thenP_row {home begin_ : Int × Int} {l w : Nat} {xs : List (List (Int × Int))} {s t c : Nat} (h : c < w) : thenP home begin_ l xs s w t c = thenP home begin_ l xs (s + 1) 0 t c := by
  unfold thenP
  have : (t < s ∨ t = s ∧ c < w) ↔ (t < s + 1 ∨ t = s + 1 ∧ c < 0) := by omega
  simp only [this]
theorem thenP_o {home begin_ : Int × Int} {l : Nat} {xs : List (List (Int × Int))} {s k t c : Nat} (h : ¬ (t = s ∧ c = k)) : thenP home begin_ l xs s (k + 1) t c = thenP home begin_ l xs s k t c := by
  unfold thenP
  have : (t < s ∨ t = s ∧ c < k + 1) ↔ (t < s ∨ t = s ∧ c < k) := by omega
  simp only [this]
theorem thenP_at (home begin_ : Int × Int) (l : Nat) (xs : List (List (Int × Int))) (s k : Nat) : thenP home begin_ l xs s (k + 1) s k = thenCell home begin_ l k (mvAt xs s k) := by simp [thenP]
theorem thenP_now (home begin_ : Int × Int) (l : Nat) (xs : List (List (Int × Int))) (s k : Nat) : thenP home begin_ l xs s k s k = mvAt xs s k := by simp [thenP]
theorem thenP_no {home begin_ : Int × Int} {l : Nat} {xs : List (List (Int × Int))} {s k : Nat} (h : (mvAt xs s k).1 ≠ -1) (t c : Nat) : thenP home begin_ l xs s (k + 1) t c = thenP home begin_ l xs s k t c := by
  by_cases he : t = s ∧ c = k
  · obtain ⟨rfl, rfl⟩ := he
    rw [thenP_at, thenP_now]
    simp [thenCell, h]
  · exact thenP_o he
theorem thenP_end {home begin_ : Int × Int} {l n : Nat} {xs : List (List (Int × Int))} {t c : Nat} (h : t < n) : thenP home begin_ l xs n 0 t c = thenCell home begin_ l c (mvAt xs t c) := by simp [thenP, h]
/-- the program's rows, when the first s have been done -/
def thenQ (home begin_ : Int × Int) (l : Nat) (xs : List (List (Int × Int))) (s t c : Nat) : Int × Int := if t < s then thenCell home begin_ l c (mvAt xs t c) else chgM home (mvAt xs t c)
theorem thenQ_0 (home begin_ : Int × Int) (l : Nat) (xs : List (List (Int × Int))) (t c : Nat) : thenQ home begin_ l xs 0 t c = chgM home (mvAt xs t c) := by simp [thenQ]
theorem thenQ_end {home begin_ : Int × Int} {l n : Nat} {xs : List (List (Int × Int))} {t c : Nat} (h : t < n) : thenQ home begin_ l xs n t c = thenCell home begin_ l c (mvAt xs t c) := by simp [thenQ, h]
theorem thenQ_at {home begin_ : Int × Int} {l : Nat} {xs : List (List (Int × Int))} {s : Nat} (h : (mvAt xs s l).1 = -1) : begin_ = thenQ home begin_ l xs (s + 1) s l := by simp [thenQ, thenCell, h]
theorem thenQ_o {home begin_ : Int × Int} {l : Nat} {xs : List (List (Int × Int))} {s t c : Nat} (h : ¬ (t = s ∧ c = l)) : thenQ home begin_ l xs (s + 1) t c = thenQ home begin_ l xs s t c := by
  unfold thenQ
  by_cases ht : t < s
  · rw [if_pos ht, if_pos (by omega)]
  · rw [if_neg ht]
    by_cases he : t = s
    · subst he
      rw [if_pos (by omega)]
      have : c ≠ l := fun e => h ⟨rfl, e⟩
      simp [thenCell, chgM, this]
    · rw [if_neg (by omega)]
theorem thenQ_no {home begin_ : Int × Int} {l : Nat} {xs : List (List (Int × Int))} {s : Nat} (h : (mvAt xs s l).1 ≠ -1) (t c : Nat) : thenQ home begin_ l xs (s + 1) t c = thenQ home begin_ l xs s t c := by
  by_cases he : t = s ∧ c = l
  · obtain ⟨rfl, rfl⟩ := he
    simp [thenQ, thenCell, chgM, h]
  · exact thenQ_o he

def Tn.home (T U : Tn) : Int × Int := (((T.moves.length + U.moves.length : Nat) : Int), -1)
def Tn.begin_ (T U : Tn) : Int × Int := raiseM T.moves.length (mvAt U.moves U.start.toNat T.letters.toNat)
def raiseR (by_ : Nat) (r : List (Int × Int)) : List (Int × Int) := r.map (raiseM by_)
def lastR (home begin_ : Int × Int) (l : Nat) : List (Int × Int) := List.replicate l home ++ [begin_, home]
def Tn.thenT (T U : Tn) : Tn := ⟨T.letters, T.start, prow (fun t c => thenCell (T.home U) (T.begin_ U) T.letters.toNat c (mvAt T.moves t c)) T.moves.length (T.letters.toNat + 2) ++ U.moves.map (raiseR T.moves.length) ++ [lastR (T.home U) (T.begin_ U) T.letters.toNat]⟩
def Tn.thenC (T U : Tn) : Tn := if T.okB = true ∧ U.okB = true ∧ T.letters = U.letters then orNil (T.thenT U) else nilTn
def Tn.thenCode (T U : Tn) : Int := if T.okB = true ∧ U.okB = true then (if T.letters = U.letters then (if (T.thenT U).okB then 0 else 3) else 2) else 1
theorem lastR_set (home begin_ : Int × Int) (l : Nat) : (List.replicate (l + 2) home).set l begin_ = lastR home begin_ l := by
  have e : List.replicate (l + 2) home = List.replicate l home ++ [home, home] := by rw [← List.replicate_append_replicate]; rfl
  rw [e, List.set_append_right _ _ (by simp)]
  simp [lastR]
theorem lastR_len (home begin_ : Int × Int) (l : Nat) : (lastR home begin_ l).length = l + 2 := by simp [lastR]
theorem raiseR_len (n : Nat) (r : List (Int × Int)) : (raiseR n r).length = r.length := by simp [raiseR]
theorem thenT_len (T U : Tn) : (T.thenT U).moves.length = T.moves.length + U.moves.length + 1 := by simp [Tn.thenT, prow_len]; omega
theorem tot_pairs (r : List (Int × Int)) : Cod.tot r = r.length := by rw [tot_list, totS_zero (fun _ => rfl)]; rfl
theorem thenT_tot {T U : Tn} (OT : T.Ok) (OU : U.Ok) : (T.thenT U).tot ≤ 1048576 := by
  have a1 := OT.l3
  have a2 := OT.n12
  have b2 := OU.n12
  have b3 := OU.l3
  have hr : ∀ r ∈ (T.thenT U).moves, Cod.tot r ≤ 5 := fun r hr => by
    rw [tot_pairs]
    unfold Tn.thenT at hr
    simp only [List.mem_append, List.mem_singleton] at hr
    rcases hr with (hr | hr) | rfl
    · obtain ⟨t, _, rfl⟩ := List.mem_map.1 hr
      simp; omega
    · obtain ⟨x, hx, rfl⟩ := List.mem_map.1 hr
      rw [raiseR_len]
      have := OU.row x hx
      omega
    · rw [lastR_len]; omega
  have h1 := totS_le_n hr
  rw [thenT_len] at h1
  unfold Tn.tot
  rw [tot_list, thenT_len]
  omega
theorem thenC_tot (T U : Tn) : (T.thenC U).tot ≤ 1048576 := by
  have h0 : nilTn.tot ≤ 1048576 := by simp [nilTn, Tn.tot, tot_list, totS]
  unfold Tn.thenC
  by_cases h : T.okB = true ∧ U.okB = true ∧ T.letters = U.letters
  · rw [if_pos h]
    unfold orNil
    by_cases h3 : (T.thenT U).okB = true
    · rw [if_pos h3]; exact thenT_tot (Tn.ok_of h.1) (Tn.ok_of h.2.1)
    · rw [if_neg h3]; exact h0
  · rw [if_neg h]; exact h0
/-- a right move, raised by at most 12 -/
theorem raise_in {n L k : Int} {m : Int × Int} (h : moveOk n L k m = true) (hn : n ≤ 12) : -2 ≤ m.1 ∧ m.1 ≤ 11 := by
  rcases moveOk_cases h with h | h <;> omega
end Go.Proofs.Ytepjgaakihhngaa
