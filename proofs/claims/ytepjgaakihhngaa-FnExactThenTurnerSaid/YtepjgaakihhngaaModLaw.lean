/-
  The turner of the moduli, as lists. No program in sight. Conditions: none.
-/
import Derived.Test.YtepjgaakihhngaaWandOf
set_option linter.unusedVariables false
set_option linter.unusedSimpArgs false
set_option maxRecDepth 100000
set_option maxHeartbeats 1000000
namespace Go.Proofs.Ytepjgaakihhngaa
open Go.RowKit

def dirB (right : Bool) : Int := if right then 1 else -1
def modEnd (from_ m r : Nat) (right last : Bool) : Int × Int := if r = 0 then (if last then (-1, 0) else (((from_ + m : Nat) : Int), -dirB right)) else (-2, 0)
def modOn (from_ r : Nat) (right : Bool) : Int × Int := (((from_ + r : Nat) : Int), dirB right)
def modStep (from_ m r : Nat) (right : Bool) : Int × Int := (((from_ + (r + 1) % m : Nat) : Int), dirB right)
def modRow (l from_ m r : Nat) (right last : Bool) : List (Int × Int) := List.replicate l (modStep from_ m r right) ++ (if right then [modOn from_ r right, modEnd from_ m r right last] else [modEnd from_ m r right last, modOn from_ r right])
/-- the i-th modulus, and the sum of the first i -/
def modAt (ms : List Int) (i : Nat) : Nat := (ms.getD i 0).toNat
def fromAt (ms : List Int) : Nat → Nat
  | 0 => 0
  | i + 1 => fromAt ms i + modAt ms i
def evB (i : Nat) : Bool := decide (i % 2 = 0)
/-- the rows of the i-th modulus, the first r of them -/
def modBlk (l : Nat) (ms : List Int) (i r : Nat) : List (List (Int × Int)) := (List.range r).map fun r => modRow l (fromAt ms i) (modAt ms i) r (evB i) (decide (i + 1 = ms.length))
def modRows (l : Nat) (ms : List Int) : Nat → List (List (Int × Int))
  | 0 => []
  | i + 1 => modRows l ms i ++ modBlk l ms i (modAt ms i)
def modT (l : Nat) (ms : List Int) : Tn := ⟨l, 0, modRows l ms ms.length⟩
def nilTn : Tn := ⟨0, 0, []⟩
def modIn (L : Int) (ms : List Int) : Bool := inB L 1 3 && (!ms.isEmpty && ms.all fun m => decide (1 ≤ m))
def orNil (T : Tn) : Tn := if T.okB then T else nilTn
def modC (L : Int) (ms : List Int) : Tn := if modIn L ms then (if fromAt ms ms.length ≤ 12 then orNil (modT L.toNat ms) else nilTn) else nilTn
def modCode (L : Int) (ms : List Int) : Int := if modIn L ms then (if fromAt ms ms.length ≤ 12 then (if (modT L.toNat ms).okB then 0 else 3) else 3) else 2

theorem modBlk_snoc (l : Nat) (ms : List Int) (i r : Nat) : modBlk l ms i (r + 1) = modBlk l ms i r ++ [modRow l (fromAt ms i) (modAt ms i) r (evB i) (decide (i + 1 = ms.length))] := range_snoc _ _
theorem modBlk_len (l : Nat) (ms : List Int) (i r : Nat) : (modBlk l ms i r).length = r := by simp [modBlk]
theorem modRows_len (l : Nat) (ms : List Int) : ∀ i, (modRows l ms i).length = fromAt ms i
  | 0 => rfl
  | i + 1 => by simp [modRows, fromAt, modRows_len l ms i, modBlk_len]
theorem modAt_of {ms : List Int} {i : Nat} {x : Int} (h : ms[i]? = some x) : modAt ms i = x.toNat := by unfold modAt; rw [List.getD_eq_getElem?_getD, h]; rfl
theorem fromAt_mono (ms : List Int) (i : Nat) : ∀ d, fromAt ms i ≤ fromAt ms (i + d)
  | 0 => Nat.le_refl _
  | d + 1 => Nat.le_trans (fromAt_mono ms i d) (Nat.le_add_right _ _)
theorem fromAt_le {ms : List Int} {i n : Nat} (h : i ≤ n) : fromAt ms i ≤ fromAt ms n := by
  have := fromAt_mono ms i (n - i)
  rwa [show i + (n - i) = n by omega] at this
theorem modRow_len (l from_ m r : Nat) (right last : Bool) : (modRow l from_ m r right last).length = l + 2 := by
  unfold modRow
  cases right <;> simp
theorem evB_succ (i : Nat) : evB (i + 1) = !evB i := by
  unfold evB
  rcases (show i % 2 = 0 ∨ i % 2 = 1 by omega) with h | h
  · have : (i + 1) % 2 = 1 := by omega
    simp [h, this]
  · have : (i + 1) % 2 = 0 := by omega
    simp [h, this]
theorem dirB_not (b : Bool) : dirB (!b) = - dirB b := by cases b <;> rfl
/-- all above 0: then as many states as moduli, at least -/
theorem fromAt_ge {ms : List Int} (h : ∀ m ∈ ms, 1 ≤ m) : ∀ i, i ≤ ms.length → i ≤ fromAt ms i
  | 0, _ => Nat.zero_le _
  | i + 1, hi => by
    have h1 := fromAt_ge h i (by omega)
    obtain ⟨x, hx⟩ := get_some (xs := ms) (k := i) (by omega)
    have h2 := h x (List.mem_of_getElem? hx)
    have h3 := modAt_of hx
    unfold fromAt
    omega
theorem fromAt_max {ms : List Int} {k : Nat} (h : ∀ m ∈ ms, m ≤ k) : ∀ i, i ≤ ms.length → fromAt ms i ≤ k * i
  | 0, _ => Nat.zero_le _
  | i + 1, hi => by
    have h1 := fromAt_max h i (by omega)
    obtain ⟨x, hx⟩ := get_some (xs := ms) (k := i) (by omega)
    have h2 := h x (List.mem_of_getElem? hx)
    have h3 := modAt_of hx
    unfold fromAt
    rw [Nat.mul_add]
    omega
theorem modT_long {l : Nat} {ms : List Int} (h : 12 < fromAt ms ms.length) : (modT l ms).okB = false := by
  unfold Tn.okB modT
  simp only [modRows_len]
  have : inB (fromAt ms ms.length) 1 12 = false := inB_no (by omega)
  rw [this]
  simp
theorem totS_le_n {α : Type} [Cod α] {k : Nat} : ∀ {xs : List α}, (∀ x ∈ xs, Cod.tot x ≤ k) → totS xs ≤ k * xs.length
  | [], _ => Nat.zero_le _
  | x :: xs, h => by
    have h1 := h x (List.mem_cons_self ..)
    have h2 := totS_le_n (xs := xs) fun y hy => h y (List.mem_cons_of_mem _ hy)
    rw [totS, List.length_cons, Nat.mul_add]
    omega
theorem modRows_row {l : Nat} {ms : List Int} : ∀ {i : Nat} {r : List (Int × Int)}, r ∈ modRows l ms i → r.length = l + 2
  | 0, r, h => by simp [modRows] at h
  | i + 1, r, h => by
    rcases List.mem_append.1 h with h | h
    · exact modRows_row h
    · obtain ⟨k, _, rfl⟩ := List.mem_map.1 h
      exact modRow_len ..
theorem modT_tot {l : Nat} {ms : List Int} (hl : l ≤ 3) (h : fromAt ms ms.length ≤ 144) : (modT l ms).tot ≤ 1048576 := by
  unfold Tn.tot modT
  simp only [tot_list, modRows_len]
  have h1 := totS_le_n (k := 5) (xs := modRows l ms ms.length) fun r hr => by
    rw [tot_list, totS_zero (fun _ => rfl), modRows_row hr]
    omega
  rw [modRows_len] at h1
  omega
theorem modC_tot (L : Int) (ms : List Int) : (modC L ms).tot ≤ 1048576 := by
  unfold modC
  by_cases h1 : modIn L ms = true
  · rw [if_pos h1]
    by_cases h2 : fromAt ms ms.length ≤ 12
    · rw [if_pos h2]
      unfold orNil
      by_cases h3 : (modT L.toNat ms).okB = true
      · rw [if_pos h3]
        unfold modIn at h1
        simp only [Bool.and_eq_true] at h1
        have := inB_iff.1 h1.1
        exact modT_tot (by omega) (by omega)
      · rw [if_neg h3]; simp [nilTn, Tn.tot, tot_list, totS]
    · rw [if_neg h2]; simp [nilTn, Tn.tot, tot_list, totS]
  · rw [if_neg h1]; simp [nilTn, Tn.tot, tot_list, totS]
/-- the row as the program lays it: equal moves, two of them replaced -/
theorem modRow_set (l from_ m r : Nat) (right last : Bool) :
    ((List.replicate (l + 2) (modStep from_ m r right)).set (if right then l else l + 1) (modOn from_ r right)).set (if right then l + 1 else l) (modEnd from_ m r right last) = modRow l from_ m r right last := by
  have e : List.replicate (l + 2) (modStep from_ m r right) = List.replicate l (modStep from_ m r right) ++ [modStep from_ m r right, modStep from_ m r right] := by
    rw [show l + 2 = l + 2 from rfl, ← List.replicate_append_replicate]; rfl
  rw [e]
  unfold modRow
  cases right
  · simp only [Bool.false_eq_true, if_false]
    rw [List.set_append_right _ _ (by simp), List.set_append_right _ _ (by simp)]
    simp
  · simp only [if_true]
    rw [List.set_append_right _ _ (by simp), List.set_append_right _ _ (by simp)]
    simp
end Go.Proofs.Ytepjgaakihhngaa
