/-
  Classes written into a list, place after place; the measure of the rounds. No program in sight. Conditions: those in each statement.
-/
import Derived.Test.YtpknkaidmefenaaTidyLaw
import Derived.Test.YtpknkaidmefenaaROk
import Derived.Test.YtpknkaidmefenaaInts
set_option linter.unusedVariables false
set_option linter.unusedSimpArgs false
set_option maxRecDepth 100000
set_option maxHeartbeats 1000000
namespace Go.Proofs.Ytpknkaidmefenaa
open Go.RowKit

def nxR (T : Rr) (s a : Nat) : Nat := ((T.next.getD s []).getD a 0).toNat
def accR (T : Rr) (s : Nat) : Bool := T.accept.getD s false
/-- The first s places are done, the others are 0. -/
structure DoneL (n s : Nat) (cls : Nat → Nat) (xs : List Int) : Prop where
  len : xs.length = n
  done : ∀ j, j < s → j < n → xs[j]? = some ((cls j : Nat) : Int)
  rest : ∀ j, s ≤ j → j < n → xs[j]? = some 0
/-- The first s places are done, place s holds d. -/
structure UptoL (n s : Nat) (cls : Nat → Nat) (d : Nat) (xs : List Int) : Prop where
  len : xs.length = n
  lt : s < n
  done : ∀ j, j < s → j < n → xs[j]? = some ((cls j : Nat) : Int)
  here : xs[s]? = some (d : Int)
  rest : ∀ j, s < j → j < n → xs[j]? = some 0
section
variable {n s d : Nat} {cls : Nat → Nat} {xs : List Int}
theorem DoneL.start (n : Nat) (cls : Nat → Nat) : DoneL n 0 cls (List.replicate n 0) := ⟨by simp, fun j h => absurd h (by omega), fun j _ h => by simp [h]⟩
theorem DoneL.upto (h : DoneL n s cls xs) (hs : s < n) : UptoL n s cls 0 xs := ⟨h.len, hs, h.done, h.rest s (Nat.le_refl _) hs, fun j h1 h2 => h.rest j (by omega) h2⟩
theorem UptoL.set (h : UptoL n s cls d xs) (t : Nat) : UptoL n s cls t (xs.set s (t : Int)) := by
  refine ⟨by rw [List.length_set]; exact h.len, h.lt, fun j h1 h2 => ?_, ?_, fun j h1 h2 => ?_⟩
  · rw [List.getElem?_set_ne (by omega)]; exact h.done j h1 h2
  · rw [List.getElem?_set_self (by rw [h.len]; exact h.lt)]
  · rw [List.getElem?_set_ne (by omega)]; exact h.rest j h1 h2
theorem UptoL.next (h : UptoL n s cls d xs) (e : d = cls s) : DoneL n (s + 1) cls xs := by
  refine ⟨h.len, fun j h1 h2 => ?_, fun j h1 h2 => h.rest j (by omega) h2⟩
  by_cases hj : j = s
  · subst hj; rw [h.here, e]
  · exact h.done j (by omega) h2
theorem DoneL.at_ (h : DoneL n n cls xs) {j : Nat} (hj : j < n) : xs[j]? = some ((cls j : Nat) : Int) := h.done j hj hj
end

theorem Ints.drewN {w : World} {g : Nat} {t : TypeId} {xs : List Int} (h : Ints w g t xs) (n : Nat) : Ints (w.drewN n) g t xs := h
theorem beq_cast (a b : Nat) : ((a : Int) == (b : Int)) = decide (a = b) := by
  by_cases h : a = b
  · subst h; simp
  · have h2 : (a : Int) ≠ (b : Int) := by omega
    rw [beq_false_of_ne h2, decide_eq_false h]
theorem leastP_up (p : Nat → Bool) {d k : Nat} (hp : p k = true) : leastP p d (k + 1) = leastP p k k := by rw [leastP, if_pos hp]
theorem leastP_down (p : Nat → Bool) {d k : Nat} (hp : p k = false) : leastP p d (k + 1) = leastP p d k := by rw [leastP, if_neg (by rw [hp]; simp)]
theorem leastP_yes (p : Nat → Bool) {d k r : Nat} (h : r = leastP p d (k + 1)) (hp : p k = true) : r = leastP p k k := by rw [h, leastP_up p hp]
theorem leastP_no (p : Nat → Bool) {d k r : Nat} (h : r = leastP p d (k + 1)) (hp : p k = false) : r = leastP p d k := by rw [h, leastP_down p hp]
theorem startC_eq (acc : Nat → Bool) (s d : Nat) : startC acc s = leastP (fun t => acc t == acc s) d (s + 1) := by rw [leastP_up (p := fun t => acc t == acc s) (by simp)]; rfl

theorem alikeB_zero (nx : Nat → Nat → Nat) (cls : Nat → Nat) (t s : Nat) : alikeB 0 nx cls t s = decide (cls t = cls s) := by simp [alikeB]
theorem alikeB_succ (a : Nat) (nx : Nat → Nat → Nat) (cls : Nat → Nat) (t s : Nat) : alikeB (a + 1) nx cls t s = (alikeB a nx cls t s && decide (cls (nx t a) = cls (nx s a))) := by
  unfold alikeB
  rw [List.range_succ, List.all_append]
  simp [Bool.and_assoc]
theorem alikeB_stop {a L : Nat} {nx : Nat → Nat → Nat} {cls : Nat → Nat} {t s : Nat} (h : alikeB a nx cls t s = false) (ha : a ≤ L) : alikeB L nx cls t s = false := by
  cases hL : alikeB L nx cls t s with
  | false => rfl
  | true =>
    obtain ⟨h1, h2⟩ := alike_iff.1 hL
    rw [alike_iff.2 ⟨h1, fun b hb => h2 b (by omega)⟩] at h
    cases h

/-- How far the classes can still rise. -/
def pot (f : Nat → Nat) : Nat → Nat
  | 0 => 0
  | n + 1 => pot f n + (300 - f n)
theorem pot_congr {f g : Nat → Nat} : ∀ {n : Nat}, (∀ j, j < n → f j = g j) → pot f n = pot g n
  | 0, _ => rfl
  | n + 1, h => by rw [pot, pot, pot_congr fun j hj => h j (by omega), h n (by omega)]
theorem pot_le {f g : Nat → Nat} : ∀ {n : Nat}, (∀ j, j < n → f j ≤ g j) → pot g n ≤ pot f n
  | 0, _ => Nat.le_refl _
  | n + 1, h => by
    have h1 := pot_le (n := n) fun j hj => h j (by omega)
    have h2 := h n (by omega)
    rw [pot, pot]
    omega
theorem pot_lt {f g : Nat → Nat} : ∀ {n s : Nat}, (∀ j, j < n → f j ≤ g j ∧ g j < 300) → s < n → f s < g s → pot g n < pot f n
  | 0, s, _, hs, _ => absurd hs (by omega)
  | n + 1, s, h, hs, hlt => by
    rw [pot, pot]
    have h2 := h n (by omega)
    by_cases hsn : s = n
    · subst hsn
      have h1 := pot_le (n := s) (f := f) (g := g) fun j hj => (h j (by omega)).1
      omega
    · have h1 := pot_lt (n := n) (f := f) (g := g) (fun j hj => h j (by omega)) (by omega : s < n) hlt
      omega
/-- The measure, read off a slice of classes. -/
def potV (w : World) : Value → Nat
  | .slice (some a) n _ => pot (fun j => match w.cell? ⟨a.block, j, none⟩ with | some v => (intOf v).toNat | none => 0) n
  | _ => 0
theorem potV_eq {w : World} {g n c : Nat} {t : TypeId} {xs : List Int} {cls : Nat → Nat} (h : Ints w g t xs) (hx : ∀ j, j < n → xs[j]? = some ((cls j : Nat) : Int)) : potV w (.slice (some ⟨g, 0, none⟩) n c) = pot cls n := by
  unfold potV
  refine pot_congr fun j hj => ?_
  simp only
  rw [h.cell (hx j hj)]
  simp [intOf]
/-- All the first s places are as before. -/
def sameB (f g : Nat → Nat) : Nat → Bool
  | 0 => true
  | s + 1 => sameB f g s && decide (g s = f s)
theorem sameB_iff {f g : Nat → Nat} : ∀ {n : Nat}, sameB f g n = true ↔ ∀ j, j < n → g j = f j
  | 0 => ⟨fun _ j hj => absurd hj (by omega), fun _ => rfl⟩
  | n + 1 => by
    rw [sameB, Bool.and_eq_true, sameB_iff, decide_eq_true_eq]
    refine ⟨fun ⟨h1, h2⟩ j hj => ?_, fun h => ⟨fun j hj => h j (by omega), h n (by omega)⟩⟩
    by_cases hjn : j = n
    · subst hjn; exact h2
    · exact h1 j (by omega)
theorem sameB_not {f g : Nat → Nat} {n : Nat} (h : sameB f g n = false) : ∃ j, j < n ∧ g j ≠ f j := by
  refine Classical.byContradiction fun hn => ?_
  have : sameB f g n = true := sameB_iff.2 fun j hj => Classical.byContradiction fun hne => hn ⟨j, hj, hne⟩
  rw [this] at h
  cases h
/-- A round that changes something raises a class. -/
theorem refine_pot {n L : Nat} {nx : Nat → Nat → Nat} {acc : Nat → Bool} {cls : Nat → Nat} (h : ClsInv n acc cls) (hn : n ≤ 300) (hne : sameB cls (refineC L nx cls) n = false) : pot (refineC L nx cls) n < pot cls n := by
  obtain ⟨j, hj, hjn⟩ := sameB_not hne
  refine pot_lt (s := j) (fun i hi => ?_) hj ?_
  · have h1 := (h.refine_ (L := L) (nx := nx) hi)
    exact ⟨h1.2.2, by omega⟩
  · have h1 := (h.refine_ (L := L) (nx := nx) hj).2.2
    omega
theorem acc_at0 {T : Rr} {s : Nat} (h : s < T.accept.length) : T.accept[s]? = some (accR T s) := by
  unfold accR
  rw [List.getD_eq_getElem?_getD, List.getElem?_eq_getElem h]
  rfl
/-- Row s, letter a: where it leads. -/
theorem row_at0 {T : Rr} (h : T.Ok) {s : Nat} (hs : s < T.accept.length) : ∃ r, T.next[s]? = some r ∧ (r.length : Int) = T.letters ∧ ∀ a, a < r.length → r[a]? = some ((nxR T s a : Nat) : Int) ∧ nxR T s a < T.accept.length := by
  obtain ⟨r, hr⟩ := get_some (xs := T.next) (k := s) (by rw [h.same]; exact hs)
  obtain ⟨h1, h2⟩ := h.row r (List.mem_of_getElem? hr)
  refine ⟨r, hr, h1, fun a ha => ?_⟩
  have e : nxR T s a = (r[a]).toNat := by
    unfold nxR
    simp [List.getD_eq_getElem?_getD, hr, ha]
  obtain ⟨g1, g2⟩ := h2 r[a] (List.getElem_mem ha)
  rw [e, List.getElem?_eq_getElem ha]
  exact ⟨by simp; omega, by omega⟩
end Go.Proofs.Ytpknkaidmefenaa
