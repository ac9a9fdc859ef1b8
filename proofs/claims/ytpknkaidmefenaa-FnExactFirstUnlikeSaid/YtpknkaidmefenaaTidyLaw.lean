/-
  Classes of states that are respected by all letters; the reader of the classes takes the same words. No program in sight. Conditions: those in each statement.
-/
import Derived.Test.YtpknkaidmefenaaBfsLaw
set_option linter.unusedVariables false
set_option linter.unusedSimpArgs false
set_option maxRecDepth 100000
set_option maxHeartbeats 1000000
namespace Go.Proofs.Ytpknkaidmefenaa

/-- A map of states to states of their classes. -/
structure Cls (n L : Nat) (nx : Nat → Nat → Nat) (acc : Nat → Bool) (cls : Nat → Nat) : Prop where
  lt : ∀ s, s < n → cls s < n
  acc : ∀ s, s < n → acc (cls s) = acc s
  step : ∀ s a, s < n → a < L → cls (nx (cls s) a) = cls (nx s a)
/-- The states met, and where the letters lead among them. -/
structure Tidied (n L : Nat) (nx : Nat → Nat → Nat) (cls : Nat → Nat) (start : Nat) (met : List Nat) (ny : Nat → Nat → Nat) : Prop where
  first : met[0]? = some (cls start)
  row : ∀ i s, met[i]? = some s → ∀ a, a < L → met[ny i a]? = some (cls (nx s a))
theorem tidied_run {n L start : Nat} {nx ny : Nat → Nat → Nat} {acc : Nat → Bool} {cls : Nat → Nat} {met : List Nat} (C : Cls n L nx acc cls) (T : Tidied n L nx cls start met ny) (hn : ∀ s a, s < n → a < L → nx s a < n) (hs : start < n) :
    ∀ (k : Nat) (u : List Nat), u.length ≤ k → Lets L u → runW nx start u < n ∧ met[runW ny 0 u]? = some (cls (runW nx start u))
  | k, u, hk, hu => by
    by_cases h0 : u = []
    · subst h0
      exact ⟨hs, T.first⟩
    · obtain ⟨v, a, rfl⟩ := last_nat h0
      match k, hk with
      | k + 1, hk =>
        have ha : a < L := hu a (by simp)
        obtain ⟨h1, h2⟩ := tidied_run C T hn hs k v (by simp at hk; omega) (fun x hx => hu x (List.mem_append_left _ hx))
        rw [runW_app, runW_app]
        refine ⟨hn _ _ h1 ha, ?_⟩
        rw [T.row _ _ h2 a ha, C.step _ _ h1 ha]
      | 0, hk => simp at hk
/-- The reader of the classes takes the same words. -/
theorem tidied_acc {n L start : Nat} {nx ny : Nat → Nat → Nat} {acc : Nat → Bool} {cls : Nat → Nat} {met : List Nat} (C : Cls n L nx acc cls) (T : Tidied n L nx cls start met ny) (hn : ∀ s a, s < n → a < L → nx s a < n) (hs : start < n) {u : List Nat} (hu : Lets L u) {accY : Nat → Bool}
    (hY : ∀ i s, met[i]? = some s → accY i = acc s) : accY (runW ny 0 u) = acc (runW nx start u) := by
  obtain ⟨h1, h2⟩ := tidied_run C T hn hs u.length u (Nat.le_refl _) hu
  rw [hY _ _ h2, C.acc _ h1]

/-! Refinement of classes, as the reference does it. -/
/-- The states s and t have the same class and letters lead them to the same classes. -/
def alikeB (L : Nat) (nx : Nat → Nat → Nat) (cls : Nat → Nat) (t s : Nat) : Bool := decide (cls t = cls s) && (List.range L).all fun a => decide (cls (nx t a) = cls (nx s a))
/-- The least state from k on down to 0 that is like s, or d. -/
def leastP (p : Nat → Bool) (d : Nat) : Nat → Nat
  | 0 => d
  | k + 1 => leastP p (if p k = true then k else d) k
theorem leastP_cases (p : Nat → Bool) : ∀ (k d : Nat), leastP p d k = d ∨ (p (leastP p d k) = true ∧ leastP p d k < k)
  | 0, d => .inl rfl
  | k + 1, d => by
    show leastP p (if p k = true then k else d) k = d ∨ _
    rcases leastP_cases p k (if p k = true then k else d) with h | ⟨h1, h2⟩
    · by_cases hp : p k = true
      · rw [if_pos hp] at h
        refine .inr ⟨?_, ?_⟩
        · show p (leastP p (if p k = true then k else d) k) = true
          rw [if_pos hp, h]
          exact hp
        · show leastP p (if p k = true then k else d) k < k + 1
          rw [if_pos hp, h]
          omega
      · rw [if_neg hp] at h ⊢
        exact .inl h
    · exact .inr ⟨h1, by show leastP p (if p k = true then k else d) k < k + 1; omega⟩
/-- One round. -/
def refineC (L : Nat) (nx : Nat → Nat → Nat) (cls : Nat → Nat) (s : Nat) : Nat := leastP (fun t => alikeB L nx cls t s) s s
theorem alike_self (L : Nat) (nx : Nat → Nat → Nat) (cls : Nat → Nat) (s : Nat) : alikeB L nx cls s s = true := by simp [alikeB]
theorem refineC_like (L : Nat) (nx : Nat → Nat → Nat) (cls : Nat → Nat) (s : Nat) : alikeB L nx cls (refineC L nx cls s) s = true ∧ refineC L nx cls s ≤ s := by
  rcases leastP_cases (fun t => alikeB L nx cls t s) s s with h | ⟨h1, h2⟩
  · unfold refineC
    rw [h]
    exact ⟨alike_self L nx cls s, Nat.le_refl _⟩
  · exact ⟨h1, Nat.le_of_lt h2⟩
theorem alike_iff {L : Nat} {nx : Nat → Nat → Nat} {cls : Nat → Nat} {t s : Nat} : alikeB L nx cls t s = true ↔ cls t = cls s ∧ ∀ a, a < L → cls (nx t a) = cls (nx s a) := by
  unfold alikeB
  rw [Bool.and_eq_true, decide_eq_true_eq, List.all_eq_true]
  exact ⟨fun h => ⟨h.1, fun a ha => of_decide_eq_true (h.2 a (List.mem_range.2 ha))⟩, fun h => ⟨h.1, fun a ha => decide_eq_true (h.2 a (List.mem_range.1 ha))⟩⟩
/-- What holds ahead of each round: a class is named by a state of the same verdict. -/
structure ClsInv (n : Nat) (acc : Nat → Bool) (cls : Nat → Nat) : Prop where
  le : ∀ s, s < n → cls s ≤ s
  acc : ∀ s, s < n → acc (cls s) = acc s
  least : ∀ s t, s < n → t < n → cls t = cls s → cls s ≤ t
theorem ClsInv.refine_ {n L : Nat} {nx : Nat → Nat → Nat} {acc : Nat → Bool} {cls : Nat → Nat} (h : ClsInv n acc cls) {s : Nat} (hs : s < n) : refineC L nx cls s ≤ s ∧ acc (refineC L nx cls s) = acc s ∧ cls s ≤ refineC L nx cls s := by
  obtain ⟨h1, h2⟩ := refineC_like L nx cls s
  have h3 := (alike_iff.1 h1).1
  have hr : refineC L nx cls s < n := by omega
  refine ⟨h2, ?_, h.least s _ hs hr h3⟩
  rw [← h.acc _ hr, h3, h.acc _ hs]
theorem ClsInv.next {n L : Nat} {nx : Nat → Nat → Nat} {acc : Nat → Bool} {cls cls' : Nat → Nat} (h : ClsInv n acc cls) (h' : ∀ s, s < n → cls' s = refineC L nx cls s) : ClsInv n acc cls' where
  le s hs := by rw [h' s hs]; exact (h.refine_ hs).1
  acc s hs := by rw [h' s hs]; exact (h.refine_ hs).2.1
  least s t hs ht e := by rw [← e, h' t ht]; exact (h.refine_ ht).1
/-- The first classes: by the verdicts. -/
def startC (acc : Nat → Bool) (s : Nat) : Nat := leastP (fun t => acc t == acc s) s s
theorem ClsInv.start (n : Nat) (acc : Nat → Bool) : ClsInv n acc (startC acc) := by
  have key : ∀ s, startC acc s ≤ s ∧ acc (startC acc s) = acc s := fun s => by
    rcases leastP_cases (fun t => acc t == acc s) s s with h | ⟨h1, h2⟩
    · unfold startC
      rw [h]
      exact ⟨Nat.le_refl _, rfl⟩
    · exact ⟨Nat.le_of_lt h2, by unfold startC; simpa using h1⟩
  exact ⟨fun s _ => (key s).1, fun s _ => (key s).2, fun s t _ _ e => by rw [← e]; exact (key t).1⟩
/-- At the end. -/
theorem ClsInv.stable {n L : Nat} {nx : Nat → Nat → Nat} {acc : Nat → Bool} {cls : Nat → Nat} (h : ClsInv n acc cls) (hn : ∀ s a, s < n → a < L → nx s a < n) (hst : ∀ s, s < n → refineC L nx cls s = cls s) : Cls n L nx acc cls where
  lt s hs := by have := h.le s hs; omega
  acc := h.acc
  step s a hs ha := by
    obtain ⟨h1, _⟩ := refineC_like L nx cls s
    rw [hst s hs] at h1
    exact (alike_iff.1 h1).2 a ha
end Go.Proofs.Ytpknkaidmefenaa
