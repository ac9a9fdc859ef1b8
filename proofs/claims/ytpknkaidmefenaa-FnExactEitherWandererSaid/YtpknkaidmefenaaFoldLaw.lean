/-
  What the program's automaton of the turned words is, step by step. No program in sight. Conditions: none.
-/
import Derived.Test.YtpknkaidmefenaaNestLaw
set_option linter.unusedVariables false
set_option linter.unusedSimpArgs false
set_option maxRecDepth 100000
set_option maxHeartbeats 1000000
namespace Go.Proofs.Ytpknkaidmefenaa
open Go.RowKit

theorem setOk_get {n : Int} {xs : List Int} {k : Nat} {x : Int} (h : setOk n xs = true) (hx : xs[k]? = some x) : 0 ≤ x ∧ x < n := by
  have : ∀ (xs : List Int) (o : Option Int) (k : Nat) (x : Int), setGo 0 (n - 1) o xs = true → xs[k]? = some x → inB x 0 (n - 1) = true := by
    intro xs
    induction xs with
    | nil => intro o k x _ hx; simp at hx
    | cons y ys ih =>
      intro o k x h hx
      have h1 : inB y 0 (n - 1) = true ∧ setGo 0 (n - 1) (some y) ys = true := by
        cases o with
        | none => simpa [setGo] using h
        | some p => simp only [setGo, Bool.and_eq_true] at h; exact ⟨h.1, h.2.2⟩
      cases k with
      | zero => simp at hx; subst hx; exact h1.1
      | succ k => exact ih (some y) k x h1.2 (by simpa using hx)
  have := inB_iff.1 (this xs none k x h hx)
  omega
theorem setOk_new {n : Int} {xs : List Int} {k : Nat} {x : Int} (h : setOk n xs = true) (hx : xs[k]? = some x) : hasB x (xs.take k) = false := by
  have low : ∀ (xs : List Int) (p : Int), setGo 0 (n - 1) (some p) xs = true → ∀ x ∈ xs, p < x := by
    intro xs
    induction xs with
    | nil => intro p _ x hx; simp at hx
    | cons y ys ih =>
      intro p h x hx
      simp only [setGo, Bool.and_eq_true, decide_eq_true_eq] at h
      rcases List.mem_cons.1 hx with rfl | hx
      · exact h.2.1
      · have := ih y h.2.2 x hx; omega
  have : ∀ (xs : List Int) (o : Option Int) (k : Nat) (x : Int), setGo 0 (n - 1) o xs = true → xs[k]? = some x → hasB x (xs.take k) = false := by
    intro xs
    induction xs with
    | nil => intro o k x _ hx; simp at hx
    | cons y ys ih =>
      intro o k x h hx
      have h1 : setGo 0 (n - 1) (some y) ys = true := by
        cases o with
        | none => simp only [setGo, Bool.and_eq_true] at h; exact h.2
        | some p => simp only [setGo, Bool.and_eq_true] at h; exact h.2.2
      cases k with
      | zero => rfl
      | succ k =>
        have hx' : ys[k]? = some x := by simpa using hx
        have := low ys y h1 x (List.mem_of_getElem? hx')
        rw [List.take_succ_cons, hasB_cons, ih (some y) k x h1 hx']
        simp; omega
  exact this xs none k x h hx
theorem setOk_len {n : Nat} {xs : List Int} (h : setOk n xs = true) : xs.length ≤ n := by
  have : ∀ (xs : List Int) (p : Int), setGo 0 ((n : Int) - 1) (some p) xs = true → -1 ≤ p → p < n → (xs.length : Int) ≤ n - 1 - p := by
    intro xs
    induction xs with
    | nil => intro p _ _ h; simp; omega
    | cons y ys ih =>
      intro p h hp hp'
      simp only [setGo, Bool.and_eq_true, decide_eq_true_eq] at h
      have h1 := inB_iff.1 h.1
      have := ih y h.2.2 (by omega) (by omega)
      have h2 := h.2.1
      simp only [List.length_cons]
      omega
  cases xs with
  | nil => simp
  | cons y ys =>
    have h' : setGo 0 ((n : Int) - 1) none (y :: ys) = true := h
    simp only [setGo, Bool.and_eq_true] at h'
    have h1 := inB_iff.1 h'.1
    have := this ys y h'.2 (by omega) (by omega)
    simp only [List.length_cons]
    omega
theorem hasB_snoc {xs : List Int} {k : Nat} {x : Int} (n : Int) (h : xs[k]? = some x) : hasB n (xs.take (k + 1)) = (hasB n (xs.take k) || decide (x = n)) := by
  rw [take_snoc h]
  simp [hasB]

/-- which states already stand in the list of row t, column a', when i numbers of the list of state s and letter a have been done -/
def cellP (next : List (List (List Int))) (s a i : Nat) (t a' : Nat) : List Int :=
  fromL next a' t s ++ (if (a' < a ∧ hasB t (cellL next s a') = true) ∨ (a' = a ∧ hasB t ((cellL next s a).take i) = true) then [(s : Int)] else [])
theorem cellP_0 (next : List (List (List Int))) (t a' : Nat) : cellP next 0 0 0 t a' = [] := by simp [cellP, fromL, castL, hasB]
theorem cellP_start (next : List (List (List Int))) (s t a' : Nat) : cellP next s 0 0 t a' = fromL next a' t s := by simp [cellP, hasB]
theorem cellP_s {next : List (List (List Int))} {s l t a' : Nat} (h : a' < l) : cellP next s l 0 t a' = cellP next (s + 1) 0 0 t a' := by
  rw [cellP_start]
  unfold cellP
  cases hb : hasB t (cellL next s a') with
  | true => rw [fromL_yes hb, if_pos (.inl ⟨h, rfl⟩)]
  | false =>
    rw [fromL_no hb, if_neg (by
      rintro (h1 | h1)
      · cases h1.2
      · omega), List.append_nil]
theorem cellP_a (next : List (List (List Int))) (s a t a' : Nat) : cellP next s a (cellL next s a).length t a' = cellP next s (a + 1) 0 t a' := by
  unfold cellP
  rw [List.take_length, List.take_zero]
  congr 1
  refine ite_congr (propext ⟨?_, ?_⟩) (fun _ => rfl) (fun _ => rfl)
  · rintro (h | h)
    · exact .inl ⟨by omega, h.2⟩
    · obtain ⟨rfl, h⟩ := h
      exact .inl ⟨by omega, h⟩
  · rintro (h | h)
    · rcases Nat.lt_or_eq_of_le (Nat.le_of_lt_succ h.1) with h1 | rfl
      · exact .inl ⟨h1, h.2⟩
      · exact .inr ⟨rfl, h.2⟩
    · simp [hasB] at h
theorem cellP_i {n : Int} {next : List (List (List Int))} {s a i t : Nat} (hok : setOk n (cellL next s a) = true) (hx : (cellL next s a)[i]? = some (t : Int)) : cellP next s a (i + 1) t a = cellP next s a i t a ++ [(s : Int)] := by
  unfold cellP
  have h1 := setOk_new hok hx
  rw [if_pos (.inr ⟨rfl, by rw [hasB_snoc _ hx]; simp⟩), if_neg (by
    rintro (h | h)
    · omega
    · rw [h1] at h; cases h.2), List.append_nil]
theorem cellP_o {next : List (List (List Int))} {s a i t : Nat} (hx : (cellL next s a)[i]? = some (t : Int)) {t' a' : Nat} (hne : ¬ (t' = t ∧ a' = a)) : cellP next s a (i + 1) t' a' = cellP next s a i t' a' := by
  unfold cellP
  congr 1
  refine ite_congr (propext (or_congr Iff.rfl ⟨?_, ?_⟩)) (fun _ => rfl) (fun _ => rfl)
  · rintro ⟨rfl, h⟩
    refine ⟨rfl, ?_⟩
    rw [hasB_snoc _ hx] at h
    rcases (Bool.or_eq_true_iff.1 h) with h | h
    · exact h
    · exact absurd ⟨by have := of_decide_eq_true h; omega, rfl⟩ hne
  · rintro ⟨rfl, h⟩
    exact ⟨rfl, by rw [hasB_snoc _ hx, h]; rfl⟩
theorem cellP_le (next : List (List (List Int))) (s a i t a' : Nat) : (cellP next s a i t a').length ≤ s + 1 := by
  unfold cellP
  rw [List.length_append]
  have := fromL_le next a' t s
  split <;> simp <;> omega
end Go.Proofs.Ytpknkaidmefenaa
