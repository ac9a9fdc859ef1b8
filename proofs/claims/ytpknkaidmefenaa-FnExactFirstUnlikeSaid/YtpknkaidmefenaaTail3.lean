/-
  A drawn region whose last operations wait for all others, if only by way of others. No program in sight. Conditions: those in each statement.
-/
import Derived.Test.YtpknkaidmefenaaTail
set_option linter.unusedVariables false
set_option linter.unusedSimpArgs false
set_option maxRecDepth 100000
set_option maxHeartbeats 1000000
namespace Go.Proofs.Ytpknkaidmefenaa

section
variable {P : Program} {ops : Array Oper} {Q : Exit → Act → World → Prop} {md : Region.Mode} {S : World → Prop} {n : Nat}
/-- Operation j waits for i, if only by way of others. -/
def waitsT (md : Region.Mode) (ops : Array Oper) : Nat → Nat → Nat → Bool
  | 0, _, _ => false
  | f + 1, j, i => Region.waitsFor md ops j i || (List.range j).any fun k => Region.waitsFor md ops j k && waitsT md ops f k i
def lastsT (md : Region.Mode) (ops : Array Oper) (n i : Nat) : Bool := (List.range ops.size).all fun j => decide (j < n) || waitsT md ops 20 j i
/-- What an operation that is listed waits for is listed. -/
def closedB (md : Region.Mode) (ops : Array Oper) (listed : Array Bool) : Bool := (List.range ops.size).all fun j => !listed.getD j false || match ops[j]? with
  | some oj => oj.after.all fun e => !Region.binds md e || listed.getD e.on false
  | none => true
def ClosedL (md : Region.Mode) (ops : Array Oper) (listed : Array Bool) : Prop := ∀ (j : Nat) (oj : Oper), listed.getD j false = true → ops[j]? = some oj → ∀ e ∈ oj.after, Region.binds md e = true → listed.getD e.on false = true
theorem closed_of {listed : Array Bool} (h : closedB md ops listed = true) : ClosedL md ops listed := fun j oj hj ho e he hb => by
  have h1 := List.all_eq_true.1 h j (List.mem_range.2 (Array.getElem?_eq_some_iff.1 ho).1)
  simp only [hj, ho, Bool.not_true, Bool.false_or, Array.all_eq_true_iff_forall_mem] at h1
  have h2 := h1 e he
  simpa [hb] using h2
theorem closed_set {listed : Array Bool} (h : ClosedL md ops listed) {i : Nat} (hi : i ∈ Region.ready md ops listed) : ClosedL md ops (listed.setIfInBounds i true) := fun j oj hj ho e he hb => by
  by_cases hij : i = j
  · subst hij
    obtain ⟨_, o, ho', hall⟩ := mem_ready.1 hi
    have : o = oj := by rw [ho] at ho'; exact (Option.some.inj ho').symm
    subst this
    exact getD_set_true (hall e he hb)
  · rw [getD_set_ne false hij] at hj
    exact getD_set_true (h j oj hj ho e he hb)
theorem waits_listed {listed : Array Bool} (h : ClosedL md ops listed) : ∀ (f j i : Nat), waitsT md ops f j i = true → (∀ oj, ops[j]? = some oj → ∀ e ∈ oj.after, Region.binds md e = true → listed.getD e.on false = true) → listed.getD i false = true
  | 0, _, _, hw, _ => by simp [waitsT] at hw
  | f + 1, j, i, hw, hj => by
    simp only [waitsT, Bool.or_eq_true, List.any_eq_true, Bool.and_eq_true] at hw
    rcases hw with hw | ⟨k, _, hk, hw⟩
    · obtain ⟨oj, hoj, e, he, hb, heq⟩ := Region.waitsFor_spec hw
      rw [← heq]
      exact hj oj hoj e he hb
    · obtain ⟨oj, hoj, e, he, hb, heq⟩ := Region.waitsFor_spec hk
      have hl := hj oj hoj e he hb
      rw [heq] at hl
      exact waits_listed h f k i hw fun ok hok e' he' hb' => h k ok hl hok e' he' hb'
theorem lastsT_spec {i j : Nat} (h : lastsT md ops n i = true) {listed : Array Bool} (hc : ClosedL md ops listed) (hj : j ∈ Region.ready md ops listed) (hnj : n ≤ j) : i ∉ Region.ready md ops listed := fun hri => by
  obtain ⟨_, oj, hoj, hall⟩ := mem_ready.1 hj
  have hlt : j < ops.size := (Array.getElem?_eq_some_iff.1 hoj).1
  have h1 := List.all_eq_true.1 h j (List.mem_range.2 hlt)
  rw [Bool.or_eq_true] at h1
  have h2 := (h1.resolve_left (by simp; omega))
  have h3 := waits_listed hc 20 j i h2 fun ok hok e he hb => by
    have : ok = oj := by rw [hoj] at hok; exact (Option.some.inj hok).symm
    subst this
    exact hall e he hb
  have h4 := (mem_ready.1 hri).1
  rcases Nat.lt_or_ge i listed.size with hl | hl
  · simp [hl] at h3 h4; rw [h3] at h4; cases h4
  · simp [Array.getElem?_eq_none hl] at h3
theorem Held.first3 {i : Nat} {oi : Oper} {v : Value} (hlast : lastsT md ops n i = true) (hi : ops[i]? = some oi) (hsel : ∀ (j : Nat) (o : Oper) cs b, ops[j]? = some o → o.op ≠ .select cs b)
    (hQ : ∀ c a w, Q (.panic c) (a.put oi.dst v) w → Q (.panic c) a w) : ∀ (fuel : Nat) (listed : Array Bool) (a : Act) (w : World),
      ClosedL md ops listed → (∀ j oj, ops[j]? = some oj → j ≠ i → listed.getD j true = false → (∀ e ∈ oj.after, Region.binds md e = true → e.on ≠ i) → oi.apart ops oj = true) →
      i ∈ Region.ready md ops listed → YieldsIf P ops S oi v a → S w → Held P md ops Q S n fuel (listed.setIfInBounds i true) (a.put oi.dst v) w → Held P md ops Q S n (fuel + 1) listed a w
  | 0, listed, a, w, _, _, hr, hy, hS, H => ⟨fun h => absurd hr (by rw [h]; simp), fun j hj => by
    by_cases hji : j = i
    · subst hji; exact hy.wpOp hi hS ⟨fun _ => hS, H⟩
    · exact absurd (ready_mono hj hji) (by rw [H.1]; simp)⟩
  | fuel + 1, listed, a, w, hc, hfree, hr, hy, hS, H => ⟨fun h => absurd hr (by rw [h]; simp), fun j hj => by
    by_cases hji : j = i
    · subst hji; exact hy.wpOp hi hS ⟨fun _ => hS, H⟩
    · have hjn : j < n := Nat.lt_of_not_le fun h => lastsT_spec hlast hc hj h hr
      obtain ⟨hjun, oj, hoj, hall⟩ := mem_ready.1 hj
      have hnot : ∀ e ∈ oj.after, Region.binds md e = true → e.on ≠ i := fun e he hb heq => by
        have h1 := hall e he hb
        have h0 := (mem_ready.1 hr).1
        rw [heq] at h1
        rcases Nat.lt_or_ge i listed.size with h' | h'
        · simp [h'] at h0 h1; rw [h0] at h1; cases h1
        · simp [Array.getElem?_eq_none h'] at h1
      have h2 := wpOp_putIf hoj (hfree j oj hoj hji hjun hnot) (fun cs b => hsel i oi cs b hi) (fun cs b => hsel j oj cs b hoj) hQ hy (H.2 j (ready_mono hj hji))
      refine wpOp_mono (fun a' w' h3 => ⟨h3.2.1, Held.first3 hlast hi hsel hQ fuel (listed.setIfInBounds j true) a' w' (closed_set hc hj) (fun k ok hk hki hun hno => hfree k ok hk hki ?_ hno) (ready_mono hr (Ne.symm hji)) h3.1 (h3.2.1 hjn) ?_⟩) h2
      · by_cases hjk : j = k
        · subst hjk; exact hjun
        · rwa [getD_set_ne true hjk] at hun
      · rw [Array.setIfInBounds_comm _ _ hji]
        exact h3.2.2⟩
/-- Take number i first. -/
theorem Held.take3 {i : Nat} {oi : Oper} {v : Value} {fuel : Nat} {listed : Array Bool} {a : Act} {w : World} (hi : ops[i]? = some oi) (hin : decide (i < n) = true) (hlast : (lastsT md ops n i && closedB md ops listed) = true)
    (hs : Region.noSelect ops = true) (hf : Region.free md ops listed i = true) (hr : (Region.ready md ops listed).contains i = true)
    (hQ : ∀ c a w, Q (.panic c) (a.put oi.dst v) w → Q (.panic c) a w) (hy : YieldsIf P ops S oi v a) (hS : S w)
    (h : Held P md ops Q S n fuel (listed.setIfInBounds i true) (a.put oi.dst v) w) : Held P md ops Q S n (fuel + 1) listed a w := by
  rw [Bool.and_eq_true] at hlast
  exact Held.first3 hlast.1 hi (Region.noSelect_spec hs) hQ fuel listed a w (closed_of hlast.2) (Region.free_spec hi hf) (by simpa using hr) hy hS h
/-- A condition taken up on the way. -/
theorem Held.also {n' : Nat} : ∀ {fuel : Nat} {listed : Array Bool} {a : Act} {w : World}, Held P md ops Q S n fuel listed a w → Held P md ops Q (fun _ => True) n' fuel listed a w
  | 0, _, _, _, h => h
  | _ + 1, _, _, _, h => ⟨h.1, fun i hi => wpOp_mono (fun _ _ h' => ⟨fun _ => trivial, Held.also h'.2⟩) (h.2 i hi)⟩
theorem Held.with_ {fuel : Nat} {listed : Array Bool} {a : Act} {w : World} (hS : S w) (h : S w → Held P md ops Q S n fuel listed a w) : Held P md ops Q S n fuel listed a w := h hS
end
end Go.Proofs.Ytpknkaidmefenaa
