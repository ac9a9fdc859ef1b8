/-
  Plain words on joined tables: a way between two words that does not stop in so many steps never stops. No program in sight. Conditions: those in each statement.
-/
import Derived.Test.YtepjgaakihhngaaJoin2
set_option linter.unusedVariables false
set_option linter.unusedSimpArgs false
set_option maxRecDepth 100000
set_option maxHeartbeats 1000000
namespace Go.Proofs.Ytepjgaakihhngaa

/-- Among N + 1 numbers below N two are alike. -/
theorem pigeon : ∀ (N : Nat) (f : Nat → Nat), (∀ i, i ≤ N → f i < N) → ∃ i j, i < j ∧ j ≤ N ∧ f i = f j
  | 0, f, h => absurd (h 0 (Nat.le_refl _)) (by omega)
  | N + 1, f, h => by
    by_cases hv : ∃ i, i ≤ N ∧ f i = f (N + 1)
    · obtain ⟨i, hi, e⟩ := hv
      exact ⟨i, N + 1, by omega, Nat.le_refl _, e⟩
    · have hne : ∀ i, i ≤ N → f i ≠ f (N + 1) := fun i hi e => hv ⟨i, hi, e⟩
      obtain ⟨i, j, h1, h2, h3⟩ := pigeon N (fun i => if f (N + 1) < f i then f i - 1 else f i) (fun i hi => by
        have := h i (by omega)
        have := h (N + 1) (Nat.le_refl _)
        have := hne i hi
        show (if f (N + 1) < f i then f i - 1 else f i) < N
        by_cases hc : f (N + 1) < f i
        · rw [if_pos hc]; omega
        · rw [if_neg hc]; omega)
      refine ⟨i, j, h1, by omega, ?_⟩
      have := hne i (by omega)
      have := hne j h2
      replace h3 : (if f (N + 1) < f i then f i - 1 else f i) = (if f (N + 1) < f j then f j - 1 else f j) := h3
      by_cases hc : f (N + 1) < f i
      · rw [if_pos hc] at h3
        by_cases hd : f (N + 1) < f j
        · rw [if_pos hd] at h3; omega
        · rw [if_neg hd] at h3; omega
      · rw [if_neg hc] at h3
        by_cases hd : f (N + 1) < f j
        · rw [if_pos hd] at h3; omega
        · rw [if_neg hd] at h3; omega

/-- one step, whether it has stopped or not -/
def bnx (xr yl : List (Int × Int)) (c : (Int × Int) × Bool) : (Int × Int) × Bool := if c.2 = true then (yl.getD c.1.2.toNat (0, -3), false) else (xr.getD c.1.2.toNat (0, -3), true)
def bstop (c : (Int × Int) × Bool) : Prop := c.1.1 = 0 ∨ (c.2 = true ∧ c.1.1 = -1) ∨ (c.2 = false ∧ c.1.1 = 1)
def bit (xr yl : List (Int × Int)) : Nat → (Int × Int) × Bool → (Int × Int) × Bool
  | 0, c => c
  | k + 1, c => bit xr yl k (bnx xr yl c)
section
variable {xr yl : List (Int × Int)}
theorem bit_succ : ∀ (k : Nat) (c : (Int × Int) × Bool), bit xr yl (k + 1) c = bnx xr yl (bit xr yl k c)
  | 0, c => rfl
  | k + 1, c => by rw [bit, bit_succ k (bnx xr yl c)]; rfl
theorem btw_stop (k : Nat) {c : (Int × Int) × Bool} (h : bstop c) : btw xr yl (k + 1) c.1 c.2 = c.1 := by
  rcases h with h | ⟨h, h'⟩ | ⟨h, h'⟩ <;> simp [btw, h, *]
theorem btw_step (k : Nat) {c : (Int × Int) × Bool} (h : ¬ bstop c) : btw xr yl (k + 1) c.1 c.2 = btw xr yl k (bnx xr yl c).1 (bnx xr yl c).2 := by
  obtain ⟨⟨s, t⟩, l⟩ := c
  unfold bstop at h
  cases l <;> simp_all [btw, bnx]
theorem btw_more : ∀ (k : Nat) (c : (Int × Int) × Bool), (∃ i, i < k ∧ bstop (bit xr yl i c)) → btw xr yl k c.1 c.2 = btw xr yl (k + 1) c.1 c.2
  | 0, c, ⟨i, h, _⟩ => absurd h (by omega)
  | k + 1, c, ⟨i, h, hs⟩ => by
    by_cases hc : bstop c
    · rw [btw_stop k hc, btw_stop (k + 1) hc]
    · rw [btw_step k hc, btw_step (k + 1) hc]
      cases i with
      | zero => exact absurd hs hc
      | succ i => exact btw_more k _ ⟨i, by omega, hs⟩
theorem btw_on : ∀ (k : Nat) (c : (Int × Int) × Bool), (∀ i, i < k → ¬ bstop (bit xr yl i c)) → btw xr yl k c.1 c.2 = (0, -3)
  | 0, c, _ => rfl
  | k + 1, c, h => by
    have h0 : ¬ bstop c := h 0 (by omega)
    rw [btw_step k h0]
    exact btw_on k _ fun i hi => h (i + 1) (by omega)

theorem btw_stable (N : Nat) (hyl : yl.length = N) (hxr : xr.length = N) (h1 : ∀ y ∈ yl, ExIn N N y) (h2 : ∀ y ∈ xr, ExIn N N y) (e : Int × Int) (l : Bool) (he : ExIn N N e) : btw xr yl (2 * N + 2) e l = btw xr yl (2 * N + 1) e l := by
  by_cases hs : ∃ i, i < 2 * N + 1 ∧ bstop (bit xr yl i (e, l))
  · exact (btw_more (2 * N + 1) (e, l) hs).symm
  · have hn : ∀ i, i < 2 * N + 1 → ¬ bstop (bit xr yl i (e, l)) := fun i hi h => hs ⟨i, hi, h⟩
    have hval : ∀ i, i ≤ 2 * N + 1 → ExIn N N (bit xr yl i (e, l)).1 := by
      intro i
      induction i with
      | zero => intro _; exact he
      | succ i ih =>
        intro hi
        have hv := ih (by omega)
        have hst := hn i (by omega)
        rw [bit_succ]
        generalize bit xr yl i (e, l) = q at hv hst
        obtain ⟨⟨s, t⟩, b⟩ := q
        unfold bstop at hst
        have ht : 0 ≤ t ∧ t < N := by
          rcases hv with hv | ⟨_, a, b, _⟩
          · exact absurd (.inl hv) hst
          · exact ⟨a, b⟩
        cases b with
        | true =>
          show ExIn N N (yl.getD t.toNat (0, -3))
          have hlt : t.toNat < yl.length := by omega
          rw [List.getD_eq_getElem?_getD, List.getElem?_eq_getElem hlt]
          exact h1 _ (List.getElem_mem hlt)
        | false =>
          show ExIn N N (xr.getD t.toNat (0, -3))
          have hlt : t.toNat < xr.length := by omega
          rw [List.getD_eq_getElem?_getD, List.getElem?_eq_getElem hlt]
          exact h2 _ (List.getElem_mem hlt)
    have hcode : ∀ i, i ≤ 2 * N → (if (bit xr yl i (e, l)).2 = true then 0 else N) + (bit xr yl i (e, l)).1.2.toNat < 2 * N := by
      intro i hi
      have hv := hval i (by omega)
      have hst := hn i (by omega)
      generalize bit xr yl i (e, l) = q at hv hst
      obtain ⟨⟨s, t⟩, b⟩ := q
      unfold bstop at hst
      have ht : 0 ≤ t ∧ t < N := by
        rcases hv with hv | ⟨_, a, b, _⟩
        · exact absurd (.inl hv) hst
        · exact ⟨a, b⟩
      cases b <;> simp <;> omega
    obtain ⟨i, j, hij, hj, hc⟩ := pigeon (2 * N) (fun i => (if (bit xr yl i (e, l)).2 = true then 0 else N) + (bit xr yl i (e, l)).1.2.toNat) hcode
    have heq : bit xr yl i (e, l) = bit xr yl j (e, l) := by
      have v1 := hval i (by omega); have v2 := hval j (by omega)
      have s1 := hn i (by omega); have s2 := hn j (by omega)
      replace hc : (if (bit xr yl i (e, l)).2 = true then 0 else N) + (bit xr yl i (e, l)).1.2.toNat = (if (bit xr yl j (e, l)).2 = true then 0 else N) + (bit xr yl j (e, l)).1.2.toNat := hc
      generalize bit xr yl i (e, l) = a at v1 s1 hc ⊢
      generalize bit xr yl j (e, l) = b at v2 s2 hc ⊢
      obtain ⟨⟨s, t⟩, p⟩ := a
      obtain ⟨⟨s', t'⟩, p'⟩ := b
      unfold bstop at s1 s2
      unfold ExIn at v1 v2
      cases p <;> cases p' <;> simp at * <;> omega
    have hlast : ¬ bstop (bit xr yl (2 * N + 1) (e, l)) := by
      have key : ∀ d, bit xr yl (i + d) (e, l) = bit xr yl (j + d) (e, l) := by
        intro d
        induction d with
        | zero => exact heq
        | succ d ih => rw [← Nat.add_assoc, ← Nat.add_assoc, bit_succ, bit_succ, ih]
      have h := key (2 * N + 1 - j)
      rw [show j + (2 * N + 1 - j) = 2 * N + 1 by omega] at h
      rw [← h]
      exact hn _ (by omega)
    have g2 := btw_on (2 * N + 1) (e, l) hn
    have g3 := btw_on (2 * N + 2) (e, l) (fun i hi => by
      rcases Nat.lt_or_ge i (2 * N + 1) with h | h
      · exact hn i h
      · rw [show i = 2 * N + 1 by omega]; exact hlast)
    exact g3.trans g2.symm
end

theorem exitOk_in {N : Nat} {x : Int × Int} (h : exitOk N x = true) : ExIn N N x := by
  unfold exitOk at h
  unfold ExIn
  by_cases h0 : x.1 = 0
  · exact .inl h0
  · rw [if_neg h0] at h
    by_cases h1 : x.1 = -1 ∨ x.1 = 1
    · rw [if_pos h1] at h
      have := of_decide_eq_true h
      exact .inr ⟨h1, by omega, by omega, by omega⟩
    · rw [if_neg h1] at h; cases h
theorem okB_in {T : Tb} (h : T.okB = true) : (∀ x ∈ T.l, ExIn T.l.length T.l.length x) ∧ (∀ x ∈ T.r, ExIn T.l.length T.l.length x) ∧ T.l.length ≤ 12 ∧ T.r.length = T.l.length ∧ 1 ≤ T.l.length := by
  unfold Tb.okB inB at h
  simp only [Bool.and_eq_true, List.all_eq_true, decide_eq_true_eq] at h
  exact ⟨fun x hx => exitOk_in (h.2.2.1 x hx), fun x hx => exitOk_in (h.2.2.2 x hx), by omega, h.2.1, by omega⟩
theorem joinT_stable {T U : Tb} (hT : T.okB = true) (hU : U.okB = true) (hl : T.l.length = U.l.length) : joinT (2 * T.l.length + 2) T U = joinT (2 * T.l.length + 1) T U := by
  obtain ⟨a1, a2, a3, a4, _⟩ := okB_in hT
  obtain ⟨b1, b2, b3, b4, _⟩ := okB_in hU
  rw [← hl] at b1 b2 b4
  unfold joinT
  congr 1
  · exact List.map_congr_left fun x hx => btw_stable T.l.length hl.symm a4 b1 a2 x true (a1 x hx)
  · exact List.map_congr_left fun x hx => btw_stable T.l.length hl.symm a4 b1 a2 x false (b2 x hx)
/-- JoinTables, in plain words: its table and its code -/
def Tb.joinC (T U : Tb) : Tb := if T.okB = true ∧ U.okB = true ∧ T.l.length = U.l.length then joinT (2 * T.l.length + 1) T U else ⟨[], []⟩
def Tb.joinCode (T U : Tb) : Int := if T.okB = true ∧ U.okB = true then (if T.l.length = U.l.length then 0 else 2) else 1
theorem joinC_tot {T U : Tb} : (T.joinC U).tot ≤ 1048576 := by
  unfold Tb.joinC
  by_cases h : T.okB = true ∧ U.okB = true ∧ T.l.length = U.l.length
  · rw [if_pos h]
    obtain ⟨_, _, a3, a4, _⟩ := okB_in h.1
    obtain ⟨_, _, b3, b4, _⟩ := okB_in h.2.1
    simp only [joinT, Tb.tot, List.length_map]
    omega
  · rw [if_neg h]; simp [Tb.tot]
end Go.Proofs.Ytepjgaakihhngaa
