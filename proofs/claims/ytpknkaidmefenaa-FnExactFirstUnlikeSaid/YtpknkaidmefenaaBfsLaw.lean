/-
  Breadth-first search finds the first word (by length, then by letters) that leads to a place that is looked for. No program in sight. Conditions: those in each statement.
-/
import Derived.Test.YtpknkaidmefenaaMem
set_option linter.unusedVariables false
set_option linter.unusedSimpArgs false
set_option maxRecDepth 100000
set_option maxHeartbeats 1000000
namespace Go.Proofs.Ytpknkaidmefenaa

/-- The place of a word among all words, by length and then by letters. -/
def wval (L : Nat) (u : List Nat) : Nat := u.foldl (fun n a => n * L + a + 1) 0
theorem wval_app (L : Nat) (u : List Nat) (a : Nat) : wval L (u ++ [a]) = wval L u * L + a + 1 := by
  unfold wval
  rw [List.foldl_append]
  rfl
theorem wval_lt {L a b x y : Nat} (h : x < y) (ha : a < L) : x * L + a + 1 < y * L + b + 1 := by
  have h1 : (x + 1) * L ≤ y * L := Nat.mul_le_mul_right _ h
  rw [Nat.add_mul, Nat.one_mul] at h1
  omega
theorem wval_self {L a x : Nat} (hL : 1 ≤ L) : x < x * L + a + 1 := by
  have h1 : x * 1 ≤ x * L := Nat.mul_le_mul_left _ hL
  omega
theorem last_nat {u : List Nat} (h : u ≠ []) : ∃ v a, u = v ++ [a] := ⟨u.dropLast, u.getLast h, (List.dropLast_concat_getLast _).symm⟩
theorem wval_inj {L : Nat} : ∀ (n : Nat) (u v : List Nat), u.length ≤ n → (∀ a ∈ u, a < L) → (∀ a ∈ v, a < L) → wval L u = wval L v → u = v
  | 0, u, v, hn, _, _, h => by
    obtain rfl : u = [] := List.eq_nil_of_length_eq_zero (by omega)
    by_cases hv : v = []
    · exact hv.symm
    · obtain ⟨v', b, rfl⟩ := last_nat hv
      rw [wval_app] at h
      have h0 : wval L [] = 0 := rfl
      omega
  | n + 1, u, v, hn, hu, hv, h => by
    by_cases hu0 : u = []
    · subst hu0
      by_cases hv0 : v = []
      · exact hv0.symm
      · obtain ⟨v', b, rfl⟩ := last_nat hv0
        rw [wval_app] at h
        have h0 : wval L [] = 0 := rfl
        omega
    · obtain ⟨u', a, rfl⟩ := last_nat hu0
      by_cases hv0 : v = []
      · subst hv0
        rw [wval_app] at h
        have h0 : wval L [] = 0 := rfl
        omega
      · obtain ⟨v', b, rfl⟩ := last_nat hv0
        have ha : a < L := hu a (by simp)
        have hb : b < L := hv b (by simp)
        rw [wval_app, wval_app] at h
        have h1 : wval L u' = wval L v' := by
          rcases Nat.lt_trichotomy (wval L u') (wval L v') with h2 | h2 | h2
          · have := wval_lt (a := a) (b := b) h2 ha; omega
          · exact h2
          · have := wval_lt (a := b) (b := a) h2 hb; omega
        rw [h1] at h
        have hab : a = b := by omega
        have huv := wval_inj n u' v' (by simp at hn; omega) (fun x hx => hu x (List.mem_append_left _ hx)) (fun x hx => hv x (List.mem_append_left _ hx)) h1
        rw [hab, huv]

section
variable {α : Type} {L : Nat} {step : α → Nat → α} {bad : α → Bool} {s0 : α} {i a : Nat} {nodes : List α} {words : List (List Nat)}
def runW (step : α → Nat → α) (s : α) (u : List Nat) : α := u.foldl step s
theorem runW_app (u : List Nat) (a : Nat) : runW step s0 (u ++ [a]) = step (runW step s0 u) a := by
  unfold runW
  rw [List.foldl_append]
  rfl
def Lets (L : Nat) (u : List Nat) : Prop := ∀ a ∈ u, a < L
/-- The first word that leads to a bad place. -/
def FirstW (L : Nat) (step : α → Nat → α) (bad : α → Bool) (s0 : α) (w : List Nat) : Prop := Lets L w ∧ bad (runW step s0 w) = true ∧ ∀ u, Lets L u → wval L u < wval L w → bad (runW step s0 u) = false
def NoneW (L : Nat) (step : α → Nat → α) (bad : α → Bool) (s0 : α) : Prop := ∀ u, Lets L u → bad (runW step s0 u) = false

/-- The search stands at letter a of place number i: what has been met, and the words. -/
structure Bfs (L : Nat) (step : α → Nat → α) (bad : α → Bool) (s0 : α) (i a : Nat) (nodes : List α) (words : List (List Nat)) : Prop where
  len : nodes.length = words.length
  first : words[0]? = some []
  lets : ∀ (j : Nat) (u : List Nat), words[j]? = some u → Lets L u
  run : ∀ (j : Nat) (u : List Nat) (x : α), words[j]? = some u → nodes[j]? = some x → runW step s0 u = x
  sorted : ∀ (j k : Nat) (u v : List Nat), j < k → words[j]? = some u → words[k]? = some v → wval L u < wval L v
  front : ∀ (v : List Nat), words[i]? = some v → ∀ (j : Nat) (u : List Nat), words[j]? = some u → wval L u < wval L v * L + a + 1
  done : ∀ (j : Nat) (u : List Nat), j < i → words[j]? = some u → ∀ b, b < L → ∃ (m : Nat) (v : List Nat), words[m]? = some v ∧ nodes[m]? = some (step (runW step s0 u) b) ∧ wval L v ≤ wval L u * L + b + 1
  part : ∀ (u : List Nat), words[i]? = some u → ∀ b, b < a → ∃ (m : Nat) (v : List Nat), words[m]? = some v ∧ nodes[m]? = some (step (runW step s0 u) b) ∧ wval L v ≤ wval L u * L + b + 1
  good : ∀ (j : Nat) (x : α), j < i → nodes[j]? = some x → bad x = false
theorem Bfs.start : Bfs L step bad s0 0 0 [s0] [[]] := by
  refine ⟨rfl, rfl, fun j u h => ?_, fun j u x h h2 => ?_, fun j k u v hjk h1 h2 => ?_, fun v hv j u h => ?_, fun j u hj => absurd hj (by omega), fun u _ b hb => absurd hb (by omega), fun j x hj => absurd hj (by omega)⟩
  · cases j with
    | zero => obtain rfl : [] = u := by simpa using h
              exact fun a ha => by simp at ha
    | succ j => simp at h
  · cases j with
    | zero => obtain rfl : [] = u := by simpa using h
              simpa [runW] using h2
    | succ j => simp at h
  · cases k with
    | zero => omega
    | succ k => simp at h2
  · cases j with
    | zero => obtain rfl : [] = u := by simpa using h
              show 0 < _
              omega
    | succ j => simp at h
/-- What every word shorter than the one at hand comes to has been met. -/
theorem Bfs.met (B : Bfs L step bad s0 i 0 nodes words) (hL : 1 ≤ L) (hi : i ≤ words.length) : ∀ (n : Nat) (u : List Nat), u.length ≤ n → Lets L u → (∀ v, words[i]? = some v → wval L u < wval L v) → ∃ (j : Nat) (v : List Nat), j < i ∧ words[j]? = some v ∧ nodes[j]? = some (runW step s0 u) ∧ wval L v ≤ wval L u
  | n, u, hn, hu, hlt => by
    have key : ∃ (j : Nat) (v : List Nat), words[j]? = some v ∧ nodes[j]? = some (runW step s0 u) ∧ wval L v ≤ wval L u := by
      by_cases h0 : u = []
      · subst h0
        have h0l : 0 < nodes.length := by rw [B.len]; exact (List.getElem?_eq_some_iff.1 B.first).1
        have hx := B.run 0 [] _ B.first (List.getElem?_eq_getElem h0l)
        exact ⟨0, [], B.first, by rw [hx]; exact List.getElem?_eq_getElem h0l, Nat.le_refl _⟩
      · obtain ⟨u', a, rfl⟩ := last_nat h0
        have ha : a < L := hu a (by simp)
        match n, hn with
        | n + 1, hn =>
          have hlt' : ∀ v, words[i]? = some v → wval L u' < wval L v := fun v hv => by
            have h1 := hlt v hv
            rw [wval_app] at h1
            have h2 := wval_self (L := L) (a := a) (x := wval L u') hL
            omega
          obtain ⟨j, v, hj, h1, h2, h3⟩ := Bfs.met B hL hi n u' (by simp at hn; omega) (fun x hx => hu x (List.mem_append_left _ hx)) hlt'
          have hr := B.run j v _ h1 h2
          obtain ⟨m, v', m1, m2, m3⟩ := B.done j v hj h1 a ha
          refine ⟨m, v', m1, by rw [runW_app, ← hr]; exact m2, ?_⟩
          rw [wval_app]
          have : wval L v * L ≤ wval L u' * L := Nat.mul_le_mul_right _ h3
          omega
        | 0, hn => simp at hn
    obtain ⟨j, v, h1, h2, h3⟩ := key
    refine ⟨j, v, ?_, h1, h2, h3⟩
    by_cases hji : j < i
    · exact hji
    · have hjl := (List.getElem?_eq_some_iff.1 h1).1
      obtain ⟨vi, hvi⟩ : ∃ vi, words[i]? = some vi := ⟨_, List.getElem?_eq_getElem (by omega)⟩
      have h4 := hlt vi hvi
      rcases Nat.lt_or_ge i j with h5 | h5
      · have := B.sorted i j vi v h5 hvi h1
        omega
      · obtain rfl : i = j := by omega
        rw [h1] at hvi
        injection hvi with hvi
        subst hvi
        omega
theorem Bfs.found (B : Bfs L step bad s0 i 0 nodes words) (hL : 1 ≤ L) {x : α} {w : List Nat} (hx : nodes[i]? = some x) (hw : words[i]? = some w) (hb : bad x = true) : FirstW L step bad s0 w := by
  refine ⟨B.lets i w hw, by rw [B.run i w x hw hx]; exact hb, fun u hu hlt => ?_⟩
  obtain ⟨j, v, hj, h1, h2, h3⟩ := B.met hL (by have := (List.getElem?_eq_some_iff.1 hw).1; omega) u.length u (Nat.le_refl _) hu (fun v hv => by rw [hw] at hv; injection hv with hv; rw [← hv]; exact hlt)
  exact B.good j _ hj h2
theorem Bfs.none_ (B : Bfs L step bad s0 words.length 0 nodes words) (hL : 1 ≤ L) : NoneW L step bad s0 := fun u hu => by
  obtain ⟨j, v, hj, h1, h2, h3⟩ := B.met hL (Nat.le_refl _) u.length u (Nat.le_refl _) hu (fun v hv => by rw [List.getElem?_eq_none (Nat.le_refl _)] at hv; cases hv)
  exact B.good j _ hj h2
/-- A place that has been met: the next letter. -/
theorem Bfs.old (B : Bfs L step bad s0 i a nodes words) {w : List Nat} {x : α} (hw : words[i]? = some w) (hx : nodes[i]? = some x) (hm : step x a ∈ nodes) : Bfs L step bad s0 i (a + 1) nodes words := by
  have hr := B.run i w x hw hx
  refine ⟨B.len, B.first, B.lets, B.run, B.sorted, fun v hv j u h => ?_, B.done, fun u hu b hb => ?_, B.good⟩
  · have := B.front v hv j u h
    omega
  · by_cases hba : b < a
    · exact B.part u hu b hba
    · obtain rfl : b = a := by omega
      rw [hw] at hu
      injection hu with hu
      subst hu
      obtain ⟨m, hml, hmx⟩ := List.getElem_of_mem hm
      obtain ⟨v, hv⟩ : ∃ v, words[m]? = some v := ⟨_, List.getElem?_eq_getElem (by rw [← B.len]; exact hml)⟩
      refine ⟨m, v, hv, by rw [List.getElem?_eq_getElem hml, hmx, hr], ?_⟩
      have := B.front w hw m v hv
      omega
/-- A new place. -/
theorem Bfs.new (B : Bfs L step bad s0 i a nodes words) (ha : a < L) {w : List Nat} {x : α} (hw : words[i]? = some w) (hx : nodes[i]? = some x) : Bfs L step bad s0 i (a + 1) (nodes ++ [step x a]) (words ++ [w ++ [a]]) := by
  have hr := B.run i w x hw hx
  have hil := (List.getElem?_eq_some_iff.1 hw).1
  have hlen := B.len
  have up : ∀ (j : Nat) (u : List Nat), (words ++ [w ++ [a]])[j]? = some u → words[j]? = some u ∨ (j = words.length ∧ u = w ++ [a]) := fun j u h => by
    rcases Nat.lt_or_ge j words.length with h1 | h1
    · rw [List.getElem?_append_left h1] at h
      exact .inl h
    · rw [List.getElem?_append_right h1] at h
      have h2 := (List.getElem?_eq_some_iff.1 h).1
      have h3 : j = words.length := by simp at h2; omega
      subst h3
      simp at h
      exact .inr ⟨rfl, h.symm⟩
  have keepw : ∀ (j : Nat) (u : List Nat), words[j]? = some u → (words ++ [w ++ [a]])[j]? = some u := fun j u h => by rw [List.getElem?_append_left (List.getElem?_eq_some_iff.1 h).1]; exact h
  have keepn : ∀ (j : Nat) (y : α), nodes[j]? = some y → (nodes ++ [step x a])[j]? = some y := fun j y h => by rw [List.getElem?_append_left (List.getElem?_eq_some_iff.1 h).1]; exact h
  have hv : wval L (w ++ [a]) = wval L w * L + a + 1 := wval_app L w a
  refine ⟨by simp [hlen], keepw 0 [] B.first, fun j u h => ?_, fun j u y h1 h2 => ?_, fun j k u v hjk h1 h2 => ?_, fun v hvi j u h => ?_, fun j u hj h b hb => ?_, fun u hu b hb => ?_, fun j y hj h => ?_⟩
  · rcases up j u h with h | ⟨_, rfl⟩
    · exact B.lets j u h
    · intro b hb
      rcases List.mem_append.1 hb with hb | hb
      · exact B.lets i w hw b hb
      · obtain rfl : b = a := by simpa using hb
        exact ha
  · rcases up j u h1 with h | ⟨rfl, rfl⟩
    · rw [List.getElem?_append_left (by rw [hlen]; exact (List.getElem?_eq_some_iff.1 h).1)] at h2
      exact B.run j u y h h2
    · rw [List.getElem?_append_right (by omega), hlen] at h2
      simp at h2
      rw [runW_app, hr]
      exact h2
  · rcases up j u h1 with h | ⟨rfl, rfl⟩
    · rcases up k v h2 with h' | ⟨_, rfl⟩
      · exact B.sorted j k u v hjk h h'
      · rw [hv]
        exact B.front w hw j u h
    · have := (List.getElem?_eq_some_iff.1 h2).1
      simp at this
      omega
  · rw [List.getElem?_append_left hil, hw] at hvi
    injection hvi with hvi
    subst hvi
    rcases up j u h with h | ⟨_, rfl⟩
    · have := B.front w hw j u h
      omega
    · rw [hv]
      omega
  · rcases up j u h with h | ⟨rfl, _⟩
    · obtain ⟨m, v, m1, m2, m3⟩ := B.done j u hj h b hb
      exact ⟨m, v, keepw m v m1, keepn m _ m2, m3⟩
    · omega
  · rw [List.getElem?_append_left hil, hw] at hu
    injection hu with hu
    subst hu
    by_cases hba : b < a
    · obtain ⟨m, v, m1, m2, m3⟩ := B.part w hw b hba
      exact ⟨m, v, keepw m v m1, keepn m _ m2, m3⟩
    · obtain rfl : b = a := by omega
      exact ⟨words.length, w ++ [b], by simp, by rw [List.getElem?_append_right (by omega), hlen, hr]; simp, by rw [hv]; exact Nat.le_refl _⟩
  · rw [List.getElem?_append_left (by have := (List.getElem?_eq_some_iff.1 hw).1; omega)] at h
    exact B.good j y hj h
/-- All letters are done: the next place. -/
theorem Bfs.next (B : Bfs L step bad s0 i L nodes words) (hL : 1 ≤ L) {x : α} {w : List Nat} (hw : words[i]? = some w) (hx : nodes[i]? = some x) (hg : bad x = false) : Bfs L step bad s0 (i + 1) 0 nodes words := by
  refine ⟨B.len, B.first, B.lets, B.run, B.sorted, fun v hv j u h => ?_, fun j u hj h b hb => ?_, fun u _ b hb => absurd hb (by omega), fun j y hj h => ?_⟩
  · have h1 := B.front w hw j u h
    have h2 := B.sorted i (i + 1) w v (by omega) hw hv
    have h3 : (wval L w + 1) * L ≤ wval L v * L := Nat.mul_le_mul_right _ h2
    rw [Nat.add_mul, Nat.one_mul] at h3
    omega
  · by_cases hji : j < i
    · exact B.done j u hji h b hb
    · obtain rfl : j = i := by omega
      exact B.part u h b hb
  · by_cases hji : j < i
    · exact B.good j y hji h
    · obtain rfl : j = i := by omega
      rw [hx] at h
      injection h with h
      rw [← h]
      exact hg
end
/-- Two searches with the same words at bad places come to the same word. -/
theorem first_same {α β : Type} {L : Nat} {step : α → Nat → α} {bad : α → Bool} {s0 : α} {step' : β → Nat → β} {bad' : β → Bool} {s0' : β} (h : ∀ u, Lets L u → bad (runW step s0 u) = bad' (runW step' s0' u)) {w w' : List Nat}
    (hw : FirstW L step bad s0 w) (hw' : FirstW L step' bad' s0' w') : w = w' := by
  refine wval_inj w.length w w' (Nat.le_refl _) hw.1 hw'.1 ?_
  rcases Nat.lt_trichotomy (wval L w) (wval L w') with h1 | h1 | h1
  · have h2 := hw'.2.2 w hw.1 h1
    rw [← h w hw.1, hw.2.1] at h2
    cases h2
  · exact h1
  · have h2 := hw.2.2 w' hw'.1 h1
    rw [h w' hw'.1, hw'.2.1] at h2
    cases h2
theorem none_same {α β : Type} {L : Nat} {step : α → Nat → α} {bad : α → Bool} {s0 : α} {step' : β → Nat → β} {bad' : β → Bool} {s0' : β} (h : ∀ u, Lets L u → bad (runW step s0 u) = bad' (runW step' s0' u)) {w : List Nat}
    (hw : FirstW L step bad s0 w) (hw' : NoneW L step' bad' s0') : False := by
  have h2 := hw' w hw.1
  rw [← h w hw.1, hw.2.1] at h2
  cases h2
end Go.Proofs.Ytpknkaidmefenaa
