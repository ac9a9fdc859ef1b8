/-
  The tidy reader: what its states, rows and verdicts are. No program in sight. Conditions: those in each statement.
-/
import Derived.Test.YtpknkaidmefenaaClsLaw
import Derived.Test.YtpknkaidmefenaaAccN
set_option linter.unusedVariables false
set_option linter.unusedSimpArgs false
set_option maxRecDepth 100000
set_option maxHeartbeats 1000000
namespace Go.Proofs.Ytpknkaidmefenaa
open Go.RowKit

/-- Among N + 1 numbers below N two are alike. -/
theorem pigeon : ∀ (N : Nat) (f : Nat → Nat), (∀ i, i ≤ N → f i < N) → ∃ i j, i < j ∧ j ≤ N ∧ f i = f j
  | 0, f, h => absurd (h 0 (Nat.le_refl _)) (by omega)
  | N + 1, f, h => by
    by_cases hv : ∃ i, i ≤ N ∧ f i = f (N + 1)
    · obtain ⟨i, hi, e⟩ := hv
      exact ⟨i, N + 1, by omega, Nat.le_refl _, e⟩
    · have hne : ∀ i, i ≤ N → f i ≠ f (N + 1) := fun i hi e => hv ⟨i, hi, e⟩
      obtain ⟨i, j, h1, h2, h3⟩ := pigeon N (fun i => if f (N + 1) < f i then f i - 1 else f i) (fun i hi => by
        have := h i (by omega)
        have := h (N + 1) (Nat.le_refl _)
        have := hne i hi
        show (if f (N + 1) < f i then f i - 1 else f i) < N
        by_cases hc : f (N + 1) < f i
        · rw [if_pos hc]; omega
        · rw [if_neg hc]; omega)
      refine ⟨i, j, h1, by omega, ?_⟩
      have := hne i (by omega)
      have := hne j h2
      replace h3 : (if f (N + 1) < f i then f i - 1 else f i) = (if f (N + 1) < f j then f j - 1 else f j) := h3
      by_cases hc : f (N + 1) < f i
      · rw [if_pos hc] at h3
        by_cases hd : f (N + 1) < f j
        · rw [if_pos hd] at h3; omega
        · rw [if_neg hd] at h3; omega
      · rw [if_neg hc] at h3
        by_cases hd : f (N + 1) < f j
        · rw [if_pos hd] at h3; omega
        · rw [if_neg hd] at h3; omega

def iL (ms : List Nat) : List Int := ms.map fun (s : Nat) => (s : Int)
theorem iL_get {ms : List Nat} {k s : Nat} (h : ms[k]? = some s) : (iL ms)[k]? = some (s : Int) := by simp [iL, h]
theorem iL_snoc (ms : List Nat) (s : Nat) : iL (ms ++ [s]) = iL ms ++ [(s : Int)] := by simp [iL]
theorem iL_length (ms : List Nat) : (iL ms).length = ms.length := by simp [iL]
/-- The states met: all different, all states. -/
structure MetOk (n : Nat) (ms : List Nat) : Prop where
  nodup : ms.Nodup
  lt : ∀ s ∈ ms, s < n
theorem MetOk.snoc {n : Nat} {ms : List Nat} (h : MetOk n ms) {x : Nat} (hx : x ∉ ms) (hlt : x < n) : MetOk n (ms ++ [x]) :=
  ⟨List.nodup_append.2 ⟨h.nodup, by simp, fun a ha b hb e => by simp at hb; subst hb; subst e; exact hx ha⟩, fun s hs => by
    rcases List.mem_append.1 hs with hs | hs
    · exact h.lt s hs
    · simp at hs; omega⟩
theorem MetOk.len {n : Nat} {ms : List Nat} (h : MetOk n ms) : ms.length ≤ n := by
  refine Classical.byContradiction fun hn => ?_
  have hg : ∀ i, i ≤ n → ms[i]? = some (ms.getD i 0) := fun i hi => by
    rw [List.getD_eq_getElem?_getD, List.getElem?_eq_getElem (by omega)]; rfl
  obtain ⟨i, j, hij, hj, e⟩ := pigeon n (fun i => ms.getD i 0) fun i hi => h.lt _ (List.mem_of_getElem? (hg i hi))
  have h1 := hg i (by omega)
  have h2 := hg j hj
  have e : ms.getD i 0 = ms.getD j 0 := e
  rw [e] at h1
  have := (List.getElem?_inj (by omega) h.nodup).1 (h1.trans h2.symm)
  omega
/-- Row: the first a letters of state s. -/
def RowOk (nx : Nat → Nat → Nat) (cls : Nat → Nat) (ms : List Nat) (s a : Nat) (r : List Int) : Prop := r.length = a ∧ ∀ b, b < a → ∃ j : Nat, r[b]? = some (j : Int) ∧ ms[j]? = some (cls (nx s b))
section
variable {nx : Nat → Nat → Nat} {cls : Nat → Nat} {ms : List Nat} {s a : Nat} {r : List Int}
theorem RowOk.nil_ : RowOk nx cls ms s 0 [] := ⟨rfl, fun b hb => absurd hb (by omega)⟩
theorem RowOk.snoc (h : RowOk nx cls ms s a r) {j : Nat} (hj : ms[j]? = some (cls (nx s a))) : RowOk nx cls ms s (a + 1) (r ++ [(j : Int)]) := by
  refine ⟨by simp [h.1], fun b hb => ?_⟩
  by_cases hba : b < a
  · obtain ⟨i, h1, h2⟩ := h.2 b hba
    exact ⟨i, by rw [List.getElem?_append_left (by rw [h.1]; exact hba)]; exact h1, h2⟩
  · obtain rfl : b = a := by omega
    exact ⟨j, by rw [List.getElem?_append_right (by rw [h.1]; exact Nat.le_refl _), h.1]; simp, hj⟩
theorem RowOk.ext (h : RowOk nx cls ms s a r) (ys : List Nat) : RowOk nx cls (ms ++ ys) s a r := ⟨h.1, fun b hb => by
  obtain ⟨i, h1, h2⟩ := h.2 b hb
  exact ⟨i, h1, by rw [List.getElem?_append_left (List.getElem?_eq_some_iff.1 h2).1]; exact h2⟩⟩
end
/-- Loop over the states met: where the class stands. -/
def FindAt (ms : List Nat) (to k : Nat) (at_ : Int) : Prop := (at_ = -1 ∧ ∀ j, j < k → ms[j]? ≠ some to) ∨ ∃ j : Nat, at_ = (j : Int) ∧ j < k ∧ ms[j]? = some to
section
variable {ms : List Nat} {to k x : Nat} {at_ : Int}
theorem FindAt.start : FindAt ms to 0 (-1) := .inl ⟨rfl, fun j hj => absurd hj (by omega)⟩
theorem FindAt.hit (h : ms[k]? = some to) : FindAt ms to (k + 1) (k : Int) := .inr ⟨k, rfl, by omega, h⟩
theorem FindAt.miss (f : FindAt ms to k at_) (h : ms[k]? = some x) (hne : x ≠ to) : FindAt ms to (k + 1) at_ := by
  rcases f with ⟨e, f⟩ | ⟨j, e, hj, f⟩
  · refine .inl ⟨e, fun j hj => ?_⟩
    by_cases hjk : j < k
    · exact f j hjk
    · obtain rfl : j = k := by omega
      rw [h]
      exact fun e => hne (by injection e)
  · exact .inr ⟨j, e, by omega, f⟩
theorem FindAt.out (f : FindAt ms to ms.length at_) : (at_ = -1 ∧ to ∉ ms) ∨ ∃ j : Nat, at_ = (j : Int) ∧ ms[j]? = some to := by
  rcases f with ⟨e, f⟩ | ⟨j, e, hj, f⟩
  · refine .inl ⟨e, fun hm => ?_⟩
    obtain ⟨j, hj, he⟩ := List.getElem_of_mem hm
    exact f j hj (by rw [List.getElem?_eq_getElem hj, he])
  · exact .inr ⟨j, e, f⟩
end
/-- The first i rows and verdicts. -/
structure RowsOk (L : Nat) (nx : Nat → Nat → Nat) (acc : Nat → Bool) (cls : Nat → Nat) (ms : List Nat) (i : Nat) (rows : List (List Int)) (accs : List Bool) : Prop where
  len : rows.length = i
  alen : accs.length = i
  row : ∀ k s, k < i → ms[k]? = some s → ∃ r, rows[k]? = some r ∧ RowOk nx cls ms s L r
  acc : ∀ k s, k < i → ms[k]? = some s → accs[k]? = some (acc s)
section
variable {L : Nat} {nx : Nat → Nat → Nat} {acc : Nat → Bool} {cls : Nat → Nat} {ms : List Nat} {i : Nat} {rows : List (List Int)} {accs : List Bool}
theorem RowsOk.start : RowsOk L nx acc cls ms 0 [] [] := ⟨rfl, rfl, fun k s hk => absurd hk (by omega), fun k s hk => absurd hk (by omega)⟩
theorem RowsOk.next (h : RowsOk L nx acc cls ms i rows accs) {s : Nat} {ys : List Nat} (hi : i < ms.length) (hs : (ms ++ ys)[i]? = some s) {r : List Int} (hr : RowOk nx cls (ms ++ ys) s L r) : RowsOk L nx acc cls (ms ++ ys) (i + 1) (rows ++ [r]) (accs ++ [acc s]) := by
  have hl := h.len
  have hal := h.alen
  refine ⟨by simp [hl], by simp [hal], fun k t hk ht => ?_, fun k t hk ht => ?_⟩
  · by_cases hki : k < i
    · rw [List.getElem?_append_left (by omega)] at ht
      obtain ⟨r', h1, h2⟩ := h.row k t hki ht
      exact ⟨r', by rw [List.getElem?_append_left (by omega)]; exact h1, h2.ext ys⟩
    · obtain rfl : k = i := by omega
      rw [hs] at ht
      injection ht with ht
      subst ht
      exact ⟨r, by rw [List.getElem?_append_right (by omega), hl]; simp, hr⟩
  · by_cases hki : k < i
    · rw [List.getElem?_append_left (by omega)] at ht ⊢
      exact h.acc k t hki ht
    · obtain rfl : k = i := by omega
      rw [hs] at ht
      injection ht with ht
      subst ht
      rw [List.getElem?_append_right (by omega), hal]
      simp
end
/-- The reader U takes the words that T takes. -/
structure Alike (T U : Rr) : Prop where
  ok : U.Ok
  letters : U.letters = T.letters
  start : U.start = 0
  takes : ∀ u, Lets T.letters.toNat u → accR U (runW (nxR U) 0 u) = accR T (runW (nxR T) T.start.toNat u)
theorem alike_of {T : Rr} (OK : T.Ok) {cls : Nat → Nat} (C : Cls T.accept.length T.letters.toNat (nxR T) (accR T) cls) {ms : List Nat} {rows : List (List Int)} {accs : List Bool} (hm : MetOk T.accept.length ms) (h0 : ms[0]? = some (cls T.start.toNat))
    (R : RowsOk T.letters.toNat (nxR T) (accR T) cls ms ms.length rows accs) : Alike T ⟨T.letters, 0, accs, rows⟩ := by
  obtain ⟨l1, l3, n1, n300, s0, s1, hsame, hrow⟩ := OK
  have OK : T.Ok := ⟨l1, l3, n1, n300, s0, s1, hsame, hrow⟩
  have hml := hm.len
  have h1l := (List.getElem?_eq_some_iff.1 h0).1
  have hlen := R.len
  have hal := R.alen
  have hnx : ∀ s a, s < T.accept.length → a < T.letters.toNat → nxR T s a < T.accept.length := fun s a hs ha => by
    obtain ⟨r, _, h2, h3⟩ := row_at0 OK hs
    exact (h3 a (by omega)).2
  have hT : Tidied T.accept.length T.letters.toNat (nxR T) cls T.start.toNat ms (nxR ⟨T.letters, 0, accs, rows⟩) := by
    refine ⟨h0, fun i s hi a ha => ?_⟩
    obtain ⟨r, h1, h2, h3⟩ := R.row i s (List.getElem?_eq_some_iff.1 hi).1 hi
    obtain ⟨j, h4, h5⟩ := h3 a ha
    have e : nxR ⟨T.letters, 0, accs, rows⟩ i a = j := by
      unfold nxR
      simp [List.getD_eq_getElem?_getD, h1, h4]
    rw [e]
    exact h5
  refine ⟨⟨l1, l3, by simp only; omega, by simp only; omega, Int.le_refl _, by simp only; omega, by simp only; omega, fun r hr => ?_⟩, rfl, rfl, fun u hu => ?_⟩
  · have hr : r ∈ rows := hr
    obtain ⟨k, hk, hke⟩ := List.getElem_of_mem hr
    obtain ⟨s, hs⟩ := get_some (xs := ms) (k := k) (by omega)
    obtain ⟨r', h1, h2, h3⟩ := R.row k s (by omega) hs
    have e : r' = r := by
      rw [List.getElem?_eq_getElem hk, hke] at h1
      injection h1 with h1
      exact h1.symm
    subst e
    refine ⟨by simp only; omega, fun x hx => ?_⟩
    obtain ⟨b, hb, hbe⟩ := List.getElem_of_mem hx
    obtain ⟨j, h4, h5⟩ := h3 b (by omega)
    rw [List.getElem?_eq_getElem hb, hbe] at h4
    injection h4 with h4
    have := (List.getElem?_eq_some_iff.1 h5).1
    simp only
    omega
  · refine tidied_acc C hT hnx (by omega) hu fun i s hi => ?_
    unfold accR
    rw [List.getD_eq_getElem?_getD, R.acc i s (List.getElem?_eq_some_iff.1 hi).1 hi]
    rfl
/-- Memory: other blocks. -/
def Dif (A A' : Option Addr) : Prop := ∀ a a', A = some a → A' = some a' → a.block ≠ a'.block
def Off (A : Option Addr) (bs : List Nat) : Prop := ∀ a, A = some a → a.block ∉ bs
def bl (A : Option Addr) : List Nat := (A.map (·.block)).toList
section
variable {α : Type} [Cod α] {w w' : World} {B : Nat} {e : TypeId} {A A' D D' : Option Addr} {n c : Nat} {xs : List α} {bs : List Nat}
theorem Acc.other (h : Acc w B e A n c xs bs) (hgr : w.grownBy w' (D.map (·.block))) (hd : Dif D A) (ho : Off D bs) : Acc w' B e A n c xs bs :=
  h.grown hgr (fun a ha e => by
    cases hD : D with
    | none => rw [hD] at e; simp at e
    | some d => rw [hD] at e; simp at e; exact hd d a hD ha e.symm) (fun g hg e => by
    cases hD : D with
    | none => rw [hD] at e; simp at e
    | some d => rw [hD] at e; simp at e; exact ho d hD (e ▸ hg))
theorem Dif.grow (hd : Dif D A) (hA : ∀ a, A = some a → a.block < w.heap.size) (hnew : ∀ a, D' = some a → D = some a ∨ w.heap.size ≤ a.block) : Dif D' A := fun a a' ha ha' e => by
  rcases hnew a ha with h1 | h1
  · exact hd a a' h1 ha' e
  · have := hA a' ha'; omega
theorem Dif.symm (hd : Dif D A) : Dif A D := fun a a' ha ha' e => hd a' a ha' ha e.symm
theorem Off.grow (ho : Off D bs) (hb : ∀ g ∈ bs, g < w.heap.size) (hnew : ∀ a, D' = some a → D = some a ∨ w.heap.size ≤ a.block) : Off D' bs := fun a ha hm => by
  rcases hnew a ha with h1 | h1
  · exact ho a h1 hm
  · have := hb _ hm; omega
theorem mem_bl {g : Nat} : g ∈ bl A ↔ ∃ a, A = some a ∧ a.block = g := by
  unfold bl
  cases A <;> simp [eq_comm]
theorem OnlyB.acc (ho : OnlyB (bl D) w w') (h : Acc w B e A n c xs bs) (hd : Dif D A) (hf : Off D bs) : Acc w' B e A n c xs bs :=
  h.keep (fun a ha => ho.block _ (h.lt a ha).2 fun hm => by obtain ⟨d, h1, h2⟩ := mem_bl.1 hm; exact hd d a h1 ha h2) (fun g hg => ho.block _ (h.fresh.2 g hg).2 fun hm => by obtain ⟨d, h1, h2⟩ := mem_bl.1 hm; exact hf d h1 (by rw [h2]; exact hg)) ho.size
end
theorem OnlyB.grew {bs : List Nat} {w0 w w' : World} {D : Option Addr} (ho : OnlyB bs w0 w) (hgr : w.grownBy w' (D.map (·.block))) (hD : ∀ d, D = some d → d.block ∈ bs ∨ w0.heap.size ≤ d.block) : OnlyB bs w0 w' :=
  ⟨hgr.os.trans ho.os, hgr.tape.trans ho.tape, hgr.output.trans ho.output, Nat.le_trans ho.size hgr.size, fun g hg hn => (hgr.block g (Nat.lt_of_lt_of_le hg ho.size) fun e => by
    cases hDD : D with
    | none => rw [hDD] at e; simp at e
    | some d =>
      rw [hDD] at e; simp at e
      rcases hD d hDD with h1 | h1
      · exact hn (e ▸ h1)
      · omega).trans (ho.block g hg hn)⟩
theorem Acc.drewN {α : Type} [Cod α] {w : World} {B : Nat} {e : TypeId} {A : Option Addr} {n c : Nat} {xs : List α} {bs : List Nat} (h : Acc w B e A n c xs bs) (m : Nat) : Acc (w.drewN m) B e A n c xs bs := h.keep (fun _ _ => rfl) (fun _ _ => rfl) (Nat.le_refl _)
theorem AccN.drewN {α β : Type} [Cod α] [Cod β] {w : World} {B : Nat} {e e' : TypeId} {A A' : Option Addr} {n c n' c' : Nat} {xs : List α} {ys : List β} {bs : List Nat} (h : AccN w B e e' A n c xs A' n' c' ys bs) (m : Nat) : AccN (w.drewN m) B e e' A n c xs A' n' c' ys bs := ⟨h.one.drewN m, h.two.drewN m, h.dis, h.out⟩
theorem OnlyB.drewN {bs : List Nat} {a b : World} (h : OnlyB bs a b) (m : Nat) : OnlyB bs a (b.drewN m) := ⟨h.os, h.tape, h.output, h.size, h.block⟩
theorem Acc.one_ {α : Type} [Cod α] {w : World} {B : Nat} {e : TypeId} {g : Nat} {y : α} {cs : List Value} (hg : w.heap[g]? = some (.cells cs.toArray e (0, 0))) (hB : B ≤ g) (hy : Cod.own w y cs []) (h1 : ∀ u ∈ cs, u.oneCell' = true) : Acc w B e (some ⟨g, 0, none⟩) 1 1 [y] [] := by
  have hl := own_len hy
  refine ⟨rfl, ⟨cs, ⟨by simp [hl], .inr ⟨g, 1, cs.toArray, rfl, hB, hg, Nat.le_refl _, by simp [maxLen], by simp [hl], by simp [← hl]⟩⟩, cs, [], [], [], by simp, rfl, hy, rfl, rfl⟩, ⟨List.nodup_nil, fun g hg => by simp at hg⟩, fun a h => by simp⟩
end Go.Proofs.Ytpknkaidmefenaa
