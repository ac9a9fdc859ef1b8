/-
  Words, pairs of states, the table of the pairs that have been met; what the search answers. No program in sight. Conditions: those in each statement.
-/
import Derived.Test.YtpknkaidmefenaaTidyLaw2
import Derived.Test.YtpknkaidmefenaaBools
set_option linter.unusedVariables false
set_option linter.unusedSimpArgs false
set_option maxRecDepth 100000
set_option maxHeartbeats 1000000
namespace Go.Proofs.Ytpknkaidmefenaa
open Go.RowKit

/-- A word as a string. -/
def wbs (u : List Nat) : List UInt8 := u.map fun a => UInt8.ofNat (97 + a)
def wstr (u : List Nat) : ByteArray := ⟨(wbs u).toArray⟩
theorem wstr_size (u : List Nat) : (wstr u).size = u.length := by simp [wstr, wbs, ByteArray.size]
theorem wstr_snoc (u : List Nat) (a : Nat) : wstr u ++ ⟨#[UInt8.ofNat (97 + a)]⟩ = wstr (u ++ [a]) := by
  have : (wstr u ++ ⟨#[UInt8.ofNat (97 + a)]⟩).data = (wstr (u ++ [a])).data := by simp [wstr, wbs, ByteArray.data_append]
  exact ByteArray.ext this
structure Wd where
  u : List Nat
instance : Cod Wd := ⟨1, fun _ _ z cs => cs = [.string (wstr z.u)], fun h => by simp [h], fun _ h => h, fun _ h => h, fun _ z cs bs => cs = [.string (wstr z.u)] ∧ bs = [], fun _ h => h, fun h _ => h.1, by decide, fun _ => 1, fun _ => 0, fun _ z => z⟩
theorem RdS.wd {w : World} {B : Nat} {A : Option Addr} {k : Nat} {xs : List Wd} (h : RdS w B A xs) {x : Wd} (hx : xs[k]? = some x) : ∃ b o, A = some ⟨b, o, none⟩ ∧ b < B ∧ w.cell? ⟨b, o + k, none⟩ = some (.string (wstr x.u)) := by
  obtain ⟨b, o, cs, e, hb, rfl, hc⟩ := h k x hx
  exact ⟨b, o, e, hb, by simpa [Cod.size] using hc 0 _ rfl⟩
/-- A row of bools of the call's own, as an element of a slice. -/
structure Hd where
  g : Nat
  m : Nat
instance : Cod Hd := ⟨1, fun _ _ z cs => cs = [.slice (some ⟨z.g, 0, none⟩) z.m z.m], fun h => by simp [h], fun _ h => h, fun _ h => h, fun _ z cs bs => cs = [.slice (some ⟨z.g, 0, none⟩) z.m z.m] ∧ bs = [], fun _ h => h, fun h _ => h.1, by decide, fun _ => 1, fun _ => 0, fun _ z => z⟩
theorem RdS.hd {w : World} {B : Nat} {A : Option Addr} {k : Nat} {xs : List Hd} (h : RdS w B A xs) {x : Hd} (hx : xs[k]? = some x) : ∃ b o, A = some ⟨b, o, none⟩ ∧ b < B ∧ w.cell? ⟨b, o + k, none⟩ = some (.slice (some ⟨x.g, 0, none⟩) x.m x.m) := by
  obtain ⟨b, o, cs, e, hb, rfl, hc⟩ := h k x hx
  exact ⟨b, o, e, hb, by simpa [Cod.size] using hc 0 _ rfl⟩
def hL (gs : List Nat) (m : Nat) : List Hd := gs.map fun g => ⟨g, m⟩
theorem hL_get {gs : List Nat} {m s g : Nat} (h : gs[s]? = some g) : (hL gs m)[s]? = some ⟨g, m⟩ := by simp [hL, h]
def pL (nodes : List (Nat × Nat)) : List (Int × Int) := nodes.map fun x => ((x.1 : Int), (x.2 : Int))
theorem pL_get {nodes : List (Nat × Nat)} {k : Nat} {x : Nat × Nat} (h : nodes[k]? = some x) : (pL nodes)[k]? = some ((x.1 : Int), (x.2 : Int)) := by simp [pL, h]
theorem pL_snoc (nodes : List (Nat × Nat)) (x : Nat × Nat) : pL (nodes ++ [x]) = pL nodes ++ [((x.1 : Int), (x.2 : Int))] := by simp [pL]
def wL (ws : List (List Nat)) : List Wd := ws.map Wd.mk
theorem wL_get {ws : List (List Nat)} {k : Nat} {u : List Nat} (h : ws[k]? = some u) : (wL ws)[k]? = some ⟨u⟩ := by simp [wL, h]
theorem wL_snoc (ws : List (List Nat)) (u : List Nat) : wL (ws ++ [u]) = wL ws ++ [⟨u⟩] := by simp [wL]

/-- Row s of the table of what has been met. -/
def rowB (m : Nat) (nodes : List (Nat × Nat)) (s : Nat) : List Bool := (List.range m).map fun k => decide ((s, k) ∈ nodes)
theorem rowB_get {m k : Nat} (nodes : List (Nat × Nat)) (s : Nat) (h : k < m) : (rowB m nodes s)[k]? = some (decide ((s, k) ∈ nodes)) := by simp [rowB, h]
theorem rowB_set (m k : Nat) (nodes : List (Nat × Nat)) (s : Nat) : (rowB m nodes s).set k true = rowB m (nodes ++ [(s, k)]) s := by
  refine List.ext_getElem? fun j => ?_
  rw [List.getElem?_set]
  by_cases hj : j < m
  · rw [rowB_get _ _ hj, rowB_get _ _ hj]
    by_cases hk : k = j
    · subst hk
      rw [if_pos rfl, if_pos (by simp [rowB, hj])]
      simp
    · rw [if_neg hk]
      simp [Ne.symm hk]
  · have h1 : (rowB m nodes s)[j]? = none := by simp [rowB]; omega
    have h2 : (rowB m (nodes ++ [(s, k)]) s)[j]? = none := by simp [rowB]; omega
    rw [h1, h2]
    by_cases hk : k = j
    · subst hk
      rw [if_pos rfl, if_neg (by simp [rowB, hj])]
    · rw [if_neg hk]
theorem rowB_far (m : Nat) (nodes : List (Nat × Nat)) {s t k : Nat} (h : s ≠ t) : rowB m (nodes ++ [(t, k)]) s = rowB m nodes s := by
  unfold rowB
  refine List.map_congr_left fun j _ => ?_
  simp [h]
theorem rowB_nil (m s : Nat) : rowB m [] s = List.replicate m false := by
  refine List.ext_getElem? fun j => ?_
  by_cases hj : j < m
  · rw [rowB_get _ _ hj]; simp [hj]
  · rw [List.getElem?_eq_none (by simp [rowB]; omega), List.getElem?_eq_none (by simp; omega)]
def Seen (w : World) (t : TypeId) (gs : List Nat) (m : Nat) (nodes : List (Nat × Nat)) : Prop := ∀ s g, gs[s]? = some g → Bools w g t (rowB m nodes s)
theorem Seen.keep {w w' : World} {t : TypeId} {gs : List Nat} {m : Nat} {nodes : List (Nat × Nat)} (h : Seen w t gs m nodes) (hk : ∀ g ∈ gs, w'.heap[g]? = w.heap[g]?) : Seen w' t gs m nodes := fun s g hg => (h s g hg).keep (hk g (List.mem_of_getElem? hg))
theorem Seen.put {w : World} {t : TypeId} {gs : List Nat} {m : Nat} {nodes : List (Nat × Nat)} (h : Seen w t gs m nodes) (hnd : gs.Nodup) {s g : Nat} (hg : gs[s]? = some g) (k : Nat) : Seen (w.setCell ⟨g, k, none⟩ (.bool true)) t gs m (nodes ++ [(s, k)]) := fun s' g' hg' => by
  by_cases hs : s' = s
  · subst hs
    rw [hg] at hg'
    injection hg' with hg'
    subst hg'
    rw [← rowB_set]
    exact (h s' g hg).set true
  · rw [rowB_far m nodes hs]
    refine (h s' g' hg').far (fun e => ?_) _
    simp only at e
    subst e
    exact hs ((List.getElem?_inj (List.getElem?_eq_some_iff.1 hg').1 hnd).1 (hg'.trans hg.symm))
theorem Seen.grown {w w' : World} {t : TypeId} {gs : List Nat} {m : Nat} {nodes : List (Nat × Nat)} (h : Seen w t gs m nodes) {D : Option Addr} (hgr : w.grownBy w' (D.map (·.block))) (hd : Off D gs) : Seen w' t gs m nodes :=
  h.keep fun g hg => by
    obtain ⟨s, hs, he⟩ := List.getElem_of_mem hg
    exact hgr.block g ((h s g (by rw [List.getElem?_eq_getElem hs, he])).lt) fun e => by
      cases hD : D with
      | none => rw [hD] at e; simp at e
      | some d => rw [hD] at e; simp at e; exact hd d hD (e ▸ hg)

/-- Pairs met: all different, within the table. -/
structure PrOk (n m : Nat) (nodes : List (Nat × Nat)) : Prop where
  nodup : nodes.Nodup
  lt : ∀ x ∈ nodes, x.1 < n ∧ x.2 < m
theorem PrOk.snoc {n m : Nat} {nodes : List (Nat × Nat)} (h : PrOk n m nodes) {x : Nat × Nat} (hx : x ∉ nodes) (h1 : x.1 < n) (h2 : x.2 < m) : PrOk n m (nodes ++ [x]) :=
  ⟨List.nodup_append.2 ⟨h.nodup, by simp, fun a ha b hb e => by simp at hb; subst hb; subst e; exact hx ha⟩, fun s hs => by
    rcases List.mem_append.1 hs with hs | hs
    · exact h.lt s hs
    · obtain rfl := List.mem_singleton.1 hs
      exact ⟨h1, h2⟩⟩
theorem code_inj {m a b c d : Nat} (hb : b < m) (hd : d < m) (h : a * m + b = c * m + d) : a = c ∧ b = d := by
  have h1 : a = c := by
    rcases Nat.lt_trichotomy a c with h1 | h1 | h1
    · have := Nat.mul_le_mul_right m (show a + 1 ≤ c by omega)
      rw [Nat.add_mul] at this
      omega
    · exact h1
    · have := Nat.mul_le_mul_right m (show c + 1 ≤ a by omega)
      rw [Nat.add_mul] at this
      omega
  subst h1
  exact ⟨rfl, by omega⟩
theorem nodup_map_on {α β : Type} {f : α → β} : ∀ {l : List α}, (∀ x ∈ l, ∀ y ∈ l, f x = f y → x = y) → l.Nodup → (l.map f).Nodup
  | [], _, _ => by simp
  | x :: l, h, hn => by
    have hn := List.nodup_cons.1 hn
    rw [List.map_cons]
    refine List.nodup_cons.2 ⟨fun hm => ?_, nodup_map_on (fun y hy z hz e => h y (List.mem_cons_of_mem _ hy) z (List.mem_cons_of_mem _ hz) e) hn.2⟩
    obtain ⟨y, hy, e⟩ := List.mem_map.1 hm
    have := h y (List.mem_cons_of_mem _ hy) x (List.mem_cons_self ..) e
    exact hn.1 (this ▸ hy)
theorem PrOk.len {n m : Nat} {nodes : List (Nat × Nat)} (h : PrOk n m nodes) : nodes.length ≤ n * m := by
  have : MetOk (n * m) (nodes.map fun x => x.1 * m + x.2) := by
    refine ⟨?_, fun s hs => ?_⟩
    · refine nodup_map_on ?_ h.nodup
      intro x hx y hy e
      obtain ⟨h1, h2⟩ := code_inj (h.lt x hx).2 (h.lt y hy).2 e
      exact Prod.ext h1 h2
    · obtain ⟨x, hx, rfl⟩ := List.mem_map.1 hs
      obtain ⟨h1, h2⟩ := h.lt x hx
      have := Nat.mul_le_mul_right m (show x.1 + 1 ≤ n by omega)
      rw [Nat.add_mul] at this
      show x.1 * m + x.2 < n * m
      omega
  simpa using this.len
theorem PrOk.len300 {n m : Nat} {nodes : List (Nat × Nat)} (h : PrOk n m nodes) (hn : n ≤ 300) (hm : m ≤ 300) : nodes.length ≤ 90000 := Nat.le_trans h.len (Nat.mul_le_mul hn hm)
/-- Words are no longer than their places. -/
def Short (words : List (List Nat)) : Prop := ∀ (j : Nat) (u : List Nat), words[j]? = some u → u.length ≤ j
theorem Short.start : Short [[]] := fun j u h => by
  cases j with
  | zero => obtain rfl : [] = u := by simpa using h
            exact Nat.le_refl _
  | succ j => simp at h
theorem Short.snoc {words : List (List Nat)} (h : Short words) {i : Nat} {u : List Nat} (hu : words[i]? = some u) (a : Nat) : Short (words ++ [u ++ [a]]) := fun j v hv => by
  rcases Nat.lt_or_ge j words.length with h1 | h1
  · rw [List.getElem?_append_left h1] at hv
    exact h j v hv
  · rw [List.getElem?_append_right h1] at hv
    have h2 := (List.getElem?_eq_some_iff.1 hv).1
    have h3 : j = words.length := by simp at h2; omega
    subst h3
    simp at hv
    subst hv
    have := h i u hu
    have := (List.getElem?_eq_some_iff.1 hu).1
    simp
    omega

/-- Two readers side by side. -/
def stp2 (T U : Rr) (x : Nat × Nat) (a : Nat) : Nat × Nat := (nxR T x.1 a, nxR U x.2 a)
def bad2 (T U : Rr) (x : Nat × Nat) : Bool := accR T x.1 != accR U x.2
def st2 (T U : Rr) : Nat × Nat := (T.start.toNat, U.start.toNat)
/-- The first word that only one of them takes, if there is any. -/
def FirstOf (T U : Rr) : Option (List Nat) → Prop
  | some u => FirstW T.letters.toNat (stp2 T U) (bad2 T U) (st2 T U) u
  | none => NoneW T.letters.toNat (stp2 T U) (bad2 T U) (st2 T U)
def ansV : Option (List Nat) → Value
  | some u => if 60 < u.length then .tuple #[.string ⟨#[]⟩, .int .i64 3] else .tuple #[.string (wstr u), .int .i64 0]
  | none => .tuple #[.string ⟨#[]⟩, .int .i64 6]
def RetFirst (T U : Rr) (w : World) (e : Ending) (w' : World) : Prop := ∃ o, FirstOf T U o ∧ e = .returned (ansV o) ∧ Below w.heap.size w w'
theorem run_pair (T U : Rr) : ∀ (u : List Nat) (x : Nat × Nat), runW (stp2 T U) x u = (runW (nxR T) x.1 u, runW (nxR U) x.2 u)
  | [], x => rfl
  | a :: u, x => run_pair T U u (stp2 T U x a)
theorem firstOf_same {T U X Y : Rr} (h : ∀ u, Lets T.letters.toNat u → bad2 X Y (runW (stp2 X Y) (st2 X Y) u) = bad2 T U (runW (stp2 T U) (st2 T U) u)) (hl : X.letters = T.letters) {o o' : Option (List Nat)} (h1 : FirstOf X Y o) (h2 : FirstOf T U o') : o = o' := by
  cases o with
  | some u =>
    cases o' with
    | some u' =>
      unfold FirstOf at h1 h2
      rw [hl] at h1
      rw [first_same h h1 h2]
    | none =>
      unfold FirstOf at h1 h2
      rw [hl] at h1
      exact (none_same h h1 h2).elim
  | none =>
    cases o' with
    | some u' =>
      unfold FirstOf at h1 h2
      rw [hl] at h1
      exact (none_same (fun u hu => (h u hu).symm) h2 h1).elim
    | none => rfl
theorem alike_bad {T U X Y : Rr} (hX : Alike T X) (hY : Alike U Y) (hl : U.letters = T.letters) : ∀ u, Lets T.letters.toNat u → bad2 X Y (runW (stp2 X Y) (st2 X Y) u) = bad2 T U (runW (stp2 T U) (st2 T U) u) := fun u hu => by
  rw [run_pair, run_pair]
  unfold bad2 st2
  simp only
  rw [hX.start, hY.start]
  have h1 := hX.takes u hu
  have h2 := hY.takes u (by rw [hl]; exact hu)
  rw [show (0 : Int).toNat = 0 from rfl, h1, h2]
theorem alike_same {T U X Y : Rr} (hX : Alike T X) (hY : Alike U Y) (hl : U.letters = T.letters) {o o' : Option (List Nat)} (h1 : FirstOf X Y o) (h2 : FirstOf T U o') : o = o' := firstOf_same (alike_bad hX hY hl) hX.letters h1 h2
/-- One step lies within the table. -/
theorem stp2_lt {T U : Rr} (hT : T.Ok) (hU : U.Ok) (hl : U.letters = T.letters) {x : Nat × Nat} {a : Nat} (h1 : x.1 < T.accept.length) (h2 : x.2 < U.accept.length) (ha : a < T.letters.toNat) : (stp2 T U x a).1 < T.accept.length ∧ (stp2 T U x a).2 < U.accept.length := by
  obtain ⟨r, _, g2, g3⟩ := row_at0 hT h1
  obtain ⟨r', _, g2', g3'⟩ := row_at0 hU h2
  exact ⟨(g3 a (by omega)).2, (g3' a (by omega)).2⟩
end Go.Proofs.Ytpknkaidmefenaa
