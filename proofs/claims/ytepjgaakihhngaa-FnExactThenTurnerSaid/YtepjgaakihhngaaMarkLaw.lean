/-
  The table of a mark and the verdict by a table, as lists. No program in sight. Conditions: none.
-/
import Derived.Test.YtepjgaakihhngaaJoinLaw
import Derived.Test.YtepjgaakihhngaaWandOf
set_option linter.unusedVariables false
set_option linter.unusedSimpArgs false
set_option maxRecDepth 100000
set_option maxHeartbeats 1000000
namespace Go.Proofs.Ytepjgaakihhngaa
open Go.RowKit

def mvAt (ms : List (List (Int × Int))) (s a : Nat) : Int × Int := (ms.getD s []).getD a (0, 0)
/-- where one goes out of a cell, in so many steps -/
def mkE (ms : List (List (Int × Int))) (a : Nat) : Nat → Nat → Int × Int
  | 0, _ => (0, -3)
  | k + 1, s => if (mvAt ms s a).1 < 0 ∨ (mvAt ms s a).2 ≠ 0 then ((mvAt ms s a).2, (mvAt ms s a).1) else mkE ms a k (mvAt ms s a).1.toNat
def edgeL (ms : List (List (Int × Int))) (a n : Nat) : List (Int × Int) := (List.range n).map fun s => mkE ms a (ms.length + 1) s
theorem edgeL_snoc (ms : List (List (Int × Int))) (a n : Nat) : edgeL ms a (n + 1) = edgeL ms a n ++ [mkE ms a (ms.length + 1) n] := range_snoc _ _
theorem edgeL_len (ms : List (List (Int × Int))) (a n : Nat) : (edgeL ms a n).length = n := by simp [edgeL]
def Tn.edge (T : Tn) (a : Nat) : Tb := ⟨edgeL T.moves a T.moves.length, edgeL T.moves a T.moves.length⟩
def Tn.frontT (T : Tn) (x : Tb) : Tb := joinT (2 * T.moves.length + 1) (T.edge T.letters.toNat) x
def Tn.wholeT (T : Tn) (x : Tb) : Tb := joinT (2 * T.moves.length + 1) (T.frontT x) (T.edge (T.letters.toNat + 1))
def Tn.lastE (T : Tn) (x : Tb) : Int × Int := (T.wholeT x).l.getD T.start.toNat (0, -3)
def Tn.byC (T : Tn) (x : Tb) : Int := if T.okB && x.okB && decide (x.l.length = T.moves.length) then - (T.lastE x).2 else 0
def Tn.byCode (T : Tn) (x : Tb) : Int := if T.okB && x.okB then (if x.l.length = T.moves.length then 0 else 2) else 1

theorem mvAt_of {ms : List (List (Int × Int))} {s a : Nat} {row : List (Int × Int)} {m : Int × Int} (h : ms[s]? = some row) (h' : row[a]? = some m) : mvAt ms s a = m := by simp [mvAt, h, h']
theorem mkE_stop {ms : List (List (Int × Int))} {a k s : Nat} (h : (mvAt ms s a).1 < 0 ∨ (mvAt ms s a).2 ≠ 0) : mkE ms a (k + 1) s = ((mvAt ms s a).2, (mvAt ms s a).1) := by rw [mkE, if_pos h]
theorem mkE_go {ms : List (List (Int × Int))} {a k s : Nat} (h : ¬ ((mvAt ms s a).1 < 0 ∨ (mvAt ms s a).2 ≠ 0)) : mkE ms a (k + 1) s = mkE ms a k (mvAt ms s a).1.toNat := by rw [mkE, if_neg h]

theorem movesFrom_get {n L : Int} : ∀ {xs : List (Int × Int)} {k j : Nat} {x : Int × Int}, movesFrom n L k xs = true → xs[j]? = some x → moveOk n L ((k + j : Nat) : Int) x = true
  | [], _, _, _, _, h => by simp at h
  | y :: ys, k, 0, x, h, h' => by
    simp [movesFrom] at h
    simp at h'
    subst h'
    simpa using h.1
  | y :: ys, k, j + 1, x, h, h' => by
    simp only [movesFrom, Bool.and_eq_true] at h
    have := movesFrom_get (k := k + 1) (j := j) h.2 (by simpa using h')
    rwa [show k + 1 + j = k + (j + 1) by omega] at this
/-- what a right turner's move is at a letter or mark -/
theorem Tn.mv_ok {T : Tn} (OK : T.Ok) {s a : Nat} (hs : s < T.moves.length) (ha : (a : Int) < T.letters + 2) : moveOk T.moves.length T.letters a (mvAt T.moves s a) = true := by
  obtain ⟨row, hrow⟩ := get_some hs
  have hm := List.mem_of_getElem? hrow
  have hl := OK.row row hm
  obtain ⟨m, hm'⟩ := get_some (xs := row) (k := a) (by omega)
  rw [mvAt_of hrow hm']
  have := movesFrom_get (OK.mv row hm) hm'
  simpa using this
theorem moveOk_cases {n L k : Int} {x : Int × Int} (h : moveOk n L k x = true) : ((x.1 = -1 ∨ x.1 = -2) ∧ x.2 = 0) ∨ (0 ≤ x.1 ∧ x.1 < n ∧ -1 ≤ x.2 ∧ x.2 ≤ 1 ∧ (k = L → x.2 ≠ -1) ∧ (k = L + 1 → x.2 ≠ 1)) := by
  unfold moveOk inB at h
  by_cases hx : x.1 = -1 ∨ x.1 = -2
  · rw [if_pos hx] at h
    exact .inl ⟨hx, of_decide_eq_true h⟩
  · rw [if_neg hx] at h
    simp only [Bool.and_eq_true, decide_eq_true_eq, Bool.not_eq_true', Bool.and_eq_false_iff, decide_eq_false_iff_not] at h
    refine .inr ⟨by omega, by omega, by omega, by omega, fun e => ?_, fun e => ?_⟩ <;> omega
theorem exitOk_of {n : Int} {x : Int × Int} (h : (x.1 = 0 ∧ -3 ≤ x.2 ∧ x.2 ≤ -1) ∨ ((x.1 = -1 ∨ x.1 = 1) ∧ 0 ≤ x.2 ∧ x.2 < n)) : exitOk n x = true := by
  unfold exitOk inB
  rcases h with ⟨h0, h1, h2⟩ | ⟨h0, h1, h2⟩
  · rw [if_pos h0]
    exact decide_eq_true ⟨h1, h2⟩
  · rw [if_neg (by omega), if_pos h0]
    exact decide_eq_true ⟨h1, by omega⟩
theorem exitOk_cases {n : Int} {x : Int × Int} (h : exitOk n x = true) : (x.1 = 0 ∧ -3 ≤ x.2 ∧ x.2 ≤ -1) ∨ ((x.1 = -1 ∨ x.1 = 1) ∧ 0 ≤ x.2 ∧ x.2 < n) := by
  unfold exitOk inB at h
  by_cases h0 : x.1 = 0
  · rw [if_pos h0] at h
    exact .inl ⟨h0, of_decide_eq_true h⟩
  · rw [if_neg h0] at h
    by_cases h1 : x.1 = -1 ∨ x.1 = 1
    · rw [if_pos h1] at h
      have := of_decide_eq_true h
      exact .inr ⟨h1, this.1, by omega⟩
    · rw [if_neg h1] at h; cases h
/-- exits of a cell are right ones; a mark's lead away from it -/
theorem mkE_ok {T : Tn} (OK : T.Ok) {a : Nat} (ha : (a : Int) < T.letters + 2) : ∀ (k s : Nat), s < T.moves.length → exitOk T.moves.length (mkE T.moves a k s) = true ∧ ((a : Int) = T.letters → (mkE T.moves a k s).1 ≠ -1) ∧ ((a : Int) = T.letters + 1 → (mkE T.moves a k s).1 ≠ 1)
  | 0, s, _ => ⟨exitOk_of (.inl ⟨rfl, by simp [mkE], by simp [mkE]⟩), fun _ => by simp [mkE], fun _ => by simp [mkE]⟩
  | k + 1, s, hs => by
    have hm := moveOk_cases (Tn.mv_ok OK hs ha)
    by_cases hc : (mvAt T.moves s a).1 < 0 ∨ (mvAt T.moves s a).2 ≠ 0
    · rw [mkE_stop hc]
      rcases hm with ⟨h1, h2⟩ | ⟨h1, h2, h3, h4, h5, h6⟩
      · exact ⟨exitOk_of (.inl ⟨h2, by simp only; omega, by simp only; omega⟩), fun _ => by simp only; omega, fun _ => by simp only; omega⟩
      · exact ⟨exitOk_of (.inr ⟨by simp only; omega, h1, h2⟩), h5, h6⟩
    · rw [mkE_go hc]
      rcases hm with ⟨h1, h2⟩ | ⟨h1, h2, _⟩
      · omega
      · exact mkE_ok OK ha k _ (by omega)
theorem edge_ok {T : Tn} (OK : T.Ok) {a : Nat} (ha : (a : Int) < T.letters + 2) : (T.edge a).okB = true := by
  have h1 := OK.n1
  have h2 := OK.n12
  unfold Tb.okB inB Tn.edge
  simp only [Bool.and_eq_true, List.all_eq_true, decide_eq_true_eq, edgeL_len]
  have : ∀ x ∈ edgeL T.moves a T.moves.length, exitOk T.moves.length x = true := fun x hx => by
    obtain ⟨s, hs, rfl⟩ := List.mem_map.1 hx
    exact (mkE_ok OK ha _ s (List.mem_range.1 hs)).1
  exact ⟨⟨by omega, by omega⟩, trivial, this, this⟩
theorem getD_all {α : Type} {P : α → Prop} {xs : List α} {d : α} (hd : P d) (h : ∀ x ∈ xs, P x) (n : Nat) : P (xs.getD n d) := by
  rw [List.getD_eq_getElem?_getD]
  cases hx : xs[n]? with
  | none => exact hd
  | some x => exact h x (List.mem_of_getElem? hx)
theorem btw_ok {n : Int} {xr yl : List (Int × Int)} (h1 : ∀ x ∈ xr, exitOk n x = true) (h2 : ∀ x ∈ yl, exitOk n x = true) : ∀ (k : Nat) (e : Int × Int) (l : Bool), exitOk n e = true → exitOk n (btw xr yl k e l) = true
  | 0, _, _, _ => exitOk_of (.inl ⟨rfl, by simp [btw], by simp [btw]⟩)
  | k + 1, e, l, he => by
    unfold btw
    have h3 : exitOk n (0, -3) = true := exitOk_of (.inl ⟨rfl, by simp, by simp⟩)
    split
    · exact he
    · split
      · exact he
      · split
        · exact he
        · split
          · exact btw_ok h1 h2 k _ _ (getD_all (P := fun x => exitOk n x = true) h3 h2 _)
          · exact btw_ok h1 h2 k _ _ (getD_all (P := fun x => exitOk n x = true) h3 h1 _)
theorem joinT_ok {T U : Tb} (m : Nat) (hT : T.okB = true) (hU : U.okB = true) (hl : U.l.length = T.l.length) : (joinT m T U).okB = true := by
  unfold Tb.okB inB at *
  simp only [Bool.and_eq_true, List.all_eq_true, decide_eq_true_eq] at *
  obtain ⟨a1, a2, a3, a4⟩ := hT
  obtain ⟨b1, b2, b3, b4⟩ := hU
  rw [hl] at b3 b4
  simp only [joinT, List.length_map]
  refine ⟨a1, by omega, fun x hx => ?_, fun x hx => ?_⟩
  · obtain ⟨y, hy, rfl⟩ := List.mem_map.1 hx
    exact btw_ok a4 b3 _ _ _ (a3 y hy)
  · obtain ⟨y, hy, rfl⟩ := List.mem_map.1 hx
    exact btw_ok a4 b3 _ _ _ (b4 y hy)
/-- never out on the left, if the first one never is -/
theorem btw_noL {xr yl : List (Int × Int)} (h1 : ∀ x ∈ xr, x.1 ≠ -1) : ∀ (k : Nat) (e : Int × Int) (l : Bool), (l = true → e.1 ≠ -1) → (btw xr yl k e l).1 ≠ -1
  | 0, _, _, _ => by simp [btw]
  | k + 1, e, l, he => by
    unfold btw
    split
    · omega
    · split
      · rename_i h; exact absurd h.2 (he h.1)
      · split
        · rename_i h; rw [h.2]; decide
        · split
          · exact btw_noL h1 k _ _ (fun h => by cases h)
          · exact btw_noL h1 k _ _ (fun _ => getD_all (P := fun y : Int × Int => y.1 ≠ -1) (by simp) h1 _)
/-- never out on the right, if the second one never is -/
theorem btw_noR {xr yl : List (Int × Int)} (h2 : ∀ y ∈ yl, y.1 ≠ 1) : ∀ (k : Nat) (e : Int × Int) (l : Bool), (l = false → e.1 ≠ 1) → (btw xr yl k e l).1 ≠ 1
  | 0, _, _, _ => by simp [btw]
  | k + 1, e, l, he => by
    unfold btw
    split
    · omega
    · split
      · rename_i h; rw [h.2]; decide
      · split
        · rename_i h; exact absurd h.2 (he h.1)
        · split
          · exact btw_noR h2 k _ _ (fun _ => getD_all (P := fun y : Int × Int => y.1 ≠ 1) (by simp) h2 _)
          · exact btw_noR h2 k _ _ (fun h => by cases h)
theorem edge_get {T : Tn} {a : Nat} {x : Int × Int} (h : x ∈ edgeL T.moves a T.moves.length) : ∃ s, s < T.moves.length ∧ x = mkE T.moves a (T.moves.length + 1) s := by
  obtain ⟨s, hs, rfl⟩ := List.mem_map.1 h
  exact ⟨s, List.mem_range.1 hs, rfl⟩
theorem front_ok {T : Tn} {x : Tb} (OK : T.Ok) (hx : x.okB = true) (hl : x.l.length = T.moves.length) : (T.frontT x).okB = true :=
  joinT_ok _ (edge_ok OK (by have := OK.l1; omega)) hx (by rw [hl]; exact (edgeL_len _ _ _).symm)
theorem front_len {T : Tn} {x : Tb} : (T.frontT x).l.length = T.moves.length := by simp [Tn.frontT, joinT, Tn.edge, edgeL_len]
/-- the whole word's run ends inside -/
theorem last_in {T : Tn} {x : Tb} (OK : T.Ok) (hx : x.okB = true) (hl : x.l.length = T.moves.length) : (T.lastE x).1 = 0 ∧ -3 ≤ (T.lastE x).2 ∧ (T.lastE x).2 ≤ -1 := by
  have l1 := OK.l1
  have hf := front_ok OK hx hl
  have hw : (T.wholeT x).okB = true := joinT_ok _ hf (edge_ok OK (by omega)) (by rw [front_len]; exact edgeL_len _ _ _)
  have L1 : ∀ y ∈ edgeL T.moves T.letters.toNat T.moves.length, y.1 ≠ -1 := fun y hy => by
    obtain ⟨s, hs, rfl⟩ := edge_get hy
    exact (mkE_ok OK (by omega) _ s hs).2.1 (by omega)
  have R1 : ∀ y ∈ edgeL T.moves (T.letters.toNat + 1) T.moves.length, y.1 ≠ 1 := fun y hy => by
    obtain ⟨s, hs, rfl⟩ := edge_get hy
    exact (mkE_ok OK (by omega) _ s hs).2.2 (by omega)
  have F1 : ∀ y ∈ (T.frontT x).l, y.1 ≠ -1 := fun y hy => by
    obtain ⟨e, he, rfl⟩ := List.mem_map.1 hy
    exact btw_noL L1 _ _ _ (fun _ => L1 e he)
  have F2 : ∀ y ∈ (T.frontT x).r, y.1 ≠ -1 := fun y hy => by
    obtain ⟨e, he, rfl⟩ := List.mem_map.1 hy
    exact btw_noL L1 _ _ _ (fun h => by cases h)
  have W : ∀ y ∈ (T.wholeT x).l, y.1 ≠ -1 ∧ y.1 ≠ 1 ∧ exitOk (T.wholeT x).l.length y = true := fun y hy => by
    have h3 : exitOk (T.wholeT x).l.length y = true := by
      unfold Tb.okB at hw
      simp only [Bool.and_eq_true, List.all_eq_true] at hw
      exact hw.2.2.1 y hy
    refine ⟨?_, ?_, h3⟩ <;> obtain ⟨e, he, rfl⟩ := List.mem_map.1 hy
    · exact btw_noL F2 _ _ _ (fun _ => F1 e he)
    · exact btw_noR R1 _ _ _ (fun h => by cases h)
  have hP := getD_all (P := fun y : Int × Int => y.1 ≠ -1 ∧ y.1 ≠ 1 ∧ exitOk (T.wholeT x).l.length y = true) (d := (0, -3)) ⟨by simp, by simp, exitOk_of (.inl ⟨rfl, by simp, by simp⟩)⟩ W T.start.toNat
  obtain ⟨h1, h2, h3⟩ := hP
  rcases exitOk_cases h3 with h | h
  · exact h
  · exact absurd h.1 (fun h => h.elim h1 h2)
end Go.Proofs.Ytepjgaakihhngaa
