/-
  Two wanderers side by side, as lists. No program in sight. Conditions: none.
-/
import Derived.Test.YtpknkaidmefenaaVWan
import Derived.Test.YtpknkaidmefenaaFoldLaw
set_option linter.unusedVariables false
set_option linter.unusedSimpArgs false
set_option maxRecDepth 100000
set_option maxHeartbeats 1000000
namespace Go.Proofs.Ytpknkaidmefenaa
open Go.RowKit

def rsM (by_ : Nat) (m : Int × Int) : Int × Int := if 0 ≤ m.1 then (m.1 + (by_ : Int), m.2) else m
def rsL (by_ : Nat) (l : List (Int × Int)) : List (Int × Int) := l.map (rsM by_)
def rsR (by_ : Nat) (r : List (List (Int × Int))) : List (List (Int × Int)) := r.map (rsL by_)
def rsW (by_ : Nat) (w : List (List (List (Int × Int)))) : List (List (List (Int × Int))) := w.map (rsR by_)
theorem rsM_zero (m : Int × Int) : rsM 0 m = m := by unfold rsM; split <;> simp
theorem rsL_zero (l : List (Int × Int)) : rsL 0 l = l := by
  unfold rsL
  have : rsM 0 = id := funext rsM_zero
  rw [this, List.map_id]
theorem rsR_zero (l : List (List (Int × Int))) : rsR 0 l = l := by
  unfold rsR
  have : rsL 0 = id := funext rsL_zero
  rw [this, List.map_id]
theorem rsW_zero (l : List (List (List (Int × Int)))) : rsW 0 l = l := by
  unfold rsW
  have : rsR 0 = id := funext rsR_zero
  rw [this, List.map_id]
theorem rsL_len (b : Nat) (l : List (Int × Int)) : (rsL b l).length = l.length := by simp [rsL]
theorem rsR_len (b : Nat) (l : List (List (Int × Int))) : (rsR b l).length = l.length := by simp [rsR]
theorem rsW_len (b : Nat) (l : List (List (List (Int × Int)))) : (rsW b l).length = l.length := by simp [rsW]

def nilWn : Wn := ⟨0, [], []⟩
def Wn.eitherW (T U : Wn) : Wn := ⟨T.letters, T.starts ++ U.starts.map (· + (T.moves.length : Int)), T.moves ++ rsW T.moves.length U.moves⟩
def Wn.eitherC (T U : Wn) : Wn := if T.okB = true ∧ U.okB = true ∧ T.letters = U.letters ∧ T.moves.length + U.moves.length ≤ 5 then T.eitherW U else nilWn
def Wn.eitherCode (T U : Wn) : Int := if T.okB = true ∧ U.okB = true then (if T.letters = U.letters then (if T.moves.length + U.moves.length ≤ 5 then 0 else 3) else 2) else 1

theorem wm_in {n L c : Int} {x : Int × Int} (h : wmOk n L c x = true) : x.1 = -1 ∧ x.2 = 0 ∨ 0 ≤ x.1 ∧ x.1 < n ∧ -1 ≤ x.2 ∧ x.2 ≤ 1 := by
  unfold wmOk moveOk at h
  simp only [Bool.and_eq_true, Bool.not_eq_true', decide_eq_false_iff_not] at h
  obtain ⟨h1, h2⟩ := h
  by_cases h3 : x.1 = -1 ∨ x.1 = -2
  · rw [if_pos h3] at h2
    simp at h2
    omega
  · rw [if_neg h3] at h2
    simp only [Bool.and_eq_true] at h2
    have a := inB_iff.1 h2.1
    have b := inB_iff.1 h2.2.1
    omega
theorem rise_all {α : Type} {ok : α → Bool} {lt : α → α → Bool} : ∀ {xs : List α} {o : Option α}, riseGo ok lt o xs = true → ∀ x ∈ xs, ok x = true
  | [], _, _, x, hx => by simp at hx
  | y :: ys, o, h, x, hx => by
    have h1 : ok y = true ∧ riseGo ok lt (some y) ys = true := by
      cases o with
      | none => simpa [riseGo] using h
      | some p => simp only [riseGo, Bool.and_eq_true] at h; exact ⟨h.1, h.2.2⟩
    rcases List.mem_cons.1 hx with rfl | hx
    · exact h1.1
    · exact rise_all h1.2 x hx
theorem rise_short {n L c : Int} {xs : List (Int × Int)} (hn : n ≤ 5) (h : riseB (wmOk n L c) mvLt xs = true) : xs.length ≤ 20 := by
  have : ∀ (xs : List (Int × Int)) (p : Int × Int), riseGo (wmOk n L c) mvLt (some p) xs = true → (p.1 = -1 ∧ p.2 = 0 ∨ 0 ≤ p.1 ∧ p.1 < n ∧ -1 ≤ p.2 ∧ p.2 ≤ 1) → (xs.length : Int) ≤ 13 - (3 * p.1 + p.2) := by
    intro xs
    induction xs with
    | nil => intro p _ h; simp; omega
    | cons y ys ih =>
      intro p h hp
      simp only [riseGo, Bool.and_eq_true] at h
      have hy := wm_in h.1
      have h1 := ih y h.2.2 hy
      have h2 := h.2.1
      unfold mvLt at h2
      simp only [Bool.or_eq_true, Bool.and_eq_true, decide_eq_true_eq] at h2
      simp only [List.length_cons]
      omega
  cases xs with
  | nil => simp
  | cons y ys =>
    have h' : riseGo (wmOk n L c) mvLt none (y :: ys) = true := h
    simp only [riseGo, Bool.and_eq_true] at h'
    have hy := wm_in h'.1
    have := this ys y h'.2 hy
    simp only [List.length_cons]
    omega
structure Wn.Ok (T : Wn) : Prop where
  l1 : 1 ≤ T.letters
  l3 : T.letters ≤ 3
  n1 : 1 ≤ T.moves.length
  n5 : T.moves.length ≤ 5
  st : ∀ x ∈ T.starts, 0 ≤ x ∧ x < T.moves.length
  sl : T.starts.length ≤ 5
  row : ∀ r ∈ T.moves, (r.length : Int) = T.letters + 2
  cell : ∀ r ∈ T.moves, ∀ l ∈ r, l.length ≤ 20 ∧ ∀ m ∈ l, -1 ≤ m.1 ∧ m.1 ≤ 4
theorem cols_all {n L : Int} : ∀ {r : List (List (Int × Int))} {c : Nat}, colsFrom n L c r = true → ∀ l ∈ r, ∃ c : Nat, riseB (wmOk n L c) mvLt l = true
  | [], _, _, l, hl => by simp at hl
  | y :: ys, c, h, l, hl => by
    simp only [colsFrom, Bool.and_eq_true] at h
    rcases List.mem_cons.1 hl with rfl | hl
    · exact ⟨c, h.1⟩
    · exact cols_all h.2 l hl
theorem Wn.ok_of {T : Wn} (h : T.okB = true) : T.Ok := by
  unfold Wn.okB at h
  simp only [Bool.and_eq_true, List.all_eq_true] at h
  obtain ⟨a, b, c, d⟩ := h
  have a := inB_iff.1 a
  have b := inB_iff.1 b
  have n5 : (T.moves.length : Int) ≤ 5 := b.2
  have cs : setOk T.moves.length T.starts = true := c
  have cl := setOk_len cs
  refine ⟨a.1, a.2, by omega, by omega, fun x hx => ?_, by omega, fun r hr => ?_, fun r hr l hl => ?_⟩
  · obtain ⟨k, hk⟩ := List.getElem?_of_mem hx
    exact setOk_get cs hk
  · have := d r hr
    unfold rowW at this
    simp only [Bool.and_eq_true, decide_eq_true_eq] at this
    exact this.1
  · have := d r hr
    unfold rowW at this
    simp only [Bool.and_eq_true] at this
    obtain ⟨c, hc⟩ := cols_all this.2 l hl
    refine ⟨rise_short n5 hc, fun m hm => ?_⟩
    have := wm_in (rise_all hc m hm)
    omega
theorem totS_le_e {α : Type} [Cod α] {k : Nat} : ∀ {xs : List α}, (∀ x ∈ xs, Cod.tot x ≤ k) → totS xs ≤ k * xs.length
  | [], _ => Nat.zero_le _
  | x :: xs, h => by
    have h1 := h x (List.mem_cons_self ..)
    have h2 := totS_le_e (xs := xs) fun y hy => h y (List.mem_cons_of_mem _ hy)
    rw [totS, List.length_cons, Nat.mul_add]
    omega
theorem tot_pairs_e (r : List (Int × Int)) : Cod.tot r = r.length := by rw [tot_list, totS_zero (fun _ => rfl)]; rfl
theorem either_tot {T U : Wn} (OT : T.Ok) (OU : U.Ok) : (T.eitherW U).tot ≤ 1048576 := by
  have t5 := OT.n5
  have u5 := OU.n5
  have ts := OT.sl
  have us := OU.sl
  have hc : ∀ (W : Wn), W.Ok → ∀ (b : Nat), ∀ r ∈ rsW b W.moves, Cod.tot r ≤ 105 := fun W OW b r hr => by
    obtain ⟨r0, h0, rfl⟩ := List.mem_map.1 hr
    have hl := OW.row r0 h0
    have l3 := OW.l3
    rw [tot_list, rsR_len]
    have : totS (rsR b r0) ≤ 20 * (rsR b r0).length := totS_le_e fun y hy => by
      obtain ⟨y0, hy0, rfl⟩ := List.mem_map.1 hy
      rw [tot_pairs_e, rsL_len]
      exact (OW.cell r0 h0 y0 hy0).1
    rw [rsR_len] at this
    omega
  have h1 := totS_le_e (xs := (T.eitherW U).moves) (k := 105) fun r hr => by
    unfold Wn.eitherW at hr
    rcases List.mem_append.1 hr with hr | hr
    · exact hc T OT 0 r (by rw [rsW_zero]; exact hr)
    · exact hc U OU _ r hr
  have hm : (T.eitherW U).moves.length = T.moves.length + U.moves.length := by simp [Wn.eitherW, rsW_len]
  have hs : (T.eitherW U).starts.length = T.starts.length + U.starts.length := by simp [Wn.eitherW]
  have h2 : totS (T.eitherW U).starts = 0 := totS_zero (fun _ => rfl) _
  rw [hm] at h1
  unfold Wn.tot
  rw [tot_list, tot_list, hm, hs, h2]
  omega
theorem eitherC_tot (T U : Wn) : (T.eitherC U).tot ≤ 1048576 := by
  unfold Wn.eitherC
  by_cases h : T.okB = true ∧ U.okB = true ∧ T.letters = U.letters ∧ T.moves.length + U.moves.length ≤ 5
  · rw [if_pos h]; exact either_tot (Wn.ok_of h.1) (Wn.ok_of h.2.1)
  · rw [if_neg h]; simp [nilWn, Wn.tot, tot_list, totS]
end Go.Proofs.Ytpknkaidmefenaa
