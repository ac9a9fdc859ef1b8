/-
  Plain laws of the texts of tables: the strict reading and the reading that compares with the text give the same. Conditions: those in each statement.
-/
import Derived.Test.YtelmooaenodfaaaDoorTxtLaw
import Derived.Test.YtelmooaenodfaaaDoorRdTab2
import Derived.Test.YtelmooaenodfaaaDoorTabTxt2
set_option linter.unusedVariables false
set_option linter.unusedSimpArgs false
set_option maxRecDepth 100000
set_option maxHeartbeats 1000000
namespace Go.Proofs.YtelmooaenodfaaaDoor
open Go.RowKit

def leftT : List UInt8 := [108, 101, 102, 116]
def rightT : List UInt8 := [114, 105, 103, 104, 116]
def bodyT (x : Int × Int) : List UInt8 := (exitT x).tail
theorem exitT_body (x : Int × Int) : exitT x = 32 :: bodyT x := by
  unfold bodyT exitT
  split
  · rfl
  · split <;> rfl
theorem exitsT_join (xs : List (Int × Int)) : exitsT xs = joinL 32 (xs.map bodyT) := by
  induction xs with
  | nil => rfl
  | cons x xs ih =>
    show exitT x ++ exitsT xs = 32 :: (bodyT x ++ joinL 32 (xs.map bodyT))
    rw [ih, exitT_body]
    rfl
theorem tabText_eq (T : Tb) : T.text = (leftT ++ exitsT T.l) ++ 10 :: ((rightT ++ exitsT T.r) ++ 10 :: []) := by simp [Tb.text, leftT, rightT]
structure GoodEx (x : Int × Int) : Prop where
  ok : exOk (bodyT x) = true
  v : exV (bodyT x) = x
  i : exI (bodyT x) = x
  b32 : 32 ∉ bodyT x
  b10 : 10 ∉ bodyT x
theorem goodEx {x : Int × Int} (h : ExOk x) : GoodEx x := by
  obtain ⟨s, t⟩ := x
  rcases h with ⟨h1, h2, h3⟩ | ⟨h1, h2, h3⟩
  · simp only at h1 h2 h3
    subst h1
    rcases (show t = -3 ∨ t = -2 ∨ t = -1 by omega) with rfl | rfl | rfl
    · exact ⟨by decide, by decide, by decide, by decide, by decide⟩
    · exact ⟨by decide, by decide, by decide, by decide, by decide⟩
    · exact ⟨by decide, by decide, by decide, by decide, by decide⟩
  · simp only at h1 h2 h3
    obtain ⟨n, rfl⟩ := Int.eq_ofNat_of_zero_le h2
    have hn : n < 1000000000 := by omega
    have n32 := dec_no (c := 32) (by decide) n
    have n10 := dec_no (c := 10) (by decide) n
    have hL := numL_dec hn
    have hI := numI_dec hn
    rcases h1 with rfl | rfl
    · have e : bodyT (-1, (n : Int)) = 60 :: Lib.decDigits n := by unfold bodyT exitT; simp
      refine ⟨?_, ?_, ?_, ?_, ?_⟩
      · rw [e]; simp [exOk, yesT, noT, onT, hL]
      · rw [e]; simp [exV, yesT, noT, onT, numV, hL]
      · rw [e]; simp [exI, hI]
      · rw [e]; simpa using n32
      · rw [e]; simpa using n10
    · have e : bodyT (1, (n : Int)) = 62 :: Lib.decDigits n := by unfold bodyT exitT; simp
      refine ⟨?_, ?_, ?_, ?_, ?_⟩
      · rw [e]; simp [exOk, yesT, noT, onT, hL]
      · rw [e]; simp [exV, yesT, noT, onT, numV, hL]
      · rw [e]; simp [exI, hI]
      · rw [e]; simpa using n32
      · rw [e]; simpa using n10
theorem ex_back {x : List UInt8} (h : exOk x = true) : exitT (exV x) = 32 :: x := by
  by_cases h1 : x = yesT
  · subst h1; decide
  by_cases h2 : x = noT
  · subst h2; decide
  by_cases h3 : x = onT
  · subst h3; decide
  have hv : exV x = (if x[0]? = some 62 then 1 else -1, numV x.tail) := by unfold exV; rw [if_neg h1, if_neg h2, if_neg h3]
  unfold exOk at h
  rw [decide_eq_false h1, decide_eq_false h2, decide_eq_false h3, Bool.false_or, Bool.false_or, Bool.false_or, Bool.and_eq_true, Bool.or_eq_true, decide_eq_true_eq, decide_eq_true_eq] at h
  obtain ⟨hs, h0⟩ := h
  cases x with
  | nil => simp at h0
  | cons b t =>
    obtain ⟨n, hn⟩ := Option.isSome_iff_exists.1 hs
    have ht : t = Lib.decDigits n := dec_of_num hn
    have hnv : numV t = n := by unfold numV; rw [show numL t = some n from hn]; rfl
    rw [hv, show (b :: t).tail = t from rfl, hnv]
    simp only [List.getElem?_cons_zero, Option.some.injEq] at h0 ⊢
    rcases h0 with rfl | rfl
    · rw [if_neg (by decide)]
      unfold exitT
      rw [if_pos rfl]
      show 32 :: 60 :: Lib.decDigits n = _
      rw [ht]
    · rw [if_pos rfl]
      unfold exitT
      rw [if_neg (show ¬ (1 : Int) = -1 by decide), if_pos rfl]
      show 32 :: 62 :: Lib.decDigits n = _
      rw [ht]
theorem exits_back : ∀ {ws : List (List UInt8)}, ws.all exOk = true → exitsT (ws.map exV) = joinL 32 ws
  | [], _ => rfl
  | x :: ws, h => by
    rw [List.all_cons, Bool.and_eq_true] at h
    show exitT (exV x) ++ exitsT (ws.map exV) = _
    rw [ex_back h.1, exits_back h.2]
    rfl

def tabOf (a b : List UInt8) : Tb := ⟨(splitL 32 a).tail.map exV, (splitL 32 b).tail.map exV⟩
def tabGood (a b : List UInt8) : Bool := (decide ((splitL 32 a)[0]? = some leftT) && (splitL 32 a).tail.all exOk) && ((decide ((splitL 32 b)[0]? = some rightT) && (splitL 32 b).tail.all exOk) && (tabOf a b).okB)
def tabS3 (xs : List (List UInt8)) : Option Tb := match xs with
  | [a, b, []] => if tabGood a b = true then some (tabOf a b) else none
  | _ => none
/-- The strict reading of a table. -/
def tabS (l : List UInt8) : Option Tb := tabS3 (splitL 10 l)
theorem tabS_text {l : List UInt8} {T : Tb} (h : tabS l = some T) : T.okB = true ∧ T.text = l := by
  unfold tabS tabS3 at h
  split at h
  · rename_i a b hs
    split at h
    · rename_i hg
      injection h with h
      subst h
      unfold tabGood at hg
      simp only [Bool.and_eq_true, decide_eq_true_eq] at hg
      obtain ⟨⟨ha, hae⟩, ⟨hb, hbe⟩, hok⟩ := hg
      refine ⟨hok, ?_⟩
      obtain ⟨wa, hwa⟩ : ∃ ws, splitL 32 a = leftT :: ws := by
        cases hx : splitL 32 a with
        | nil => exact absurd hx (splitL_ne _ _)
        | cons x ws => rw [hx] at ha; injection ha with ha; exact ⟨ws, by rw [ha]⟩
      obtain ⟨wb, hwb⟩ : ∃ ws, splitL 32 b = rightT :: ws := by
        cases hx : splitL 32 b with
        | nil => exact absurd hx (splitL_ne _ _)
        | cons x ws => rw [hx] at hb; injection hb with hb; exact ⟨ws, by rw [hb]⟩
      rw [tabText_eq]
      unfold tabOf
      rw [hwa] at hae ⊢
      rw [hwb] at hbe ⊢
      simp only [List.tail_cons] at hae hbe ⊢
      rw [exits_back hae, exits_back hbe, ← of_split hwa, ← of_split hwb, of_split hs]
      rfl
    · cases h
  · cases h
theorem left_no : (10 : UInt8) ∉ leftT ∧ (32 : UInt8) ∉ leftT ∧ (10 : UInt8) ∉ rightT ∧ (32 : UInt8) ∉ rightT := by decide
theorem exits_no10 {xs : List (Int × Int)} (h : ∀ x ∈ xs, ExOk x) {u : List UInt8} (hu : (10 : UInt8) ∉ u) : (10 : UInt8) ∉ u ++ exitsT xs := by
  intro e
  rcases List.mem_append.1 e with e | e
  · exact hu e
  · obtain ⟨x, hx, hm⟩ := List.mem_flatMap.1 e
    rw [exitT_body, List.mem_cons] at hm
    rcases hm with hm | hm
    · exact absurd hm (by decide)
    · exact (goodEx (h x hx)).b10 hm
theorem exits_split {xs : List (Int × Int)} (h : ∀ x ∈ xs, ExOk x) {u : List UInt8} (hu : (32 : UInt8) ∉ u) : splitL 32 (u ++ exitsT xs) = u :: xs.map bodyT := by
  rw [exitsT_join]
  refine split_join hu fun x hx => ?_
  obtain ⟨y, hy, rfl⟩ := List.mem_map.1 hx
  exact (goodEx (h y hy)).b32
theorem exits_v {xs : List (Int × Int)} (h : ∀ x ∈ xs, ExOk x) : (xs.map bodyT).map exV = xs := by
  rw [List.map_map]
  exact (List.map_congr_left fun x hx => (goodEx (h x hx)).v).trans (List.map_id _)
theorem exits_i {xs : List (Int × Int)} (h : ∀ x ∈ xs, ExOk x) : (xs.map bodyT).map exI = xs := by
  rw [List.map_map]
  exact (List.map_congr_left fun x hx => (goodEx (h x hx)).i).trans (List.map_id _)
theorem exits_ok {xs : List (Int × Int)} (h : ∀ x ∈ xs, ExOk x) : (xs.map bodyT).all exOk = true := by
  rw [List.all_map, List.all_eq_true]
  exact fun x hx => (goodEx (h x hx)).ok
theorem tabS_of {T : Tb} (h : T.okB = true) : tabS T.text = some T := by
  obtain ⟨-, -, xl, xr⟩ := tabOk h
  obtain ⟨n1, n2, n3, n4⟩ := left_no
  unfold tabS
  rw [tabText_eq, splitL_app _ (exits_no10 xl n1), splitL_app _ (exits_no10 xr n3)]
  have e1 := exits_split xl n2
  have e2 := exits_split xr n4
  have hT : tabOf (leftT ++ exitsT T.l) (rightT ++ exitsT T.r) = T := by
    unfold tabOf
    rw [e1, e2, List.tail_cons, List.tail_cons, exits_v xl, exits_v xr]
  show (if tabGood _ _ = true then some (tabOf _ _) else none) = _
  rw [if_pos, hT]
  unfold tabGood
  rw [hT, h, e1, e2, List.tail_cons, List.tail_cons, exits_ok xl, exits_ok xr]
  rfl

/-- The two lines, as the program cuts them. -/
def cutT (l : List UInt8) : List UInt8 × List UInt8 × Bool := Lib.cut (Lib.trimSuffix l [10]) [10]
def tabI0 (l : List UInt8) : Tb := ⟨(splitL 32 (cutT l).1).tail.map exI, (splitL 32 (cutT l).2.1).tail.map exI⟩
def tabI (l : List UInt8) : Option Tb := if (tabI0 l).okB = true ∧ (tabI0 l).text = l then some (tabI0 l) else none
theorem tabI0_text {T : Tb} (h : T.okB = true) : tabI0 T.text = T := by
  obtain ⟨-, -, xl, xr⟩ := tabOk h
  obtain ⟨n1, n2, n3, n4⟩ := left_no
  have hc : cutT T.text = (leftT ++ exitsT T.l, rightT ++ exitsT T.r, true) := by
    unfold cutT
    rw [tabText_eq, show (leftT ++ exitsT T.l) ++ 10 :: ((rightT ++ exitsT T.r) ++ 10 :: []) = ((leftT ++ exitsT T.l) ++ 10 :: (rightT ++ exitsT T.r)) ++ [10] by simp, trim_end, cut_app _ _ _ (exits_no10 xl n1)]
  unfold tabI0
  rw [hc]
  simp only
  rw [exits_split xl n2, exits_split xr n4, List.tail_cons, List.tail_cons, exits_i xl, exits_i xr]
theorem tab_same (l : List UInt8) : tabS l = tabI l := by
  cases hS : tabS l with
  | some T =>
    obtain ⟨hok, ht⟩ := tabS_text hS
    have h0 : tabI0 l = T := by rw [← ht]; exact tabI0_text hok
    unfold tabI
    rw [h0, if_pos ⟨hok, ht⟩]
  | none =>
    unfold tabI
    split
    · rename_i h
      have := tabS_of h.1
      rw [h.2, hS] at this
      cases this
    · rfl

/-- What ReadTable gives. -/
def tabC (l : List UInt8) : Tb := if 20000 < l.length then ⟨[], []⟩ else (tabS l).getD ⟨[], []⟩
def tabCode (l : List UInt8) : Int := if 20000 < l.length then 2 else if (tabS l).isSome = true then 0 else 5
theorem tabC_tot (l : List UInt8) : (tabC l).tot ≤ 1048576 := by
  unfold tabC
  split
  · simp [Tb.tot]
  · cases hS : tabS l with
    | none => simp [Tb.tot]
    | some T =>
      obtain ⟨h, -⟩ := tabS_text hS
      obtain ⟨h1, h2, -⟩ := tabOk h
      show T.tot ≤ _
      unfold Tb.tot
      omega
end Go.Proofs.YtelmooaenodfaaaDoor
