/-
  Plain laws of the texts of turners: the strict reading and the reading that compares with the text give the same. Conditions: those in each statement.
-/
import Derived.Test.YtelmooaenodfaaaDoorRrLaw
set_option linter.unusedVariables false
set_option linter.unusedSimpArgs false
set_option maxRecDepth 100000
set_option maxHeartbeats 1000000
namespace Go.Proofs.YtelmooaenodfaaaDoor
open Go.RowKit

def dirV (b : UInt8) : Int := if b = 60 then -1 else if b = 62 then 1 else 0
def dirOk (b : UInt8) : Bool := decide (b = 60) || (decide (b = 62) || decide (b = 61))
/-- A move, read strictly. -/
def mvV (x : List UInt8) : Int × Int := if x = yesT then (-1, 0) else if x = noT then (-2, 0) else if x = [] then (0, 0) else (numV x.dropLast, dirV (x.getLastD 0))
def mvOkB (x : List UInt8) : Bool := decide (x = yesT) || (decide (x = noT) || (!decide (x = []) && ((numL x.dropLast).isSome && dirOk (x.getLastD 0))))
/-- A move, as the program reads it. -/
def mvI (x : List UInt8) : Int × Int := if x = yesT then (-1, 0) else if x = noT then (-2, 0) else if x = [] then (0, 0) else (numI x.dropLast, Lib.index [60, 61, 62] [x.getLastD 0] - 1)
theorem movesT_join (r : List (Int × Int)) : movesT r = joinL 32 (r.map moveT) := by
  unfold movesT joinL
  rw [List.flatMap_map]
/-- A move of a valid turner. -/
def MvGood (m : Int × Int) : Prop := (m.1 = -1 ∨ m.1 = -2) ∧ m.2 = 0 ∨ (0 ≤ m.1 ∧ m.1 < 1000000000) ∧ (m.2 = -1 ∨ m.2 = 0 ∨ m.2 = 1)
theorem mvGood_of {n L k : Int} {x : Int × Int} (h : moveOk n L k x = true) (hn : n ≤ 12) : MvGood x := by
  unfold moveOk at h
  split at h
  · rename_i h1
    exact .inl ⟨h1, of_decide_eq_true h⟩
  · simp only [Bool.and_eq_true] at h
    have a := inB_iff.1 h.1
    have b := inB_iff.1 h.2.1
    exact .inr ⟨by omega, by omega⟩
theorem digB_dir : digB 60 = false ∧ digB 61 = false ∧ digB 62 = false := by decide
structure GoodMv (m : Int × Int) : Prop where
  ok : mvOkB (moveT m) = true
  v : mvV (moveT m) = m
  i : mvI (moveT m) = m
  b32 : (32 : UInt8) ∉ moveT m
  b10 : (10 : UInt8) ∉ moveT m
theorem num_ne {D : List UInt8} {b : UInt8} (hd : D.all digB = true) (hb : b = 60 ∨ b = 61 ∨ b = 62) : D ++ [b] ≠ yesT ∧ D ++ [b] ≠ noT ∧ D ++ [b] ≠ [] := by
  have h : ∀ (u : List UInt8), u.getLast? = some 115 ∨ u.getLast? = some 111 → D ++ [b] ≠ u := by
    intro u hu e
    rw [← e, List.getLast?_append] at hu
    simp only [List.getLast?_singleton, Option.some_or, Option.some.injEq] at hu
    rcases hb with rfl | rfl | rfl <;> revert hu <;> decide
  exact ⟨h _ (.inl rfl), h _ (.inr rfl), by simp⟩
theorem goodMv {m : Int × Int} (h : MvGood m) : GoodMv m := by
  obtain ⟨t, d⟩ := m
  rcases h with ⟨h1, h2⟩ | ⟨⟨h1, h2⟩, h3⟩
  · simp only at h1 h2
    subst h2
    rcases h1 with rfl | rfl
    · exact ⟨by decide, by decide, by decide, by decide, by decide⟩
    · exact ⟨by decide, by decide, by decide, by decide, by decide⟩
  · simp only at h1 h2 h3
    obtain ⟨n, rfl⟩ := Int.eq_ofNat_of_zero_le h1
    have hn : n < 1000000000 := by omega
    have hdg := dec_digs n
    have n32 := dec_no (c := 32) (by decide) n
    have n10 := dec_no (c := 10) (by decide) n
    have hL := numL_dec hn
    have hI := numI_dec hn
    have e : moveT ((n : Int), d) = Lib.decDigits n ++ [dirB d] := by
      unfold moveT
      rw [if_neg (by simp only; omega), if_neg (by simp only; omega)]
      rfl
    have hb : dirB d = 60 ∨ dirB d = 61 ∨ dirB d = 62 := by
      unfold dirB
      rcases h3 with rfl | rfl | rfl <;> decide
    obtain ⟨g1, g2, g3⟩ := num_ne hdg hb
    have e1 : (Lib.decDigits n ++ [dirB d]).dropLast = Lib.decDigits n := by simp
    have e2 : (Lib.decDigits n ++ [dirB d]).getLastD 0 = dirB d := by simp [List.getLastD_eq_getLast?]
    have hnv : numV (Lib.decDigits n) = n := by unfold numV; rw [hL]; rfl
    refine ⟨?_, ?_, ?_, ?_, ?_⟩
    · rw [e]
      unfold mvOkB
      rw [decide_eq_false g1, decide_eq_false g2, decide_eq_false g3, e1, e2, hL]
      rcases h3 with rfl | rfl | rfl <;> rfl
    · rw [e]
      unfold mvV
      rw [if_neg g1, if_neg g2, if_neg g3, e1, e2, hnv]
      rcases h3 with rfl | rfl | rfl <;> rfl
    · rw [e]
      unfold mvI
      rw [if_neg g1, if_neg g2, if_neg g3, e1, e2, hI]
      rcases h3 with rfl | rfl | rfl <;> rfl
    · rw [e]
      refine not_app n32 ?_
      rcases hb with h | h | h <;> rw [h] <;> decide
    · rw [e]
      refine not_app n10 ?_
      rcases hb with h | h | h <;> rw [h] <;> decide
theorem mv_back {x : List UInt8} (h : mvOkB x = true) : moveT (mvV x) = x := by
  by_cases h1 : x = yesT
  · subst h1; decide
  by_cases h2 : x = noT
  · subst h2; decide
  unfold mvOkB at h
  rw [decide_eq_false h1, decide_eq_false h2, Bool.false_or, Bool.false_or, Bool.and_eq_true, Bool.and_eq_true] at h
  obtain ⟨h3, h4, h5⟩ := h
  have h3 : x ≠ [] := by simpa using h3
  obtain ⟨n, hn⟩ := Option.isSome_iff_exists.1 h4
  have hx : x = x.dropLast ++ [x.getLastD 0] := by
    obtain ⟨a, b, rfl⟩ : ∃ a b, x = a ++ [b] := ⟨x.dropLast, x.getLast h3, (List.dropLast_concat_getLast _).symm⟩
    simp [List.getLastD_eq_getLast?]
  have hnv : numV x.dropLast = n := by unfold numV; rw [hn]; rfl
  unfold mvV
  rw [if_neg h1, if_neg h2, if_neg h3, hnv]
  have hd := dec_of_num hn
  generalize x.getLastD 0 = b at h5 hx ⊢
  unfold moveT
  rw [if_neg (by simp only; omega), if_neg (by simp only; omega)]
  conv => rhs; rw [hx, hd]
  show Lib.decDigits n ++ [dirB (dirV b)] = _
  unfold dirOk at h5
  simp only [Bool.or_eq_true, decide_eq_true_eq] at h5
  rcases h5 with rfl | rfl | rfl <;> rfl
theorem moves_back : ∀ {ws : List (List UInt8)}, ws.all mvOkB = true → movesT (ws.map mvV) = joinL 32 ws
  | [], _ => rfl
  | x :: ws, h => by
    rw [List.all_cons, Bool.and_eq_true] at h
    show (32 :: moveT (mvV x)) ++ movesT (ws.map mvV) = _
    rw [mv_back h.1, moves_back h.2]
    rfl
theorem Tn.text_eq (T : Tn) : T.text = linesT (turnerT ++ numsT [T.letters, T.moves.length, T.start]) (T.moves.map fun r => stateT ++ movesT r) := by
  unfold Tn.text Tn.headT rowsT linesT
  rw [List.flatMap_map, List.append_assoc (turnerT ++ _)]
  rfl

def rowTGood (x : List UInt8) : Bool := decide ((splitL 32 x)[0]? = some stateT) && (splitL 32 x).tail.all mvOkB
def tnOf (ls : List (List UInt8)) : Tn := ⟨(numsV (hdOf ls).tail).getD 0 0, (numsV (hdOf ls).tail).getD 2 0, (midOf ls).map fun x => (splitL 32 x).tail.map mvV⟩
def tnS3 (ls : List (List UInt8)) : Option Tn := if (docGood turnerT ls && ((midOf ls).all rowTGood && (tnOf ls).okB)) = true then some (tnOf ls) else none
/-- The strict reading of a turner. -/
def tnS (l : List UInt8) : Option Tn := tnS3 (splitL 10 l)
theorem rowTGood_back {x : List UInt8} (h : rowTGood x = true) : stateT ++ movesT ((splitL 32 x).tail.map mvV) = x := by
  unfold rowTGood at h
  rw [Bool.and_eq_true, decide_eq_true_eq] at h
  cases hs : splitL 32 x with
  | nil => exact absurd hs (splitL_ne _ _)
  | cons w ws =>
    rw [hs, List.tail_cons] at h
    have hx := of_split hs
    obtain rfl : w = stateT := by simpa using h.1
    rw [List.tail_cons, moves_back h.2, hx]
theorem tnS_text {l : List UInt8} {T : Tn} (h : tnS l = some T) : T.okB = true ∧ T.text = l := by
  unfold tnS tnS3 at h
  split at h
  · rename_i hg
    injection h with h
    rw [Bool.and_eq_true, Bool.and_eq_true] at hg
    obtain ⟨hd, hrows, hok⟩ := hg
    rw [h] at hok
    refine ⟨hok, ?_⟩
    obtain ⟨hl, ws, hls, hsp, hh, hn, a, c, hv⟩ := docGood_of hd
    obtain ⟨ls, hle⟩ : ∃ ls, ls = splitL 10 l := ⟨_, rfl⟩
    rw [← hle] at hls hrows hh hv h
    have hT : T = ⟨a, c, (midOf ls).map fun x => (splitL 32 x).tail.map mvV⟩ := by
      rw [← h]
      unfold tnOf
      rw [hh, List.tail_cons, hv]
      rfl
    have hl2 : l = linesT hl (midOf ls) := of_lines (hle ▸ hls)
    rw [Tn.text_eq, hl2, hT]
    simp only [List.length_map]
    rw [← hv, nums_back hn, ← of_split hsp, List.map_map]
    congr 1
    refine (List.map_congr_left fun x hx => ?_).trans (List.map_id _)
    exact rowTGood_back (List.all_eq_true.1 hrows x hx)
  · cases h
structure TnDoc (T : Tn) : Prop where
  h10 : (10 : UInt8) ∉ turnerT ++ numsT [T.letters, T.moves.length, T.start]
  l10 : ∀ x ∈ T.moves.map (fun r => stateT ++ movesT r), (10 : UInt8) ∉ x
  hd : splitL 32 (turnerT ++ numsT [T.letters, T.moves.length, T.start]) = turnerT :: [T.letters, (T.moves.length : Int), T.start].map fun n => Lib.decDigits n.toNat
  nb : ∀ n ∈ [T.letters, (T.moves.length : Int), T.start], 0 ≤ n ∧ n < 1000000000
  mv : ∀ r ∈ T.moves, ∀ m ∈ r, GoodMv m
theorem st_no : (10 : UInt8) ∉ stateT ∧ (32 : UInt8) ∉ stateT ∧ (10 : UInt8) ∉ turnerT ∧ (32 : UInt8) ∉ turnerT := by decide
theorem moves_no {r : List (Int × Int)} (h : ∀ m ∈ r, GoodMv m) : (10 : UInt8) ∉ movesT r := fun e => by
  obtain ⟨m, hm, he⟩ := List.mem_flatMap.1 e
  rcases List.mem_cons.1 he with he | he
  · exact absurd he (by decide)
  · exact (h m hm).b10 he
theorem moves_words {r : List (Int × Int)} (h : ∀ m ∈ r, GoodMv m) : splitL 32 (stateT ++ movesT r) = stateT :: r.map moveT := by
  rw [movesT_join]
  refine split_join st_no.2.1 fun x hx => ?_
  obtain ⟨m, hm, rfl⟩ := List.mem_map.1 hx
  exact (h m hm).b32
theorem moves_v {r : List (Int × Int)} (h : ∀ m ∈ r, GoodMv m) : (r.map moveT).map mvV = r := by
  rw [List.map_map]
  exact (List.map_congr_left fun x hx => (h x hx).v).trans (List.map_id _)
theorem moves_i {r : List (Int × Int)} (h : ∀ m ∈ r, GoodMv m) : (r.map moveT).map mvI = r := by
  rw [List.map_map]
  exact (List.map_congr_left fun x hx => (h x hx).i).trans (List.map_id _)
theorem moves_okB {r : List (Int × Int)} (h : ∀ m ∈ r, GoodMv m) : (r.map moveT).all mvOkB = true := by
  rw [List.all_map, List.all_eq_true]
  exact fun x hx => (h x hx).ok
theorem Tn.doc {T : Tn} (h : T.okB = true) : TnDoc T := by
  have OK := Tn.tok_of h
  obtain ⟨h1, h2, h3, h4⟩ := st_no
  have hmv : ∀ r ∈ T.moves, ∀ m ∈ r, GoodMv m := fun r hr m hm => by
    have h' := h
    unfold Tn.okB at h'
    simp only [Bool.and_eq_true, List.all_eq_true] at h'
    have hro := h'.2.2.2 r hr
    unfold rowOk at hro
    rw [Bool.and_eq_true] at hro
    obtain ⟨k, hk⟩ := moves_mem hro.2 m hm
    exact goodMv (mvGood_of hk (by have := OK.n12; omega))
  refine ⟨not_app h3 (nums_no (by decide) (by decide) _), fun x hx => ?_, nums_split h4 _, fun n hn => ?_, hmv⟩
  · obtain ⟨r, hr, rfl⟩ := List.mem_map.1 hx
    exact not_app h1 (moves_no (hmv r hr))
  · have := OK.l1; have := OK.l3; have := OK.n1; have := OK.n12; have := OK.s0; have := OK.s1
    simp only [List.mem_cons, List.not_mem_nil, or_false] at hn
    rcases hn with rfl | rfl | rfl <;> omega
theorem tnS_of {T : Tn} (h : T.okB = true) : tnS T.text = some T := by
  have D := Tn.doc h
  unfold tnS
  rw [Tn.text_eq, split_lines D.h10 D.l10]
  obtain ⟨M, hM⟩ : ∃ M, M = T.moves.map (fun r => stateT ++ movesT r) := ⟨_, rfl⟩
  obtain ⟨H, hH⟩ : ∃ H, H = turnerT ++ numsT [T.letters, (T.moves.length : Int), T.start] := ⟨_, rfl⟩
  have hd := D.hd
  rw [← hM, ← hH]
  rw [← hH] at hd
  have e1 : hdOf (H :: (M ++ [[]])) = turnerT :: [T.letters, (T.moves.length : Int), T.start].map fun n => Lib.decDigits n.toNat := hd
  have e2 : midOf (H :: (M ++ [[]])) = M := by
    show (M ++ [[]]).dropLast = M
    simp
  have e3 : numsV (hdOf (H :: (M ++ [[]]))).tail = [T.letters, (T.moves.length : Int), T.start] := by rw [e1, List.tail_cons]; exact nums_v D.nb
  have hMl : M.length = T.moves.length := by rw [hM, List.length_map]
  have hv : M.map (fun x => (splitL 32 x).tail.map mvV) = T.moves := by
    rw [hM, List.map_map]
    refine (List.map_congr_left fun r hr => ?_).trans (List.map_id _)
    show (splitL 32 (stateT ++ movesT r)).tail.map mvV = r
    rw [moves_words (D.mv r hr), List.tail_cons, moves_v (D.mv r hr)]
  have hT : tnOf (H :: (M ++ [[]])) = T := by
    unfold tnOf
    rw [e3, e2, hv]
    rfl
  have hg : docGood turnerT (H :: (M ++ [[]])) = true := by
    unfold docGood
    rw [e3, e1, List.tail_cons, nums_ok D.nb]
    have q4 : (H :: (M ++ [[]])).getLast? = some [] := by show ((H :: M) ++ [[]]).getLast? = some []; rw [List.getLast?_append]; rfl
    have q5 : ((H :: (M ++ [[]])).length : Int) = [T.letters, (T.moves.length : Int), T.start].getD 1 0 + 2 := by
      show (((M ++ [[]]).length + 1 : Nat) : Int) = (T.moves.length : Int) + 2
      rw [List.length_append, hMl]
      show ((T.moves.length + 1 + 1 : Nat) : Int) = _
      omega
    rw [q4, decide_eq_true q5]
    first
      | rfl
      | simp
  have hr : M.all rowTGood = true := by
    rw [hM, List.all_map, List.all_eq_true]
    intro r hr
    show rowTGood (stateT ++ movesT r) = true
    unfold rowTGood
    rw [moves_words (D.mv r hr), List.tail_cons, moves_okB (D.mv r hr)]
    rfl
  unfold tnS3
  rw [e2, hT, hg, hr, h]
  rfl
def tnI0 (l : List UInt8) : Tn := ⟨numI ((hdOf (docI l)).getD 1 []), numI ((hdOf (docI l)).getD 3 []), (docI l).tail.map fun x => (splitL 32 x).tail.map mvI⟩
def tnI (l : List UInt8) : Option Tn := if (tnI0 l).okB = true ∧ (tnI0 l).text = l then some (tnI0 l) else none
theorem tnI0_text {T : Tn} (h : T.okB = true) : tnI0 T.text = T := by
  have D := Tn.doc h
  have hdoc : docI T.text = (turnerT ++ numsT [T.letters, (T.moves.length : Int), T.start]) :: T.moves.map (fun r => stateT ++ movesT r) := by
    unfold docI
    rw [Tn.text_eq, split_trim D.h10 D.l10]
  unfold tnI0
  rw [hdoc, List.tail_cons]
  have e1 : hdOf ((turnerT ++ numsT [T.letters, (T.moves.length : Int), T.start]) :: T.moves.map (fun r => stateT ++ movesT r)) = turnerT :: [T.letters, (T.moves.length : Int), T.start].map fun n => Lib.decDigits n.toNat := D.hd
  rw [e1]
  have hv : (T.moves.map fun r => stateT ++ movesT r).map (fun x => (splitL 32 x).tail.map mvI) = T.moves := by
    rw [List.map_map]
    refine (List.map_congr_left fun r hr => ?_).trans (List.map_id _)
    show (splitL 32 (stateT ++ movesT r)).tail.map mvI = r
    rw [moves_words (D.mv r hr), List.tail_cons, moves_i (D.mv r hr)]
  rw [hv]
  have a1 := numI_decI (D.nb T.letters (by simp)).1 (D.nb T.letters (by simp)).2
  have a2 := numI_decI (D.nb T.start (by simp)).1 (D.nb T.start (by simp)).2
  show (⟨numI (Lib.decDigits T.letters.toNat), numI (Lib.decDigits T.start.toNat), T.moves⟩ : Tn) = T
  rw [a1, a2]
theorem tn_same (l : List UInt8) : tnS l = tnI l := by
  cases hS : tnS l with
  | some T =>
    obtain ⟨hok, ht⟩ := tnS_text hS
    have h0 : tnI0 l = T := by rw [← ht]; exact tnI0_text hok
    unfold tnI
    rw [h0, if_pos ⟨hok, ht⟩]
  | none =>
    unfold tnI
    split
    · rename_i h
      have := tnS_of h.1
      rw [h.2, hS] at this
      cases this
    · rfl
end Go.Proofs.YtelmooaenodfaaaDoor
