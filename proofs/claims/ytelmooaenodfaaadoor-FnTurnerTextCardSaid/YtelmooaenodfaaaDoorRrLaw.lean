/-
  Plain laws of the texts of readers: the strict reading and the reading that compares with the text give the same. Conditions: those in each statement.
-/
import Derived.Test.YtelmooaenodfaaaDoorDocLaw
import Derived.Test.YtelmooaenodfaaaDoorRdTab
import Derived.Test.YtelmooaenodfaaaDoorRrTxt2
set_option linter.unusedVariables false
set_option linter.unusedSimpArgs false
set_option maxRecDepth 100000
set_option maxHeartbeats 1000000
namespace Go.Proofs.YtelmooaenodfaaaDoor
open Go.RowKit

theorem Rr.text_eq {T : Rr} (h : T.next.length = T.accept.length) : T.text = linesT (readerT ++ numsT [T.letters, T.accept.length, T.start]) ((T.accept.zip T.next).map fun p => yesB p.1 ++ numsT p.2) := by
  unfold Rr.text Rr.headT rowsRT linesT
  rw [List.take_of_length_le (by rw [List.length_zip]; omega), List.flatMap_map, List.append_assoc (readerT ++ _)]
  rfl
theorem yesB_T (b : Bool) : yesB b = if b then yesT else noT := rfl

def hdOf (ls : List (List UInt8)) : List (List UInt8) := splitL 32 (ls.headD [])
def midOf (ls : List (List UInt8)) : List (List UInt8) := ls.tail.dropLast
def rowYes (x : List UInt8) : Bool := decide ((splitL 32 x)[0]? = some yesT)
def rowGood (x : List UInt8) : Bool := numsOk (splitL 32 x).tail && (rowYes x || decide ((splitL 32 x)[0]? = some noT))
/-- What a reader's lines say. -/
def rdOf (ls : List (List UInt8)) : Rr := ⟨(numsV (hdOf ls).tail).getD 0 0, (numsV (hdOf ls).tail).getD 2 0, (midOf ls).map rowYes, (midOf ls).map fun x => numsV (splitL 32 x).tail⟩
/-- The head and the count of lines are right. -/
def docGood (word : List UInt8) (ls : List (List UInt8)) : Bool := numsOk (hdOf ls).tail && (decide ((hdOf ls)[0]? = some word) && (decide ((hdOf ls).tail.length = 3) && (decide (ls.getLast? = some []) && decide ((ls.length : Int) = (numsV (hdOf ls).tail).getD 1 0 + 2))))
def rdS3 (ls : List (List UInt8)) : Option Rr := if (docGood readerT ls && ((midOf ls).all rowGood && (rdOf ls).okB)) = true then some (rdOf ls) else none
/-- The strict reading of a reader. -/
def rdS (l : List UInt8) : Option Rr := rdS3 (splitL 10 l)
/-- A right head: the lines are a head, a middle and an empty one; three numbers. -/
theorem docGood_of {word : List UInt8} {ls : List (List UInt8)} (h : docGood word ls = true) : ∃ hd ws, ls = hd :: (midOf ls ++ [[]]) ∧ splitL 32 hd = word :: ws ∧ hdOf ls = word :: ws ∧ numsOk ws = true ∧ ∃ a c, numsV ws = [a, ((midOf ls).length : Int), c] := by
  unfold docGood at h
  simp only [Bool.and_eq_true, decide_eq_true_eq] at h
  obtain ⟨hn, h0, h3, hl, hc⟩ := h
  cases ls with
  | nil => simp at hl
  | cons hd t =>
    have hh : hdOf (hd :: t) = splitL 32 hd := rfl
    rw [hh] at hn h0 h3 hc ⊢
    cases hs : splitL 32 hd with
    | nil => exact absurd hs (splitL_ne _ _)
    | cons x ws =>
      rw [hs] at hn h0 h3 hc
      obtain rfl : x = word := by simpa using h0
      simp only [List.tail_cons] at hn h3 hc
      match ws, h3 with
      | [p, q, r], _ =>
        have hq : (numsV [p, q, r]).getD 1 0 = numV q := rfl
        have hq0 : 0 ≤ numV q := Int.natCast_nonneg _
        rw [hq] at hc
        have hne : t ≠ [] := by
          rintro rfl
          simp at hc
          omega
        have ht : t = t.dropLast ++ [[]] := by
          have h2 : t.getLast? = some [] := by
            rw [List.getLast?_cons] at hl
            cases ht : t.getLast? with
            | none => exact absurd (List.getLast?_eq_none_iff.1 ht) hne
            | some z => rw [ht] at hl; simpa using hl
          obtain ⟨l', hl'⟩ := List.getLast?_eq_some_iff.1 h2
          rw [hl']
          simp
        have hm : midOf (hd :: t) = t.dropLast := rfl
        refine ⟨hd, [p, q, r], ?_, hs, rfl, hn, numV p, numV r, ?_⟩
        · rw [hm, ← ht]
        · have hlen : t.length = t.dropLast.length + 1 := by
            have := congrArg List.length ht
            simpa using this
          rw [hm]
          show [numV p, numV q, numV r] = _
          congr 2
          simp only [List.length_cons] at hc
          omega
theorem rowGood_back {x : List UInt8} (h : rowGood x = true) : yesB (rowYes x) ++ numsT (numsV (splitL 32 x).tail) = x := by
  unfold rowGood at h
  rw [Bool.and_eq_true] at h
  cases hs : splitL 32 x with
  | nil => exact absurd hs (splitL_ne _ _)
  | cons w ws =>
    rw [hs, List.tail_cons] at h
    have hx := of_split hs
    rw [List.tail_cons, nums_back h.1, hx]
    congr 1
    have hy : rowYes x = decide (w = yesT) := by unfold rowYes; rw [hs]; simp
    rw [← hx, hy, yesB_T]
    have h2 := h.2
    rw [hy] at h2
    by_cases hw : w = yesT
    · rw [hw]; rfl
    · rw [decide_eq_false hw] at h2 ⊢
      have : w = noT := by simpa using h2
      rw [this]
      rfl
theorem rdS_text {l : List UInt8} {T : Rr} (h : rdS l = some T) : T.okB = true ∧ T.text = l := by
  unfold rdS rdS3 at h
  split at h
  · rename_i hg
    injection h with h
    rw [Bool.and_eq_true, Bool.and_eq_true] at hg
    obtain ⟨hd, hrows, hok⟩ := hg
    rw [h] at hok
    refine ⟨hok, ?_⟩
    obtain ⟨hl, ws, hls, hsp, hh, hn, a, c, hv⟩ := docGood_of hd
    obtain ⟨ls, hle⟩ : ∃ ls, ls = splitL 10 l := ⟨_, rfl⟩
    rw [← hle] at hls hrows hh hv h
    have hT : T = ⟨a, c, (midOf ls).map rowYes, (midOf ls).map fun x => numsV (splitL 32 x).tail⟩ := by
      rw [← h]
      unfold rdOf
      rw [hh, List.tail_cons, hv]
      rfl
    have hl2 : l = linesT hl (midOf ls) := of_lines (hle ▸ hls)
    rw [Rr.text_eq (by rw [hT]; simp), hl2, hT]
    simp only [List.length_map]
    rw [← hv, nums_back hn, ← of_split hsp, List.zip_map', List.map_map]
    congr 1
    refine (List.map_congr_left fun x hx => ?_).trans (List.map_id _)
    exact rowGood_back (List.all_eq_true.1 hrows x hx)
  · cases h
theorem yes_no : (10 : UInt8) ∉ yesT ∧ (32 : UInt8) ∉ yesT ∧ (10 : UInt8) ∉ noT ∧ (32 : UInt8) ∉ noT ∧ (10 : UInt8) ∉ readerT ∧ (32 : UInt8) ∉ readerT := by decide
theorem yesB_no (b : Bool) : (10 : UInt8) ∉ yesB b ∧ (32 : UInt8) ∉ yesB b := by
  obtain ⟨h1, h2, h3, h4, -⟩ := yes_no
  cases b
  · exact ⟨h3, h4⟩
  · exact ⟨h1, h2⟩
theorem not_app {c : UInt8} {a b : List UInt8} (h1 : c ∉ a) (h2 : c ∉ b) : c ∉ a ++ b := fun e => (List.mem_append.1 e).elim h1 h2
/-- Of the text of a valid reader: its head's words and its lines. -/
structure RrDoc (T : Rr) : Prop where
  text : T.text = linesT (readerT ++ numsT [T.letters, T.accept.length, T.start]) ((T.accept.zip T.next).map fun p => yesB p.1 ++ numsT p.2)
  h10 : (10 : UInt8) ∉ readerT ++ numsT [T.letters, T.accept.length, T.start]
  l10 : ∀ x ∈ (T.accept.zip T.next).map (fun p => yesB p.1 ++ numsT p.2), (10 : UInt8) ∉ x
  hd : splitL 32 (readerT ++ numsT [T.letters, T.accept.length, T.start]) = readerT :: [T.letters, (T.accept.length : Int), T.start].map fun n => Lib.decDigits n.toNat
  nb : ∀ n ∈ [T.letters, (T.accept.length : Int), T.start], 0 ≤ n ∧ n < 1000000000
  rb : ∀ r ∈ T.next, ∀ n ∈ r, 0 ≤ n ∧ n < 1000000000
  same : T.next.length = T.accept.length
theorem Rr.doc {T : Rr} (h : T.okB = true) : RrDoc T := by
  have OK := Rr.tok_of h
  have hs := OK.same
  obtain ⟨-, -, -, -, h5, h6⟩ := yes_no
  refine ⟨Rr.text_eq hs, not_app h5 (nums_no (by decide) (by decide) _), fun x hx => ?_, nums_split h6 _, fun n hn => ?_, fun r hr n hn => ?_, hs⟩
  · obtain ⟨p, _, rfl⟩ := List.mem_map.1 hx
    exact not_app (yesB_no _).1 (nums_no (by decide) (by decide) _)
  · have := OK.l1; have := OK.l3; have := OK.n1; have := OK.n300; have := OK.s0; have := OK.s1
    simp only [List.mem_cons, List.not_mem_nil, or_false] at hn
    rcases hn with rfl | rfl | rfl <;> omega
  · have := (OK.row r hr).2 n hn
    omega
theorem row_words (b : Bool) (r : List Int) : splitL 32 (yesB b ++ numsT r) = yesB b :: r.map fun n => Lib.decDigits n.toNat := nums_split (yesB_no b).2 r
theorem rowYes_of (b : Bool) (r : List Int) : rowYes (yesB b ++ numsT r) = b := by
  unfold rowYes
  rw [row_words]
  cases b <;> simp [yesB, yesT]
theorem zip_fst {a : List Bool} {b : List (List Int)} (h : b.length = a.length) : (a.zip b).map (fun p => p.1) = a := List.map_fst_zip (by omega)
theorem zip_snd {a : List Bool} {b : List (List Int)} (h : b.length = a.length) : (a.zip b).map (fun p => p.2) = b := List.map_snd_zip (by omega)
theorem rdS_of {T : Rr} (h : T.okB = true) : rdS T.text = some T := by
  have D := Rr.doc h
  unfold rdS
  rw [D.text, split_lines D.h10 D.l10]
  obtain ⟨M, hM⟩ : ∃ M, M = (T.accept.zip T.next).map (fun p => yesB p.1 ++ numsT p.2) := ⟨_, rfl⟩
  obtain ⟨H, hH⟩ : ∃ H, H = readerT ++ numsT [T.letters, (T.accept.length : Int), T.start] := ⟨_, rfl⟩
  have hd := D.hd
  rw [← hM, ← hH]
  rw [← hH] at hd
  have e1 : hdOf (H :: (M ++ [[]])) = readerT :: [T.letters, (T.accept.length : Int), T.start].map fun n => Lib.decDigits n.toNat := hd
  have e2 : midOf (H :: (M ++ [[]])) = M := by
    show (M ++ [[]]).dropLast = M
    simp
  have e3 : numsV (hdOf (H :: (M ++ [[]]))).tail = [T.letters, (T.accept.length : Int), T.start] := by rw [e1, List.tail_cons]; exact nums_v D.nb
  have hMl : M.length = T.accept.length := by rw [hM, List.length_map, List.length_zip, D.same]; omega
  have hy : M.map rowYes = T.accept := by
    rw [hM, List.map_map]
    refine Eq.trans (List.map_congr_left fun p _ => ?_) (zip_fst D.same)
    exact rowYes_of p.1 p.2
  have hv : M.map (fun x => numsV (splitL 32 x).tail) = T.next := by
    rw [hM, List.map_map]
    refine Eq.trans (List.map_congr_left fun p hp => ?_) (zip_snd D.same)
    show numsV (splitL 32 (yesB p.1 ++ numsT p.2)).tail = p.2
    rw [row_words, List.tail_cons]
    exact nums_v (D.rb p.2 (List.of_mem_zip hp).2)
  have hT : rdOf (H :: (M ++ [[]])) = T := by
    unfold rdOf
    rw [e3, e2, hy, hv]
    rfl
  have hg : docGood readerT (H :: (M ++ [[]])) = true := by
    unfold docGood
    rw [e3, e1, List.tail_cons, nums_ok D.nb]
    have q4 : (H :: (M ++ [[]])).getLast? = some [] := by show ((H :: M) ++ [[]]).getLast? = some []; rw [List.getLast?_append]; rfl
    have q5 : ((H :: (M ++ [[]])).length : Int) = [T.letters, (T.accept.length : Int), T.start].getD 1 0 + 2 := by
      show (((M ++ [[]]).length + 1 : Nat) : Int) = (T.accept.length : Int) + 2
      rw [List.length_append, hMl]
      show ((T.accept.length + 1 + 1 : Nat) : Int) = _
      omega
    rw [q4, decide_eq_true q5]
    first
      | rfl
      | simp
  have hr : M.all rowGood = true := by
    rw [hM, List.all_map, List.all_eq_true]
    intro p hp
    show rowGood (yesB p.1 ++ numsT p.2) = true
    unfold rowGood
    rw [rowYes_of, row_words, List.tail_cons, nums_ok (D.rb p.2 (List.of_mem_zip hp).2)]
    cases p.1 <;> simp [yesB, noT]
  unfold rdS3
  rw [e2, hT, hg, hr, h]
  rfl

/-- The lines as the program cuts them. -/
def docI (l : List UInt8) : List (List UInt8) := splitL 10 (Lib.trimSuffix l [10])
def rdI0 (l : List UInt8) : Rr := ⟨numI ((hdOf (docI l)).getD 1 []), numI ((hdOf (docI l)).getD 3 []), (docI l).tail.map rowYes, (docI l).tail.map fun x => (splitL 32 x).tail.map numI⟩
def rdI (l : List UInt8) : Option Rr := if (rdI0 l).okB = true ∧ (rdI0 l).text = l then some (rdI0 l) else none
theorem rdI0_text {T : Rr} (h : T.okB = true) : rdI0 T.text = T := by
  have D := Rr.doc h
  have hdoc : docI T.text = (readerT ++ numsT [T.letters, (T.accept.length : Int), T.start]) :: (T.accept.zip T.next).map (fun p => yesB p.1 ++ numsT p.2) := by
    unfold docI
    rw [D.text, split_trim D.h10 D.l10]
  unfold rdI0
  rw [hdoc, List.tail_cons]
  have e1 : hdOf ((readerT ++ numsT [T.letters, (T.accept.length : Int), T.start]) :: (T.accept.zip T.next).map (fun p => yesB p.1 ++ numsT p.2)) = readerT :: [T.letters, (T.accept.length : Int), T.start].map fun n => Lib.decDigits n.toNat := D.hd
  rw [e1]
  have hy : ((T.accept.zip T.next).map fun p => yesB p.1 ++ numsT p.2).map rowYes = T.accept := by
    rw [List.map_map]
    refine Eq.trans (List.map_congr_left fun p _ => ?_) (zip_fst D.same)
    exact rowYes_of p.1 p.2
  have hv : ((T.accept.zip T.next).map fun p => yesB p.1 ++ numsT p.2).map (fun x => (splitL 32 x).tail.map numI) = T.next := by
    rw [List.map_map]
    refine Eq.trans (List.map_congr_left fun p hp => ?_) (zip_snd D.same)
    show (splitL 32 (yesB p.1 ++ numsT p.2)).tail.map numI = p.2
    rw [row_words, List.tail_cons]
    exact nums_i (D.rb p.2 (List.of_mem_zip hp).2)
  rw [hy, hv]
  have a1 := numI_decI (D.nb T.letters (by simp)).1 (D.nb T.letters (by simp)).2
  have a2 := numI_decI (D.nb T.start (by simp)).1 (D.nb T.start (by simp)).2
  show (⟨numI (Lib.decDigits T.letters.toNat), numI (Lib.decDigits T.start.toNat), T.accept, T.next⟩ : Rr) = T
  rw [a1, a2]
theorem rd_same (l : List UInt8) : rdS l = rdI l := by
  cases hS : rdS l with
  | some T =>
    obtain ⟨hok, ht⟩ := rdS_text hS
    have h0 : rdI0 l = T := by rw [← ht]; exact rdI0_text hok
    unfold rdI
    rw [h0, if_pos ⟨hok, ht⟩]
  | none =>
    unfold rdI
    split
    · rename_i h
      have := rdS_of h.1
      rw [h.2, hS] at this
      cases this
    · rfl
end Go.Proofs.YtelmooaenodfaaaDoor
