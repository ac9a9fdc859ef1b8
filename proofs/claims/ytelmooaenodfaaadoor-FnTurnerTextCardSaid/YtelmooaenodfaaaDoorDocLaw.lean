/-
  Plain laws of texts of lines: a head line with numbers, and lines. Conditions: those in each statement.
-/
import Derived.Test.YtelmooaenodfaaaDoorTxtLaw
import Derived.Test.YtelmooaenodfaaaDoorTnTxt2
set_option linter.unusedVariables false
set_option linter.unusedSimpArgs false
set_option maxRecDepth 100000
set_option maxHeartbeats 1000000
namespace Go.Proofs.YtelmooaenodfaaaDoor
open Go.RowKit

/-- A text of lines, each with its end. -/
def linesT (hd : List UInt8) (ls : List (List UInt8)) : List UInt8 := hd ++ 10 :: ls.flatMap fun x => x ++ [10]
theorem join_end (c : UInt8) : ∀ ls : List (List UInt8), joinL c (ls ++ [[]]) = c :: ls.flatMap fun x => x ++ [c]
  | [] => rfl
  | x :: ls => by
    rw [List.cons_append, joinL_cons, join_end c ls]
    simp
theorem linesT_join (hd : List UInt8) (ls : List (List UInt8)) : linesT hd ls = hd ++ joinL 10 (ls ++ [[]]) := by rw [join_end]; rfl
theorem joinL_app (c : UInt8) (a b : List (List UInt8)) : joinL c (a ++ b) = joinL c a ++ joinL c b := List.flatMap_append ..
theorem linesT_trim (hd : List UInt8) (ls : List (List UInt8)) : Lib.trimSuffix (linesT hd ls) [10] = hd ++ joinL 10 ls := by
  rw [linesT_join, joinL_app, ← List.append_assoc, show joinL 10 [[]] = [10] from rfl]
  exact trim_end 10 _
theorem split_lines {hd : List UInt8} {ls : List (List UInt8)} (h : (10 : UInt8) ∉ hd) (hl : ∀ x ∈ ls, (10 : UInt8) ∉ x) : splitL 10 (linesT hd ls) = hd :: (ls ++ [[]]) := by
  rw [linesT_join]
  refine split_join h fun x hx => ?_
  rcases List.mem_append.1 hx with hx | hx
  · exact hl x hx
  · obtain rfl : x = [] := by simpa using hx
    simp
theorem split_trim {hd : List UInt8} {ls : List (List UInt8)} (h : (10 : UInt8) ∉ hd) (hl : ∀ x ∈ ls, (10 : UInt8) ∉ x) : splitL 10 (Lib.trimSuffix (linesT hd ls) [10]) = hd :: ls := by
  rw [linesT_trim]
  exact split_join h hl
theorem of_lines {l hd : List UInt8} {ls : List (List UInt8)} (h : splitL 10 l = hd :: (ls ++ [[]])) : l = linesT hd ls := by
  rw [linesT_join]
  exact of_split h
theorem numsT_join (ns : List Int) : numsT ns = joinL 32 (ns.map fun n => Lib.decDigits n.toNat) := by
  unfold numsT joinL
  rw [List.flatMap_map]
/-- The words behind the head are numbers: they spell them. -/
theorem nums_back : ∀ {ws : List (List UInt8)}, numsOk ws = true → numsT (numsV ws) = joinL 32 ws
  | [], _ => rfl
  | x :: ws, h => by
    unfold numsOk at h
    rw [List.all_cons, Bool.and_eq_true] at h
    obtain ⟨n, hn⟩ := Option.isSome_iff_exists.1 h.1
    have ih := nums_back (ws := ws) h.2
    show (32 :: Lib.decDigits (numV x).toNat) ++ numsT (numsV ws) = _
    rw [ih, joinL_cons]
    unfold numV
    rw [hn]
    show 32 :: Lib.decDigits n ++ _ = _
    rw [← dec_of_num hn]
    rfl
theorem nums_no {c : UInt8} (h : digB c = false) (hc : c ≠ 32) (ns : List Int) : c ∉ numsT ns := fun e => by
  obtain ⟨n, _, hm⟩ := List.mem_flatMap.1 e
  rcases List.mem_cons.1 hm with hm | hm
  · exact hc hm
  · exact dec_no h _ hm
theorem nums_split {u : List UInt8} (hu : (32 : UInt8) ∉ u) (ns : List Int) : splitL 32 (u ++ numsT ns) = u :: ns.map fun n => Lib.decDigits n.toNat := by
  rw [numsT_join]
  refine split_join hu fun x hx => ?_
  obtain ⟨n, _, rfl⟩ := List.mem_map.1 hx
  exact dec_no (by decide) _
theorem numV_dec {n : Int} (h0 : 0 ≤ n) (h1 : n < 1000000000) : numV (Lib.decDigits n.toNat) = n := by
  unfold numV
  rw [numL_dec (by omega)]
  show ((n.toNat : Nat) : Int) = n
  omega
theorem numOk_dec {n : Int} (h1 : n < 1000000000) : (numL (Lib.decDigits n.toNat)).isSome = true := by
  rw [numL_dec (by omega)]
  rfl
theorem numI_decI {n : Int} (h0 : 0 ≤ n) (h1 : n < 1000000000) : numI (Lib.decDigits n.toNat) = n := by
  rw [numI_dec (by omega)]
  omega
theorem nums_v {ns : List Int} (h : ∀ n ∈ ns, 0 ≤ n ∧ n < 1000000000) : numsV (ns.map fun n => Lib.decDigits n.toNat) = ns := by
  unfold numsV
  rw [List.map_map]
  exact (List.map_congr_left fun n hn => numV_dec (h n hn).1 (h n hn).2).trans (List.map_id _)
theorem nums_i {ns : List Int} (h : ∀ n ∈ ns, 0 ≤ n ∧ n < 1000000000) : (ns.map fun n => Lib.decDigits n.toNat).map numI = ns := by
  rw [List.map_map]
  exact (List.map_congr_left fun n hn => numI_decI (h n hn).1 (h n hn).2).trans (List.map_id _)
theorem nums_ok {ns : List Int} (h : ∀ n ∈ ns, 0 ≤ n ∧ n < 1000000000) : numsOk (ns.map fun n => Lib.decDigits n.toNat) = true := by
  unfold numsOk
  rw [List.all_map, List.all_eq_true]
  exact fun n hn => numOk_dec (h n hn).2
end Go.Proofs.YtelmooaenodfaaaDoor
