/-
  Sizes of what is read from a text; the words behind the first one, as a slice; what the readings give. Conditions: those in each statement.
-/
import Derived.Test.YtelmooaenodfaaaDoorHeadOf
import Derived.Test.YtelmooaenodfaaaDoorTnLaw
import Derived.Lib.SlBuf
set_option linter.unusedVariables false
set_option linter.unusedSimpArgs false
set_option maxRecDepth 100000
set_option maxHeartbeats 1000000
namespace Go.Proofs.YtelmooaenodfaaaDoor
open Go.RowKit

theorem splitL_sum (c : UInt8) : ∀ l : List UInt8, ((splitL c l).map fun x => x.length + 1).sum = l.length + 1
  | [] => rfl
  | b :: l => by
    have ih := splitL_sum c l
    have hn := splitL_ne c l
    show ((if b = c then [] :: splitL c l else glue [b] (splitL c l)).map fun x => x.length + 1).sum = _
    split
    · rw [List.map_cons, List.sum_cons, ih]
      simp
      omega
    · cases hs : splitL c l with
      | nil => exact absurd hs hn
      | cons x xs =>
        rw [hs] at ih
        simp only [glue, List.map_cons, List.sum_cons, List.length_append, List.length_cons, List.length_nil] at ih ⊢
        omega
theorem tot_lines {α : Type} [Cod α] (h0 : ∀ x : α, Cod.tot x = 0) (f : List UInt8 → List α) (hf : ∀ x, (f x).length ≤ x.length) : ∀ ls : List (List UInt8), Cod.tot (ls.map f) ≤ (ls.map fun x => x.length + 1).sum
  | [] => by simp [tot_list, totS]
  | x :: ls => by
    have ih := tot_lines h0 f hf ls
    have h1 := hf x
    rw [tot_list] at ih ⊢
    simp only [List.map_cons, List.length_cons, List.sum_cons, totS]
    rw [tot_list (f x), totS_zero h0]
    omega
theorem tail_len (x : List UInt8) : (splitL 32 x).tail.length ≤ x.length := by
  have := splitL_len 32 x
  rw [List.length_tail]
  omega
theorem doc_sum (l : List UInt8) : ((docI l).tail.map fun x => x.length + 1).sum ≤ l.length + 1 := by
  have h1 := splitL_sum 10 (Lib.trimSuffix l [10])
  have h2 : (Lib.trimSuffix l [10]).length ≤ l.length := Lib.trimSuffix_le l [10]
  unfold docI
  cases hs : splitL 10 (Lib.trimSuffix l [10]) with
  | nil => simp
  | cons x xs =>
    rw [hs, List.map_cons, List.sum_cons] at h1
    rw [List.tail_cons]
    omega
theorem doc_in (l : List UInt8) : ∀ x ∈ docI l, x.length ≤ l.length := fun x hx => by
  have h2 : (Lib.trimSuffix l [10]).length ≤ l.length := Lib.trimSuffix_le l [10]
  have := splitL_in 10 (Lib.trimSuffix l [10]) x hx
  omega
theorem doc_len (l : List UInt8) : (docI l).tail.length ≤ l.length := by
  have h2 : (Lib.trimSuffix l [10]).length ≤ l.length := Lib.trimSuffix_le l [10]
  have := splitL_len 10 (Lib.trimSuffix l [10])
  unfold docI
  rw [List.length_tail]
  omega
theorem hd_in (l : List UInt8) (k : Nat) : ((hdOf (docI l)).getD k []).length ≤ l.length := by
  unfold hdOf
  have h1 : ((docI l).headD []).length ≤ l.length := by
    cases hd : docI l with
    | nil => simp
    | cons x xs => exact doc_in l x (by rw [hd]; exact List.mem_cons_self ..)
  rw [List.getD_eq_getElem?_getD]
  cases hg : (splitL 32 ((docI l).headD []))[k]? with
  | none => simp
  | some y =>
    have := splitL_in 32 _ y (List.mem_of_getElem? hg)
    simp only [Option.getD_some]
    omega
/-- words[1:], of words in a block of their own. -/
theorem words_tail {w : World} {B b q : Nat} {xs : List (List UInt8)} (r : RdS w B (some ⟨b, 0, none⟩) (xs.map Bs.mk)) (hq : xs.length = q + 1) :
    ∃ o, (∀ W, (Instr.slice 70 (.slice (some ⟨b, 0, none⟩) (q + 1) (q + 1)) (some (.int .i64 1)) none none).run Tryd.prog W = .ok (.slice (some ⟨b, o, none⟩) q q) W) ∧ RdS w B (some ⟨b, o, none⟩) (xs.tail.map Bs.mk) := by
  have hz : ∀ w, (Go.sizeOf 9).run Tryd.prog w = .ok 1 w := fun w => by
    obtain ⟨i, hi, _, hs, _⟩ := info_parts infoStr
    simp [sizeOf, typeInfo, hi, hs]
  refine ⟨if q + 1 = 1 then 0 else 1, fun W => ?_, ?_⟩
  · have := Lib.run_slice_tailV W 70 9 Tryd.underlying70 hz b (q + 1) 1 (by omega)
    unfold Lib.tailV at this
    refine this.trans ?_
    by_cases h : q = 0
    · subst h; rfl
    · rw [if_neg (by omega), if_neg (by omega)]
      rfl
  · by_cases h : q = 0
    · subst h
      have : xs.tail = [] := List.eq_nil_of_length_eq_zero (by rw [List.length_tail, hq])
      rw [this]
      exact fun k x hx => by simp at hx
    · rw [if_neg (by omega)]
      exact rd_tail r

/-- What ReadTurner gives. -/
def tnC (l : List UInt8) : Tn := if 20000 < l.length then ⟨0, 0, []⟩ else (tnS l).getD ⟨0, 0, []⟩
def tnCode (l : List UInt8) : Int := if 20000 < l.length then 2 else if (tnS l).isSome = true then 0 else 5
/-- What ReadReader gives. -/
def rdC (l : List UInt8) : Rr := if 20000 < l.length then ⟨0, 0, [], []⟩ else (rdS l).getD ⟨0, 0, [], []⟩
def rdCode (l : List UInt8) : Int := if 20000 < l.length then 2 else if (rdS l).isSome = true then 0 else 5
theorem tnI0_tot (l : List UInt8) : (tnI0 l).tot ≤ l.length + 1 := by
  have h := tot_lines (α := Int × Int) (fun _ => rfl) (fun x => (splitL 32 x).tail.map mvI) (fun x => by rw [List.length_map]; exact tail_len x) (docI l).tail
  have := doc_sum l
  show Cod.tot ((docI l).tail.map _) ≤ _
  omega
theorem rdI0_tot (l : List UInt8) : (rdI0 l).tot ≤ 2 * l.length + 1 := by
  have h := tot_lines (α := Int) (fun _ => rfl) (fun x => (splitL 32 x).tail.map numI) (fun x => by rw [List.length_map]; exact tail_len x) (docI l).tail
  have h1 := doc_sum l
  have h2 := doc_len l
  show Cod.tot ((docI l).tail.map rowYes) + Cod.tot ((docI l).tail.map _) ≤ _
  rw [tot_list ((docI l).tail.map rowYes), totS_zero (fun _ => rfl), List.length_map]
  omega
theorem tnC_tot (l : List UInt8) : (tnC l).tot ≤ 1048576 := by
  unfold tnC
  split
  · simp [Tn.tot, tot_list, totS]
  · rw [tn_same]
    unfold tnI
    split
    · have := tnI0_tot l
      show (tnI0 l).tot ≤ _
      omega
    · simp [Tn.tot, tot_list, totS]
theorem rdC_tot (l : List UInt8) : (rdC l).tot ≤ 1048576 := by
  unfold rdC
  split
  · simp [Rr.tot, tot_list, totS]
  · rw [rd_same]
    unfold rdI
    split
    · have := rdI0_tot l
      show (rdI0 l).tot ≤ _
      omega
    · simp [Rr.tot, tot_list, totS]
end Go.Proofs.YtelmooaenodfaaaDoor
