/-
  Plain laws of words and numerals: words joined and split, numerals read and written. Conditions: those in each statement.
-/
import Derived.Test.YtelmooaenodfaaaDoorNums
import Derived.Lib.ParseIntBTie
set_option linter.unusedVariables false
set_option linter.unusedSimpArgs false
set_option maxRecDepth 100000
set_option maxHeartbeats 1000000
namespace Go.Proofs.YtelmooaenodfaaaDoor
open Go.RowKit

theorem splitL_no {c : UInt8} : ∀ {a : List UInt8}, c ∉ a → splitL c a = [a]
  | [], _ => rfl
  | b :: a, h => by
    have h1 : ¬ b = c := fun e => h (by rw [e]; exact List.mem_cons_self ..)
    have h2 := splitL_no (a := a) (fun e => h (List.mem_cons_of_mem _ e))
    show (if b = c then [] :: splitL c a else glue [b] (splitL c a)) = _
    rw [if_neg h1, h2]
    rfl
theorem splitL_app {c : UInt8} : ∀ {a : List UInt8} (t : List UInt8), c ∉ a → splitL c (a ++ c :: t) = a :: splitL c t
  | [], t, _ => by
    show (if c = c then [] :: splitL c t else glue [c] (splitL c t)) = _
    rw [if_pos rfl]
  | b :: a, t, h => by
    have h1 : ¬ b = c := fun e => h (by rw [e]; exact List.mem_cons_self ..)
    have h2 := splitL_app (a := a) t (fun e => h (List.mem_cons_of_mem _ e))
    show (if b = c then [] :: splitL c (a ++ c :: t) else glue [b] (splitL c (a ++ c :: t))) = _
    rw [if_neg h1, h2]
    rfl
/-- Words, each with c ahead. -/
def joinL (c : UInt8) (xs : List (List UInt8)) : List UInt8 := xs.flatMap fun x => c :: x
theorem joinL_cons (c : UInt8) (x : List UInt8) (xs : List (List UInt8)) : joinL c (x :: xs) = c :: (x ++ joinL c xs) := rfl
theorem split_join {c : UInt8} : ∀ {xs : List (List UInt8)} {a : List UInt8}, c ∉ a → (∀ x ∈ xs, c ∉ x) → splitL c (a ++ joinL c xs) = a :: xs
  | [], a, h, _ => by
    show splitL c (a ++ []) = _
    rw [List.append_nil]
    exact splitL_no h
  | x :: xs, a, h, hx => by
    rw [joinL_cons, splitL_app _ h, split_join (hx x (List.mem_cons_self ..)) fun y hy => hx y (List.mem_cons_of_mem _ hy)]
theorem join_split (c : UInt8) : ∀ l : List UInt8, joinL c (splitL c l) = c :: l
  | [] => rfl
  | b :: l => by
    have ih := join_split c l
    show joinL c (if b = c then [] :: splitL c l else glue [b] (splitL c l)) = _
    split
    · rename_i h
      subst h
      rw [joinL_cons, ih]
      rfl
    · cases hs : splitL c l with
      | nil => exact absurd hs (splitL_ne c l)
      | cons x xs =>
        rw [hs, joinL_cons] at ih
        show joinL c (([b] ++ x) :: xs) = _
        rw [joinL_cons]
        injection ih with _ ih
        rw [← ih]
        rfl
theorem of_split {c : UInt8} {l a : List UInt8} {xs : List (List UInt8)} (h : splitL c l = a :: xs) : l = a ++ joinL c xs := by
  have := join_split c l
  rw [h, joinL_cons] at this
  injection this with _ h2
  exact h2.symm

/-! Fresh blocks. -/
theorem Fresh.cat {B : Nat} {w w' : World} {a b : List Nat} (h1 : Fresh B w a) (h2 : Fresh w.heap.size w' b) (hB : B ≤ w.heap.size := by omega) (hw : w.heap.size ≤ w'.heap.size := by omega) : Fresh B w' (a ++ b) :=
  ⟨List.nodup_append.2 ⟨h1.1, h2.1, fun x hx y hy e => by have := h1.2 x hx; have := h2.2 y hy; omega⟩, fun g hg => by
    rcases List.mem_append.1 hg with hg | hg
    · have := h1.2 g hg; omega
    · have := h2.2 g hg; omega⟩
theorem Fresh.low {B B' : Nat} {w : World} {a : List Nat} (h : Fresh B w a) (hB : B' ≤ B) : Fresh B' w a := ⟨h.1, fun g hg => ⟨Nat.le_trans hB (h.2 g hg).1, (h.2 g hg).2⟩⟩
/-! Numerals. -/
theorem dec_digs (n : Nat) : (Lib.decDigits n).all digB = true := by
  induction n using Nat.strongRecOn with
  | _ n ih =>
    by_cases h : n < 10
    · rw [dec_one h]
      simp only [List.all_cons, List.all_nil, Bool.and_true]
      exact digB_iff.2 (by rw [dgb_nat h]; omega)
    · rw [dec_more h, List.all_append, ih _ (by omega)]
      simp only [List.all_cons, List.all_nil, Bool.and_true, Bool.true_and]
      exact digB_iff.2 (by rw [dgb_nat (by omega)]; omega)
theorem valL_app (a : List UInt8) (b : UInt8) : valL (a ++ [b]) = valL a * 10 + (b.toNat - 48) := by
  unfold valL
  rw [List.foldl_append]
  rfl
theorem dec_val (n : Nat) : valL (Lib.decDigits n) = n := by
  induction n using Nat.strongRecOn with
  | _ n ih =>
    by_cases h : n < 10
    · rw [dec_one h]
      have := dgb_nat h
      simp only [valL, List.foldl_cons, List.foldl_nil]
      omega
    · rw [dec_more h, valL_app, ih _ (by omega), dgb_nat (by omega)]
      omega
theorem dec_ne (n : Nat) : Lib.decDigits n ≠ [] := by
  by_cases h : n < 10
  · rw [dec_one h]; simp
  · rw [dec_more h]; simp
theorem dec_head (n : Nat) (h : 1 ≤ n) : (Lib.decDigits n)[0]? ≠ some 48 := by
  induction n using Nat.strongRecOn with
  | _ n ih =>
    by_cases h1 : n < 10
    · rw [dec_one h1]
      intro e
      have e : dgb n = 48 := by simpa using e
      have := dgb_nat h1
      rw [e] at this
      have : (48 : Nat) = 48 + n := this
      omega
    · rw [dec_more h1, List.getElem?_append_left (List.length_pos_iff.2 (dec_ne _))]
      exact ih _ (by omega) (by omega)
theorem dec_lenk : ∀ (k n : Nat), n < 10 ^ (k + 1) → (Lib.decDigits n).length ≤ k + 1
  | 0, n, h => by rw [dec_one (by simpa using h)]; exact Nat.le_refl _
  | k + 1, n, h => by
    by_cases h1 : n < 10
    · rw [dec_one h1]; simp
    · rw [dec_more h1, List.length_append]
      have := dec_lenk k (n / 10) (by rw [Nat.pow_succ] at h; omega)
      simp
      omega
theorem numL_dec {n : Nat} (h : n < 1000000000) : numL (Lib.decDigits n) = some n := by
  have h1 := List.length_pos_iff.2 (dec_ne n)
  have h2 := dec_lenk 8 n h
  unfold numL
  rw [if_neg, if_pos (dec_digs n), dec_val]
  rintro (e | e | ⟨e, e2⟩)
  · omega
  · omega
  · by_cases hn : 1 ≤ n
    · exact dec_head n hn e
    · obtain rfl : n = 0 := by omega
      rw [dec_one (by omega)] at e2
      simp at e2
theorem digB_dgb {b : UInt8} (h : digB b = true) : dgb (b.toNat - 48) = b := by
  have := digB_iff.1 h
  apply UInt8.toNat_inj.1
  rw [dgb_nat (by omega)]
  omega
theorem dec_of_val : ∀ (k : Nat) (l : List UInt8), l.length = k → 1 ≤ k → l.all digB = true → (l[0]? ≠ some 48 ∨ k = 1) → Lib.decDigits (valL l) = l
  | 0, _, _, h, _, _ => absurd h (by decide)
  | 1, l, hl, _, hd, _ => by
    obtain ⟨b, rfl⟩ := List.length_eq_one_iff.1 hl
    have hb : digB b = true := by simpa using hd
    have hb2 := digB_iff.1 hb
    have hv : valL [b] = b.toNat - 48 := by simp [valL]
    rw [hv, dec_one (by omega), digB_dgb hb]
  | k + 2, l, hl, _, hd, h0 => by
    obtain ⟨a, b, rfl⟩ : ∃ a b, l = a ++ [b] := ⟨l.dropLast, l.getLast (by intro e; rw [e] at hl; simp at hl), (List.dropLast_concat_getLast _).symm⟩
    have ha : a.length = k + 1 := by simp at hl; omega
    rw [List.all_append, Bool.and_eq_true] at hd
    have hb : digB b = true := by simpa using hd.2
    have hb2 := digB_iff.1 hb
    have h0 : a[0]? ≠ some 48 := by
      rcases h0 with h0 | h0
      · rwa [List.getElem?_append_left (by omega)] at h0
      · omega
    have ih := dec_of_val (k + 1) a ha (by omega) hd.1 (.inl h0)
    have hv : valL a ≠ 0 := by
      intro e
      rw [e, dec_one (by omega)] at ih
      rw [← ih] at h0
      exact h0 rfl
    rw [valL_app, dec_more (by omega), show (valL a * 10 + (b.toNat - 48)) / 10 = valL a by omega, show (valL a * 10 + (b.toNat - 48)) % 10 = b.toNat - 48 by omega, ih, digB_dgb hb]
theorem dec_of_num {l : List UInt8} {n : Nat} (h : numL l = some n) : l = Lib.decDigits n := by
  unfold numL at h
  split at h
  · cases h
  · rename_i hc
    split at h
    · rename_i hd
      injection h with h
      subst h
      refine (dec_of_val l.length l rfl (by omega) hd ?_).symm
      by_cases h1 : l.length = 1
      · exact .inr h1
      · refine .inl fun e => hc (.inr (.inr ⟨e, by omega⟩))
    · cases h
theorem parseM : ∀ (l : List UInt8) (acc : Nat), l.all digB = true → (acc + 1) * 10 ^ l.length ≤ 1000000000000000000 → Lib.parseUintM (2 ^ 64 - 1) acc l = .ok (l.foldl (fun n b => n * 10 + (b.toNat - 48)) acc)
  | [], acc, _, _ => rfl
  | b :: l, acc, hd, hb => by
    rw [List.all_cons, Bool.and_eq_true] at hd
    have hb2 := digB_iff.1 hd.1
    rw [List.length_cons, Nat.pow_succ] at hb
    have hp : 1 ≤ 10 ^ l.length := Nat.one_le_pow _ _ (by decide)
    have h1 : (acc * 10 + (b.toNat - 48) + 1) * 10 ^ l.length ≤ 1000000000000000000 := by
      refine Nat.le_trans (Nat.mul_le_mul_right _ (show acc * 10 + (b.toNat - 48) + 1 ≤ (acc + 1) * 10 by omega)) ?_
      rw [Nat.mul_assoc, Nat.mul_comm 10]
      exact hb
    have h2 : acc * 10 + (b.toNat - 48) + 1 ≤ 1000000000000000000 := Nat.le_trans (Nat.le_mul_of_pos_right _ hp) h1
    have ih := parseM l _ hd.2 h1
    unfold Lib.parseUintM
    rw [if_pos ⟨hb2.1, hb2.2⟩, if_neg (by omega), if_neg (by omega), ih]
    rfl
theorem numI_dec {n : Nat} (h : n < 1000000000) : numI (Lib.decDigits n) = n := by
  obtain ⟨l, hl⟩ : ∃ l, l = Lib.decDigits n := ⟨_, rfl⟩
  have hd : l.all digB = true := hl ▸ dec_digs n
  have hv : valL l = n := hl ▸ dec_val n
  have hk : l.length ≤ 9 := hl ▸ dec_lenk 8 n h
  have hne : l ≠ [] := hl ▸ dec_ne n
  rw [← hl]
  clear hl
  have hp : Lib.parseUintM (2 ^ 64 - 1) 0 l = .ok n := by
    rw [parseM l 0 hd (by
      rw [Nat.zero_add, Nat.one_mul]
      exact Nat.le_trans (Nat.pow_le_pow_right (by decide) hk) (by decide))]
    exact congrArg _ hv
  cases l with
  | nil => exact absurd rfl hne
  | cons b r =>
    rw [List.all_cons, Bool.and_eq_true] at hd
    have hb := digB_iff.1 hd.1
    have hq : Lib.parseIntB 64 (b :: r) = .ok n := by
      unfold Lib.parseIntB
      simp only
      rw [if_neg (by omega), Lib.parseUintB, if_neg (by simp), hp]
      simp only
      rw [if_neg (by intro e; have := e.2; omega), if_neg (by intro e; have := e.1; omega), if_neg (by omega)]
    unfold numI
    rw [hq]
theorem dec_no {c : UInt8} (h : digB c = false) (n : Nat) : c ∉ Lib.decDigits n := fun e => by
  have := List.all_eq_true.1 (dec_digs n) c e
  rw [h] at this
  cases this
theorem trim_end (c : UInt8) (a : List UInt8) : Lib.trimSuffix (a ++ [c]) [c] = a := by
  unfold Lib.trimSuffix Lib.hasSuffix
  rw [if_pos (List.isSuffixOf_iff_suffix.2 ⟨a, rfl⟩)]
  simp
theorem index_app (c : UInt8) : ∀ (a t : List UInt8), c ∉ a → Lib.index (a ++ c :: t) [c] = a.length
  | [], t, _ => by
    show Lib.index (c :: t) [c] = _
    unfold Lib.index
    rw [if_pos (by simp)]
    rfl
  | b :: a, t, h => by
    have h1 : ¬ c = b := fun e => h (by rw [e]; exact List.mem_cons_self ..)
    have ih := index_app c a t (fun e => h (List.mem_cons_of_mem _ e))
    rw [List.cons_append]
    unfold Lib.index
    rw [if_neg (by simp [h1]), ih, if_neg (by simp <;> omega)]
    simp
theorem cut_app (c : UInt8) (a t : List UInt8) (h : c ∉ a) : Lib.cut (a ++ c :: t) [c] = (a, t, true) := by
  unfold Lib.cut
  rw [index_app c a t h, if_pos (by omega)]
  simp
end Go.Proofs.YtelmooaenodfaaaDoor
