/-
  Contracts of the program's and the reference's empty tables. Conditions: those in each statement.
-/
import Derived.Test.YtahcholnfehibaaAcc
import Derived.Test.YtahcholnfehibaaTab
set_option linter.unusedVariables false
set_option linter.unusedSimpArgs false
set_option maxRecDepth 100000
namespace Go.Proofs.Ytahcholnfehibaa
open Go.RowKit

/-- The table of the empty word. -/
def emptyT (n : Nat) : Tb := ⟨(List.range n).map fun (s : Nat) => ((1 : Int), (s : Int)), (List.range n).map fun (s : Nat) => ((-1 : Int), (s : Int))⟩
theorem range_snoc {β : Type} (f : Nat → β) (n : Nat) : (List.range (n + 1)).map f = (List.range n).map f ++ [f n] := by rw [List.range_succ, List.map_append]; rfl
theorem grown_block {w w' : World} {A : Option Addr} {k : Nat} (h : w.grownBy w' (A.map (·.block))) (hk : k < w.heap.size) (hA : ∀ a, A = some a → a.block ≠ k) : w'.heap[k]? = w.heap[k]? :=
  h.block k hk fun e => by
    cases hAA : A with
    | none => rw [hAA] at e; simp at e
    | some a => rw [hAA] at e; simp at e; exact hA a hAA e.symm
theorem alloc_block {w : World} {k : Nat} {o : Obj} {x : Option Obj} (h : w.heap[k]? = x) (hk : k < w.heap.size) : (w.alloc o).heap[k]? = x := (Below.heap_alloc w o k hk).trans h

theorem l03Empty (n : Nat) (w : World) (hn : n ≤ 12) : Calls Try.prog 24 #[.int .i64 n] w (RetTb (emptyT n) w) := by
  go_enter Try.func24, Try.ntmps24
  go_wp2
  go_loopw [4] (fun i wr => ∃ (k : Nat) (A A' : Option Addr) (c c' : Nat), k ≤ n ∧ i = .int .i64 k ∧ Hid (Acc wr (w.heap.size + 2) 45 A k c ((List.range k).map fun (s : Nat) => ((1 : Int), (s : Int))) [] ∧ Acc wr (w.heap.size + 2) 45 A' k c' ((List.range k).map fun (s : Nat) => ((-1 : Int), (s : Int))) [] ∧
      (∀ a a', A = some a → A' = some a' → a.block ≠ a'.block)) ∧ Hid (wr.heap[w.heap.size + 1]? = some (.cells #[.slice A k c, .slice A' k c'] 30 (0, 0))) ∧ Hid (wr.heap[w.heap.size]? = some (.cells #[.slice none 0 0, .slice none 0 0] 30 (0, 0))) ∧ Since w wr)
    (fun i _ => n - (intOf i).toNat)
  case atStart =>
    refine ⟨0, none, none, 0, 0, Nat.zero_le _, rfl, Lib.hid ⟨Acc.nil_ _ _ _, Acc.nil_ _ _ _, fun a a' h => by cases h⟩, ?_, ?_, ⟨(by repeat (first | exact Below.refl _ _ | refine Below.alloc ?_ (by first | omega | (simp only [sz_alloc, sz_set, sz_drew, sz_drewN]; omega) | (simp only [sz_alloc, sz_set, sz_drew, sz_drewN] at *; omega)) _ | refine Below.setCell ?_ (by first | omega | (simp only [sz_alloc, sz_set, sz_drew, sz_drewN]; omega) | (simp only [sz_alloc, sz_set, sz_drew, sz_drewN] at *; omega)) _ | refine Below.drew ?_ | refine below_drewN_ ?_ _))⟩⟩
    · exact Lib.hid (new_block (by simp))
    · exact Lib.hid (alloc_block (new_block rfl) (by simp))
  case round =>
    obtain ⟨k, A, A', c, c', hk, rfl, H, hB, hR, hs⟩ := hrel
    have hz : w.heap.size + 1 < wr.heap.size := (Array.getElem?_eq_some_iff.1 hB.out).1
    have k0 : wr.cell? ⟨w.heap.size + 1, 0, none⟩ = some (.slice A k c) := cell_of_row wr _ 0 _ _ (0, 0) hB.out
    have k1 : wr.cell? ⟨w.heap.size + 1, 1, none⟩ = some (.slice A' k c') := cell_of_row wr _ 1 _ _ (0, 0) hB.out
    by_cases hlt : k < n
    · have g0 : wr.frozen? ⟨w.heap.size + 1, 0, none⟩ = false := blk_free hB.out
      have g1 : wr.frozen? ⟨w.heap.size + 1, 1, none⟩ = false := blk_free hB.out
      go_wp2_with (first
        | (at_builtin; refine wpList_push (α := Int × Int) _ rfl (.tmp 12) (.tmp 15) 28 rfl (w.heap.size + 2) 45 _ 16 Try.underlying28 infoExit rfl A k c _ [] rfl (H.out.1.alloc _) wr.heap.size 1 rfl (1, (k : Int)) [.int .i64 1, .int .i64 k] [] ⟨rfl, rfl⟩ (new_cells (by first | rfl | simp [sz_set])) (fun u hu => by (simp at hu; rcases hu with rfl | rfl <;> rfl)) ⟨List.nodup_nil, fun g hg => by simp at hg⟩ (fun g hg => by simp at hg) (by omega) (by omega) (by simp; omega) ?_
           intro D d w1 hacc hgr hnew
           have hB1 := Lib.hid ((grown_block (k := w.heap.size + 1) hgr (by simp; omega) (fun a ha => by have := H.out.1.lt a ha; omega)).trans (alloc_block hB.out hz))
           have q0 : w1.cell? ⟨w.heap.size + 1, 0, none⟩ = some (.slice A k c) := cell_of_row w1 _ 0 _ _ (0, 0) hB1.out
           have q1 : w1.cell? ⟨w.heap.size + 1, 1, none⟩ = some (.slice A' k c') := cell_of_row w1 _ 1 _ _ (0, 0) hB1.out
           have f0 : w1.frozen? ⟨w.heap.size + 1, 0, none⟩ = false := blk_free hB1.out
           have f1 : w1.frozen? ⟨w.heap.size + 1, 1, none⟩ = false := blk_free hB1.out
           have hz1 : w.heap.size + 1 < w1.heap.size := (Array.getElem?_eq_some_iff.1 hB1.out).1
           have HA := Lib.hid hacc
           have HG := Lib.hid hgr
           have HN := Lib.hid hnew
           clear hacc hgr hnew)
        | (at_builtin; refine wpList_push (α := Int × Int) _ rfl (.tmp 19) (.tmp 22) 28 rfl (w.heap.size + 2) 45 _ 16 Try.underlying28 infoExit rfl A' k c' _ [] rfl ((((H.out.2.1.alloc _).grown HG.out (fun a ha e => by cases hAA : A with | none => (rw [hAA] at e; simp at e) | some a0 => (rw [hAA] at e; simp at e; exact H.out.2.2 a0 a hAA ha e.symm)) (fun g hg => by simp at hg)).setCell (fun a ha e => by have := H.out.2.1.lt a ha; simp at e; omega) (by simp) _).alloc _) w1.heap.size 1 (by simp [Act.eval]) (-1, (k : Int)) [.int .i64 (-1), .int .i64 k] [] ⟨rfl, rfl⟩ (new_cells (by first | rfl | simp [sz_set])) (fun u hu => by (simp at hu; rcases hu with rfl | rfl <;> rfl)) ⟨List.nodup_nil, fun g hg => by simp at hg⟩ (fun g hg => by simp at hg) (by omega) (by omega) (by simp; omega) ?_
           intro D' d' w2 hacc' hgr' hnew'
           have hB2 := Lib.hid ((grown_block (k := w.heap.size + 1) hgr' (by simp; omega) (fun a ha => by have := H.out.2.1.lt a ha; omega)).trans (alloc_block (blk_set (i := 0) hB1.out (.slice D (k + 1) d)) (by simp; omega)))
           have p1 : w2.cell? ⟨w.heap.size + 1, 1, none⟩ = some (.slice A' k c') := cell_of_row w2 _ 1 _ _ (0, 0) hB2.out
           have f2 : w2.frozen? ⟨w.heap.size + 1, 1, none⟩ = false := blk_free hB2.out
           have hz2 : w.heap.size + 1 < w2.heap.size := (Array.getElem?_eq_some_iff.1 hB2.out).1
           have HA' := Lib.hid hacc'
           have HG' := Lib.hid hgr'
           have HN' := Lib.hid hnew'
           clear hacc' hgr' hnew'))
      go_roundw
      case rel =>
        have hgb : ∀ a, D' = some a → a.block ≠ w.heap.size + 1 ∧ a.block ≠ w.heap.size := fun a ha => by have := HA'.out.lt a ha; omega
        refine ⟨k + 1, D, D', d, d', by omega, by go_num, Lib.hid ⟨?_, ?_, ?_⟩, Lib.hid ?_, Lib.hid ?_, ⟨?_⟩⟩
        · rw [range_snoc]
          refine ((((HA.out.setCell (p := ⟨w.heap.size + 1, 0, none⟩) (fun a ha => by have := HA.out.lt a ha; simp; omega) (by simp) _).alloc _).grown HG'.out (fun a ha e => ?_) (fun g hg => by simp at hg)).setCell (fun a ha => by have := HA.out.lt a ha; simp; omega) (by simp) _)
          cases hAA : A' with
          | none => rw [hAA] at e; simp at e
          | some a0 =>
            rw [hAA] at e
            simp at e
            rcases HN.out a ha with h1 | h1
            · exact H.out.2.2 a a0 h1 hAA e
            · have := H.out.2.1.lt a0 hAA
              simp at h1
              omega
        · rw [range_snoc]
          exact HA'.out.setCell (fun a ha => by have := HA'.out.lt a ha; simp; omega) (by simp) _
        · intro a a' ha ha' e
          rcases HN'.out a' ha' with h1 | h1
          · rcases HN.out a ha with h2 | h2
            · exact H.out.2.2 a a' h2 h1 e
            · have := H.out.2.1.lt a' h1
              simp at h2
              omega
          · have := HA.out.lt a ha
            simp [sz_set] at h1
            omega
        · exact blk_set hB2.out _
        · refine blk_far (grown_block (k := w.heap.size) HG'.out (by simp [sz_set]; omega) (fun a ha => by have := H.out.2.1.lt a ha; omega) |>.trans (alloc_block (blk_far (grown_block (k := w.heap.size) HG.out (by simp; omega) (fun a ha => by have := H.out.1.lt a ha; omega) |>.trans (alloc_block hR.out (by omega))) (by simp) _) (by simp [sz_set]; omega))) (by simp) _
        · refine Below.setCell (Below.grown ?_ HG'.out (by simp [sz_set]; omega) (fun g hg => ?_)) (by simp) _
          · exact Below.alloc (Below.setCell (Below.grown (Below.alloc hs.out hs.out.size _) HG.out (by simp; omega) (fun g hg => by
              cases hAA : A with
              | none => rw [hAA] at hg; simp at hg
              | some a0 => rw [hAA] at hg; simp at hg; have := H.out.1.lt a0 hAA; omega)) (by simp) _) (by simp [sz_set]; omega) _
          · cases hAA : A' with
            | none => rw [hAA] at hg; simp at hg
            | some a0 => rw [hAA] at hg; simp at hg; have := H.out.2.1.lt a0 hAA; omega
      case measure => simp [intOf]; omega
    · have hkn : k = n := by omega
      have HKN := Lib.hid hkn
      clear hkn
      have r0 : wr.cell? ⟨w.heap.size, 0, none⟩ = some (.slice none 0 0) := cell_of_row wr _ 0 _ _ (0, 0) hR.out
      have r1 : wr.cell? ⟨w.heap.size, 1, none⟩ = some (.slice none 0 0) := cell_of_row wr _ 1 _ _ (0, 0) hR.out
      have e0 : wr.frozen? ⟨w.heap.size, 0, none⟩ = false := blk_free hR.out
      have e1 : wr.frozen? ⟨w.heap.size, 1, none⟩ = false := blk_free hR.out
      go_wp2
      have HF := H.out
      have hkn := HKN.out
      subst hkn
      have a1 := (HF.1.setCell (p := ⟨w.heap.size, 0, none⟩) (fun a ha => by have := HF.1.lt a ha; simp; omega) (by simp) (.slice A k c)).setCell (p := ⟨w.heap.size, 1, none⟩) (fun a ha => by have := HF.1.lt a ha; simp; omega) (by simp) (.slice A' k c')
      have a2 := (HF.2.1.setCell (p := ⟨w.heap.size, 0, none⟩) (fun a ha => by have := HF.2.1.lt a ha; simp; omega) (by simp) (.slice A k c)).setCell (p := ⟨w.heap.size, 1, none⟩) (fun a ha => by have := HF.2.1.lt a ha; simp; omega) (by simp) (.slice A' k c')
      obtain ⟨b, b', o1, o2, hf, _, _⟩ := a1.own2 a2 HF.2.2
      have hl1 : k = (emptyT k).l.length := by simp [emptyT]
      have hl2 : k = (emptyT k).r.length := by simp [emptyT]
      refine bodyPost_ret (v := .agg #[.slice A k c, .slice A' k c']) (by simp [results, Try.results24, go_sem, r0, r1]) rfl ⟨_, b ++ b', rfl, ⟨A, c, A', c', b, b', ?_, o1, o2, rfl⟩, ⟨hf.1, fun g hg => ⟨by have := (hf.2 g hg).1; omega, (hf.2 g hg).2⟩⟩, ?_⟩
      · rw [← hl1, ← hl2]
      · exact (hs.out.setCell (by simp) _).setCell (by simp) _

theorem emptyTable (n : Nat) (w : World) (hn : n ≤ 12) : Calls Try.prog 26 #[.int .i64 n] w (RetTb (emptyT n) w) := by
  go_enter Try.func26, Try.ntmps26
  go_wp2
  go_loopw [7] (fun i wr => ∃ (k : Nat) (A A' : Option Addr) (c c' : Nat), k ≤ n ∧ i = .int .i64 k ∧ Hid (Acc wr (w.heap.size + 2) 45 A k c ((List.range k).map fun (s : Nat) => ((1 : Int), (s : Int))) [] ∧ Acc wr (w.heap.size + 2) 45 A' k c' ((List.range k).map fun (s : Nat) => ((-1 : Int), (s : Int))) [] ∧
      (∀ a a', A = some a → A' = some a' → a.block ≠ a'.block)) ∧ Hid (wr.heap[w.heap.size + 1]? = some (.cells #[.slice A k c, .slice A' k c'] 30 (0, 0))) ∧ Hid (wr.heap[w.heap.size]? = some (.cells #[.slice none 0 0, .slice none 0 0] 30 (0, 0))) ∧ Since w wr)
    (fun i _ => n - (intOf i).toNat)
  case atStart =>
    refine ⟨0, none, none, 0, 0, Nat.zero_le _, rfl, Lib.hid ⟨Acc.nil_ _ _ _, Acc.nil_ _ _ _, fun a a' h => by cases h⟩, ?_, ?_, ⟨(by repeat (first | exact Below.refl _ _ | refine Below.alloc ?_ (by first | omega | (simp only [sz_alloc, sz_set, sz_drew, sz_drewN]; omega) | (simp only [sz_alloc, sz_set, sz_drew, sz_drewN] at *; omega)) _ | refine Below.setCell ?_ (by first | omega | (simp only [sz_alloc, sz_set, sz_drew, sz_drewN]; omega) | (simp only [sz_alloc, sz_set, sz_drew, sz_drewN] at *; omega)) _ | refine Below.drew ?_ | refine below_drewN_ ?_ _))⟩⟩
    · exact Lib.hid (new_block (by simp))
    · exact Lib.hid (alloc_block (new_block rfl) (by simp))
  case round =>
    obtain ⟨k, A, A', c, c', hk, rfl, H, hB, hR, hs⟩ := hrel
    have hz : w.heap.size + 1 < wr.heap.size := (Array.getElem?_eq_some_iff.1 hB.out).1
    have k0 : wr.cell? ⟨w.heap.size + 1, 0, none⟩ = some (.slice A k c) := cell_of_row wr _ 0 _ _ (0, 0) hB.out
    have k1 : wr.cell? ⟨w.heap.size + 1, 1, none⟩ = some (.slice A' k c') := cell_of_row wr _ 1 _ _ (0, 0) hB.out
    by_cases hlt : k < n
    · have g0 : wr.frozen? ⟨w.heap.size + 1, 0, none⟩ = false := blk_free hB.out
      have g1 : wr.frozen? ⟨w.heap.size + 1, 1, none⟩ = false := blk_free hB.out
      go_wp2_with (first
        | (at_builtin; refine wpList_push (α := Int × Int) _ rfl (.tmp 11) (.tmp 14) 28 rfl (w.heap.size + 2) 45 _ 16 Try.underlying28 infoExit rfl A k c _ [] rfl (H.out.1.alloc _) wr.heap.size 1 rfl (1, (k : Int)) [.int .i64 1, .int .i64 k] [] ⟨rfl, rfl⟩ (new_cells (by first | rfl | simp [sz_set])) (fun u hu => by (simp at hu; rcases hu with rfl | rfl <;> rfl)) ⟨List.nodup_nil, fun g hg => by simp at hg⟩ (fun g hg => by simp at hg) (by omega) (by omega) (by simp; omega) ?_
           intro D d w1 hacc hgr hnew
           have hB1 := Lib.hid ((grown_block (k := w.heap.size + 1) hgr (by simp; omega) (fun a ha => by have := H.out.1.lt a ha; omega)).trans (alloc_block hB.out hz))
           have q0 : w1.cell? ⟨w.heap.size + 1, 0, none⟩ = some (.slice A k c) := cell_of_row w1 _ 0 _ _ (0, 0) hB1.out
           have q1 : w1.cell? ⟨w.heap.size + 1, 1, none⟩ = some (.slice A' k c') := cell_of_row w1 _ 1 _ _ (0, 0) hB1.out
           have f0 : w1.frozen? ⟨w.heap.size + 1, 0, none⟩ = false := blk_free hB1.out
           have f1 : w1.frozen? ⟨w.heap.size + 1, 1, none⟩ = false := blk_free hB1.out
           have hz1 : w.heap.size + 1 < w1.heap.size := (Array.getElem?_eq_some_iff.1 hB1.out).1
           have HA := Lib.hid hacc
           have HG := Lib.hid hgr
           have HN := Lib.hid hnew
           clear hacc hgr hnew)
        | (at_builtin; refine wpList_push (α := Int × Int) _ rfl (.tmp 18) (.tmp 21) 28 rfl (w.heap.size + 2) 45 _ 16 Try.underlying28 infoExit rfl A' k c' _ [] rfl ((((H.out.2.1.alloc _).grown HG.out (fun a ha e => by cases hAA : A with | none => (rw [hAA] at e; simp at e) | some a0 => (rw [hAA] at e; simp at e; exact H.out.2.2 a0 a hAA ha e.symm)) (fun g hg => by simp at hg)).setCell (fun a ha e => by have := H.out.2.1.lt a ha; simp at e; omega) (by simp) _).alloc _) w1.heap.size 1 (by simp [Act.eval]) (-1, (k : Int)) [.int .i64 (-1), .int .i64 k] [] ⟨rfl, rfl⟩ (new_cells (by first | rfl | simp [sz_set])) (fun u hu => by (simp at hu; rcases hu with rfl | rfl <;> rfl)) ⟨List.nodup_nil, fun g hg => by simp at hg⟩ (fun g hg => by simp at hg) (by omega) (by omega) (by simp; omega) ?_
           intro D' d' w2 hacc' hgr' hnew'
           have hB2 := Lib.hid ((grown_block (k := w.heap.size + 1) hgr' (by simp; omega) (fun a ha => by have := H.out.2.1.lt a ha; omega)).trans (alloc_block (blk_set (i := 0) hB1.out (.slice D (k + 1) d)) (by simp; omega)))
           have p1 : w2.cell? ⟨w.heap.size + 1, 1, none⟩ = some (.slice A' k c') := cell_of_row w2 _ 1 _ _ (0, 0) hB2.out
           have f2 : w2.frozen? ⟨w.heap.size + 1, 1, none⟩ = false := blk_free hB2.out
           have hz2 : w.heap.size + 1 < w2.heap.size := (Array.getElem?_eq_some_iff.1 hB2.out).1
           have HA' := Lib.hid hacc'
           have HG' := Lib.hid hgr'
           have HN' := Lib.hid hnew'
           clear hacc' hgr' hnew'))
      go_roundw
      case rel =>
        have hgb : ∀ a, D' = some a → a.block ≠ w.heap.size + 1 ∧ a.block ≠ w.heap.size := fun a ha => by have := HA'.out.lt a ha; omega
        refine ⟨k + 1, D, D', d, d', by omega, by go_num, Lib.hid ⟨?_, ?_, ?_⟩, Lib.hid ?_, Lib.hid ?_, ⟨?_⟩⟩
        · rw [range_snoc]
          refine ((((HA.out.setCell (p := ⟨w.heap.size + 1, 0, none⟩) (fun a ha => by have := HA.out.lt a ha; simp; omega) (by simp) _).alloc _).grown HG'.out (fun a ha e => ?_) (fun g hg => by simp at hg)).setCell (fun a ha => by have := HA.out.lt a ha; simp; omega) (by simp) _)
          cases hAA : A' with
          | none => rw [hAA] at e; simp at e
          | some a0 =>
            rw [hAA] at e
            simp at e
            rcases HN.out a ha with h1 | h1
            · exact H.out.2.2 a a0 h1 hAA e
            · have := H.out.2.1.lt a0 hAA
              simp at h1
              omega
        · rw [range_snoc]
          exact HA'.out.setCell (fun a ha => by have := HA'.out.lt a ha; simp; omega) (by simp) _
        · intro a a' ha ha' e
          rcases HN'.out a' ha' with h1 | h1
          · rcases HN.out a ha with h2 | h2
            · exact H.out.2.2 a a' h2 h1 e
            · have := H.out.2.1.lt a' h1
              simp at h2
              omega
          · have := HA.out.lt a ha
            simp [sz_set] at h1
            omega
        · exact blk_set hB2.out _
        · refine blk_far (grown_block (k := w.heap.size) HG'.out (by simp [sz_set]; omega) (fun a ha => by have := H.out.2.1.lt a ha; omega) |>.trans (alloc_block (blk_far (grown_block (k := w.heap.size) HG.out (by simp; omega) (fun a ha => by have := H.out.1.lt a ha; omega) |>.trans (alloc_block hR.out (by omega))) (by simp) _) (by simp [sz_set]; omega))) (by simp) _
        · refine Below.setCell (Below.grown ?_ HG'.out (by simp [sz_set]; omega) (fun g hg => ?_)) (by simp) _
          · exact Below.alloc (Below.setCell (Below.grown (Below.alloc hs.out hs.out.size _) HG.out (by simp; omega) (fun g hg => by
              cases hAA : A with
              | none => rw [hAA] at hg; simp at hg
              | some a0 => rw [hAA] at hg; simp at hg; have := H.out.1.lt a0 hAA; omega)) (by simp) _) (by simp [sz_set]; omega) _
          · cases hAA : A' with
            | none => rw [hAA] at hg; simp at hg
            | some a0 => rw [hAA] at hg; simp at hg; have := H.out.2.1.lt a0 hAA; omega
      case measure => simp [intOf]; omega
    · have hkn : k = n := by omega
      have HKN := Lib.hid hkn
      clear hkn
      have r0 : wr.cell? ⟨w.heap.size, 0, none⟩ = some (.slice none 0 0) := cell_of_row wr _ 0 _ _ (0, 0) hR.out
      have r1 : wr.cell? ⟨w.heap.size, 1, none⟩ = some (.slice none 0 0) := cell_of_row wr _ 1 _ _ (0, 0) hR.out
      have e0 : wr.frozen? ⟨w.heap.size, 0, none⟩ = false := blk_free hR.out
      have e1 : wr.frozen? ⟨w.heap.size, 1, none⟩ = false := blk_free hR.out
      go_wp2
      have HF := H.out
      have hkn := HKN.out
      subst hkn
      have a1 := (HF.1.setCell (p := ⟨w.heap.size, 0, none⟩) (fun a ha => by have := HF.1.lt a ha; simp; omega) (by simp) (.slice A k c)).setCell (p := ⟨w.heap.size, 1, none⟩) (fun a ha => by have := HF.1.lt a ha; simp; omega) (by simp) (.slice A' k c')
      have a2 := (HF.2.1.setCell (p := ⟨w.heap.size, 0, none⟩) (fun a ha => by have := HF.2.1.lt a ha; simp; omega) (by simp) (.slice A k c)).setCell (p := ⟨w.heap.size, 1, none⟩) (fun a ha => by have := HF.2.1.lt a ha; simp; omega) (by simp) (.slice A' k c')
      obtain ⟨b, b', o1, o2, hf, _, _⟩ := a1.own2 a2 HF.2.2
      have hl1 : k = (emptyT k).l.length := by simp [emptyT]
      have hl2 : k = (emptyT k).r.length := by simp [emptyT]
      refine bodyPost_ret (v := .agg #[.slice A k c, .slice A' k c']) (by simp [results, Try.results26, go_sem, r0, r1]) rfl ⟨_, b ++ b', rfl, ⟨A, c, A', c', b, b', ?_, o1, o2, rfl⟩, ⟨hf.1, fun g hg => ⟨by have := (hf.2 g hg).1; omega, (hf.2 g hg).2⟩⟩, ?_⟩
      · rw [← hl1, ← hl2]
      · exact (hs.out.setCell (by simp) _).setCell (by simp) _
end Go.Proofs.Ytahcholnfehibaa
